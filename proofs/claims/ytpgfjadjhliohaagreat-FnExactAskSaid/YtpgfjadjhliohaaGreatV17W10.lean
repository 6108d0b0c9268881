/- W10. -/
import Derived.Test.YtpgfjadjhliohaaGreatV17W9
namespace Go.Proofs.YtpgfjadjhliohaaGreat
open Go.Abs Go.Dat
set_option maxRecDepth 100000
set_option maxHeartbeats 8000000
def cmp0L (h : AHeap) : Nat → LSpec
  | 0 => {
    ι := Unit
    κ := Unit
    I := fun _ => False
    μ := fun _ => 0
    head := fun _ => ⟨[(0, .slice none 0 0), (3, .int .i64 1)], [], h⟩
    post := fun _ => ⟨[(0, .slice none 0 0)], [], h⟩
    R := fun _ _ => True
    ret := fun _ _ _ => False }
  | _ => {
    ι := Unit
    κ := Unit
    I := fun _ => False
    μ := fun _ => 0
    head := fun _ => ⟨[(0, .slice none 0 0), (3, .int .i64 1), (4, .slice none 0 0), (5, .int .i64 1)], [], h⟩
    post := fun _ => ⟨[(0, .slice none 0 0), (3, .int .i64 1)], [], h⟩
    R := fun _ _ => True
    ret := fun _ _ _ => False }
def Qg0 (a b c d e : Prop) := a ∧ b ∧ c ∧ d ∧ e
def Qg1 (a : Prop) := True ∧ a ∧ True
def Qg2 := True ∧ True
def Qg3 (a b c d : Prop) := a ∧ b ∧ c ∧ d
def Qg4 (a : Int) := Value.int IntKind.i64 a
def Qg5 (a b : Int) := Qg4 a = Qg4 b
def Qg6 := Value.slice none 0 0
theorem compact_nil (h : AHeap) : ACall Tryz.prog 172 [.slice none 0 0] h (.slice none 0 0) h := by
  refine acall_out ?_
  refine acall_vc (fun _ => false) (fun r => match r with | 6 => [(0, 0, []), (1, 0, []), (2, 0, []), (4, 0, []), (5, 0, []), (6, 0, []), (7, 0, []), (3, 1, []), (8, 1, []), (9, 0, [])] | 11 => [(0, 0, []), (1, 0, []), (2, 0, []), (4, 0, []), (5, 0, []), (6, 0, []), (7, 0, []), (3, 1, []), (8, 1, []), (9, 0, [])] | _ => []) (cmp0L h) mixed Tryz.func172 rfl rfl rfl (Nat.le_of_ble_eq_true rfl) ?_ ?_
  · (refine vc_mp (by kernel_rfl : (Qg0 True (Qg1 Qg2) (Qg0 True (∀ (i : Unit), False → (∃ (j : Unit), Qg6 = Qg6 ∧ h = h ∧ True)) (Qg1 True) (Qg1 (Qg0 True (Qg0 True (∀ (i : Unit), False → (∃ (j : Unit), Qg3 (Qg6 = Qg6) (Qg5 1 1) (h = h) True)) (Qg1 True) (Qg1 Qg2) True) True True True)) True) True True) = _) ?_; delta Qg0 Qg1 Qg2 Qg3 Qg4 Qg5 Qg6)
    simp only [true_and, and_true]
    exact ⟨fun _ h => h.elim, fun _ h => h.elim⟩
  (refine vc_mp (by kernel_rfl : (Qg6 = Qg6 ∧ h = h) = _) ?_; delta Qg6)
  exact ⟨rfl, rfl⟩
def Qg7 (a : Nat × OX ByteArray) := OX.g (Prod.snd a)
def Qg8 (a : OX ByteArray) := List.length (OX.xs a)
def Qg9 (a b c : OX ByteArray) := Value.slice (OX.a a) (Qg8 b) (OX.c c)
def Qga (a b c : Nat × OX ByteArray) := Qg9 (Prod.snd a) (Prod.snd b) (Prod.snd c)
def Qgb (a : Nat) := Qg4 (↑a : Int)
def Qgc (a : Int) := IntKind.wrap IntKind.i64 (a + 1)
def Qgd (a : Nat × OX ByteArray) := (↑(Prod.fst a) : Int)
def Qge (a : List (Sh.T voteSh)) := Qgb (List.length a)
def Qgf (a : Option Addr) (b : List (Sh.T voteSh)) (c : Nat) := Value.slice a (List.length b) c
def Qgg (a b c d e f : Int) (g : Prop) (h : Option Addr) (i : List (Sh.T voteSh)) (j : Nat) (k : Option Addr) (l : List (Sh.T voteSh)) (m : Nat) (n o : List (Sh.T voteSh)) (p q r : Nat × OX ByteArray) (s : AHeap) (t u v w : Prop) := Qg0 (Qg5 a b) (Qg5 c d) (Qg5 e f) g (Qg0 (Qgf h i j = Qgf k l m) (Qge n = Qge o) (Qg4 (Qgc (Qgd p)) = Qgb (Prod.fst q)) (Qg7 r = s) (Qg3 t u v w))
def Qgh (a : AHeap) (b : OX (Sh.T Sh.str)) (c : OX ByteArray) (d : List (Sh.T voteSh)) (e f g : Int) := OXok Sh.str a b ∧ OX.xs c = opsL d e f g
def Qgi (a : List (Sh.T voteSh)) (b : Nat × OX ByteArray) := List.length a - Prod.fst b
def Qgj (a : Nat × OX ByteArray) (b : List (Sh.T voteSh)) (c : AHeap) (d : Nat × OX (Sh.T Sh.str)) (e f : Nat × OX ByteArray) (g : List (Sh.T voteSh)) (h i j : Int) := Prod.fst a ≤ List.length b ∧ OXok Sh.str c (Prod.snd d) ∧ OX.xs (Prod.snd e) = opsL (List.take (Prod.fst f) g) h i j
def Qgk := (1 : Nat)
def Qgl (a : FuncId) (b : List Value) (c : AHeap) (d : Option Addr) (e f : Nat) (g : AHeap) := ACall Tryz.prog a b c (Value.slice d e f) g
theorem opsOf_spec (h : AHeap) (hw : h.wf) (a : Option Addr) (c : Nat) (l : List voteSh.T) (k v q : Int) (hx : Sl h voteSh l (.slice a l.length c)) (H : VotsOk l) :
    ∃ r h', ACall Tryz.prog 162 [.slice a l.length c, .int .i64 k, .int .i64 v, .int .i64 q] h r h' ∧ ∃ o : OX ByteArray, r = .slice o.a o.xs.length o.c ∧ h' = o.g ∧ h.Le o.g ∧ o.g.wf ∧ Sl o.g Sh.str o.xs (.slice o.a o.xs.length o.c) ∧ (∀ t, t ∈ o.xs ↔ ∃ f, (k, v, q, t, f) ∈ l) ∧ o.xs.length ≤ 400 := by
  have n1 := H.1
  refine acall_q fun Q HQ => ?_
  refine acall_vc (fun _ => false) (fun _ => []) (fun _ => ioL h a c l k v q) mixed Tryz.func162 rfl rfl rfl (Nat.le_of_ble_eq_true rfl) ?_ ?_
  · (refine vc_mp (by kernel_rfl : (Qg0 True True (Qg0 True (∀ (i : Nat × OX ByteArray), Qgj i l h i i i l k v q → bs (decide (Qgd i < (↑(List.length l) : Int))) (∃ (l_1 r : Nat), Qg3 (a = some (Addr.mk l_1 r (some 5))) (0 ≤ Qgd i) (Qgd i < (↑(List.length l) : Int)) (∃ (x x_1 x_2 : Int) (x_3 : ByteArray) (x_4 : Int), AHeap.ld (Qg7 i) l_1 (r + Int.toNat (Qgd i)) 0 5 = some [Qg4 x, Qg4 x_1, Qg4 x_2, Value.string x_3, Qg4 x_4] ∧ bs (decide (x = k)) (bs (decide (x_1 = v)) (bs (decide (x_2 = q)) (∃ (xs : List (List Value)), Qg3 (rowsV (AHeap.push (Qg7 i) (AObj.mk [[Value.string x_3]] Qgk true)) (Value.slice (some (Addr.mk (AHeap.n (Qg7 i)) 0 (some Qgk))) Qgk 2) = some xs) (List.all xs (fun (row : List Value) =>
  decide (List.length row = (1 : Nat)) &&
    List.all row fun (v : Value) =>
      match v with
      | Value.agg cells => false
      | Value.tuple cells => false
      | Value.complex k re im => false
      | Value.chan r => false
      | x => true) = true) ((Qg8 (Prod.snd i) + List.length xs) * 16 ≤ 140737488355328) (∃ (a_2 : Option Addr) (n c_1 : Nat) (h' : AHeap), AHeap.app (AHeap.push (Qg7 i) (AObj.mk [[Value.string x_3]] Qgk true)) (Qga i i i) xs Qgk = some (Prod.mk (Value.slice a_2 n c_1) h') ∧ (∃ (j : Nat × OX ByteArray), Qgg k k v v q q (Value.slice a_2 n c_1 = Qga j j j) a l c a l c l l i j j h' (Qgj j l h j j j l k v q) (Qgi l j < Qgi l i) (∀ (k_1 : OX ByteArray), Qgh h k_1 k_1 l k v q → Qgh h k_1 k_1 l k v q) (∀ (v : Value) (h : AHeap), False → False)))) (∃ (j : Nat × OX ByteArray), Qgg k k v v q q (Qga i i i = Qga j j j) a l c a l c l l i j j (Qg7 i) (Qgj j l h j j j l k v q) (Qgi l j < Qgi l i) (∀ (k_1 : OX ByteArray), Qgh h k_1 k_1 l k v q → Qgh h k_1 k_1 l k v q) (∀ (v : Value) (h : AHeap), False → False))) (∃ (j : Nat × OX ByteArray), Qgg k k v v q q (Qga i i i = Qga j j j) a l c a l c l l i j j (Qg7 i) (Qgj j l h j j j l k v q) (Qgi l j < Qgi l i) (∀ (k_1 : OX ByteArray), Qgh h k_1 k_1 l k v q → Qgh h k_1 k_1 l k v q) (∀ (v : Value) (h : AHeap), False → False))) (∃ (j : Nat × OX ByteArray), Qgg k k v v q q (Qga i i i = Qga j j j) a l c a l c l l i j j (Qg7 i) (Qgj j l h j j j l k v q) (Qgi l j < Qgi l i) (∀ (k_1 : OX ByteArray), Qgh h k_1 k_1 l k v q → Qgh h k_1 k_1 l k v q) (∀ (v : Value) (h : AHeap), False → False)))) (∃ (j : OX ByteArray), Qg3 (Qga i i i = Qg9 j j j) (OX.g j = Qg7 i) (OXok Sh.str h j) (OX.xs j = opsL l k v q))) True Qg2 (Qg3 True True True True ∧ True)) True Qg2) = _) ?_; delta Qg0 Qg2 Qg3 Qg4 Qg5 Qg7 Qg8 Qg9 Qga Qgb Qgc Qgd Qge Qgf Qgg Qgh Qgi Qgj Qgk)
    simp only [true_and, and_true]
    refine fun ⟨i, o⟩ ⟨hi, B, hxs⟩ => ?_
    dsimp only at *
    refine bs_d (fun hlt => ?_) (fun hge => ⟨o, rfl, rfl, B, by rw [List.take_of_length_le (by omega)] at hxs; exact hxs⟩)
    obtain ⟨⟨k', v', q', op', f'⟩, hat⟩ : ∃ y : Int × Int × Int × ByteArray × Int, l[i]? = some y := ⟨_, List.getElem?_eq_getElem (by omega)⟩
    obtain ⟨lo, r, row, ha, _, hrd, hld⟩ := (hx.mono B.le).elem hat
    obtain rfl := rd_vote.1 hrd
    dsimp only at hld
    have ct := opsL_take (k := k) (v := v) (q := q) hat
    have sk : ¬ (k' = k ∧ v' = v ∧ q' = q) → o.xs = opsL (l.take (i + 1)) k v q := fun hne => by rw [ct, if_neg hne, List.append_nil]; exact hxs
    have hol : o.xs.length ≤ l.length := by
      rw [hxs]; unfold opsL
      exact Nat.le_trans (List.length_filterMap_le _ _) (by rw [List.length_take]; omega)
    refine ⟨lo, r, ha, Int.natCast_nonneg _, hlt, _, _, _, _, _, hld, bs_d (fun e1 => bs_d (fun e2 => bs_d (fun e3 => ?_) (fun e => ?_)) (fun e => ?_)) (fun e => ?_)⟩
    · obtain ⟨o', e6, B', hx', _, _, _⟩ := B.app (x := op') (cs := [.string op']) (js := []) ⟨rfl, rfl⟩ .nil (by simp)
      refine ⟨[[.string op']], rowsV_push, rfl, by simp only [List.length_cons, List.length_nil]; omega, _, _, _, o'.g, e6, (i + 1, o'), rfl, by rw [wrap_i64 (by omega)]; rfl, rfl, ⟨by dsimp only; omega, B', ?_⟩, by dsimp only; omega, fun _ h => h, fun _ _ h => h⟩
      dsimp only
      rw [hx', ct, if_pos ⟨e1, e2, e3⟩, hxs]
    · exact ⟨(i + 1, o), rfl, by rw [wrap_i64 (by omega)]; rfl, rfl, ⟨by dsimp only; omega, B, sk fun H => e H.2.2⟩, by dsimp only; omega, fun _ h => h, fun _ _ h => h⟩
    · exact ⟨(i + 1, o), rfl, by rw [wrap_i64 (by omega)]; rfl, rfl, ⟨by dsimp only; omega, B, sk fun H => e H.2.1⟩, by dsimp only; omega, fun _ h => h, fun _ _ h => h⟩
    · exact ⟨(i + 1, o), rfl, by rw [wrap_i64 (by omega)]; rfl, rfl, ⟨by dsimp only; omega, B, sk fun H => e H.1⟩, by dsimp only; omega, fun _ h => h, fun _ _ h => h⟩
  (refine vc_mp (by kernel_rfl : (∃ (i : Nat × OX ByteArray), Qg0 (Qg5 k k) (Qg5 v v) (Qg5 q q) (Qg6 = Qga i i i) (Qg0 (Qgf a l c = Qgf a l c) (Qge l = Qge l) (Qg4 0 = Qgb (Prod.fst i)) (Qg7 i = h) (Qgj i l h i i i l k v q ∧ (∀ (j : OX ByteArray), Qgh h j j l k v q → (∃ (h' : AHeap), ACall Tryz.prog 171 [Qg9 j j j] (OX.g j) (Value.tuple (Array.mk List.nil)) h' ∧ (∃ (a : Option Addr) (n c : Nat) (h'_1 : AHeap), Qgl 172 [Qg9 j j j] h' a n c h'_1 ∧ Q (Value.slice a n c) h'_1))) ∧ (∀ (v : Value) (h : AHeap), False → Q v h)))) = _) ?_; delta Qg0 Qg4 Qg5 Qg6 Qg7 Qg8 Qg9 Qga Qgb Qge Qgf Qgh Qgj Qgl)
  refine ⟨(0, ⟨none, 0, [], [], h⟩), rfl, rfl, rfl, rfl, rfl, rfl, rfl, rfl, ⟨Nat.zero_le _, OXok.nil hw, by unfold opsL; rfl⟩, fun o ⟨B, hxs⟩ => ?_, fun _ _ h => h.elim⟩
  have h4 := ops_len l k v q
  have h5 := froms_len H k v q
  rcases B.txt with ⟨e1, e2, e3⟩ | ⟨lo, e1, hlo, hg, hc⟩
  · obtain ⟨a', c', xs', ids', g'⟩ := o
    dsimp only at *
    subst e1; subst e2; subst e3
    refine ⟨_, sortTxt_nil _, _, _, _, _, compact_nil _, HQ _ _ ⟨⟨none, 0, [], ids', g'⟩, rfl, rfl, B.le, B.wf, B.sn.so.sl, fun t => ?_, by simp⟩⟩
    rw [← mem_opsL, ← hxs]
  · rw [e1]
    obtain ⟨_, A, ys, rfl, hp, m, hm, ho⟩ := sortTxt_spec o.g lo o.c o.xs (by rw [hxs]; omega) hg
    have hl := hp.length_eq
    obtain ⟨_, _, A2, zs, m2, c2, z1, z2, rfl, rfl, hmem⟩ := compact_spec o.g lo o.c ys (by rw [hl, hxs]; omega)
    rw [hl] at A2
    have et : (zs.take m2).length = m2 := by rw [List.length_take]; omega
    refine ⟨_, A, _, _, _, _, A2, HQ _ _ ⟨⟨some ⟨lo, 0, some 1⟩, c2, zs.take m2, [lo], o.g.put lo (some (txtO zs))⟩, by dsimp only; rw [et], rfl, B.le.put (hw lo hlo) _, B.wf.put (B.wf.lt hg) _, ?_, fun t => ?_, ?_⟩⟩
    · dsimp only
      rw [et]; exact txt_sl AHeap.get_put_eq (by omega)
    · dsimp only
      rw [hmem, hp.mem_iff, hxs, mem_opsL]
    · dsimp only
      rw [et]; rw [hl, hxs] at z2; omega
def Qgm (a b : Int) (c : ByteArray) (d : Value) := Value.agg (Array.mk [Qg4 a, Qg4 b, Value.string c, d])
def Qgn := Value.string (ByteArray.mk (Array.mk List.nil))
def Qgo := [Qg4 (Int.ofNat 0), Qg4 (Int.ofNat 0), Qgn, Qg6]
theorem proofOf_spec (h : AHeap) (hw : h.wf) (a : Option Addr) (c : Nat) (l : List voteSh.T) (v q : Int) (op : ByteArray) (hx : Sl h voteSh l (.slice a l.length c)) (H : VotsOk l) :
    ∃ r h', ACall Tryz.prog 163 [.slice a l.length c, .int .i64 v, .int .i64 q, .string op] h r h' ∧ h.Le h' ∧ h'.wf ∧ ((¬ 3 ≤ (votersM l 2 v q op).length ∧ r = .agg #[.int .i64 (Int.ofNat 0), .int .i64 (Int.ofNat 0), .string ⟨#[]⟩, .slice none 0 0]) ∨
      (3 ≤ (votersM l 2 v q op).length ∧ ∃ a' c' js, r = .agg #[.int .i64 v, .int .i64 q, .string op, .slice a' (votersM l 2 v q op).length c'] ∧ Sn h' Sh.int (votersM l 2 v q op) (.slice a' (votersM l 2 v q op).length c') js ∧ Fresh h.n h'.n js)) := by
  obtain ⟨_, g, A, o, rfl, eg, B, hxs⟩ := voters_spec h hw a c l 2 v q op hx H
  rw [eg] at A
  have s := B.sn
  rw [hxs] at s A
  refine acall_q fun Q HQ => ?_
  refine acall_vc (fun _ => false) (fun _ => []) (fun _ => .none) mixed Tryz.func163 rfl rfl rfl (Nat.le_of_ble_eq_true rfl) (by (refine vc_mp (by kernel_rfl : (Qg0 True True (Qg1 Qg2) True True) = _) ?_; delta Qg0 Qg1 Qg2); simp only [and_self]) ?_
  (refine vc_mp (by kernel_rfl : (∃ (a_1 : Option Addr) (n c_1 : Nat) (h' : AHeap), Qgl 164 [Qgf a l c, Qg4 2, Qg4 v, Qg4 q, Value.string op] h a_1 n c_1 h' ∧ bs (decide ((↑n : Int) < 3)) (Q (Value.agg (Array.mk Qgo)) h') (Q (Qgm v q op (Value.slice a_1 n c_1)) h')) = _) ?_; delta Qg4 Qg6 Qgf Qgl Qgm Qgn Qgo)
  refine ⟨_, _, _, _, A, bs_d (fun e => ?_) (fun e => ?_)⟩
  · exact HQ _ _ ⟨B.le, B.wf, .inl ⟨by omega, rfl⟩⟩
  · exact HQ _ _ ⟨B.le, B.wf, .inr ⟨by omega, _, _, _, rfl, s, B.fr⟩⟩
abbrev z4S : List Value := [.int .i64 (Int.ofNat 0), .int .i64 (Int.ofNat 0), .string ⟨#[]⟩, .slice none 0 0]
def ipL (h : AHeap) (a : Option Addr) (c : Nat) (l : List voteSh.T) (v q : Int) (o : OX ByteArray) : LSpec where
  ι := Nat × AHeap
  κ := AHeap
  I := fun i => i.1 ≤ o.xs.length ∧ o.g.Le i.2 ∧ i.2.wf ∧ ∀ (j : Nat) (t : ByteArray), j < i.1 → o.xs[j]? = some t → ¬ 3 ≤ (votersM l 2 v q t).length
  μ := fun i => o.xs.length - i.1
  head := fun i => ⟨[(0, .slice a l.length c), (1, .int .i64 v), (2, .int .i64 q), (6, .complex .f32 0 0), (13, .slice o.a o.xs.length o.c), (14, .int .i64 o.xs.length), (15, .int .i64 i.1)], [z4S], i.2⟩
  post := fun g => ⟨[(6, .complex .f32 0 0)], [z4S], g⟩
  R := fun _ g => o.g.Le g ∧ g.wf ∧ ∀ t ∈ o.xs, ¬ 3 ≤ (votersM l 2 v q t).length
  ret := fun _ r g => ∃ (op : ByteArray) (a' : Option Addr) (c' : Nat) (js : List Nat), o.g.Le g ∧ g.wf ∧ 3 ≤ (votersM l 2 v q op).length ∧ r = .agg #[.int .i64 v, .int .i64 q, .string op, .slice a' (votersM l 2 v q op).length c'] ∧ Sn g Sh.int (votersM l 2 v q op) (.slice a' (votersM l 2 v q op).length c') js ∧ Fresh o.g.n g.n js
noncomputable def Qgp (a : List (Sh.T voteSh)) (b c : Int) (d : ByteArray) := List.length (votersM a 2 b c d)
def Qgq (a : Prop) (b : List (Sh.T voteSh)) (c d : Int) (e : ByteArray) := a → Not (3 ≤ Qgp b c d e)
def Qgr (a : OX ByteArray) (b : ByteArray) := Membership.mem (OX.xs a) b
def Qgs := Value.complex FloatKind.f32 0 0
def Qgt (a : OX ByteArray) (b c : AHeap) (d : List (Sh.T voteSh)) (e f : Int) (g : ByteArray) (h i : Prop) := Qg0 (AHeap.Le (OX.g a) b) (AHeap.wf c) (3 ≤ Qgp d e f g) h i
noncomputable def Qgu (a : Option Addr) (b : List (Sh.T voteSh)) (c d : Int) (e : ByteArray) (f : Nat) := Value.slice a (Qgp b c d e) f
def Qgv (a b c : AHeap) (d : Prop) := AHeap.Le a b ∧ AHeap.wf c ∧ d
def Qgw (a : Nat × AHeap) (b c : OX ByteArray) (d e : Nat × AHeap) (f : Prop) := Qg3 (Prod.fst a ≤ Qg8 b) (AHeap.Le (OX.g c) (Prod.snd d)) (AHeap.wf (Prod.snd e)) f
def Qgx (a : OX ByteArray) (b : Nat) (c : ByteArray) := getElem? (OX.xs a) b = some c
def Qgy (a : Nat × AHeap) := Qgb (Prod.fst a)
def Qgz (a : Nat × AHeap) := (↑(Prod.fst a) : Int)
theorem provedIn_spec (h : AHeap) (hw : h.wf) (a : Option Addr) (c : Nat) (l : List voteSh.T) (v q : Int) (hq : q ≠ 0) (hx : Sl h voteSh l (.slice a l.length c)) (H : VotsOk l) :
    ∃ r h', ACall Tryz.prog 147 [.slice a l.length c, .int .i64 v, .int .i64 q] h r h' ∧ PrfRes h l q ((provedM l 2 v q).map fun op => (v, op)) (fun p _ => r = p) h' := by
  obtain ⟨_, g0, A0, o, rfl, eg0, leo, wo, so, hm, h4⟩ := opsOf_spec h hw a c l 2 v q hx H
  rw [eg0] at A0
  refine acall_q fun Q HQ => ?_
  refine acall_vc (fun _ => false) (fun _ => []) (fun _ => ipL h a c l v q o) mixed Tryz.func147 rfl rfl rfl (Nat.le_of_ble_eq_true rfl) ?_ ?_
  · (refine vc_mp (by kernel_rfl : (Qg3 True (Qg0 True (∀ (i : Nat × AHeap), Qgw i o o i i (∀ (j : Nat) (t : ByteArray), j < Prod.fst i → Qgq (Qgx o j t) l v q t) → bs (decide (Qgz i < (↑(Qg8 o) : Int))) (∃ (l_1 r : Nat), Qg3 (OX.a o = some (Addr.mk l_1 r (some Qgk))) (0 ≤ Qgz i) (Qgz i < (↑(Qg8 o) : Int)) (∃ (x : ByteArray), AHeap.ld (Prod.snd i) l_1 (r + Int.toNat (Qgz i)) 0 Qgk = some [Value.string x] ∧ (∃ (x_1 x_2 : Int) (x_3 : ByteArray) (a_2 : Option Addr) (n c_1 : Nat) (h' : AHeap), ACall Tryz.prog 163 [Qgf a l c, Qg4 v, Qg4 q, Value.string x] (Prod.snd i) (Qgm x_1 x_2 x_3 (Value.slice a_2 n c_1)) h' ∧ bs (not (decide (x_2 = 0))) (∃ (op : ByteArray) (a' : Option Addr) (c' : Nat) (js : List Nat), Qgt o h' h' l v q op (Qgm x_1 x_2 x_3 (Value.slice a_2 n c_1) = Qgm v q op (Qgu a' l v q op c')) (Sn h' Sh.int (votersM l 2 v q op) (Qgu a' l v q op c') js ∧ Fresh (AHeap.n (OX.g o)) (AHeap.n h') js)) (∃ (j : Nat × AHeap), Qg0 (Qgf a l c = Qgf a l c) (Qg5 v v) (Qg5 q q) (Qgs = Qgs) (Qg0 (Qg9 o o o = Qg9 o o o) (Qgb (Qg8 o) = Qgb (Qg8 o)) (Qg4 (Qgc (Qgz i)) = Qgy j) (Qgo = Qgo) (Qg0 (Prod.snd j = h') (Qgw j o o j j (∀ (j_1 : Nat) (t : ByteArray), j_1 < Prod.fst j → Qgq (Qgx o j_1 t) l v q t)) (Qg8 o - Prod.fst j < Qg8 o - Prod.fst i) (∀ (k : AHeap), Qgv (OX.g o) k k (∀ (t : ByteArray), Qgq (Qgr o t) l v q t) → Qgv (OX.g o) k k (∀ (t : ByteArray), Qgq (Qgr o t) l v q t)) (∀ (v_1 : Value) (h : AHeap), (∃ (op : ByteArray) (a' : Option Addr) (c' : Nat) (js : List Nat), Qgt o h h l v q op (v_1 = Qgm v q op (Qgu a' l v q op c')) (Sn h Sh.int (votersM l 2 v q op) (Qgu a' l v q op c') js ∧ Fresh (AHeap.n (OX.g o)) (AHeap.n h) js)) → (∃ (op : ByteArray) (a' : Option Addr) (c' : Nat) (js : List Nat), Qgt o h h l v q op (v_1 = Qgm v q op (Qgu a' l v q op c')) (Sn h Sh.int (votersM l 2 v q op) (Qgu a' l v q op c') js ∧ Fresh (AHeap.n (OX.g o)) (AHeap.n h) js))))))))) (∃ (j : AHeap), Qg0 (Qgs = Qgs) (Qgo = Qgo) (j = Prod.snd i) (AHeap.Le (OX.g o) j) (AHeap.wf j ∧ (∀ (t : ByteArray), Qgq (Qgr o t) l v q t)))) True Qg2 (Qg0 True True True Qg2 True ∧ True)) True True) = _) ?_; delta Qg0 Qg2 Qg3 Qg4 Qg5 Qg6 Qg8 Qg9 Qgb Qgc Qgf Qgk Qgm Qgn Qgo Qgp Qgq Qgr Qgs Qgt Qgu Qgv Qgw Qgx Qgy Qgz)
    simp only [true_and, and_true]
    refine fun ⟨i, g⟩ ⟨hi, le, wf, hall⟩ => ?_
    dsimp only at *
    refine bs_d (fun hlt => ?_) (fun hge => ⟨g, rfl, le, wf, fun t ht => ?_⟩)
    · obtain ⟨t, hat⟩ : ∃ y : ByteArray, o.xs[i]? = some y := ⟨_, List.getElem?_eq_getElem (by omega)⟩
      obtain ⟨lo, r, row, ha, _, hrd, hld⟩ := (so.mono le).elem hat
      obtain rfl : row = [.string t] := hrd
      obtain ⟨_, g2, A2, le2, w2, ⟨hn, rfl⟩ | ⟨hy, a', c', js, rfl, s, f⟩⟩ := proofOf_spec g wf a c l v q t (hx.mono (leo.trans le)) H
      · refine ⟨lo, r, ha, Int.natCast_nonneg _, hlt, _, hld, _, _, _, _, _, _, _, A2, bs_dn (fun e => absurd rfl e) (fun e => ?_)⟩
        refine ⟨(i + 1, g2), by rw [wrap_i64 (by omega)]; rfl, rfl, ⟨by dsimp only; omega, le.trans le2, w2, fun j u hj hu => ?_⟩, by dsimp only; omega, fun _ h => h, fun _ _ h => h⟩
        by_cases c1 : j = i
        · subst c1; rw [hat] at hu; cases hu; exact hn
        · exact hall j u (by dsimp only at hj; omega) hu
      · exact ⟨lo, r, ha, Int.natCast_nonneg _, hlt, _, hld, _, _, _, _, _, _, _, A2, bs_dn (fun e => ⟨t, a', c', js, le.trans le2, w2, hy, rfl, s, f.widen le.n (Nat.le_refl _)⟩) (fun e => absurd e hq)⟩
    · obtain ⟨j, hj⟩ := List.mem_iff_getElem?.1 ht
      have := (List.getElem?_eq_some_iff.1 hj).1
      exact hall j t (by omega) hj
  (refine vc_mp (by kernel_rfl : (∃ (a_1 : Option Addr) (n c_1 : Nat) (h' : AHeap), Qgl 162 [Qgf a l c, Qg4 2, Qg4 v, Qg4 q] h a_1 n c_1 h' ∧ (∃ (i : Nat × AHeap), Qg0 (Qgf a l c = Qgf a l c) (Qg5 v v) (Qg5 q q) (Qgs = Qgs) (Qg0 (Value.slice a_1 n c_1 = Qg9 o o o) (Qgb n = Qgb (Qg8 o)) (Qg4 0 = Qgy i) (Qgo = Qgo) (Qg3 (Prod.snd i = h') (Qgw i o o i i (∀ (j : Nat) (t : ByteArray), j < Prod.fst i → Qgq (Qgx o j t) l v q t)) (∀ (j : AHeap), Qgv (OX.g o) j j (∀ (t : ByteArray), Qgq (Qgr o t) l v q t) → Q (Value.agg (Array.mk Qgo)) j) (∀ (v_1 : Value) (h : AHeap), (∃ (op : ByteArray) (a' : Option Addr) (c' : Nat) (js : List Nat), Qgt o h h l v q op (v_1 = Qgm v q op (Qgu a' l v q op c')) (Sn h Sh.int (votersM l 2 v q op) (Qgu a' l v q op c') js ∧ Fresh (AHeap.n (OX.g o)) (AHeap.n h) js)) → Q v_1 h))))) = _) ?_; delta Qg0 Qg3 Qg4 Qg5 Qg6 Qg8 Qg9 Qgb Qgf Qgl Qgm Qgn Qgo Qgp Qgq Qgr Qgs Qgt Qgu Qgv Qgw Qgx Qgy)
  refine ⟨_, _, _, _, A0, (0, o.g), rfl, rfl, rfl, rfl, rfl, rfl, rfl, rfl, rfl, ⟨Nat.zero_le _, .refl _, wo, fun j t hj => absurd hj (Nat.not_lt_zero _)⟩, fun g ⟨le, wf, hno⟩ => HQ _ _ ⟨leo.trans le, wf, .inl ⟨?_, rfl⟩⟩, fun _ _ ⟨op, a', c', js, le, wf, hy, e, s, f⟩ => HQ _ _ ⟨leo.trans le, wf, .inr ⟨v, op, a', c', js, ?_, e, s, f.widen leo.n (Nat.le_refl _)⟩⟩⟩
  · rw [provedM_none fun t ht => hno t ((hm t).2 ht)]; rfl
  · rw [provedM_some H hy]; rfl
def idL (h : AHeap) (a : Option Addr) (c : Nat) (l : List voteSh.T) (q : Int) : Nat → LSpec
  | 0 => {
    ι := Nat × AHeap
    κ := AHeap
    I := fun i => i.1 ≤ 8 ∧ h.Le i.2 ∧ i.2.wf ∧ decM l q i.1 = none
    μ := fun i => 8 - i.1
    head := fun i => ⟨[(0, .slice a l.length c), (1, .int .i64 q), (9, .int .i64 i.1)], [], i.2⟩
    post := fun g => ⟨[], [], g⟩
    R := fun _ g => h.Le g ∧ g.wf ∧ decM l q 8 = none
    ret := fun _ r g => h.Le g ∧ g.wf ∧ ∃ op, decM l q 8 = some op ∧ r = .tuple #[.string op, .bool true] }
  | _ => {
    ι := Nat × OX ByteArray × Nat × AHeap
    κ := Nat × AHeap
    I := fun i => i.1 < 8 ∧ h.Le i.2.1.g ∧ i.2.1.g.Le i.2.2.2 ∧ i.2.2.2.wf ∧ decM l q i.1 = none ∧ i.2.2.1 ≤ i.2.1.xs.length ∧ i.2.1.xs.length ≤ 400 ∧ Sl i.2.1.g Sh.str i.2.1.xs (.slice i.2.1.a i.2.1.xs.length i.2.1.c) ∧ (∀ t, t ∈ i.2.1.xs ↔ ∃ f, (3, (i.1 : Int), q, t, f) ∈ l) ∧ ∀ (j : Nat) (t : ByteArray), j < i.2.2.1 → i.2.1.xs[j]? = some t → ¬ 3 ≤ (votersM l 3 i.1 q t).length
    μ := fun i => i.2.1.xs.length - i.2.2.1
    head := fun i => ⟨[(0, .slice a l.length c), (1, .int .i64 q), (6, .int .i64 i.1), (9, .int .i64 i.1), (15, .slice i.2.1.a i.2.1.xs.length i.2.1.c), (16, .int .i64 i.2.1.xs.length), (17, .int .i64 i.2.2.1)], [], i.2.2.2⟩
    post := fun i => ⟨[(0, .slice a l.length c), (1, .int .i64 q), (9, .int .i64 i.1)], [], i.2⟩
    R := fun i g => g.1 = i.1 ∧ h.Le g.2 ∧ g.2.wf ∧ decM l q (i.1 + 1) = none
    ret := fun _ r g => h.Le g ∧ g.wf ∧ ∃ op, decM l q 8 = some op ∧ r = .tuple #[.string op, .bool true] }
def Qh0 (a : Prop) (b : AHeap) (c d : Nat × AHeap) (e : List (Sh.T voteSh)) (f : Int) (g : Nat) := Qg3 a (AHeap.Le b (Prod.snd c)) (AHeap.wf (Prod.snd d)) (decM e f g = none)
def Qh1 (a : Nat × OX ByteArray × Nat × AHeap) := Prod.snd (Prod.snd a)
def Qh2 (a : Nat × OX ByteArray × Nat × AHeap) := Prod.snd (Qh1 a)
def Qh3 (a : Nat × OX ByteArray × Nat × AHeap) := Qgb (Prod.fst a)
def Qh4 (a : ByteArray) := Value.tuple (Array.mk [Value.string a, Value.bool true])
def Qh5 := (8 : Nat)
def Qh6 (a : List (Sh.T voteSh)) (b : Int) (c : ByteArray) (d : Value) (e : ByteArray) := decM a b Qh5 = some c ∧ d = Qh4 e
def Qh7 (a : Nat × OX ByteArray × Nat × AHeap) := Prod.fst (Qh1 a)
def Qh8 (a : Nat × OX ByteArray × Nat × AHeap) := Prod.fst (Prod.snd a)
def Qh9 (a : Nat × OX ByteArray × Nat × AHeap) := Qg8 (Qh8 a)
def Qha (a : Prop) (b : AHeap) (c d e f : Nat × OX ByteArray × Nat × AHeap) (g h i j k : Prop) := Qg0 a (AHeap.Le b (OX.g (Qh8 c))) (AHeap.Le (OX.g (Qh8 d)) (Prod.snd (Qh1 e))) (AHeap.wf (Prod.snd (Qh1 f))) (Qg0 g h i j k)
def Qhb (a : List (Sh.T voteSh)) (b : Nat × OX ByteArray × Nat × AHeap) (c : Int) (d : ByteArray) := Not (3 ≤ List.length (votersM a 3 (↑(Prod.fst b) : Int) c d))
def Qhc (a : List (Sh.T voteSh)) (b : Nat × OX ByteArray × Nat × AHeap) (c : Int) (d : ByteArray) (e : Sh.T Sh.int) := Membership.mem a (Prod.mk 3 (Prod.mk (↑(Prod.fst b) : Int) (Prod.mk c (Prod.mk d e))))
def Qhd (a b c : Nat × OX ByteArray × Nat × AHeap) := Qg9 (Qh8 a) (Qh8 b) (Qh8 c)
def Qhe (a : Nat × OX ByteArray × Nat × AHeap) := (↑(Qh7 a) : Int)
def Qhf (a : List (Sh.T voteSh)) (b : Int) := decM a b Qh5 = none
theorem decided_spec (h : AHeap) (hw : h.wf) (a : Option Addr) (c : Nat) (l : List voteSh.T) (q : Int) (hx : Sl h voteSh l (.slice a l.length c)) (H : VotsOk l) :
    ∃ r h', ACall Tryz.prog 148 [.slice a l.length c, .int .i64 q] h r h' ∧ h.Le h' ∧ h'.wf ∧ ((decM l q 8 = none ∧ r = .tuple #[.string ⟨#[]⟩, .bool false]) ∨ ∃ op, decM l q 8 = some op ∧ r = .tuple #[.string op, .bool true]) := by
  refine acall_q fun Q HQ => ?_
  refine acall_vc (fun _ => false) (fun _ => []) (idL h a c l q) mixed Tryz.func148 rfl rfl rfl (Nat.le_of_ble_eq_true rfl) ?_ ?_
  · (refine vc_mp (by kernel_rfl : (Qg3 True (Qg0 True (∀ (i : Nat × AHeap), Qh0 (Prod.fst i ≤ Qh5) h i i l q (Prod.fst i) → bs (decide (Qgz i < 8)) (∃ (a_2 : Option Addr) (n c_1 : Nat) (h' : AHeap), Qgl 162 [Qgf a l c, Qg4 3, Qgy i, Qg4 q] (Prod.snd i) a_2 n c_1 h' ∧ (∃ (i_1 : Nat × OX ByteArray × Nat × AHeap), Qg0 (Qgf a l c = Qgf a l c) (Qg5 q q) (Qgy i = Qh3 i_1) (Qgy i = Qh3 i_1) (Qg0 (Value.slice a_2 n c_1 = Qhd i_1 i_1 i_1) (Qgb n = Qgb (Qh9 i_1)) (Qg4 0 = Qgb (Qh7 i_1)) (Qh2 i_1 = h') (Qha (Prod.fst i_1 < Qh5) h i_1 i_1 i_1 i_1 (decM l q (Prod.fst i_1) = none) (Qh7 i_1 ≤ Qh9 i_1) (Qh9 i_1 ≤ 400) (Sl (OX.g (Qh8 i_1)) Sh.str (OX.xs (Prod.fst (Prod.snd i_1))) (Qhd i_1 i_1 i_1)) ((∀ (t : ByteArray), Iff (Qgr (Qh8 i_1) t) (∃ (f : Sh.T Sh.int), Qhc l i_1 q t f)) ∧ (∀ (j : Nat) (t : ByteArray), j < Qh7 i_1 → Qgx (Qh8 i_1) j t → Qhb l i_1 q t)) ∧ (∀ (j : Nat × AHeap), Qh0 (Prod.fst j = Prod.fst i_1) h j j l q (Prod.fst i_1 + Qgk) → (∃ (j_1 : Nat × AHeap), Qg0 (Qgf a l c = Qgf a l c) (Qg5 q q) (Qg4 (Qgc (Qgz j)) = Qgy j_1) (Prod.snd j_1 = Prod.snd j) (Qg3 (Qh0 (Prod.fst j_1 ≤ Qh5) h j_1 j_1 l q (Prod.fst j_1)) (Qh5 - Prod.fst j_1 < Qh5 - Prod.fst i) (∀ (k : AHeap), Qgv h k k (Qhf l q) → Qgv h k k (Qhf l q)) (∀ (v : Value) (h_1 : AHeap), Qgv h h_1 h_1 (∃ (op : ByteArray), Qh6 l q op v op) → Qgv h h_1 h_1 (∃ (op : ByteArray), Qh6 l q op v op))))) ∧ (∀ (v : Value) (h_1 : AHeap), Qgv h h_1 h_1 (∃ (op : ByteArray), Qh6 l q op v op) → Qgv h h_1 h_1 (∃ (op : ByteArray), Qh6 l q op v op)))))) (∃ (j : AHeap), Qg3 (j = Prod.snd i) (AHeap.Le h j) (AHeap.wf j) (Qhf l q))) True Qg2 (Qg0 True True (∀ (i : Nat × OX ByteArray × Nat × AHeap), Qha (Prod.fst i < Qh5) h i i i i (decM l q (Prod.fst i) = none) (Qh7 i ≤ Qh9 i) (Qh9 i ≤ 400) (Sl (OX.g (Qh8 i)) Sh.str (OX.xs (Prod.fst (Prod.snd i))) (Qhd i i i)) ((∀ (t : ByteArray), Iff (Qgr (Qh8 i) t) (∃ (f : Sh.T Sh.int), Qhc l i q t f)) ∧ (∀ (j : Nat) (t : ByteArray), j < Qh7 i → Qgx (Qh8 i) j t → Qhb l i q t)) → bs (decide (Qhe i < (↑(Qh9 i) : Int))) (∃ (l_1 r : Nat), Qg3 (OX.a (Qh8 i) = some (Addr.mk l_1 r (some Qgk))) (0 ≤ Qhe i) (Qhe i < (↑(Qh9 i) : Int)) (∃ (x : ByteArray), AHeap.ld (Qh2 i) l_1 (r + Int.toNat (Qhe i)) 0 Qgk = some [Value.string x] ∧ (∃ (a_2 : Option Addr) (n c_1 : Nat) (h' : AHeap), Qgl 164 [Qgf a l c, Qg4 3, Qh3 i, Qg4 q, Value.string x] (Qh2 i) a_2 n c_1 h' ∧ bs (decide ((↑n : Int) ≥ 3)) (Qgv h h' h' (∃ (op : ByteArray), Qh6 l q op (Qh4 x) op)) (∃ (j : Nat × OX ByteArray × Nat × AHeap), Qg0 (Qgf a l c = Qgf a l c) (Qg5 q q) (Qh3 i = Qh3 j) (Qh3 i = Qh3 j) (Qg0 (Qhd i i i = Qhd j j j) (Qgb (Qh9 i) = Qgb (Qh9 j)) (Qg4 (Qgc (Qhe i)) = Qgb (Qh7 j)) (Qh2 j = h') (Qg3 (Qha (Prod.fst j < Qh5) h j j j j (decM l q (Prod.fst j) = none) (Qh7 j ≤ Qh9 j) (Qh9 j ≤ 400) (Sl (OX.g (Qh8 j)) Sh.str (OX.xs (Prod.fst (Prod.snd j))) (Qhd j j j)) ((∀ (t : ByteArray), Iff (Qgr (Qh8 j) t) (∃ (f : Sh.T Sh.int), Qhc l j q t f)) ∧ (∀ (j_1 : Nat) (t : ByteArray), j_1 < Qh7 j → Qgx (Qh8 j) j_1 t → Qhb l j q t))) (Qh9 j - Qh7 j < Qh9 i - Qh7 i) (∀ (k : Nat × AHeap), Qh0 (Prod.fst k = Prod.fst j) h k k l q (Prod.fst j + Qgk) → Qh0 (Prod.fst k = Prod.fst i) h k k l q (Prod.fst i + Qgk)) (∀ (v : Value) (h_1 : AHeap), Qgv h h_1 h_1 (∃ (op : ByteArray), Qh6 l q op v op) → Qgv h h_1 h_1 (∃ (op : ByteArray), Qh6 l q op v op)))))))) (∃ (j : Nat × AHeap), Qg0 (Qgf a l c = Qgf a l c) (Qg5 q q) (Qh3 i = Qgy j) (Prod.snd j = Qh2 i) (Qh0 (Prod.fst j = Prod.fst i) h j j l q (Prod.fst i + Qgk)))) True (Qg2 ∧ Qg3 True True Qg2 True ∧ True) ∧ True)) True True) = _) ?_; delta Qg0 Qg2 Qg3 Qg4 Qg5 Qg8 Qg9 Qgb Qgc Qgf Qgk Qgl Qgr Qgv Qgx Qgy Qgz Qh0 Qh1 Qh2 Qh3 Qh4 Qh5 Qh6 Qh7 Qh8 Qh9 Qha Qhb Qhc Qhd Qhe Qhf)
    simp only [true_and, and_true]
    refine ⟨fun ⟨v, g⟩ ⟨hv, le, wf, hd⟩ => ?_, fun ⟨v, o, i, g⟩ ⟨hv, le0, le, wf, hd, hi, h4, hs, hm, hall⟩ => ?_⟩
    · dsimp only at *
      refine bs_d (fun hle => ?_) (fun hgt => ⟨g, rfl, le, wf, by rw [show v = 8 by omega] at hd; exact hd⟩)
      obtain ⟨_, g2, A2, o, rfl, eg, leo, wo, so, hm, h4⟩ := opsOf_spec g wf a c l 3 v q (hx.mono le) H
      rw [eg] at A2
      refine ⟨_, _, _, _, A2, (v, o, 0, o.g), rfl, rfl, rfl, rfl, rfl, rfl, ⟨by dsimp only; omega, le.trans leo, .refl _, wo, hd, Nat.zero_le _, h4, so, hm, fun j t hj => absurd hj (Nat.not_lt_zero _)⟩, fun ⟨v', g'⟩ ⟨e, le', w', hd'⟩ => ?_, fun _ _ h => h⟩
      dsimp only at e le' w' hd'
      subst e
      exact ⟨(v' + 1, g'), by rw [wrap_i64 (by omega)]; rfl, rfl, ⟨by dsimp only; omega, le', w', hd'⟩, by dsimp only; omega, fun _ h => h, fun _ _ h => h⟩
    · dsimp only at *
      refine bs_d (fun hlt => ?_) (fun hge => ⟨(v, g), rfl, rfl, rfl, le0.trans le, wf, decM_miss hd (provedM_none fun t ht => ?_)⟩)
      · obtain ⟨t, hat⟩ : ∃ y : ByteArray, o.xs[i]? = some y := ⟨_, List.getElem?_eq_getElem (by omega)⟩
        obtain ⟨lo, r, row, ha, _, hrd, hld⟩ := (hs.mono le).elem hat
        obtain rfl : row = [.string t] := hrd
        obtain ⟨_, g2, A2, b, rfl, eg, Bb, hb⟩ := voters_spec g wf a c l 3 v q t (hx.mono (le0.trans le)) H
        rw [eg] at A2
        have le2 : g.Le b.g := Bb.le
        refine ⟨lo, r, ha, Int.natCast_nonneg _, hlt, _, hld, _, _, _, _, A2, bs_d (fun e => ?_) (fun e => ?_)⟩
        · exact ⟨(le0.trans le).trans le2, Bb.wf, t, decM_stay (decM_hit hd (provedM_some H (by rw [← hb]; omega))) 8 (by omega), rfl⟩
        · refine ⟨(v, o, i + 1, b.g), rfl, rfl, rfl, rfl, by rw [wrap_i64 (by omega)]; rfl, rfl, ⟨hv, le0, le.trans le2, Bb.wf, hd, by dsimp only; omega, h4, hs, hm, fun j u hj hu => ?_⟩, by dsimp only; omega, fun _ h => h, fun _ _ h => h⟩
          dsimp only at hj hu ⊢
          by_cases c1 : j = i
          · subst c1; rw [hat] at hu; cases hu; rw [← hb]; omega
          · exact hall j u (by omega) hu
      · obtain ⟨j, hj⟩ := List.mem_iff_getElem?.1 ((hm t).2 ht)
        have := (List.getElem?_eq_some_iff.1 hj).1
        exact hall j t (by omega) hj
  (refine vc_mp (by kernel_rfl : (∃ (i : Nat × AHeap), Qg0 (Qgf a l c = Qgf a l c) (Qg5 q q) (Qg4 0 = Qgy i) (Prod.snd i = h) (Qh0 (Prod.fst i ≤ Qh5) h i i l q (Prod.fst i) ∧ (∀ (j : AHeap), Qgv h j j (Qhf l q) → Q (Value.tuple (Array.mk [Qgn, Value.bool false])) j) ∧ (∀ (v : Value) (h_1 : AHeap), Qgv h h_1 h_1 (∃ (op : ByteArray), Qh6 l q op v op) → Q v h_1))) = _) ?_; delta Qg0 Qg3 Qg4 Qg5 Qgb Qgf Qgn Qgv Qgy Qh0 Qh4 Qh5 Qh6 Qhf)
  exact ⟨(0, h), rfl, rfl, rfl, rfl, ⟨by dsimp only; omega, .refl _, hw, rfl⟩, fun g ⟨le, wf, hd⟩ => HQ _ _ ⟨le, wf, .inl ⟨hd, rfl⟩⟩, fun _ _ ⟨le, wf, op, hd, e⟩ => HQ _ _ ⟨le, wf, .inr ⟨op, hd, e⟩⟩⟩
end Go.Proofs.YtpgfjadjhliohaaGreat
