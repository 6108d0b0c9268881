/- W10. -/
import Derived.Test.YtpgfjadjhliohaaGreatV19W9
namespace Go.Proofs.YtpgfjadjhliohaaGreat
open Go.Abs Go.Dat
set_option maxRecDepth 100000
set_option maxHeartbeats 8000000
def cmp0L (h : AHeap) : Nat → LSpec
  | 0 => {
    ι := Unit
    κ := Unit
    I := fun _ => False
    μ := fun _ => 0
    head := fun _ => ⟨[(0, .slice none 0 0), (3, .int .i64 1)], [], h⟩
    post := fun _ => ⟨[(0, .slice none 0 0)], [], h⟩
    R := fun _ _ => True
    ret := fun _ _ _ => False }
  | _ => {
    ι := Unit
    κ := Unit
    I := fun _ => False
    μ := fun _ => 0
    head := fun _ => ⟨[(0, .slice none 0 0), (3, .int .i64 1), (4, .slice none 0 0), (5, .int .i64 1)], [], h⟩
    post := fun _ => ⟨[(0, .slice none 0 0), (3, .int .i64 1)], [], h⟩
    R := fun _ _ => True
    ret := fun _ _ _ => False }
abbrev Ql7 := Nat × OX ByteArray
abbrev Ql8 := OX ByteArray
abbrev Ql9 := Option Addr
abbrev Qla := List (Sh.T voteSh)
abbrev Qlb := ByteArray
abbrev Qlc := Nat × AHeap
abbrev Qld := Nat × OX ByteArray × Nat × AHeap
abbrev Qle := Nat × OX (Sh.T proofSh)
def Qj5 (a b c d e : Prop) := a ∧ b ∧ c ∧ d ∧ e
def Qj6 (a b c : Prop) := Qj5 True a b c True
def Qj7 (a : Prop) := True ∧ a ∧ True
def Qj8 := True ∧ True
def Qj9 (a b c d : Prop) := a ∧ b ∧ c ∧ d
def Qja (a : Int) := Value.int IntKind.i64 a
def Qjb (a b : Int) := Qja a = Qja b
def Qjc := Value.slice none 0 0
theorem compact_nil (h : AHeap) : ACall Tryz.prog 172 [.slice none 0 0] h (.slice none 0 0) h := by
  refine acall_out ?_
  refine acall_vc (fun _ => false) (fun r => match r with | 6 => [(0, 0, []), (1, 0, []), (2, 0, []), (4, 0, []), (5, 0, []), (6, 0, []), (7, 0, []), (3, 1, []), (8, 1, []), (9, 0, [])] | 11 => [(0, 0, []), (1, 0, []), (2, 0, []), (4, 0, []), (5, 0, []), (6, 0, []), (7, 0, []), (3, 1, []), (8, 1, []), (9, 0, [])] | _ => []) (cmp0L h) mixed Tryz.func172 rfl rfl rfl (Nat.le_of_ble_eq_true rfl) ?_ ?_
  · (refine vc_mp (by kernel_rfl : (Qj6 (Qj7 Qj8) (Qj6 (∀ (i : Unit), False → (∃ (j : Unit), Qjc = Qjc ∧ h = h ∧ True)) (Qj7 True) (Qj7 (Qj6 (Qj6 (∀ (i : Unit), False → (∃ (j : Unit), Qj9 (Qjc = Qjc) (Qjb 1 1) (h = h) True)) (Qj7 True) (Qj7 Qj8)) True True))) True) = _) ?_; delta Qj5 Qj6 Qj7 Qj8 Qj9 Qja Qjb Qjc)
    simp only [true_and, and_true]
    exact ⟨fun _ h => h.elim, fun _ h => h.elim⟩
  (refine vc_mp (by kernel_rfl : (Qjc = Qjc ∧ h = h) = _) ?_; delta Qjc)
  exact ⟨rfl, rfl⟩
def Qjd (a b : Prop) := Qj5 True a True Qj8 (b ∧ True)
def Qje (a : Prop) := Qj9 True a True True
def Qjf (a : Ql7) := OX.g (Prod.snd a)
def Qjg (a : Ql8) := List.length (OX.xs a)
def Qjh (a : Ql8) := Value.slice (OX.a a) (Qjg a) (OX.c a)
def Qji (a : Ql7) := Qjh (Prod.snd a)
def Qjj (a : Nat) := Qja (↑a : Int)
def Qjk (a : Int) := IntKind.wrap IntKind.i64 a
def Qjl (a : Ql9) (b : Qla) (c : Nat) := Value.slice a (List.length b) c
def Qjm (a : Ql9) (b : Qla) (c : Nat) := Qjl a b c = Qjl a b c
def Qjn (a b c : Int) (d : Prop) (e : Ql9) (f : Qla) (g : Nat) (h : Prop) (i j : Ql7) (k l m n : Prop) := Qj5 (Qjb a a) (Qjb b b) (Qjb c c) d (Qj5 (Qjm e f g) h (Qja (Qjk ((↑(Prod.fst i) : Int) + 1)) = Qjj (Prod.fst j)) k (Qj9 l (List.length f - Prod.fst j < List.length f - Prod.fst i) m n))
def Qjo := False → False
def Qjp (a : AHeap) (b : OX (Sh.T Sh.str)) (c : Ql8) (d : Qla) (e f g : Int) := OXok Sh.str a b ∧ OX.xs c = opsL d e f g → OXok Sh.str a b ∧ OX.xs c = opsL d e f g
def Qjq (a : Ql7) (b : Qla) (c : AHeap) (d : Nat × OX (Sh.T Sh.str)) (e f g : Int) := Prod.fst a ≤ List.length b ∧ OXok Sh.str c (Prod.snd d) ∧ OX.xs (Prod.snd a) = opsL (List.take (Prod.fst a) b) e f g
def Qjr (a : Qla) := Qjj (List.length a) = Qjj (List.length a)
def Qjs := (1 : Nat)
def Qjt (a : Ql7) := (↑(Prod.fst a) : Int)
def Qju (a : FuncId) (b : List Value) (c : AHeap) (d : Ql9) (e f : Nat) (g : AHeap) := ACall Tryz.prog a b c (Value.slice d e f) g
theorem opsOf_spec (h : AHeap) (hw : h.wf) (a : Option Addr) (c : Nat) (l : List voteSh.T) (k v q : Int) (hx : Sl h voteSh l (.slice a l.length c)) (H : VotsOk l) :
    ∃ r h', ACall Tryz.prog 162 [.slice a l.length c, .int .i64 k, .int .i64 v, .int .i64 q] h r h' ∧ ∃ o : OX ByteArray, r = .slice o.a o.xs.length o.c ∧ h' = o.g ∧ h.Le o.g ∧ o.g.wf ∧ Sl o.g Sh.str o.xs (.slice o.a o.xs.length o.c) ∧ (∀ t, t ∈ o.xs ↔ ∃ f, (k, v, q, t, f) ∈ l) ∧ o.xs.length ≤ 400 := by
  have n1 := H.1
  refine acall_q fun Q HQ => ?_
  refine acall_vc (fun _ => false) (fun _ => []) (fun _ => ioL h a c l k v q) mixed Tryz.func162 rfl rfl rfl (Nat.le_of_ble_eq_true rfl) ?_ ?_
  · (refine vc_mp (by kernel_rfl : (Qj5 True True (Qjd (∀ (i : Nat × OX ByteArray), Qjq i l h i k v q → bs (decide (Qjt i < (↑(List.length l) : Int))) (∃ (l_1 r : Nat), Qj9 (a = some (Addr.mk l_1 r (some 5))) (0 ≤ Qjt i) (Qjt i < (↑(List.length l) : Int)) (∃ (x x_1 x_2 : Int) (x_3 : ByteArray) (x_4 : Int), AHeap.ld (Qjf i) l_1 (r + Int.toNat (Qjt i)) 0 5 = some [Qja x, Qja x_1, Qja x_2, Value.string x_3, Qja x_4] ∧ bs (decide (x = k)) (bs (decide (x_1 = v)) (bs (decide (x_2 = q)) (∃ (xs : List (List Value)), Qj9 (rowsV (AHeap.push (Qjf i) (AObj.mk [[Value.string x_3]] Qjs true)) (Value.slice (some (Addr.mk (AHeap.n (Qjf i)) 0 (some Qjs))) Qjs 2) = some xs) (List.all xs (fun (row : List Value) =>
  decide (List.length row = (1 : Nat)) &&
    List.all row fun (v : Value) =>
      match v with
      | Value.agg cells => false
      | Value.tuple cells => false
      | Value.complex k re im => false
      | Value.chan r => false
      | x => true) = true) ((Qjg (Prod.snd i) + List.length xs) * 16 ≤ 140737488355328) (∃ (a_2 : Option Addr) (n c_1 : Nat) (h' : AHeap), AHeap.app (AHeap.push (Qjf i) (AObj.mk [[Value.string x_3]] Qjs true)) (Qji i) xs Qjs = some (Prod.mk (Value.slice a_2 n c_1) h') ∧ (∃ (j : Nat × OX ByteArray), Qjn k v q (Value.slice a_2 n c_1 = Qji j) a l c (Qjr l) i j (Qjf j = h') (Qjq j l h j k v q) (∀ (k_1 : OX ByteArray), Qjp h k_1 k_1 l k v q) (∀ (v : Value) (h : AHeap), Qjo)))) (∃ (j : Nat × OX ByteArray), Qjn k v q (Qji i = Qji j) a l c (Qjr l) i j (Qjf j = Qjf i) (Qjq j l h j k v q) (∀ (k_1 : OX ByteArray), Qjp h k_1 k_1 l k v q) (∀ (v : Value) (h : AHeap), Qjo))) (∃ (j : Nat × OX ByteArray), Qjn k v q (Qji i = Qji j) a l c (Qjr l) i j (Qjf j = Qjf i) (Qjq j l h j k v q) (∀ (k_1 : OX ByteArray), Qjp h k_1 k_1 l k v q) (∀ (v : Value) (h : AHeap), Qjo))) (∃ (j : Nat × OX ByteArray), Qjn k v q (Qji i = Qji j) a l c (Qjr l) i j (Qjf j = Qjf i) (Qjq j l h j k v q) (∀ (k_1 : OX ByteArray), Qjp h k_1 k_1 l k v q) (∀ (v : Value) (h : AHeap), Qjo)))) (∃ (j : OX ByteArray), Qj9 (Qji i = Qjh j) (OX.g j = Qjf i) (OXok Sh.str h j) (OX.xs j = opsL l k v q))) (Qje True)) True Qj8) = _) ?_; delta Qj5 Qj8 Qj9 Qja Qjb Qjd Qje Qjf Qjg Qjh Qji Qjj Qjk Qjl Qjm Qjn Qjo Qjp Qjq Qjr Qjs Qjt)
    simp only [true_and, and_true]
    refine fun ⟨i, o⟩ ⟨hi, B, hxs⟩ => ?_
    dsimp only at *
    refine bs_d (fun hlt => ?_) (fun hge => ⟨o, rfl, rfl, B, by rw [List.take_of_length_le (by omega)] at hxs; exact hxs⟩)
    obtain ⟨⟨k', v', q', op', f'⟩, hat⟩ : ∃ y : Int × Int × Int × ByteArray × Int, l[i]? = some y := ⟨_, List.getElem?_eq_getElem (by omega)⟩
    obtain ⟨lo, r, row, ha, _, hrd, hld⟩ := (hx.mono B.le).elem hat
    obtain rfl := rd_vote.1 hrd
    dsimp only at hld
    have ct := opsL_take (k := k) (v := v) (q := q) hat
    have sk : ¬ (k' = k ∧ v' = v ∧ q' = q) → o.xs = opsL (l.take (i + 1)) k v q := fun hne => by rw [ct, if_neg hne, List.append_nil]; exact hxs
    have hol : o.xs.length ≤ l.length := by
      rw [hxs]; unfold opsL
      exact Nat.le_trans (List.length_filterMap_le _ _) (by rw [List.length_take]; omega)
    refine ⟨lo, r, ha, Int.natCast_nonneg _, hlt, _, _, _, _, _, hld, bs_d (fun e1 => bs_d (fun e2 => bs_d (fun e3 => ?_) (fun e => ?_)) (fun e => ?_)) (fun e => ?_)⟩
    · obtain ⟨o', e6, B', hx', _, _, _⟩ := B.app (x := op') (cs := [.string op']) (js := []) ⟨rfl, rfl⟩ .nil (by simp)
      refine ⟨[[.string op']], rowsV_push, rfl, by simp only [List.length_cons, List.length_nil]; omega, _, _, _, o'.g, e6, (i + 1, o'), rfl, by rw [wrap_i64 (by omega)]; rfl, rfl, ⟨by dsimp only; omega, B', ?_⟩, by dsimp only; omega, fun _ h => h, fun _ _ h => h⟩
      dsimp only
      rw [hx', ct, if_pos ⟨e1, e2, e3⟩, hxs]
    · exact ⟨(i + 1, o), rfl, by rw [wrap_i64 (by omega)]; rfl, rfl, ⟨by dsimp only; omega, B, sk fun H => e H.2.2⟩, by dsimp only; omega, fun _ h => h, fun _ _ h => h⟩
    · exact ⟨(i + 1, o), rfl, by rw [wrap_i64 (by omega)]; rfl, rfl, ⟨by dsimp only; omega, B, sk fun H => e H.2.1⟩, by dsimp only; omega, fun _ h => h, fun _ _ h => h⟩
    · exact ⟨(i + 1, o), rfl, by rw [wrap_i64 (by omega)]; rfl, rfl, ⟨by dsimp only; omega, B, sk fun H => e H.1⟩, by dsimp only; omega, fun _ h => h, fun _ _ h => h⟩
  (refine vc_mp (by kernel_rfl : (∃ (i : Nat × OX ByteArray), Qj5 (Qjb k k) (Qjb v v) (Qjb q q) (Qjc = Qji i) (Qj5 (Qjm a l c) (Qjr l) (Qja 0 = Qjj (Prod.fst i)) (Qjf i = h) (Qjq i l h i k v q ∧ (∀ (j : OX ByteArray), OXok Sh.str h j ∧ OX.xs j = opsL l k v q → (∃ (h' : AHeap), ACall Tryz.prog 171 [Qjh j] (OX.g j) (Value.tuple (Array.mk List.nil)) h' ∧ (∃ (a : Option Addr) (n c : Nat) (h'_1 : AHeap), Qju 172 [Qjh j] h' a n c h'_1 ∧ Q (Value.slice a n c) h'_1))) ∧ (∀ (v : Value) (h : AHeap), False → Q v h)))) = _) ?_; delta Qj5 Qja Qjb Qjc Qjf Qjg Qjh Qji Qjj Qjl Qjm Qjq Qjr Qju)
  refine ⟨(0, ⟨none, 0, [], [], h⟩), rfl, rfl, rfl, rfl, rfl, rfl, rfl, rfl, ⟨Nat.zero_le _, OXok.nil hw, by unfold opsL; rfl⟩, fun o ⟨B, hxs⟩ => ?_, fun _ _ h => h.elim⟩
  have h4 := ops_len l k v q
  have h5 := froms_len H k v q
  rcases B.txt with ⟨e1, e2, e3⟩ | ⟨lo, e1, hlo, hg, hc⟩
  · obtain ⟨a', c', xs', ids', g'⟩ := o
    dsimp only at *
    subst e1; subst e2; subst e3
    refine ⟨_, sortTxt_nil _, _, _, _, _, compact_nil _, HQ _ _ ⟨⟨none, 0, [], ids', g'⟩, rfl, rfl, B.le, B.wf, B.sn.so.sl, fun t => ?_, by simp⟩⟩
    rw [← mem_opsL, ← hxs]
  · rw [e1]
    obtain ⟨_, A, ys, rfl, hp, m, hm, ho⟩ := sortTxt_spec o.g lo o.c o.xs (by rw [hxs]; omega) hg
    have hl := hp.length_eq
    obtain ⟨_, _, A2, zs, m2, c2, z1, z2, rfl, rfl, hmem⟩ := compact_spec o.g lo o.c ys (by rw [hl, hxs]; omega)
    rw [hl] at A2
    have et : (zs.take m2).length = m2 := by rw [List.length_take]; omega
    refine ⟨_, A, _, _, _, _, A2, HQ _ _ ⟨⟨some ⟨lo, 0, some 1⟩, c2, zs.take m2, [lo], o.g.put lo (some (txtO zs))⟩, by dsimp only; rw [et], rfl, B.le.put (hw lo hlo) _, B.wf.put (B.wf.lt hg) _, ?_, fun t => ?_, ?_⟩⟩
    · dsimp only
      rw [et]; exact txt_sl AHeap.get_put_eq (by omega)
    · dsimp only
      rw [hmem, hp.mem_iff, hxs, mem_opsL]
    · dsimp only
      rw [et]; rw [hl, hxs] at z2; omega
def Qjv (a : List Value) := Value.agg (Array.mk a)
def Qjw (a b : Int) (c : Qlb) (d : Ql9) (e f : Nat) := [Qja a, Qja b, Value.string c, Value.slice d e f]
def Qjx := Value.string (ByteArray.mk (Array.mk List.nil))
def Qjy := Qja (Int.ofNat 0)
def Qjz := [Qjy, Qjy, Qjx, Qjc]
theorem proofOf_spec (h : AHeap) (hw : h.wf) (a : Option Addr) (c : Nat) (l : List voteSh.T) (v q : Int) (op : ByteArray) (hx : Sl h voteSh l (.slice a l.length c)) (H : VotsOk l) :
    ∃ r h', ACall Tryz.prog 163 [.slice a l.length c, .int .i64 v, .int .i64 q, .string op] h r h' ∧ h.Le h' ∧ h'.wf ∧ ((¬ 3 ≤ (votersM l 2 v q op).length ∧ r = .agg #[.int .i64 (Int.ofNat 0), .int .i64 (Int.ofNat 0), .string ⟨#[]⟩, .slice none 0 0]) ∨
      (3 ≤ (votersM l 2 v q op).length ∧ ∃ a' c' js, r = .agg #[.int .i64 v, .int .i64 q, .string op, .slice a' (votersM l 2 v q op).length c'] ∧ Sn h' Sh.int (votersM l 2 v q op) (.slice a' (votersM l 2 v q op).length c') js ∧ Fresh h.n h'.n js)) := by
  obtain ⟨_, g, A, o, rfl, eg, B, hxs⟩ := voters_spec h hw a c l 2 v q op hx H
  rw [eg] at A
  have s := B.sn
  rw [hxs] at s A
  refine acall_q fun Q HQ => ?_
  refine acall_vc (fun _ => false) (fun _ => []) (fun _ => .none) mixed Tryz.func163 rfl rfl rfl (Nat.le_of_ble_eq_true rfl) (by (refine vc_mp (by kernel_rfl : (Qj6 True (Qj7 Qj8) True) = _) ?_; delta Qj5 Qj6 Qj7 Qj8); simp only [and_self]) ?_
  (refine vc_mp (by kernel_rfl : (∃ (a_1 : Option Addr) (n c_1 : Nat) (h' : AHeap), Qju 164 [Qjl a l c, Qja 2, Qja v, Qja q, Value.string op] h a_1 n c_1 h' ∧ bs (decide ((↑n : Int) < 3)) (Q (Qjv Qjz) h') (Q (Qjv (Qjw v q op a_1 n c_1)) h')) = _) ?_; delta Qja Qjc Qjl Qju Qjv Qjw Qjx Qjy Qjz)
  refine ⟨_, _, _, _, A, bs_d (fun e => ?_) (fun e => ?_)⟩
  · exact HQ _ _ ⟨B.le, B.wf, .inl ⟨by omega, rfl⟩⟩
  · exact HQ _ _ ⟨B.le, B.wf, .inr ⟨by omega, _, _, _, rfl, s, B.fr⟩⟩
abbrev z4S : List Value := [.int .i64 (Int.ofNat 0), .int .i64 (Int.ofNat 0), .string ⟨#[]⟩, .slice none 0 0]
def ipL (h : AHeap) (a : Option Addr) (c : Nat) (l : List voteSh.T) (v q : Int) (o : OX ByteArray) : LSpec where
  ι := Nat × AHeap
  κ := AHeap
  I := fun i => i.1 ≤ o.xs.length ∧ o.g.Le i.2 ∧ i.2.wf ∧ ∀ (j : Nat) (t : ByteArray), j < i.1 → o.xs[j]? = some t → ¬ 3 ≤ (votersM l 2 v q t).length
  μ := fun i => o.xs.length - i.1
  head := fun i => ⟨[(0, .slice a l.length c), (1, .int .i64 v), (2, .int .i64 q), (6, .complex .f32 0 0), (13, .slice o.a o.xs.length o.c), (14, .int .i64 o.xs.length), (15, .int .i64 i.1)], [z4S], i.2⟩
  post := fun g => ⟨[(6, .complex .f32 0 0)], [z4S], g⟩
  R := fun _ g => o.g.Le g ∧ g.wf ∧ ∀ t ∈ o.xs, ¬ 3 ≤ (votersM l 2 v q t).length
  ret := fun _ r g => ∃ (op : ByteArray) (a' : Option Addr) (c' : Nat) (js : List Nat), o.g.Le g ∧ g.wf ∧ 3 ≤ (votersM l 2 v q op).length ∧ r = .agg #[.int .i64 v, .int .i64 q, .string op, .slice a' (votersM l 2 v q op).length c'] ∧ Sn g Sh.int (votersM l 2 v q op) (.slice a' (votersM l 2 v q op).length c') js ∧ Fresh o.g.n g.n js
def Qk0 (a : Nat) := 3 ≤ a
noncomputable def Qk1 (a : Qla) (b c : Int) (d : Qlb) := List.length (votersM a 2 b c d)
def Qk2 (a : Ql8) (b : Qlb) (c : Qla) (d e : Int) := Membership.mem (OX.xs a) b → Not (Qk0 (Qk1 c d e b))
def Qk3 := Qjz = Qjz
def Qk4 (a : Nat) := Value.complex FloatKind.f32 a 0
def Qk5 := Qk4 0 = Qk4 0
def Qk6 (a : Ql8) (b : AHeap) (c : Qla) (d e : Int) (f : Qlb) (g h : Prop) := Qj5 (AHeap.Le (OX.g a) b) (AHeap.wf b) (Qk0 (Qk1 c d e f)) g h
def Qk7 (a : AHeap) (b : Qla) (c d : Int) (e : Qlb) (f : Ql9) (g : Nat) (h : List Nat) := Sn a Sh.int (votersM b 2 c d e) (Value.slice f (Qk1 b c d e) g) h
def Qk8 (a b : AHeap) (c : Prop) := AHeap.Le a b ∧ AHeap.wf b ∧ c
def Qk9 (a b : AHeap) (c : Prop) := Qk8 a b c → Qk8 a b c
def Qka (a : Qlc) (b : Nat) (c : AHeap) (d : Prop) := Qj9 (Prod.fst a ≤ b) (AHeap.Le c (Prod.snd a)) (AHeap.wf (Prod.snd a)) d
def Qkb (a : Ql8) (b : Nat) (c : Qlb) := getElem? (OX.xs a) b = some c
def Qkc (a : Qlc) := Qjj (Prod.fst a)
def Qkd (a : Int) := Qjk (a + 1)
def Qke (a : Qlc) := (↑(Prod.fst a) : Int)
def Qkf (a b : Nat) := Qjj a = Qjj b
theorem provedIn_spec (h : AHeap) (hw : h.wf) (a : Option Addr) (c : Nat) (l : List voteSh.T) (v q : Int) (hq : q ≠ 0) (hx : Sl h voteSh l (.slice a l.length c)) (H : VotsOk l) :
    ∃ r h', ACall Tryz.prog 147 [.slice a l.length c, .int .i64 v, .int .i64 q] h r h' ∧ PrfRes h l q ((provedM l 2 v q).map fun op => (v, op)) (fun p _ => r = p) h' := by
  obtain ⟨_, g0, A0, o, rfl, eg0, leo, wo, so, hm, h4⟩ := opsOf_spec h hw a c l 2 v q hx H
  rw [eg0] at A0
  refine acall_q fun Q HQ => ?_
  refine acall_vc (fun _ => false) (fun _ => []) (fun _ => ipL h a c l v q o) mixed Tryz.func147 rfl rfl rfl (Nat.le_of_ble_eq_true rfl) ?_ ?_
  · (refine vc_mp (by kernel_rfl : (Qje (Qjd (∀ (i : Nat × AHeap), Qka i (Qjg o) (OX.g o) (∀ (j : Nat) (t : ByteArray), j < Prod.fst i → Qkb o j t → Not (Qk0 (Qk1 l v q t))) → bs (decide (Qke i < (↑(Qjg o) : Int))) (∃ (l_1 r : Nat), Qj9 (OX.a o = some (Addr.mk l_1 r (some Qjs))) (0 ≤ Qke i) (Qke i < (↑(Qjg o) : Int)) (∃ (x : ByteArray), AHeap.ld (Prod.snd i) l_1 (r + Int.toNat (Qke i)) 0 Qjs = some [Value.string x] ∧ (∃ (x_1 x_2 : Int) (x_3 : ByteArray) (a_2 : Option Addr) (n c_1 : Nat) (h' : AHeap), ACall Tryz.prog 163 [Qjl a l c, Qja v, Qja q, Value.string x] (Prod.snd i) (Qjv (Qjw x_1 x_2 x_3 a_2 n c_1)) h' ∧ bs (not (decide (x_2 = 0))) (∃ (op : ByteArray) (a' : Option Addr) (c' : Nat) (js : List Nat), Qk6 o h' l v q op (Qjv (Qjw x_1 x_2 x_3 a_2 n c_1) = Qjv (Qjw v q op a' (Qk1 l v q op) c')) (Qk7 h' l v q op a' c' js ∧ Fresh (AHeap.n (OX.g o)) (AHeap.n h') js)) (∃ (j : Nat × AHeap), Qj5 (Qjm a l c) (Qjb v v) (Qjb q q) Qk5 (Qj5 (Qjh o = Qjh o) (Qkf (Qjg o) (Qjg o)) (Qja (Qkd (Qke i)) = Qkc j) Qk3 (Qj5 (Prod.snd j = h') (Qka j (Qjg o) (OX.g o) (∀ (j_1 : Nat) (t : ByteArray), j_1 < Prod.fst j → Qkb o j_1 t → Not (Qk0 (Qk1 l v q t)))) (Qjg o - Prod.fst j < Qjg o - Prod.fst i) (∀ (k : AHeap), Qk9 (OX.g o) k (∀ (t : ByteArray), Qk2 o t l v q)) (∀ (v_1 : Value) (h : AHeap), (∃ (op : ByteArray) (a' : Option Addr) (c' : Nat) (js : List Nat), Qk6 o h l v q op (v_1 = Qjv (Qjw v q op a' (Qk1 l v q op) c')) (Qk7 h l v q op a' c' js ∧ Fresh (AHeap.n (OX.g o)) (AHeap.n h) js)) → (∃ (op : ByteArray) (a' : Option Addr) (c' : Nat) (js : List Nat), Qk6 o h l v q op (v_1 = Qjv (Qjw v q op a' (Qk1 l v q op) c')) (Qk7 h l v q op a' c' js ∧ Fresh (AHeap.n (OX.g o)) (AHeap.n h) js))))))))) (∃ (j : AHeap), Qj5 Qk5 Qk3 (j = Prod.snd i) (AHeap.Le (OX.g o) j) (AHeap.wf j ∧ (∀ (t : ByteArray), Qk2 o t l v q)))) (Qj6 True True Qj8))) = _) ?_; delta Qj5 Qj6 Qj8 Qj9 Qja Qjb Qjc Qjd Qje Qjg Qjh Qjj Qjk Qjl Qjm Qjs Qjv Qjw Qjx Qjy Qjz Qk0 Qk1 Qk2 Qk3 Qk4 Qk5 Qk6 Qk7 Qk8 Qk9 Qka Qkb Qkc Qkd Qke Qkf)
    simp only [true_and, and_true]
    refine fun ⟨i, g⟩ ⟨hi, le, wf, hall⟩ => ?_
    dsimp only at *
    refine bs_d (fun hlt => ?_) (fun hge => ⟨g, rfl, le, wf, fun t ht => ?_⟩)
    · obtain ⟨t, hat⟩ : ∃ y : ByteArray, o.xs[i]? = some y := ⟨_, List.getElem?_eq_getElem (by omega)⟩
      obtain ⟨lo, r, row, ha, _, hrd, hld⟩ := (so.mono le).elem hat
      obtain rfl : row = [.string t] := hrd
      obtain ⟨_, g2, A2, le2, w2, ⟨hn, rfl⟩ | ⟨hy, a', c', js, rfl, s, f⟩⟩ := proofOf_spec g wf a c l v q t (hx.mono (leo.trans le)) H
      · refine ⟨lo, r, ha, Int.natCast_nonneg _, hlt, _, hld, _, _, _, _, _, _, _, A2, bs_dn (fun e => absurd rfl e) (fun e => ?_)⟩
        refine ⟨(i + 1, g2), by rw [wrap_i64 (by omega)]; rfl, rfl, ⟨by dsimp only; omega, le.trans le2, w2, fun j u hj hu => ?_⟩, by dsimp only; omega, fun _ h => h, fun _ _ h => h⟩
        by_cases c1 : j = i
        · subst c1; rw [hat] at hu; cases hu; exact hn
        · exact hall j u (by dsimp only at hj; omega) hu
      · exact ⟨lo, r, ha, Int.natCast_nonneg _, hlt, _, hld, _, _, _, _, _, _, _, A2, bs_dn (fun e => ⟨t, a', c', js, le.trans le2, w2, hy, rfl, s, f.widen le.n (Nat.le_refl _)⟩) (fun e => absurd e hq)⟩
    · obtain ⟨j, hj⟩ := List.mem_iff_getElem?.1 ht
      have := (List.getElem?_eq_some_iff.1 hj).1
      exact hall j t (by omega) hj
  (refine vc_mp (by kernel_rfl : (∃ (a_1 : Option Addr) (n c_1 : Nat) (h' : AHeap), Qju 162 [Qjl a l c, Qja 2, Qja v, Qja q] h a_1 n c_1 h' ∧ (∃ (i : Nat × AHeap), Qj5 (Qjm a l c) (Qjb v v) (Qjb q q) Qk5 (Qj5 (Value.slice a_1 n c_1 = Qjh o) (Qkf n (Qjg o)) (Qja 0 = Qkc i) Qk3 (Qj9 (Prod.snd i = h') (Qka i (Qjg o) (OX.g o) (∀ (j : Nat) (t : ByteArray), j < Prod.fst i → Qkb o j t → Not (Qk0 (Qk1 l v q t)))) (∀ (j : AHeap), Qk8 (OX.g o) j (∀ (t : ByteArray), Qk2 o t l v q) → Q (Qjv Qjz) j) (∀ (v_1 : Value) (h : AHeap), (∃ (op : ByteArray) (a' : Option Addr) (c' : Nat) (js : List Nat), Qk6 o h l v q op (v_1 = Qjv (Qjw v q op a' (Qk1 l v q op) c')) (Qk7 h l v q op a' c' js ∧ Fresh (AHeap.n (OX.g o)) (AHeap.n h) js)) → Q v_1 h))))) = _) ?_; delta Qj5 Qj9 Qja Qjb Qjc Qjg Qjh Qjj Qjl Qjm Qju Qjv Qjw Qjx Qjy Qjz Qk0 Qk1 Qk2 Qk3 Qk4 Qk5 Qk6 Qk7 Qk8 Qka Qkb Qkc Qkf)
  refine ⟨_, _, _, _, A0, (0, o.g), rfl, rfl, rfl, rfl, rfl, rfl, rfl, rfl, rfl, ⟨Nat.zero_le _, .refl _, wo, fun j t hj => absurd hj (Nat.not_lt_zero _)⟩, fun g ⟨le, wf, hno⟩ => HQ _ _ ⟨leo.trans le, wf, .inl ⟨?_, rfl⟩⟩, fun _ _ ⟨op, a', c', js, le, wf, hy, e, s, f⟩ => HQ _ _ ⟨leo.trans le, wf, .inr ⟨v, op, a', c', js, ?_, e, s, f.widen leo.n (Nat.le_refl _)⟩⟩⟩
  · rw [provedM_none fun t ht => hno t ((hm t).2 ht)]; rfl
  · rw [provedM_some H hy]; rfl
def prL (h : AHeap) (a : Option Addr) (c : Nat) (l : List voteSh.T) (q : Int) (below : Nat) : LSpec where
  ι := Nat × AHeap
  κ := AHeap
  I := fun i => i.1 ≤ below ∧ h.Le i.2 ∧ i.2.wf ∧ bestM l q below = bestM l q i.1
  μ := fun i => i.1
  head := fun i => ⟨[(0, .slice a l.length c), (1, .int .i64 q), (6, .complex .f32 0 0), (7, .int .i64 ((i.1 : Int) - 1))], [z4S], i.2⟩
  post := fun g => ⟨[(6, .complex .f32 0 0)], [z4S], g⟩
  R := fun _ g => h.Le g ∧ g.wf ∧ bestM l q below = none
  ret := fun _ r g => PrfRes h l q (bestM l q below) (fun p _ => r = p) g
def Qkg (a : Qlc) := Qke a - 1
theorem prepared_spec (h : AHeap) (hw : h.wf) (a : Option Addr) (c : Nat) (l : List voteSh.T) (q : Int) (hq : q ≠ 0) (below : Nat) (hb : below ≤ 1000) (hx : Sl h voteSh l (.slice a l.length c)) (H : VotsOk l) :
    ∃ r h', ACall Tryz.prog 139 [.slice a l.length c, .int .i64 q, .int .i64 ((below : Int) - 1)] h r h' ∧ PrfRes h l q (bestM l q below) (fun p _ => r = p) h' := by
  refine acall_q fun Q HQ => ?_
  refine acall_vc (fun _ => false) (fun _ => []) (fun _ => prL h a c l q below) mixed Tryz.func139 rfl rfl rfl (Nat.le_of_ble_eq_true rfl) ?_ ?_
  · (refine vc_mp (by kernel_rfl : (Qje (Qj6 (∀ (i : Nat × AHeap), Qka i below h (bestM l q below = bestM l q (Prod.fst i)) → bs (decide (Qkg i ≥ 0)) (∃ (x x_1 : Int) (x_2 : ByteArray) (a_2 : Option Addr) (n c_1 : Nat) (h' : AHeap), ACall Tryz.prog 147 [Qjl a l c, Qja (Qkg i), Qja q] (Prod.snd i) (Qjv (Qjw x x_1 x_2 a_2 n c_1)) h' ∧ bs (not (decide (x_1 = 0))) (PrfRes h l q (bestM l q below) (fun (p : Value) => fun (x_3 : Bool) => Qjv (Qjw x x_1 x_2 a_2 n c_1) = p) h') (∃ (j : Nat × AHeap), Qj5 (Qjm a l c) (Qjb q q) Qk5 (Qjb (Qjk (Qkg i - 1)) (Qkg j)) (Qj5 Qk3 (Prod.snd j = h') (Qka j below h (bestM l q below = bestM l q (Prod.fst j))) (Prod.fst j < Prod.fst i) ((∀ (k : AHeap), Qk9 h k (bestM l q below = none)) ∧ (∀ (v : Value) (h_1 : AHeap), PrfRes h l q (bestM l q below) (fun (p : Value) => fun (x : Bool) => v = p) h_1 → PrfRes h l q (bestM l q below) (fun (p : Value) => fun (x : Bool) => v = p) h_1))))) (∃ (j : AHeap), Qj5 Qk5 Qk3 (j = Prod.snd i) (AHeap.Le h j) (AHeap.wf j ∧ bestM l q below = none))) (Qj7 True) (Qj9 True True Qj8 True))) = _) ?_; delta Qj5 Qj6 Qj7 Qj8 Qj9 Qja Qjb Qjc Qje Qjk Qjl Qjm Qjv Qjw Qjx Qjy Qjz Qk3 Qk4 Qk5 Qk8 Qk9 Qka Qke Qkg)
    simp only [true_and, and_true]
    refine fun ⟨n, g⟩ ⟨hn, le, wf, hbest⟩ => ?_
    dsimp only at *
    refine bs_d (fun hge => ?_) (fun hlt => ⟨g, rfl, le, wf, by rw [hbest, show n = 0 by omega]; rfl⟩)
    rw [show ((n : Int) - 1) = ((n - 1 : Nat) : Int) by omega]
    obtain ⟨_, g2, A2, le2, w2, hr⟩ := provedIn_spec g wf a c l ((n - 1 : Nat) : Int) q hq (hx.mono le) H
    have hb2 : bestM l q n = match provedM l 2 ((n - 1 : Nat) : Int) q with | some op => some (((n - 1 : Nat) : Int), op) | none => bestM l q (n - 1) := by
      obtain ⟨m, rfl⟩ : ∃ m, n = m + 1 := ⟨n - 1, by omega⟩
      rfl
    rcases hr with ⟨e, rfl⟩ | ⟨v, op, a', c', js, e, rfl, s, f⟩
    · have hp := Option.map_eq_none_iff.1 e
      refine ⟨_, _, _, _, _, _, _, A2, bs_dn (fun e => absurd rfl e) (fun _ => ⟨(n - 1, g2), by rw [wrap_i64 (by omega)], rfl, ⟨by dsimp only; omega, le.trans le2, w2, by rw [hbest, hb2, hp]⟩, by dsimp only; omega, fun _ h => h, fun _ _ h => h⟩)⟩
    · obtain ⟨op', hp, he⟩ := Option.map_eq_some_iff.1 e
      cases he
      exact ⟨_, _, _, _, _, _, _, A2, bs_dn (fun _ => ⟨le.trans le2, w2, .inr ⟨_, op, a', c', js, by rw [hbest, hb2, hp], rfl, s, f.widen le.n (Nat.le_refl _)⟩⟩) (fun e => absurd e hq)⟩
  (refine vc_mp (by kernel_rfl : (∃ (i : Nat × AHeap), Qj5 (Qjm a l c) (Qjb q q) Qk5 (Qjb ((↑below : Int) - 1) (Qkg i)) (Qj5 Qk3 (Prod.snd i = h) (Qka i below h (bestM l q below = bestM l q (Prod.fst i))) (∀ (j : AHeap), Qk8 h j (bestM l q below = none) → Q (Qjv Qjz) j) (∀ (v : Value) (h_1 : AHeap), PrfRes h l q (bestM l q below) (fun (p : Value) => fun (x : Bool) => v = p) h_1 → Q v h_1))) = _) ?_; delta Qj5 Qj9 Qja Qjb Qjc Qjl Qjm Qjv Qjx Qjy Qjz Qk3 Qk4 Qk5 Qk8 Qka Qke Qkg)
  exact ⟨(below, h), rfl, rfl, rfl, rfl, rfl, rfl, ⟨Nat.le_refl _, .refl _, hw, rfl⟩, fun g ⟨le, wf, hd⟩ => HQ _ _ ⟨le, wf, .inl ⟨hd, rfl⟩⟩, fun _ _ H => HQ _ _ H⟩
def idL (h : AHeap) (a : Option Addr) (c : Nat) (l : List voteSh.T) (q : Int) : Nat → LSpec
  | 0 => {
    ι := Nat × AHeap
    κ := AHeap
    I := fun i => i.1 ≤ 8 ∧ h.Le i.2 ∧ i.2.wf ∧ decM l q i.1 = none
    μ := fun i => 8 - i.1
    head := fun i => ⟨[(0, .slice a l.length c), (1, .int .i64 q), (9, .int .i64 i.1)], [], i.2⟩
    post := fun g => ⟨[], [], g⟩
    R := fun _ g => h.Le g ∧ g.wf ∧ decM l q 8 = none
    ret := fun _ r g => h.Le g ∧ g.wf ∧ ∃ op, decM l q 8 = some op ∧ r = .tuple #[.string op, .bool true] }
  | _ => {
    ι := Nat × OX ByteArray × Nat × AHeap
    κ := Nat × AHeap
    I := fun i => i.1 < 8 ∧ h.Le i.2.1.g ∧ i.2.1.g.Le i.2.2.2 ∧ i.2.2.2.wf ∧ decM l q i.1 = none ∧ i.2.2.1 ≤ i.2.1.xs.length ∧ i.2.1.xs.length ≤ 400 ∧ Sl i.2.1.g Sh.str i.2.1.xs (.slice i.2.1.a i.2.1.xs.length i.2.1.c) ∧ (∀ t, t ∈ i.2.1.xs ↔ ∃ f, (3, (i.1 : Int), q, t, f) ∈ l) ∧ ∀ (j : Nat) (t : ByteArray), j < i.2.2.1 → i.2.1.xs[j]? = some t → ¬ 3 ≤ (votersM l 3 i.1 q t).length
    μ := fun i => i.2.1.xs.length - i.2.2.1
    head := fun i => ⟨[(0, .slice a l.length c), (1, .int .i64 q), (6, .int .i64 i.1), (9, .int .i64 i.1), (15, .slice i.2.1.a i.2.1.xs.length i.2.1.c), (16, .int .i64 i.2.1.xs.length), (17, .int .i64 i.2.2.1)], [], i.2.2.2⟩
    post := fun i => ⟨[(0, .slice a l.length c), (1, .int .i64 q), (9, .int .i64 i.1)], [], i.2⟩
    R := fun i g => g.1 = i.1 ∧ h.Le g.2 ∧ g.2.wf ∧ decM l q (i.1 + 1) = none
    ret := fun _ r g => h.Le g ∧ g.wf ∧ ∃ op, decM l q 8 = some op ∧ r = .tuple #[.string op, .bool true] }
def Qkh (a : Prop) (b : AHeap) (c : Qlc) (d : Qla) (e : Int) (f : Nat) := Qj9 a (AHeap.Le b (Prod.snd c)) (AHeap.wf (Prod.snd c)) (decM d e f = none)
def Qki (a : Qld) := Prod.snd (Prod.snd a)
def Qkj (a : Qld) := Prod.snd (Qki a)
def Qkk (a : Qld) := Qjj (Prod.fst a)
def Qkl (a : Qlb) := Value.tuple (Array.mk [Value.string a, Value.bool true])
def Qkm := (8 : Nat)
def Qkn (a : Qla) (b : Int) (c : Qlb) (d : Value) := decM a b Qkm = some c ∧ d = Qkl c
def Qko (a : Qld) := Prod.fst (Qki a)
def Qkp (a : Qld) := Prod.fst (Prod.snd a)
def Qkq (a : Qld) := Qjg (Qkp a)
def Qkr (a : Prop) (b : AHeap) (c : Qld) (d : Qla) (e : Int) (f g h i : Prop) := Qj5 a (AHeap.Le b (OX.g (Qkp c))) (AHeap.Le (OX.g (Qkp c)) (Prod.snd (Qki c))) (AHeap.wf (Prod.snd (Qki c))) (Qj5 (decM d e (Prod.fst c) = none) f g h i)
def Qks (a : Qla) (b : Qld) (c : Int) (d : Qlb) := Not (Qk0 (List.length (votersM a 3 (↑(Prod.fst b) : Int) c d)))
def Qkt (a : Qld) (b : Qlb) (c : Prop) := Iff (Membership.mem (OX.xs (Qkp a)) b) c
def Qku (a : Qla) (b : Qld) (c : Int) (d : Qlb) (e : Sh.T Sh.int) := Membership.mem a (Prod.mk 3 (Prod.mk (↑(Prod.fst b) : Int) (Prod.mk c (Prod.mk d e))))
def Qkv (a : Qld) := Qjh (Qkp a)
def Qkw (a : Qlc) (b : AHeap) (c : Qla) (d : Int) := Qka a Qkm b (decM c d (Prod.fst a) = none)
theorem decided_spec (h : AHeap) (hw : h.wf) (a : Option Addr) (c : Nat) (l : List voteSh.T) (q : Int) (hx : Sl h voteSh l (.slice a l.length c)) (H : VotsOk l) :
    ∃ r h', ACall Tryz.prog 148 [.slice a l.length c, .int .i64 q] h r h' ∧ h.Le h' ∧ h'.wf ∧ ((decM l q 8 = none ∧ r = .tuple #[.string ⟨#[]⟩, .bool false]) ∨ ∃ op, decM l q 8 = some op ∧ r = .tuple #[.string op, .bool true]) := by
  refine acall_q fun Q HQ => ?_
  refine acall_vc (fun _ => false) (fun _ => []) (idL h a c l q) mixed Tryz.func148 rfl rfl rfl (Nat.le_of_ble_eq_true rfl) ?_ ?_
  · (refine vc_mp (by kernel_rfl : (Qje (Qjd (∀ (i : Nat × AHeap), Qkw i h l q → bs (decide (Qke i < 8)) (∃ (a_2 : Option Addr) (n c_1 : Nat) (h' : AHeap), Qju 162 [Qjl a l c, Qja 3, Qkc i, Qja q] (Prod.snd i) a_2 n c_1 h' ∧ (∃ (i_1 : Nat × OX ByteArray × Nat × AHeap), Qj5 (Qjm a l c) (Qjb q q) (Qkc i = Qkk i_1) (Qkc i = Qkk i_1) (Qj5 (Value.slice a_2 n c_1 = Qkv i_1) (Qkf n (Qkq i_1)) (Qja 0 = Qkc (Qki i_1)) (Qkj i_1 = h') (Qkr (Prod.fst i_1 < Qkm) h i_1 l q (Qko i_1 ≤ Qkq i_1) (Qkq i_1 ≤ 400) (Sl (OX.g (Qkp i_1)) Sh.str (OX.xs (Prod.fst (Prod.snd i_1))) (Qkv i_1)) ((∀ (t : ByteArray), Qkt i_1 t (∃ (f : Sh.T Sh.int), Qku l i_1 q t f)) ∧ (∀ (j : Nat) (t : ByteArray), j < Qko i_1 → Qkb (Qkp i_1) j t → Qks l i_1 q t)) ∧ (∀ (j : Nat × AHeap), Qkh (Prod.fst j = Prod.fst i_1) h j l q (Prod.fst i_1 + Qjs) → (∃ (j_1 : Nat × AHeap), Qj5 (Qjm a l c) (Qjb q q) (Qja (Qkd (Qke j)) = Qkc j_1) (Prod.snd j_1 = Prod.snd j) (Qj9 (Qkw j_1 h l q) (Qkm - Prod.fst j_1 < Qkm - Prod.fst i) (∀ (k : AHeap), Qk9 h k (decM l q Qkm = none)) (∀ (v : Value) (h_1 : AHeap), Qk9 h h_1 (∃ (op : ByteArray), Qkn l q op v))))) ∧ (∀ (v : Value) (h_1 : AHeap), Qk9 h h_1 (∃ (op : ByteArray), Qkn l q op v)))))) (∃ (j : AHeap), Qj9 (j = Prod.snd i) (AHeap.Le h j) (AHeap.wf j) (decM l q Qkm = none))) (Qj5 True True (∀ (i : Nat × OX ByteArray × Nat × AHeap), Qkr (Prod.fst i < Qkm) h i l q (Qko i ≤ Qkq i) (Qkq i ≤ 400) (Sl (OX.g (Qkp i)) Sh.str (OX.xs (Prod.fst (Prod.snd i))) (Qkv i)) ((∀ (t : ByteArray), Qkt i t (∃ (f : Sh.T Sh.int), Qku l i q t f)) ∧ (∀ (j : Nat) (t : ByteArray), j < Qko i → Qkb (Qkp i) j t → Qks l i q t)) → bs (decide (Qke (Qki i) < (↑(Qkq i) : Int))) (∃ (l_1 r : Nat), Qj9 (OX.a (Qkp i) = some (Addr.mk l_1 r (some Qjs))) (0 ≤ Qke (Qki i)) (Qke (Qki i) < (↑(Qkq i) : Int)) (∃ (x : ByteArray), AHeap.ld (Qkj i) l_1 (r + Int.toNat (Qke (Qki i))) 0 Qjs = some [Value.string x] ∧ (∃ (a_2 : Option Addr) (n c_1 : Nat) (h' : AHeap), Qju 164 [Qjl a l c, Qja 3, Qkk i, Qja q, Value.string x] (Qkj i) a_2 n c_1 h' ∧ bs (decide ((↑n : Int) ≥ 3)) (Qk8 h h' (∃ (op : ByteArray), Qkn l q op (Qkl x))) (∃ (j : Nat × OX ByteArray × Nat × AHeap), Qj5 (Qjm a l c) (Qjb q q) (Qkk i = Qkk j) (Qkk i = Qkk j) (Qj5 (Qkv i = Qkv j) (Qkf (Qkq i) (Qkq j)) (Qja (Qkd (Qke (Qki i))) = Qkc (Qki j)) (Qkj j = h') (Qj9 (Qkr (Prod.fst j < Qkm) h j l q (Qko j ≤ Qkq j) (Qkq j ≤ 400) (Sl (OX.g (Qkp j)) Sh.str (OX.xs (Prod.fst (Prod.snd j))) (Qkv j)) ((∀ (t : ByteArray), Qkt j t (∃ (f : Sh.T Sh.int), Qku l j q t f)) ∧ (∀ (j_1 : Nat) (t : ByteArray), j_1 < Qko j → Qkb (Qkp j) j_1 t → Qks l j q t))) (Qkq j - Qko j < Qkq i - Qko i) (∀ (k : Nat × AHeap), Qkh (Prod.fst k = Prod.fst j) h k l q (Prod.fst j + Qjs) → Qkh (Prod.fst k = Prod.fst i) h k l q (Prod.fst i + Qjs)) (∀ (v : Value) (h_1 : AHeap), Qk9 h h_1 (∃ (op : ByteArray), Qkn l q op v)))))))) (∃ (j : Nat × AHeap), Qj5 (Qjm a l c) (Qjb q q) (Qkk i = Qkc j) (Prod.snd j = Qkj i) (Qkh (Prod.fst j = Prod.fst i) h j l q (Prod.fst i + Qjs)))) True (Qj8 ∧ Qj9 True True Qj8 True ∧ True)))) = _) ?_; delta Qj5 Qj8 Qj9 Qja Qjb Qjd Qje Qjg Qjh Qjj Qjk Qjl Qjm Qjs Qju Qk0 Qk8 Qk9 Qka Qkb Qkc Qkd Qke Qkf Qkh Qki Qkj Qkk Qkl Qkm Qkn Qko Qkp Qkq Qkr Qks Qkt Qku Qkv Qkw)
    simp only [true_and, and_true]
    refine ⟨fun ⟨v, g⟩ ⟨hv, le, wf, hd⟩ => ?_, fun ⟨v, o, i, g⟩ ⟨hv, le0, le, wf, hd, hi, h4, hs, hm, hall⟩ => ?_⟩
    · dsimp only at *
      refine bs_d (fun hle => ?_) (fun hgt => ⟨g, rfl, le, wf, by rw [show v = 8 by omega] at hd; exact hd⟩)
      obtain ⟨_, g2, A2, o, rfl, eg, leo, wo, so, hm, h4⟩ := opsOf_spec g wf a c l 3 v q (hx.mono le) H
      rw [eg] at A2
      refine ⟨_, _, _, _, A2, (v, o, 0, o.g), rfl, rfl, rfl, rfl, rfl, rfl, ⟨by dsimp only; omega, le.trans leo, .refl _, wo, hd, Nat.zero_le _, h4, so, hm, fun j t hj => absurd hj (Nat.not_lt_zero _)⟩, fun ⟨v', g'⟩ ⟨e, le', w', hd'⟩ => ?_, fun _ _ h => h⟩
      dsimp only at e le' w' hd'
      subst e
      exact ⟨(v' + 1, g'), by rw [wrap_i64 (by omega)]; rfl, rfl, ⟨by dsimp only; omega, le', w', hd'⟩, by dsimp only; omega, fun _ h => h, fun _ _ h => h⟩
    · dsimp only at *
      refine bs_d (fun hlt => ?_) (fun hge => ⟨(v, g), rfl, rfl, rfl, le0.trans le, wf, decM_miss hd (provedM_none fun t ht => ?_)⟩)
      · obtain ⟨t, hat⟩ : ∃ y : ByteArray, o.xs[i]? = some y := ⟨_, List.getElem?_eq_getElem (by omega)⟩
        obtain ⟨lo, r, row, ha, _, hrd, hld⟩ := (hs.mono le).elem hat
        obtain rfl : row = [.string t] := hrd
        obtain ⟨_, g2, A2, b, rfl, eg, Bb, hb⟩ := voters_spec g wf a c l 3 v q t (hx.mono (le0.trans le)) H
        rw [eg] at A2
        have le2 : g.Le b.g := Bb.le
        refine ⟨lo, r, ha, Int.natCast_nonneg _, hlt, _, hld, _, _, _, _, A2, bs_d (fun e => ?_) (fun e => ?_)⟩
        · exact ⟨(le0.trans le).trans le2, Bb.wf, t, decM_stay (decM_hit hd (provedM_some H (by rw [← hb]; omega))) 8 (by omega), rfl⟩
        · refine ⟨(v, o, i + 1, b.g), rfl, rfl, rfl, rfl, by rw [wrap_i64 (by omega)]; rfl, rfl, ⟨hv, le0, le.trans le2, Bb.wf, hd, by dsimp only; omega, h4, hs, hm, fun j u hj hu => ?_⟩, by dsimp only; omega, fun _ h => h, fun _ _ h => h⟩
          dsimp only at hj hu ⊢
          by_cases c1 : j = i
          · subst c1; rw [hat] at hu; cases hu; rw [← hb]; omega
          · exact hall j u (by omega) hu
      · obtain ⟨j, hj⟩ := List.mem_iff_getElem?.1 ((hm t).2 ht)
        have := (List.getElem?_eq_some_iff.1 hj).1
        exact hall j t (by omega) hj
  (refine vc_mp (by kernel_rfl : (∃ (i : Nat × AHeap), Qj5 (Qjm a l c) (Qjb q q) (Qja 0 = Qkc i) (Prod.snd i = h) (Qkw i h l q ∧ (∀ (j : AHeap), Qk8 h j (decM l q Qkm = none) → Q (Value.tuple (Array.mk [Qjx, Value.bool false])) j) ∧ (∀ (v : Value) (h_1 : AHeap), Qk8 h h_1 (∃ (op : ByteArray), Qkn l q op v) → Q v h_1))) = _) ?_; delta Qj5 Qj9 Qja Qjb Qjj Qjl Qjm Qjx Qk8 Qka Qkc Qkl Qkm Qkn Qkw)
  exact ⟨(0, h), rfl, rfl, rfl, rfl, ⟨by dsimp only; omega, .refl _, hw, rfl⟩, fun g ⟨le, wf, hd⟩ => HQ _ _ ⟨le, wf, .inl ⟨hd, rfl⟩⟩, fun _ _ ⟨le, wf, op, hd, e⟩ => HQ _ _ ⟨le, wf, .inr ⟨op, hd, e⟩⟩⟩
def Qkx (a : Qle) := OX.g (Prod.snd a)
def Qky (a : Int) (b : Nat) (c : Value) := [Qja a, Qjj b, c]
def Qkz (a : OX (Sh.T proofSh)) (b : List (Sh.T proofSh)) (c : Nat) := Value.slice (OX.a a) (List.length b) c
def Ql0 (a : Qle) := OX.xs (Prod.snd a)
def Ql1 (a : Qle) := Qkz (Prod.snd a) (Ql0 a) (OX.c (Prod.snd a))
def Ql2 := [Qjy, Qjy, Qjc]
def Ql3 := Qk4 Qjs
def Ql4 (a : AHeap) (b : OX (Sh.T proofSh)) (c : Qla) (d : Nat) := OXok proofSh a b ∧ OX.xs b = chgM c d 6
def Ql5 (a : Qle) (b : AHeap) (c : Prop) := Prod.fst a ≤ 6 ∧ OXok proofSh b (Prod.snd a) ∧ c
def Ql6 (a : Qle) := (↑(Prod.fst a) : Int) + 1
theorem changeOf_spec (h : AHeap) (hw : h.wf) (a : Option Addr) (c : Nat) (l : List voteSh.T) (from_ : Int) (view : Nat) (hb : view ≤ 1000) (hx : Sl h voteSh l (.slice a l.length c)) (H : VotsOk l) :
    ∃ r h', ACall Tryz.prog 99 [.slice a l.length c, .int .i64 from_, .int .i64 view] h r h' ∧ ∃ o : OX proofSh.T, r = .agg #[.int .i64 from_, .int .i64 view, .slice o.a o.xs.length o.c] ∧ h' = o.g ∧ OXok proofSh h o ∧ o.xs = chgM l view 6 := by
  refine acall_q fun Q HQ => ?_
  refine acall_vc (fun _ => false) (fun _ => []) (fun _ => scL h a c l from_ view) mixed Tryz.func99 rfl rfl rfl (Nat.le_of_ble_eq_true rfl) ?_ ?_
  · (refine vc_mp (by kernel_rfl : (Qj6 True (Qj6 (∀ (i : Nat × OX (Sh.T proofSh)), Ql5 i h (Ql0 i = chgM l view (Prod.fst i)) → bs (decide (Ql6 i ≤ 6)) (∃ (x x_1 : Int) (x_2 : ByteArray) (a_2 : Option Addr) (n c_1 : Nat) (h' : AHeap), ACall Tryz.prog 139 [Qjl a l c, Qja (Ql6 i), Qja (Qjk ((↑view : Int) - 1))] (Qkx i) (Qjv (Qjw x x_1 x_2 a_2 n c_1)) h' ∧ bs (not (decide (x_1 = 0))) (∃ (xs : List (List Value)), Qj9 (rowsV (AHeap.push h' (AObj.mk [Qjw x x_1 x_2 a_2 n c_1] 4 true)) (Value.slice (some (Addr.mk (AHeap.n h') 0 (some 4))) Qjs 2) = some xs) (List.all xs (fun (row : List Value) =>
  decide (List.length row = (4 : Nat)) &&
    List.all row fun (v : Value) =>
      match v with
      | Value.agg cells => false
      | Value.tuple cells => false
      | Value.complex k re im => false
      | Value.chan r => false
      | x => true) = true) ((List.length (Ql0 i) + List.length xs) * 56 ≤ 140737488355328) (∃ (a_3 : Option Addr) (n_1 c_2 : Nat) (h'_1 : AHeap), AHeap.app (AHeap.push h' (AObj.mk [Qjw x x_1 x_2 a_2 n c_1] 4 true)) (Ql1 i) xs 4 = some (Prod.mk (Value.slice a_3 n_1 c_2) h'_1) ∧ (∃ (j : Nat × OX (Sh.T proofSh)), Qj5 (Qjm a l c) (Qkf view view) Qk5 (Ql3 = Ql3) (Qj5 (Qjb (Qkd (Ql6 i)) (Ql6 j)) (Ql2 = Ql2) (Qky from_ view (Ql1 j) = Qky from_ view (Value.slice a_3 n_1 c_2)) (Qkx j = h'_1) (Qj9 (Ql5 j h (Ql0 j = chgM l view (Prod.fst j))) (6 - Prod.fst j < 6 - Prod.fst i) (∀ (k : OX (Sh.T proofSh)), Ql4 h k l view → Ql4 h k l view) (∀ (v : Value) (h : AHeap), Qjo)))))) (∃ (j : Nat × OX (Sh.T proofSh)), Qj5 (Qjm a l c) (Qkf view view) Qk5 (Ql3 = Ql3) (Qj5 (Qjb (Qkd (Ql6 i)) (Ql6 j)) (Ql2 = Ql2) (Qky from_ view (Ql1 j) = Qky from_ view (Ql1 i)) (Qkx j = h') (Qj9 (Ql5 j h (Ql0 j = chgM l view (Prod.fst j))) (6 - Prod.fst j < 6 - Prod.fst i) (∀ (k : OX (Sh.T proofSh)), Ql4 h k l view → Ql4 h k l view) (∀ (v : Value) (h : AHeap), Qjo))))) (∃ (j : OX (Sh.T proofSh)), Qj5 Qk5 (Ql3 = Ql3) (Ql2 = Ql2) (Qky from_ view (Qkz j (OX.xs j) (OX.c j)) = Qky from_ view (Ql1 i)) (OX.g j = Qkx i ∧ OXok proofSh h j ∧ OX.xs j = chgM l view 6))) (Qj7 True) (Qje True)) True) = _) ?_; delta Qj5 Qj6 Qj7 Qj9 Qja Qjb Qjc Qje Qjj Qjk Qjl Qjm Qjo Qjs Qjv Qjw Qjy Qk4 Qk5 Qkd Qkf Qkx Qky Qkz Ql0 Ql1 Ql2 Ql3 Ql4 Ql5 Ql6)
    simp only [true_and, and_true]
    refine fun ⟨n, o⟩ ⟨hn, B, hxs⟩ => ?_
    dsimp only at *
    refine bs_d (fun hle => ?_) (fun hgt => ⟨o, rfl, rfl, B, by rw [hxs, show n = 6 by omega]⟩)
    rw [show ((n : Int) + 1) = ((n + 1 : Nat) : Int) by omega, wrap_i64 (n := (view : Int) - 1) (by omega)]
    have hq : ((n + 1 : Nat) : Int) ≠ 0 := by omega
    obtain ⟨_, g2, A2, le2, w2, hr⟩ := prepared_spec o.g B.wf a c l ((n + 1 : Nat) : Int) hq view hb (hx.mono B.le) H
    have B' := B.grow le2 w2
    have hl : o.xs.length ≤ 6 := by rw [hxs]; exact Nat.le_trans (chgM_len l view n) hn
    rcases hr with ⟨e, rfl⟩ | ⟨v, op, a', c', js, e, rfl, s, f⟩
    · refine ⟨_, _, _, _, _, _, _, A2, bs_dn (fun e => absurd rfl e) (fun _ => ⟨(n + 1, ⟨o.a, o.c, o.xs, o.ids, g2⟩), by rw [wrap_i64 (by omega)], rfl, rfl, ⟨by dsimp only; omega, B', by dsimp only; rw [hxs, chgM, e]; exact (List.append_nil _).symm⟩, by dsimp only; omega, fun _ h => h, fun _ _ h => h⟩)⟩
    · obtain ⟨o', e6, B6, hx', _, _, _⟩ := B'.app (x := (v, ((n + 1 : Nat) : Int), op, votersM l 2 v ((n + 1 : Nat) : Int) op)) (rn_prf s) (f.widen B.le.n (Nat.le_refl _)) (fun z hz hm => by have h1 := (B.fr.bd z hz).2; have h2 := (f.bd z hm).1; omega)
      refine ⟨_, _, _, _, _, _, _, A2, bs_dn (fun _ => ⟨[[.int .i64 v, .int .i64 ((n + 1 : Nat) : Int), .string op, .slice a' _ c']], rowsV_push, rfl, by simp only [List.length_cons, List.length_nil]; omega, _, _, _, o'.g, e6, (n + 1, o'), by rw [wrap_i64 (by omega)], rfl, rfl, ⟨by dsimp only; omega, B6, by dsimp only; rw [hx', hxs, chgM, e]⟩, by dsimp only; omega, fun _ h => h, fun _ _ h => h⟩) (fun e => absurd e hq)⟩
  (refine vc_mp (by kernel_rfl : (∃ (i : Nat × OX (Sh.T proofSh)), Qj5 (Qjm a l c) (Qkf view view) Qk5 (Ql3 = Ql3) (Qj5 (Qjb 1 (Ql6 i)) (Ql2 = Ql2) (Qky from_ view (Ql1 i) = Qky from_ view Qjc) (Qkx i = h) (Ql5 i h (Ql0 i = chgM l view (Prod.fst i)) ∧ (∀ (j : OX (Sh.T proofSh)), Ql4 h j l view → Q (Qjv (Qky from_ view (Qkz j (OX.xs j) (OX.c j)))) (OX.g j)) ∧ (∀ (v : Value) (h : AHeap), False → Q v h)))) = _) ?_; delta Qj5 Qja Qjb Qjc Qjj Qjl Qjm Qjs Qjv Qjy Qk4 Qk5 Qkf Qkx Qky Qkz Ql0 Ql1 Ql2 Ql3 Ql4 Ql5 Ql6)
  exact ⟨(0, ⟨none, 0, [], [], h⟩), rfl, rfl, rfl, rfl, rfl, rfl, rfl, rfl, ⟨by dsimp only; omega, OXok.nil hw, rfl⟩, fun o ⟨B, hx⟩ => HQ _ _ ⟨o, rfl, rfl, B, hx⟩, fun _ _ h => h.elim⟩
end Go.Proofs.YtpgfjadjhliohaaGreat
