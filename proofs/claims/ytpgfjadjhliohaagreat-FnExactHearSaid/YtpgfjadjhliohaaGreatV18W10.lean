/- W10. -/
import Derived.Test.YtpgfjadjhliohaaGreatV18W9
namespace Go.Proofs.YtpgfjadjhliohaaGreat
open Go.Abs Go.Dat
set_option maxRecDepth 100000
set_option maxHeartbeats 8000000
def cmp0L (h : AHeap) : Nat → LSpec
  | 0 => {
    ι := Unit
    κ := Unit
    I := fun _ => False
    μ := fun _ => 0
    head := fun _ => ⟨[(0, .slice none 0 0), (3, .int .i64 1)], [], h⟩
    post := fun _ => ⟨[(0, .slice none 0 0)], [], h⟩
    R := fun _ _ => True
    ret := fun _ _ _ => False }
  | _ => {
    ι := Unit
    κ := Unit
    I := fun _ => False
    μ := fun _ => 0
    head := fun _ => ⟨[(0, .slice none 0 0), (3, .int .i64 1), (4, .slice none 0 0), (5, .int .i64 1)], [], h⟩
    post := fun _ => ⟨[(0, .slice none 0 0), (3, .int .i64 1)], [], h⟩
    R := fun _ _ => True
    ret := fun _ _ _ => False }
abbrev Qk8 := Nat × OX ByteArray
abbrev Qk9 := OX ByteArray
abbrev Qka := List (Sh.T voteSh)
abbrev Qkb := Option Addr
abbrev Qkc := ByteArray
abbrev Qkd := Nat × AHeap
abbrev Qke := Nat × OX ByteArray × Nat × AHeap
def Qim (a b c d e : Prop) := a ∧ b ∧ c ∧ d ∧ e
def Qin (a : Prop) := True ∧ a ∧ True
def Qio := True ∧ True
def Qip (a b c d : Prop) := a ∧ b ∧ c ∧ d
def Qiq (a : Int) := Value.int IntKind.i64 a
def Qir (a : Int) := Qiq a = Qiq a
def Qis := Value.slice none 0 0
theorem compact_nil (h : AHeap) : ACall Tryz.prog 172 [.slice none 0 0] h (.slice none 0 0) h := by
  refine acall_out ?_
  refine acall_vc (fun _ => false) (fun r => match r with | 6 => [(0, 0, []), (1, 0, []), (2, 0, []), (4, 0, []), (5, 0, []), (6, 0, []), (7, 0, []), (3, 1, []), (8, 1, []), (9, 0, [])] | 11 => [(0, 0, []), (1, 0, []), (2, 0, []), (4, 0, []), (5, 0, []), (6, 0, []), (7, 0, []), (3, 1, []), (8, 1, []), (9, 0, [])] | _ => []) (cmp0L h) mixed Tryz.func172 rfl rfl rfl (Nat.le_of_ble_eq_true rfl) ?_ ?_
  · (refine vc_mp (by kernel_rfl : (Qim True (Qin Qio) (Qim True (∀ (i : Unit), False → (∃ (j : Unit), Qis = Qis ∧ h = h ∧ True)) (Qin True) (Qin (Qim True (Qim True (∀ (i : Unit), False → (∃ (j : Unit), Qip (Qis = Qis) (Qir 1) (h = h) True)) (Qin True) (Qin Qio) True) True True True)) True) True True) = _) ?_; delta Qim Qin Qio Qip Qiq Qir Qis)
    simp only [true_and, and_true]
    exact ⟨fun _ h => h.elim, fun _ h => h.elim⟩
  (refine vc_mp (by kernel_rfl : (Qis = Qis ∧ h = h) = _) ?_; delta Qis)
  exact ⟨rfl, rfl⟩
def Qit (a b : Prop) := Qim True a True Qio (b ∧ True)
def Qiu (a : Qk8) := OX.g (Prod.snd a)
def Qiv (a : Qk9) := List.length (OX.xs a)
def Qiw (a : Qk9) := Value.slice (OX.a a) (Qiv a) (OX.c a)
def Qix (a : Qk8) := Qiw (Prod.snd a)
def Qiy (a : Prop) (b : Int) (c d e f : Prop) (g : Int) (h : Value) (i j : Prop) := Qim a (Qir b) c d (Qim e f (Qiq g = h) i j)
def Qiz (a : Nat) := Qiq (↑a : Int)
def Qj0 (a : Int) := IntKind.wrap IntKind.i64 (a + 1)
def Qj1 (a : Qk8) := (↑(Prod.fst a) : Int)
def Qj2 (a : Qka) := Qiz (List.length a)
def Qj3 (a : Qkb) (b : Qka) (c : Nat) := Value.slice a (List.length b) c
def Qj4 (a : Qkb) (b : Qka) (c : Nat) := Qj3 a b c = Qj3 a b c
def Qj5 (a b c : Int) (d : Prop) (e : Qkb) (f : Qka) (g : Nat) (h i : Qk8) (j : AHeap) (k l m n : Prop) := Qiy (Qir a) b (Qir c) d (Qj4 e f g) (Qj2 f = Qj2 f) (Qj0 (Qj1 h)) (Qiz (Prod.fst i)) (Qiu i = j) (Qip k l m n)
def Qj6 (a : AHeap) (b : OX (Sh.T Sh.str)) (c : Qk9) (d : Qka) (e f g : Int) := OXok Sh.str a b ∧ OX.xs c = opsL d e f g → OXok Sh.str a b ∧ OX.xs c = opsL d e f g
def Qj7 (a : Qka) (b : Qk8) := List.length a - Prod.fst b
def Qj8 (a : Qk8) (b : Qka) (c : AHeap) (d : Nat × OX (Sh.T Sh.str)) (e f g : Int) := Prod.fst a ≤ List.length b ∧ OXok Sh.str c (Prod.snd d) ∧ OX.xs (Prod.snd a) = opsL (List.take (Prod.fst a) b) e f g
def Qj9 := (1 : Nat)
def Qja (a : FuncId) (b : List Value) (c : AHeap) (d : Qkb) (e f : Nat) (g : AHeap) := ACall Tryz.prog a b c (Value.slice d e f) g
theorem opsOf_spec (h : AHeap) (hw : h.wf) (a : Option Addr) (c : Nat) (l : List voteSh.T) (k v q : Int) (hx : Sl h voteSh l (.slice a l.length c)) (H : VotsOk l) :
    ∃ r h', ACall Tryz.prog 162 [.slice a l.length c, .int .i64 k, .int .i64 v, .int .i64 q] h r h' ∧ ∃ o : OX ByteArray, r = .slice o.a o.xs.length o.c ∧ h' = o.g ∧ h.Le o.g ∧ o.g.wf ∧ Sl o.g Sh.str o.xs (.slice o.a o.xs.length o.c) ∧ (∀ t, t ∈ o.xs ↔ ∃ f, (k, v, q, t, f) ∈ l) ∧ o.xs.length ≤ 400 := by
  have n1 := H.1
  refine acall_q fun Q HQ => ?_
  refine acall_vc (fun _ => false) (fun _ => []) (fun _ => ioL h a c l k v q) mixed Tryz.func162 rfl rfl rfl (Nat.le_of_ble_eq_true rfl) ?_ ?_
  · (refine vc_mp (by kernel_rfl : (Qim True True (Qit (∀ (i : Nat × OX ByteArray), Qj8 i l h i k v q → bs (decide (Qj1 i < (↑(List.length l) : Int))) (∃ (l_1 r : Nat), Qip (a = some (Addr.mk l_1 r (some 5))) (0 ≤ Qj1 i) (Qj1 i < (↑(List.length l) : Int)) (∃ (x x_1 x_2 : Int) (x_3 : ByteArray) (x_4 : Int), AHeap.ld (Qiu i) l_1 (r + Int.toNat (Qj1 i)) 0 5 = some [Qiq x, Qiq x_1, Qiq x_2, Value.string x_3, Qiq x_4] ∧ bs (decide (x = k)) (bs (decide (x_1 = v)) (bs (decide (x_2 = q)) (∃ (xs : List (List Value)), Qip (rowsV (AHeap.push (Qiu i) (AObj.mk [[Value.string x_3]] Qj9 true)) (Value.slice (some (Addr.mk (AHeap.n (Qiu i)) 0 (some Qj9))) Qj9 2) = some xs) (List.all xs (fun (row : List Value) =>
  decide (List.length row = (1 : Nat)) &&
    List.all row fun (v : Value) =>
      match v with
      | Value.agg cells => false
      | Value.tuple cells => false
      | Value.complex k re im => false
      | Value.chan r => false
      | x => true) = true) ((Qiv (Prod.snd i) + List.length xs) * 16 ≤ 140737488355328) (∃ (a_2 : Option Addr) (n c_1 : Nat) (h' : AHeap), AHeap.app (AHeap.push (Qiu i) (AObj.mk [[Value.string x_3]] Qj9 true)) (Qix i) xs Qj9 = some (Prod.mk (Value.slice a_2 n c_1) h') ∧ (∃ (j : Nat × OX ByteArray), Qj5 k v q (Value.slice a_2 n c_1 = Qix j) a l c i j h' (Qj8 j l h j k v q) (Qj7 l j < Qj7 l i) (∀ (k_1 : OX ByteArray), Qj6 h k_1 k_1 l k v q) (∀ (v : Value) (h : AHeap), False → False)))) (∃ (j : Nat × OX ByteArray), Qj5 k v q (Qix i = Qix j) a l c i j (Qiu i) (Qj8 j l h j k v q) (Qj7 l j < Qj7 l i) (∀ (k_1 : OX ByteArray), Qj6 h k_1 k_1 l k v q) (∀ (v : Value) (h : AHeap), False → False))) (∃ (j : Nat × OX ByteArray), Qj5 k v q (Qix i = Qix j) a l c i j (Qiu i) (Qj8 j l h j k v q) (Qj7 l j < Qj7 l i) (∀ (k_1 : OX ByteArray), Qj6 h k_1 k_1 l k v q) (∀ (v : Value) (h : AHeap), False → False))) (∃ (j : Nat × OX ByteArray), Qj5 k v q (Qix i = Qix j) a l c i j (Qiu i) (Qj8 j l h j k v q) (Qj7 l j < Qj7 l i) (∀ (k_1 : OX ByteArray), Qj6 h k_1 k_1 l k v q) (∀ (v : Value) (h : AHeap), False → False)))) (∃ (j : OX ByteArray), Qip (Qix i = Qiw j) (OX.g j = Qiu i) (OXok Sh.str h j) (OX.xs j = opsL l k v q))) (Qip True True True True)) True Qio) = _) ?_; delta Qim Qio Qip Qiq Qir Qit Qiu Qiv Qiw Qix Qiy Qiz Qj0 Qj1 Qj2 Qj3 Qj4 Qj5 Qj6 Qj7 Qj8 Qj9)
    simp only [true_and, and_true]
    refine fun ⟨i, o⟩ ⟨hi, B, hxs⟩ => ?_
    dsimp only at *
    refine bs_d (fun hlt => ?_) (fun hge => ⟨o, rfl, rfl, B, by rw [List.take_of_length_le (by omega)] at hxs; exact hxs⟩)
    obtain ⟨⟨k', v', q', op', f'⟩, hat⟩ : ∃ y : Int × Int × Int × ByteArray × Int, l[i]? = some y := ⟨_, List.getElem?_eq_getElem (by omega)⟩
    obtain ⟨lo, r, row, ha, _, hrd, hld⟩ := (hx.mono B.le).elem hat
    obtain rfl := rd_vote.1 hrd
    dsimp only at hld
    have ct := opsL_take (k := k) (v := v) (q := q) hat
    have sk : ¬ (k' = k ∧ v' = v ∧ q' = q) → o.xs = opsL (l.take (i + 1)) k v q := fun hne => by rw [ct, if_neg hne, List.append_nil]; exact hxs
    have hol : o.xs.length ≤ l.length := by
      rw [hxs]; unfold opsL
      exact Nat.le_trans (List.length_filterMap_le _ _) (by rw [List.length_take]; omega)
    refine ⟨lo, r, ha, Int.natCast_nonneg _, hlt, _, _, _, _, _, hld, bs_d (fun e1 => bs_d (fun e2 => bs_d (fun e3 => ?_) (fun e => ?_)) (fun e => ?_)) (fun e => ?_)⟩
    · obtain ⟨o', e6, B', hx', _, _, _⟩ := B.app (x := op') (cs := [.string op']) (js := []) ⟨rfl, rfl⟩ .nil (by simp)
      refine ⟨[[.string op']], rowsV_push, rfl, by simp only [List.length_cons, List.length_nil]; omega, _, _, _, o'.g, e6, (i + 1, o'), rfl, by rw [wrap_i64 (by omega)]; rfl, rfl, ⟨by dsimp only; omega, B', ?_⟩, by dsimp only; omega, fun _ h => h, fun _ _ h => h⟩
      dsimp only
      rw [hx', ct, if_pos ⟨e1, e2, e3⟩, hxs]
    · exact ⟨(i + 1, o), rfl, by rw [wrap_i64 (by omega)]; rfl, rfl, ⟨by dsimp only; omega, B, sk fun H => e H.2.2⟩, by dsimp only; omega, fun _ h => h, fun _ _ h => h⟩
    · exact ⟨(i + 1, o), rfl, by rw [wrap_i64 (by omega)]; rfl, rfl, ⟨by dsimp only; omega, B, sk fun H => e H.2.1⟩, by dsimp only; omega, fun _ h => h, fun _ _ h => h⟩
    · exact ⟨(i + 1, o), rfl, by rw [wrap_i64 (by omega)]; rfl, rfl, ⟨by dsimp only; omega, B, sk fun H => e H.1⟩, by dsimp only; omega, fun _ h => h, fun _ _ h => h⟩
  (refine vc_mp (by kernel_rfl : (∃ (i : Nat × OX ByteArray), Qiy (Qir k) v (Qir q) (Qis = Qix i) (Qj4 a l c) (Qj2 l = Qj2 l) 0 (Qiz (Prod.fst i)) (Qiu i = h) (Qj8 i l h i k v q ∧ (∀ (j : OX ByteArray), OXok Sh.str h j ∧ OX.xs j = opsL l k v q → (∃ (h' : AHeap), ACall Tryz.prog 171 [Qiw j] (OX.g j) (Value.tuple (Array.mk List.nil)) h' ∧ (∃ (a : Option Addr) (n c : Nat) (h'_1 : AHeap), Qja 172 [Qiw j] h' a n c h'_1 ∧ Q (Value.slice a n c) h'_1))) ∧ (∀ (v : Value) (h : AHeap), False → Q v h))) = _) ?_; delta Qim Qiq Qir Qis Qiu Qiv Qiw Qix Qiy Qiz Qj2 Qj3 Qj4 Qj8 Qja)
  refine ⟨(0, ⟨none, 0, [], [], h⟩), rfl, rfl, rfl, rfl, rfl, rfl, rfl, rfl, ⟨Nat.zero_le _, OXok.nil hw, by unfold opsL; rfl⟩, fun o ⟨B, hxs⟩ => ?_, fun _ _ h => h.elim⟩
  have h4 := ops_len l k v q
  have h5 := froms_len H k v q
  rcases B.txt with ⟨e1, e2, e3⟩ | ⟨lo, e1, hlo, hg, hc⟩
  · obtain ⟨a', c', xs', ids', g'⟩ := o
    dsimp only at *
    subst e1; subst e2; subst e3
    refine ⟨_, sortTxt_nil _, _, _, _, _, compact_nil _, HQ _ _ ⟨⟨none, 0, [], ids', g'⟩, rfl, rfl, B.le, B.wf, B.sn.so.sl, fun t => ?_, by simp⟩⟩
    rw [← mem_opsL, ← hxs]
  · rw [e1]
    obtain ⟨_, A, ys, rfl, hp, m, hm, ho⟩ := sortTxt_spec o.g lo o.c o.xs (by rw [hxs]; omega) hg
    have hl := hp.length_eq
    obtain ⟨_, _, A2, zs, m2, c2, z1, z2, rfl, rfl, hmem⟩ := compact_spec o.g lo o.c ys (by rw [hl, hxs]; omega)
    rw [hl] at A2
    have et : (zs.take m2).length = m2 := by rw [List.length_take]; omega
    refine ⟨_, A, _, _, _, _, A2, HQ _ _ ⟨⟨some ⟨lo, 0, some 1⟩, c2, zs.take m2, [lo], o.g.put lo (some (txtO zs))⟩, by dsimp only; rw [et], rfl, B.le.put (hw lo hlo) _, B.wf.put (B.wf.lt hg) _, ?_, fun t => ?_, ?_⟩⟩
    · dsimp only
      rw [et]; exact txt_sl AHeap.get_put_eq (by omega)
    · dsimp only
      rw [hmem, hp.mem_iff, hxs, mem_opsL]
    · dsimp only
      rw [et]; rw [hl, hxs] at z2; omega
def Qjb (a b : Int) (c : Qkc) (d : Value) := Value.agg (Array.mk [Qiq a, Qiq b, Value.string c, d])
def Qjc := Value.string (ByteArray.mk (Array.mk List.nil))
def Qjd := [Qiq (Int.ofNat 0), Qiq (Int.ofNat 0), Qjc, Qis]
theorem proofOf_spec (h : AHeap) (hw : h.wf) (a : Option Addr) (c : Nat) (l : List voteSh.T) (v q : Int) (op : ByteArray) (hx : Sl h voteSh l (.slice a l.length c)) (H : VotsOk l) :
    ∃ r h', ACall Tryz.prog 163 [.slice a l.length c, .int .i64 v, .int .i64 q, .string op] h r h' ∧ h.Le h' ∧ h'.wf ∧ ((¬ 3 ≤ (votersM l 2 v q op).length ∧ r = .agg #[.int .i64 (Int.ofNat 0), .int .i64 (Int.ofNat 0), .string ⟨#[]⟩, .slice none 0 0]) ∨
      (3 ≤ (votersM l 2 v q op).length ∧ ∃ a' c' js, r = .agg #[.int .i64 v, .int .i64 q, .string op, .slice a' (votersM l 2 v q op).length c'] ∧ Sn h' Sh.int (votersM l 2 v q op) (.slice a' (votersM l 2 v q op).length c') js ∧ Fresh h.n h'.n js)) := by
  obtain ⟨_, g, A, o, rfl, eg, B, hxs⟩ := voters_spec h hw a c l 2 v q op hx H
  rw [eg] at A
  have s := B.sn
  rw [hxs] at s A
  refine acall_q fun Q HQ => ?_
  refine acall_vc (fun _ => false) (fun _ => []) (fun _ => .none) mixed Tryz.func163 rfl rfl rfl (Nat.le_of_ble_eq_true rfl) (by (refine vc_mp (by kernel_rfl : (Qim True True (Qin Qio) True True) = _) ?_; delta Qim Qin Qio); simp only [and_self]) ?_
  (refine vc_mp (by kernel_rfl : (∃ (a_1 : Option Addr) (n c_1 : Nat) (h' : AHeap), Qja 164 [Qj3 a l c, Qiq 2, Qiq v, Qiq q, Value.string op] h a_1 n c_1 h' ∧ bs (decide ((↑n : Int) < 3)) (Q (Value.agg (Array.mk Qjd)) h') (Q (Qjb v q op (Value.slice a_1 n c_1)) h')) = _) ?_; delta Qiq Qis Qj3 Qja Qjb Qjc Qjd)
  refine ⟨_, _, _, _, A, bs_d (fun e => ?_) (fun e => ?_)⟩
  · exact HQ _ _ ⟨B.le, B.wf, .inl ⟨by omega, rfl⟩⟩
  · exact HQ _ _ ⟨B.le, B.wf, .inr ⟨by omega, _, _, _, rfl, s, B.fr⟩⟩
abbrev z4S : List Value := [.int .i64 (Int.ofNat 0), .int .i64 (Int.ofNat 0), .string ⟨#[]⟩, .slice none 0 0]
def ipL (h : AHeap) (a : Option Addr) (c : Nat) (l : List voteSh.T) (v q : Int) (o : OX ByteArray) : LSpec where
  ι := Nat × AHeap
  κ := AHeap
  I := fun i => i.1 ≤ o.xs.length ∧ o.g.Le i.2 ∧ i.2.wf ∧ ∀ (j : Nat) (t : ByteArray), j < i.1 → o.xs[j]? = some t → ¬ 3 ≤ (votersM l 2 v q t).length
  μ := fun i => o.xs.length - i.1
  head := fun i => ⟨[(0, .slice a l.length c), (1, .int .i64 v), (2, .int .i64 q), (6, .complex .f32 0 0), (13, .slice o.a o.xs.length o.c), (14, .int .i64 o.xs.length), (15, .int .i64 i.1)], [z4S], i.2⟩
  post := fun g => ⟨[(6, .complex .f32 0 0)], [z4S], g⟩
  R := fun _ g => o.g.Le g ∧ g.wf ∧ ∀ t ∈ o.xs, ¬ 3 ≤ (votersM l 2 v q t).length
  ret := fun _ r g => ∃ (op : ByteArray) (a' : Option Addr) (c' : Nat) (js : List Nat), o.g.Le g ∧ g.wf ∧ 3 ≤ (votersM l 2 v q op).length ∧ r = .agg #[.int .i64 v, .int .i64 q, .string op, .slice a' (votersM l 2 v q op).length c'] ∧ Sn g Sh.int (votersM l 2 v q op) (.slice a' (votersM l 2 v q op).length c') js ∧ Fresh o.g.n g.n js
def Qje (a : Nat) := 3 ≤ a
noncomputable def Qjf (a : Qka) (b c : Int) (d : Qkc) := List.length (votersM a 2 b c d)
def Qjg (a : Qk9) (b : Qkc) (c : Qka) (d e : Int) := Membership.mem (OX.xs a) b → Not (Qje (Qjf c d e b))
def Qjh := Value.complex FloatKind.f32 0 0
def Qji (a : Qk9) (b : AHeap) (c : Qka) (d e : Int) (f : Qkc) (g h : Prop) := Qim (AHeap.Le (OX.g a) b) (AHeap.wf b) (Qje (Qjf c d e f)) g h
def Qjj (a : AHeap) (b : Qka) (c d : Int) (e : Qkc) (f : Qkb) (g : Nat) (h : List Nat) := Sn a Sh.int (votersM b 2 c d e) (Value.slice f (Qjf b c d e) g) h
noncomputable def Qjk (a b : Int) (c : Qkc) (d : Qkb) (e : Qka) (f : Nat) := Qjb a b c (Value.slice d (Qjf e a b c) f)
def Qjl (a b : AHeap) (c : Prop) := AHeap.Le a b ∧ AHeap.wf b ∧ c
def Qjm (a b : AHeap) (c : Prop) := Qjl a b c → Qjl a b c
def Qjn (a : Qkd) (b : Qk9) (c : Prop) := Qip (Prod.fst a ≤ Qiv b) (AHeap.Le (OX.g b) (Prod.snd a)) (AHeap.wf (Prod.snd a)) c
def Qjo (a : Qk9) (b : Nat) (c : Qkc) := getElem? (OX.xs a) b = some c
def Qjp (a : Qkd) := Qiz (Prod.fst a)
def Qjq (a : Qkd) := (↑(Prod.fst a) : Int)
theorem provedIn_spec (h : AHeap) (hw : h.wf) (a : Option Addr) (c : Nat) (l : List voteSh.T) (v q : Int) (hq : q ≠ 0) (hx : Sl h voteSh l (.slice a l.length c)) (H : VotsOk l) :
    ∃ r h', ACall Tryz.prog 147 [.slice a l.length c, .int .i64 v, .int .i64 q] h r h' ∧ PrfRes h l q ((provedM l 2 v q).map fun op => (v, op)) (fun p _ => r = p) h' := by
  obtain ⟨_, g0, A0, o, rfl, eg0, leo, wo, so, hm, h4⟩ := opsOf_spec h hw a c l 2 v q hx H
  rw [eg0] at A0
  refine acall_q fun Q HQ => ?_
  refine acall_vc (fun _ => false) (fun _ => []) (fun _ => ipL h a c l v q o) mixed Tryz.func147 rfl rfl rfl (Nat.le_of_ble_eq_true rfl) ?_ ?_
  · (refine vc_mp (by kernel_rfl : (Qip True (Qit (∀ (i : Nat × AHeap), Qjn i o (∀ (j : Nat) (t : ByteArray), j < Prod.fst i → Qjo o j t → Not (Qje (Qjf l v q t))) → bs (decide (Qjq i < (↑(Qiv o) : Int))) (∃ (l_1 r : Nat), Qip (OX.a o = some (Addr.mk l_1 r (some Qj9))) (0 ≤ Qjq i) (Qjq i < (↑(Qiv o) : Int)) (∃ (x : ByteArray), AHeap.ld (Prod.snd i) l_1 (r + Int.toNat (Qjq i)) 0 Qj9 = some [Value.string x] ∧ (∃ (x_1 x_2 : Int) (x_3 : ByteArray) (a_2 : Option Addr) (n c_1 : Nat) (h' : AHeap), ACall Tryz.prog 163 [Qj3 a l c, Qiq v, Qiq q, Value.string x] (Prod.snd i) (Qjb x_1 x_2 x_3 (Value.slice a_2 n c_1)) h' ∧ bs (not (decide (x_2 = 0))) (∃ (op : ByteArray) (a' : Option Addr) (c' : Nat) (js : List Nat), Qji o h' l v q op (Qjb x_1 x_2 x_3 (Value.slice a_2 n c_1) = Qjk v q op a' l c') (Qjj h' l v q op a' c' js ∧ Fresh (AHeap.n (OX.g o)) (AHeap.n h') js)) (∃ (j : Nat × AHeap), Qiy (Qj4 a l c) v (Qir q) (Qjh = Qjh) (Qiw o = Qiw o) (Qiz (Qiv o) = Qiz (Qiv o)) (Qj0 (Qjq i)) (Qjp j) (Qjd = Qjd) (Qim (Prod.snd j = h') (Qjn j o (∀ (j_1 : Nat) (t : ByteArray), j_1 < Prod.fst j → Qjo o j_1 t → Not (Qje (Qjf l v q t)))) (Qiv o - Prod.fst j < Qiv o - Prod.fst i) (∀ (k : AHeap), Qjm (OX.g o) k (∀ (t : ByteArray), Qjg o t l v q)) (∀ (v_1 : Value) (h : AHeap), (∃ (op : ByteArray) (a' : Option Addr) (c' : Nat) (js : List Nat), Qji o h l v q op (v_1 = Qjk v q op a' l c') (Qjj h l v q op a' c' js ∧ Fresh (AHeap.n (OX.g o)) (AHeap.n h) js)) → (∃ (op : ByteArray) (a' : Option Addr) (c' : Nat) (js : List Nat), Qji o h l v q op (v_1 = Qjk v q op a' l c') (Qjj h l v q op a' c' js ∧ Fresh (AHeap.n (OX.g o)) (AHeap.n h) js)))))))) (∃ (j : AHeap), Qim (Qjh = Qjh) (Qjd = Qjd) (j = Prod.snd i) (AHeap.Le (OX.g o) j) (AHeap.wf j ∧ (∀ (t : ByteArray), Qjg o t l v q)))) (Qim True True True Qio True)) True True) = _) ?_; delta Qim Qio Qip Qiq Qir Qis Qit Qiv Qiw Qiy Qiz Qj0 Qj3 Qj4 Qj9 Qjb Qjc Qjd Qje Qjf Qjg Qjh Qji Qjj Qjk Qjl Qjm Qjn Qjo Qjp Qjq)
    simp only [true_and, and_true]
    refine fun ⟨i, g⟩ ⟨hi, le, wf, hall⟩ => ?_
    dsimp only at *
    refine bs_d (fun hlt => ?_) (fun hge => ⟨g, rfl, le, wf, fun t ht => ?_⟩)
    · obtain ⟨t, hat⟩ : ∃ y : ByteArray, o.xs[i]? = some y := ⟨_, List.getElem?_eq_getElem (by omega)⟩
      obtain ⟨lo, r, row, ha, _, hrd, hld⟩ := (so.mono le).elem hat
      obtain rfl : row = [.string t] := hrd
      obtain ⟨_, g2, A2, le2, w2, ⟨hn, rfl⟩ | ⟨hy, a', c', js, rfl, s, f⟩⟩ := proofOf_spec g wf a c l v q t (hx.mono (leo.trans le)) H
      · refine ⟨lo, r, ha, Int.natCast_nonneg _, hlt, _, hld, _, _, _, _, _, _, _, A2, bs_dn (fun e => absurd rfl e) (fun e => ?_)⟩
        refine ⟨(i + 1, g2), by rw [wrap_i64 (by omega)]; rfl, rfl, ⟨by dsimp only; omega, le.trans le2, w2, fun j u hj hu => ?_⟩, by dsimp only; omega, fun _ h => h, fun _ _ h => h⟩
        by_cases c1 : j = i
        · subst c1; rw [hat] at hu; cases hu; exact hn
        · exact hall j u (by dsimp only at hj; omega) hu
      · exact ⟨lo, r, ha, Int.natCast_nonneg _, hlt, _, hld, _, _, _, _, _, _, _, A2, bs_dn (fun e => ⟨t, a', c', js, le.trans le2, w2, hy, rfl, s, f.widen le.n (Nat.le_refl _)⟩) (fun e => absurd e hq)⟩
    · obtain ⟨j, hj⟩ := List.mem_iff_getElem?.1 ht
      have := (List.getElem?_eq_some_iff.1 hj).1
      exact hall j t (by omega) hj
  (refine vc_mp (by kernel_rfl : (∃ (a_1 : Option Addr) (n c_1 : Nat) (h' : AHeap), Qja 162 [Qj3 a l c, Qiq 2, Qiq v, Qiq q] h a_1 n c_1 h' ∧ (∃ (i : Nat × AHeap), Qiy (Qj4 a l c) v (Qir q) (Qjh = Qjh) (Value.slice a_1 n c_1 = Qiw o) (Qiz n = Qiz (Qiv o)) 0 (Qjp i) (Qjd = Qjd) (Qip (Prod.snd i = h') (Qjn i o (∀ (j : Nat) (t : ByteArray), j < Prod.fst i → Qjo o j t → Not (Qje (Qjf l v q t)))) (∀ (j : AHeap), Qjl (OX.g o) j (∀ (t : ByteArray), Qjg o t l v q) → Q (Value.agg (Array.mk Qjd)) j) (∀ (v_1 : Value) (h : AHeap), (∃ (op : ByteArray) (a' : Option Addr) (c' : Nat) (js : List Nat), Qji o h l v q op (v_1 = Qjk v q op a' l c') (Qjj h l v q op a' c' js ∧ Fresh (AHeap.n (OX.g o)) (AHeap.n h) js)) → Q v_1 h)))) = _) ?_; delta Qim Qip Qiq Qir Qis Qiv Qiw Qiy Qiz Qj3 Qj4 Qja Qjb Qjc Qjd Qje Qjf Qjg Qjh Qji Qjj Qjk Qjl Qjn Qjo Qjp)
  refine ⟨_, _, _, _, A0, (0, o.g), rfl, rfl, rfl, rfl, rfl, rfl, rfl, rfl, rfl, ⟨Nat.zero_le _, .refl _, wo, fun j t hj => absurd hj (Nat.not_lt_zero _)⟩, fun g ⟨le, wf, hno⟩ => HQ _ _ ⟨leo.trans le, wf, .inl ⟨?_, rfl⟩⟩, fun _ _ ⟨op, a', c', js, le, wf, hy, e, s, f⟩ => HQ _ _ ⟨leo.trans le, wf, .inr ⟨v, op, a', c', js, ?_, e, s, f.widen leo.n (Nat.le_refl _)⟩⟩⟩
  · rw [provedM_none fun t ht => hno t ((hm t).2 ht)]; rfl
  · rw [provedM_some H hy]; rfl
def idL (h : AHeap) (a : Option Addr) (c : Nat) (l : List voteSh.T) (q : Int) : Nat → LSpec
  | 0 => {
    ι := Nat × AHeap
    κ := AHeap
    I := fun i => i.1 ≤ 8 ∧ h.Le i.2 ∧ i.2.wf ∧ decM l q i.1 = none
    μ := fun i => 8 - i.1
    head := fun i => ⟨[(0, .slice a l.length c), (1, .int .i64 q), (9, .int .i64 i.1)], [], i.2⟩
    post := fun g => ⟨[], [], g⟩
    R := fun _ g => h.Le g ∧ g.wf ∧ decM l q 8 = none
    ret := fun _ r g => h.Le g ∧ g.wf ∧ ∃ op, decM l q 8 = some op ∧ r = .tuple #[.string op, .bool true] }
  | _ => {
    ι := Nat × OX ByteArray × Nat × AHeap
    κ := Nat × AHeap
    I := fun i => i.1 < 8 ∧ h.Le i.2.1.g ∧ i.2.1.g.Le i.2.2.2 ∧ i.2.2.2.wf ∧ decM l q i.1 = none ∧ i.2.2.1 ≤ i.2.1.xs.length ∧ i.2.1.xs.length ≤ 400 ∧ Sl i.2.1.g Sh.str i.2.1.xs (.slice i.2.1.a i.2.1.xs.length i.2.1.c) ∧ (∀ t, t ∈ i.2.1.xs ↔ ∃ f, (3, (i.1 : Int), q, t, f) ∈ l) ∧ ∀ (j : Nat) (t : ByteArray), j < i.2.2.1 → i.2.1.xs[j]? = some t → ¬ 3 ≤ (votersM l 3 i.1 q t).length
    μ := fun i => i.2.1.xs.length - i.2.2.1
    head := fun i => ⟨[(0, .slice a l.length c), (1, .int .i64 q), (6, .int .i64 i.1), (9, .int .i64 i.1), (15, .slice i.2.1.a i.2.1.xs.length i.2.1.c), (16, .int .i64 i.2.1.xs.length), (17, .int .i64 i.2.2.1)], [], i.2.2.2⟩
    post := fun i => ⟨[(0, .slice a l.length c), (1, .int .i64 q), (9, .int .i64 i.1)], [], i.2⟩
    R := fun i g => g.1 = i.1 ∧ h.Le g.2 ∧ g.2.wf ∧ decM l q (i.1 + 1) = none
    ret := fun _ r g => h.Le g ∧ g.wf ∧ ∃ op, decM l q 8 = some op ∧ r = .tuple #[.string op, .bool true] }
def Qjr (a : Prop) (b : AHeap) (c : Qkd) (d : Qka) (e : Int) (f : Nat) := Qip a (AHeap.Le b (Prod.snd c)) (AHeap.wf (Prod.snd c)) (decM d e f = none)
def Qjs (a : Qke) := Prod.snd (Prod.snd a)
def Qjt (a : Qke) := Prod.snd (Qjs a)
def Qju (a : Qke) := Qiz (Prod.fst a)
def Qjv (a : Qkc) := Value.tuple (Array.mk [Value.string a, Value.bool true])
def Qjw := (8 : Nat)
def Qjx (a : Qka) (b : Int) (c : Qkc) (d : Value) := decM a b Qjw = some c ∧ d = Qjv c
def Qjy (a : Qke) := Prod.fst (Qjs a)
def Qjz (a : Qke) := Prod.fst (Prod.snd a)
def Qk0 (a : Qke) := Qiv (Qjz a)
def Qk1 (a : Prop) (b : AHeap) (c : Qke) (d e f g h : Prop) := Qim a (AHeap.Le b (OX.g (Qjz c))) (AHeap.Le (OX.g (Qjz c)) (Prod.snd (Qjs c))) (AHeap.wf (Prod.snd (Qjs c))) (Qim d e f g h)
def Qk2 (a : Qka) (b : Qke) (c : Int) (d : Qkc) := Not (Qje (List.length (votersM a 3 (↑(Prod.fst b) : Int) c d)))
def Qk3 (a : Qke) (b : Qkc) (c : Prop) := Iff (Membership.mem (OX.xs (Qjz a)) b) c
def Qk4 (a : Qka) (b : Qke) (c : Int) (d : Qkc) (e : Sh.T Sh.int) := Membership.mem a (Prod.mk 3 (Prod.mk (↑(Prod.fst b) : Int) (Prod.mk c (Prod.mk d e))))
def Qk5 (a : Qke) := Qiw (Qjz a)
def Qk6 (a : Qke) := (↑(Qjy a) : Int)
def Qk7 (a : Qkd) (b : AHeap) (c : Qka) (d : Int) := Qjr (Prod.fst a ≤ Qjw) b a c d (Prod.fst a)
theorem decided_spec (h : AHeap) (hw : h.wf) (a : Option Addr) (c : Nat) (l : List voteSh.T) (q : Int) (hx : Sl h voteSh l (.slice a l.length c)) (H : VotsOk l) :
    ∃ r h', ACall Tryz.prog 148 [.slice a l.length c, .int .i64 q] h r h' ∧ h.Le h' ∧ h'.wf ∧ ((decM l q 8 = none ∧ r = .tuple #[.string ⟨#[]⟩, .bool false]) ∨ ∃ op, decM l q 8 = some op ∧ r = .tuple #[.string op, .bool true]) := by
  refine acall_q fun Q HQ => ?_
  refine acall_vc (fun _ => false) (fun _ => []) (idL h a c l q) mixed Tryz.func148 rfl rfl rfl (Nat.le_of_ble_eq_true rfl) ?_ ?_
  · (refine vc_mp (by kernel_rfl : (Qip True (Qit (∀ (i : Nat × AHeap), Qk7 i h l q → bs (decide (Qjq i < 8)) (∃ (a_2 : Option Addr) (n c_1 : Nat) (h' : AHeap), Qja 162 [Qj3 a l c, Qiq 3, Qjp i, Qiq q] (Prod.snd i) a_2 n c_1 h' ∧ (∃ (i_1 : Nat × OX ByteArray × Nat × AHeap), Qiy (Qj4 a l c) q (Qjp i = Qju i_1) (Qjp i = Qju i_1) (Value.slice a_2 n c_1 = Qk5 i_1) (Qiz n = Qiz (Qk0 i_1)) 0 (Qiz (Qjy i_1)) (Qjt i_1 = h') (Qk1 (Prod.fst i_1 < Qjw) h i_1 (decM l q (Prod.fst i_1) = none) (Qjy i_1 ≤ Qk0 i_1) (Qk0 i_1 ≤ 400) (Sl (OX.g (Qjz i_1)) Sh.str (OX.xs (Prod.fst (Prod.snd i_1))) (Qk5 i_1)) ((∀ (t : ByteArray), Qk3 i_1 t (∃ (f : Sh.T Sh.int), Qk4 l i_1 q t f)) ∧ (∀ (j : Nat) (t : ByteArray), j < Qjy i_1 → Qjo (Qjz i_1) j t → Qk2 l i_1 q t)) ∧ (∀ (j : Nat × AHeap), Qjr (Prod.fst j = Prod.fst i_1) h j l q (Prod.fst i_1 + Qj9) → (∃ (j_1 : Nat × AHeap), Qim (Qj4 a l c) (Qir q) (Qiq (Qj0 (Qjq j)) = Qjp j_1) (Prod.snd j_1 = Prod.snd j) (Qip (Qk7 j_1 h l q) (Qjw - Prod.fst j_1 < Qjw - Prod.fst i) (∀ (k : AHeap), Qjm h k (decM l q Qjw = none)) (∀ (v : Value) (h_1 : AHeap), Qjm h h_1 (∃ (op : ByteArray), Qjx l q op v))))) ∧ (∀ (v : Value) (h_1 : AHeap), Qjm h h_1 (∃ (op : ByteArray), Qjx l q op v))))) (∃ (j : AHeap), Qip (j = Prod.snd i) (AHeap.Le h j) (AHeap.wf j) (decM l q Qjw = none))) (Qim True True (∀ (i : Nat × OX ByteArray × Nat × AHeap), Qk1 (Prod.fst i < Qjw) h i (decM l q (Prod.fst i) = none) (Qjy i ≤ Qk0 i) (Qk0 i ≤ 400) (Sl (OX.g (Qjz i)) Sh.str (OX.xs (Prod.fst (Prod.snd i))) (Qk5 i)) ((∀ (t : ByteArray), Qk3 i t (∃ (f : Sh.T Sh.int), Qk4 l i q t f)) ∧ (∀ (j : Nat) (t : ByteArray), j < Qjy i → Qjo (Qjz i) j t → Qk2 l i q t)) → bs (decide (Qk6 i < (↑(Qk0 i) : Int))) (∃ (l_1 r : Nat), Qip (OX.a (Qjz i) = some (Addr.mk l_1 r (some Qj9))) (0 ≤ Qk6 i) (Qk6 i < (↑(Qk0 i) : Int)) (∃ (x : ByteArray), AHeap.ld (Qjt i) l_1 (r + Int.toNat (Qk6 i)) 0 Qj9 = some [Value.string x] ∧ (∃ (a_2 : Option Addr) (n c_1 : Nat) (h' : AHeap), Qja 164 [Qj3 a l c, Qiq 3, Qju i, Qiq q, Value.string x] (Qjt i) a_2 n c_1 h' ∧ bs (decide ((↑n : Int) ≥ 3)) (Qjl h h' (∃ (op : ByteArray), Qjx l q op (Qjv x))) (∃ (j : Nat × OX ByteArray × Nat × AHeap), Qiy (Qj4 a l c) q (Qju i = Qju j) (Qju i = Qju j) (Qk5 i = Qk5 j) (Qiz (Qk0 i) = Qiz (Qk0 j)) (Qj0 (Qk6 i)) (Qiz (Qjy j)) (Qjt j = h') (Qip (Qk1 (Prod.fst j < Qjw) h j (decM l q (Prod.fst j) = none) (Qjy j ≤ Qk0 j) (Qk0 j ≤ 400) (Sl (OX.g (Qjz j)) Sh.str (OX.xs (Prod.fst (Prod.snd j))) (Qk5 j)) ((∀ (t : ByteArray), Qk3 j t (∃ (f : Sh.T Sh.int), Qk4 l j q t f)) ∧ (∀ (j_1 : Nat) (t : ByteArray), j_1 < Qjy j → Qjo (Qjz j) j_1 t → Qk2 l j q t))) (Qk0 j - Qjy j < Qk0 i - Qjy i) (∀ (k : Nat × AHeap), Qjr (Prod.fst k = Prod.fst j) h k l q (Prod.fst j + Qj9) → Qjr (Prod.fst k = Prod.fst i) h k l q (Prod.fst i + Qj9)) (∀ (v : Value) (h_1 : AHeap), Qjm h h_1 (∃ (op : ByteArray), Qjx l q op v))))))) (∃ (j : Nat × AHeap), Qim (Qj4 a l c) (Qir q) (Qju i = Qjp j) (Prod.snd j = Qjt i) (Qjr (Prod.fst j = Prod.fst i) h j l q (Prod.fst i + Qj9)))) True (Qio ∧ Qip True True Qio True ∧ True))) True True) = _) ?_; delta Qim Qio Qip Qiq Qir Qit Qiv Qiw Qiy Qiz Qj0 Qj3 Qj4 Qj9 Qja Qje Qjl Qjm Qjo Qjp Qjq Qjr Qjs Qjt Qju Qjv Qjw Qjx Qjy Qjz Qk0 Qk1 Qk2 Qk3 Qk4 Qk5 Qk6 Qk7)
    simp only [true_and, and_true]
    refine ⟨fun ⟨v, g⟩ ⟨hv, le, wf, hd⟩ => ?_, fun ⟨v, o, i, g⟩ ⟨hv, le0, le, wf, hd, hi, h4, hs, hm, hall⟩ => ?_⟩
    · dsimp only at *
      refine bs_d (fun hle => ?_) (fun hgt => ⟨g, rfl, le, wf, by rw [show v = 8 by omega] at hd; exact hd⟩)
      obtain ⟨_, g2, A2, o, rfl, eg, leo, wo, so, hm, h4⟩ := opsOf_spec g wf a c l 3 v q (hx.mono le) H
      rw [eg] at A2
      refine ⟨_, _, _, _, A2, (v, o, 0, o.g), rfl, rfl, rfl, rfl, rfl, rfl, ⟨by dsimp only; omega, le.trans leo, .refl _, wo, hd, Nat.zero_le _, h4, so, hm, fun j t hj => absurd hj (Nat.not_lt_zero _)⟩, fun ⟨v', g'⟩ ⟨e, le', w', hd'⟩ => ?_, fun _ _ h => h⟩
      dsimp only at e le' w' hd'
      subst e
      exact ⟨(v' + 1, g'), by rw [wrap_i64 (by omega)]; rfl, rfl, ⟨by dsimp only; omega, le', w', hd'⟩, by dsimp only; omega, fun _ h => h, fun _ _ h => h⟩
    · dsimp only at *
      refine bs_d (fun hlt => ?_) (fun hge => ⟨(v, g), rfl, rfl, rfl, le0.trans le, wf, decM_miss hd (provedM_none fun t ht => ?_)⟩)
      · obtain ⟨t, hat⟩ : ∃ y : ByteArray, o.xs[i]? = some y := ⟨_, List.getElem?_eq_getElem (by omega)⟩
        obtain ⟨lo, r, row, ha, _, hrd, hld⟩ := (hs.mono le).elem hat
        obtain rfl : row = [.string t] := hrd
        obtain ⟨_, g2, A2, b, rfl, eg, Bb, hb⟩ := voters_spec g wf a c l 3 v q t (hx.mono (le0.trans le)) H
        rw [eg] at A2
        have le2 : g.Le b.g := Bb.le
        refine ⟨lo, r, ha, Int.natCast_nonneg _, hlt, _, hld, _, _, _, _, A2, bs_d (fun e => ?_) (fun e => ?_)⟩
        · exact ⟨(le0.trans le).trans le2, Bb.wf, t, decM_stay (decM_hit hd (provedM_some H (by rw [← hb]; omega))) 8 (by omega), rfl⟩
        · refine ⟨(v, o, i + 1, b.g), rfl, rfl, rfl, rfl, by rw [wrap_i64 (by omega)]; rfl, rfl, ⟨hv, le0, le.trans le2, Bb.wf, hd, by dsimp only; omega, h4, hs, hm, fun j u hj hu => ?_⟩, by dsimp only; omega, fun _ h => h, fun _ _ h => h⟩
          dsimp only at hj hu ⊢
          by_cases c1 : j = i
          · subst c1; rw [hat] at hu; cases hu; rw [← hb]; omega
          · exact hall j u (by omega) hu
      · obtain ⟨j, hj⟩ := List.mem_iff_getElem?.1 ((hm t).2 ht)
        have := (List.getElem?_eq_some_iff.1 hj).1
        exact hall j t (by omega) hj
  (refine vc_mp (by kernel_rfl : (∃ (i : Nat × AHeap), Qim (Qj4 a l c) (Qir q) (Qiq 0 = Qjp i) (Prod.snd i = h) (Qk7 i h l q ∧ (∀ (j : AHeap), Qjl h j (decM l q Qjw = none) → Q (Value.tuple (Array.mk [Qjc, Value.bool false])) j) ∧ (∀ (v : Value) (h_1 : AHeap), Qjl h h_1 (∃ (op : ByteArray), Qjx l q op v) → Q v h_1))) = _) ?_; delta Qim Qip Qiq Qir Qiz Qj3 Qj4 Qjc Qjl Qjp Qjr Qjv Qjw Qjx Qk7)
  exact ⟨(0, h), rfl, rfl, rfl, rfl, ⟨by dsimp only; omega, .refl _, hw, rfl⟩, fun g ⟨le, wf, hd⟩ => HQ _ _ ⟨le, wf, .inl ⟨hd, rfl⟩⟩, fun _ _ ⟨le, wf, op, hd, e⟩ => HQ _ _ ⟨le, wf, .inr ⟨op, hd, e⟩⟩⟩
end Go.Proofs.YtpgfjadjhliohaaGreat
