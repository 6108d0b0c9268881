/- W9. -/
import Derived.Test.YtpgfjadjhliohaaGreatV19W5
import Derived.Test.YtpgfjadjhliohaaGreatV19W8
namespace Go.Dat
open Go.Abs
theorem OXok.num {h : AHeap} {o : OX Int} (B : OXok Sh.int h o) : (o.xs = [] ∧ o.a = none ∧ o.c = 0) ∨ ∃ l, o.a = some ⟨l, 0, some 1⟩ ∧ h.n ≤ l ∧ o.g.get l = some (numO o.xs) ∧ (o.c = 0 ∨ o.c = o.xs.length + 1) := by
  obtain ⟨e1, e2, e3, e4⟩ | ⟨l, rows, idss, e1, hg, hr, hi, e2, hc, hx⟩ := B.at_
  · exact .inl ⟨List.eq_nil_of_length_eq_zero e2, e1, e3⟩
  · refine .inr ⟨l, e1, (B.fr.bd l (by rw [e2]; exact List.mem_cons_self)).1, ?_, hc⟩
    rw [hg]
    unfold numO
    congr 2
    apply List.ext_getElem?
    intro i
    rw [List.getElem?_map]
    cases h1 : o.xs[i]? with
    | none =>
      have := List.getElem?_eq_none_iff.1 h1
      rw [List.getElem?_eq_none (by omega)]; rfl
    | some x =>
      have hl := (List.getElem?_eq_some_iff.1 h1).1
      have h2 : rows[i]? = some (rows[i]'(by omega)) := List.getElem?_eq_getElem _
      have h3 := hx i x _ _ h1 h2 (List.getElem?_eq_getElem (by omega))
      rw [h2, h3.1]; rfl
theorem OXok.txt {h : AHeap} {o : OX ByteArray} (B : OXok Sh.str h o) : (o.xs = [] ∧ o.a = none ∧ o.c = 0) ∨ ∃ l, o.a = some ⟨l, 0, some 1⟩ ∧ h.n ≤ l ∧ o.g.get l = some (txtO o.xs) ∧ (o.c = 0 ∨ o.c = o.xs.length + 1) := by
  obtain ⟨e1, e2, e3, e4⟩ | ⟨l, rows, idss, e1, hg, hr, hi, e2, hc, hx⟩ := B.at_
  · exact .inl ⟨List.eq_nil_of_length_eq_zero e2, e1, e3⟩
  · refine .inr ⟨l, e1, (B.fr.bd l (by rw [e2]; exact List.mem_cons_self)).1, ?_, hc⟩
    rw [hg]
    unfold txtO
    congr 2
    apply List.ext_getElem?
    intro i
    rw [List.getElem?_map]
    cases h1 : o.xs[i]? with
    | none =>
      have := List.getElem?_eq_none_iff.1 h1
      rw [List.getElem?_eq_none (by omega)]; rfl
    | some x =>
      have hl := (List.getElem?_eq_some_iff.1 h1).1
      have h2 : rows[i]? = some (rows[i]'(by omega)) := List.getElem?_eq_getElem _
      have h3 := hx i x _ _ h1 h2 (List.getElem?_eq_getElem (by omega))
      rw [h2, h3.1]; rfl
theorem num_sob {h h1 : AHeap} {l c : Nat} {ys : List Int} (le : h.Le h1) (wf : h1.wf) (wf0 : h.wf) (hn : h.n ≤ l) (hg : h1.get l = some (numO ys)) (hc : c = 0 ∨ c = ys.length + 1) : SoB Sh.int h h1 (some ⟨l, 0, some 1⟩) ys.length c ys [l] :=
  SoB.flat (s := Sh.int) (g := h) rfl le wf wf0 hn rfl hg (by simp) hc (fun i y row e1 e2 => by
    rw [List.getElem?_map, e1] at e2
    cases e2; rfl)
theorem txt_sl {h1 : AHeap} {l m c : Nat} {ys : List ByteArray} (hg : h1.get l = some (txtO ys)) (hm : m ≤ ys.length) : Sl h1 Sh.str (ys.take m) (.slice (some ⟨l, 0, some 1⟩) m c) := by
  refine ⟨_, m, c, _, rfl, .inr ⟨_, _, rfl⟩, get_rowsOf hg (by simp; omega), by rw [List.length_take]; omega, fun i y row e1 e2 => ?_⟩
  rw [List.drop_zero, List.getElem?_take] at e2
  rw [List.getElem?_take] at e1
  split at e1
  · rename_i h
    rw [if_pos h, List.getElem?_map, e1] at e2
    cases e2; rfl
  · cases e1
end Go.Dat
namespace Go.Proofs.YtpgfjadjhliohaaGreat
open Go.Abs Go.Dat
set_option maxRecDepth 100000
set_option maxHeartbeats 8000000
def ivL (h : AHeap) (a : Option Addr) (c : Nat) (l : List voteSh.T) (k v q : Int) (op : ByteArray) : LSpec where
  ι := Nat × OX Int
  κ := OX Int
  I := fun i => i.1 ≤ l.length ∧ OXok Sh.int h i.2 ∧ i.2.xs = castsL (l.take i.1) k v q op
  μ := fun i => l.length - i.1
  head := fun i => ⟨[(1, .int .i64 k), (2, .int .i64 v), (3, .int .i64 q), (4, .string op), (11, .slice i.2.a i.2.xs.length i.2.c), (14, .slice a l.length c), (15, .int .i64 l.length), (16, .int .i64 i.1)], [], i.2.g⟩
  post := fun o => ⟨[(11, .slice o.a o.xs.length o.c)], [], o.g⟩
  R := fun _ o => OXok Sh.int h o ∧ o.xs = castsL l k v q op
  ret := fun _ _ _ => False
abbrev Qj1 := ByteArray
abbrev Qj2 := List (Sh.T voteSh)
abbrev Qj3 := List ByteArray
abbrev Qj4 := Nat × Nat × Nat × List ByteArray
def Qhr (a b c d e : Prop) := a ∧ b ∧ c ∧ d ∧ e
def Qhs (a : Nat × OX Int) := OX.g (Prod.snd a)
def Qht (a : OX Int) := Value.slice (OX.a a) (List.length (OX.xs a)) (OX.c a)
def Qhu (a : Nat × OX Int) := Value.slice (OX.a (Prod.snd a)) (List.length (OX.xs (Prod.snd a))) (OX.c (Prod.snd a))
def Qhv (a : Prop) (b c : Int) (d : Prop) := a ∧ 0 ≤ b ∧ b < c ∧ d
def Qhw (a : Int) := Value.int IntKind.i64 a
def Qhx (a : Nat) := Qhw (↑a : Int)
def Qhy (a b c : Int) (d : Qj1) (e f g : Prop) (h : Int) (i : Nat × OX Int) (j : Prop) := Qhr (Qhw a = Qhw a) (Qhw b = Qhw b) (Qhw c = Qhw c) (Value.string d = Value.string d) (Qhr e f g (Qhw h = Qhx (Prod.fst i)) j)
def Qhz (a : Int) := IntKind.wrap IntKind.i64 a
def Qi0 (a : Nat × OX Int) := (↑(Prod.fst a) : Int)
def Qi1 (a : Qj2) := Qhx (List.length a) = Qhx (List.length a)
def Qi2 (a b c : Int) (d : Qj1) (e : Value) (f : Nat × OX Int) (g : Prop) (h : Qj2) (i : Nat × OX Int) (j k l m : Prop) := Qhy a b c d (e = Qhu f) g (Qi1 h) (Qhz (Qi0 i + 1)) f (Qhr (Qhs f = Qhs i) j k l m)
def Qi3 (a : AHeap) (b : OX (Sh.T Sh.int)) (c : OX Int) (d : Qj2) (e f g : Int) (h : Qj1) := OXok Sh.int a b ∧ OX.xs c = castsL d e f g h → OXok Sh.int a b ∧ OX.xs c = castsL d e f g h
def Qi4 (a : Qj2) (b c : Nat × OX Int) := List.length a - Prod.fst b < List.length a - Prod.fst c
def Qi5 (a : Nat × OX Int) (b : Qj2) (c : AHeap) (d : Nat × OX (Sh.T Sh.int)) (e f g : Int) (h : Qj1) := Prod.fst a ≤ List.length b ∧ OXok Sh.int c (Prod.snd d) ∧ OX.xs (Prod.snd a) = castsL (List.take (Prod.fst a) b) e f g h
def Qi6 (a : Option Addr) (b : Qj2) (c : Nat) := Value.slice a (List.length b) c = Value.slice a (List.length b) c
def Qi7 := (1 : Nat)
def Qi8 (a b c d : Nat) := Value.slice (some (Addr.mk a b (some Qi7))) c d
def Qi9 := (0 : Nat)
def Qia (a : Nat) := Int.toNat (↑a : Int)
theorem voters_spec (h : AHeap) (hw : h.wf) (a : Option Addr) (c : Nat) (l : List voteSh.T) (k v q : Int) (op : ByteArray) (hx : Sl h voteSh l (.slice a l.length c)) (H : VotsOk l) :
    ∃ r h', ACall Tryz.prog 164 [.slice a l.length c, .int .i64 k, .int .i64 v, .int .i64 q, .string op] h r h' ∧ ∃ o : OX Int, r = .slice o.a o.xs.length o.c ∧ h' = o.g ∧ OXok Sh.int h o ∧ o.xs = votersM l k v q op := by
  have n1 := H.1
  refine acall_q fun Q HQ => ?_
  refine acall_vc (fun _ => false) (fun _ => []) (fun _ => ivL h a c l k v q op) mixed Tryz.func164 rfl rfl rfl (Nat.le_of_ble_eq_true rfl) ?_ ?_
  · (refine vc_mp (by kernel_rfl : (Qhr True True (Qhr True (∀ (i : Nat × OX Int), Qi5 i l h i k v q op → bs (decide (Qi0 i < (↑(List.length l) : Int))) (∃ (l_1 r : Nat), Qhv (a = some (Addr.mk l_1 r (some 5))) (Qi0 i) (↑(List.length l) : Int) (∃ (x x_1 x_2 : Int) (x_3 : ByteArray) (x_4 : Int), AHeap.ld (Qhs i) l_1 (r + Qia (Prod.fst i)) Qi9 5 = some [Qhw x, Qhw x_1, Qhw x_2, Value.string x_3, Qhw x_4] ∧ bs (decide (x = k)) (bs (decide (x_1 = v)) (bs (decide (x_2 = q)) (bs (decide (x_3 = op)) (∃ (xs : List (List Value)), rowsV (AHeap.push (Qhs i) (AObj.mk [[Qhw x_4]] Qi7 true)) (Qi8 (AHeap.n (Qhs i)) Qi9 Qi7 2) = some xs ∧ List.all xs (fun (row : List Value) =>
  decide (List.length row = (1 : Nat)) &&
    List.all row fun (v : Value) =>
      match v with
      | Value.agg cells => false
      | Value.tuple cells => false
      | Value.complex k re im => false
      | Value.chan r => false
      | x => true) = true ∧ (List.length (OX.xs (Prod.snd i)) + List.length xs) * 8 ≤ 140737488355328 ∧ (∃ (a_2 : Option Addr) (n c_1 : Nat) (h' : AHeap), AHeap.app (AHeap.push (Qhs i) (AObj.mk [[Qhw x_4]] Qi7 true)) (Qhu i) xs Qi7 = some (Prod.mk (Value.slice a_2 n c_1) h') ∧ (∃ (j : Nat × OX Int), Qhy k v q op (Value.slice a_2 n c_1 = Qhu j) (Qi6 a l c) (Qi1 l) (Qhz (Qi0 i + 1)) j (Qhr (Qhs j = h') (Qi5 j l h j k v q op) (Qi4 l j i) (∀ (k_1 : OX Int), Qi3 h k_1 k_1 l k v q op) (∀ (v : Value) (h : AHeap), False → False))))) (∃ (j : Nat × OX Int), Qi2 k v q op (Qhu i) j (Qi6 a l c) l i (Qi5 j l h j k v q op) (Qi4 l j i) (∀ (k_1 : OX Int), Qi3 h k_1 k_1 l k v q op) (∀ (v : Value) (h : AHeap), False → False))) (∃ (j : Nat × OX Int), Qi2 k v q op (Qhu i) j (Qi6 a l c) l i (Qi5 j l h j k v q op) (Qi4 l j i) (∀ (k_1 : OX Int), Qi3 h k_1 k_1 l k v q op) (∀ (v : Value) (h : AHeap), False → False))) (∃ (j : Nat × OX Int), Qi2 k v q op (Qhu i) j (Qi6 a l c) l i (Qi5 j l h j k v q op) (Qi4 l j i) (∀ (k_1 : OX Int), Qi3 h k_1 k_1 l k v q op) (∀ (v : Value) (h : AHeap), False → False))) (∃ (j : Nat × OX Int), Qi2 k v q op (Qhu i) j (Qi6 a l c) l i (Qi5 j l h j k v q op) (Qi4 l j i) (∀ (k_1 : OX Int), Qi3 h k_1 k_1 l k v q op) (∀ (v : Value) (h : AHeap), False → False)))) (∃ (j : OX Int), Qhu i = Qht j ∧ OX.g j = Qhs i ∧ OXok Sh.int h j ∧ OX.xs j = castsL l k v q op)) True (True ∧ True) ((True ∧ True ∧ True ∧ True) ∧ True)) True (True ∧ True)) = _) ?_; delta Qhr Qhs Qht Qhu Qhv Qhw Qhx Qhy Qhz Qi0 Qi1 Qi2 Qi3 Qi4 Qi5 Qi6 Qi7 Qi8 Qi9 Qia)
    simp only [true_and, and_true]
    refine fun ⟨i, o⟩ ⟨hi, B, hxs⟩ => ?_
    dsimp only at *
    refine bs_d (fun hlt => ?_) (fun hge => ⟨o, rfl, rfl, B, by rw [List.take_of_length_le (by omega)] at hxs; exact hxs⟩)
    obtain ⟨⟨k', v', q', op', f'⟩, hat⟩ : ∃ y : Int × Int × Int × ByteArray × Int, l[i]? = some y := ⟨_, List.getElem?_eq_getElem (by omega)⟩
    obtain ⟨lo, r, row, ha, _, hrd, hld⟩ := (hx.mono B.le).elem hat
    obtain rfl := rd_vote.1 hrd
    dsimp only at hld
    have ct := castsL_take (k := k) (v := v) (q := q) (op := op) hat
    have sk : ¬ (k' = k ∧ v' = v ∧ q' = q ∧ op' = op) → o.xs = castsL (l.take (i + 1)) k v q op := fun hne => by rw [ct, if_neg hne, List.append_nil]; exact hxs
    have hol : o.xs.length ≤ l.length := by
      rw [hxs]; unfold castsL
      exact Nat.le_trans (List.length_filterMap_le _ _) (by rw [List.length_take]; omega)
    refine ⟨lo, r, ha, Int.natCast_nonneg _, hlt, _, _, _, _, _, hld, bs_d (fun e1 => bs_d (fun e2 => bs_d (fun e3 => bs_d (fun e4 => ?_) (fun e => ?_)) (fun e => ?_)) (fun e => ?_)) (fun e => ?_)⟩
    · obtain ⟨o', e6, B', hx', _, _, _⟩ := B.app (x := f') (cs := [.int .i64 f']) (js := []) ⟨rfl, rfl⟩ .nil (by simp)
      refine ⟨[[.int .i64 f']], rowsV_push, rfl, by simp only [List.length_cons, List.length_nil]; omega, _, _, _, o'.g, e6, (i + 1, o'), rfl, by rw [wrap_i64 (by omega)]; rfl, rfl, ⟨by dsimp only; omega, B', ?_⟩, by dsimp only; omega, fun _ h => h, fun _ _ h => h⟩
      dsimp only
      rw [hx', ct, if_pos ⟨e1, e2, e3, e4⟩, hxs]
    · exact ⟨(i + 1, o), rfl, by rw [wrap_i64 (by omega)]; rfl, rfl, ⟨by dsimp only; omega, B, sk fun H => e H.2.2.2⟩, by dsimp only; omega, fun _ h => h, fun _ _ h => h⟩
    · exact ⟨(i + 1, o), rfl, by rw [wrap_i64 (by omega)]; rfl, rfl, ⟨by dsimp only; omega, B, sk fun H => e H.2.2.1⟩, by dsimp only; omega, fun _ h => h, fun _ _ h => h⟩
    · exact ⟨(i + 1, o), rfl, by rw [wrap_i64 (by omega)]; rfl, rfl, ⟨by dsimp only; omega, B, sk fun H => e H.2.1⟩, by dsimp only; omega, fun _ h => h, fun _ _ h => h⟩
    · exact ⟨(i + 1, o), rfl, by rw [wrap_i64 (by omega)]; rfl, rfl, ⟨by dsimp only; omega, B, sk fun H => e H.1⟩, by dsimp only; omega, fun _ h => h, fun _ _ h => h⟩
  (refine vc_mp (by kernel_rfl : (∃ (i : Nat × OX Int), Qhy k v q op (Value.slice none Qi9 Qi9 = Qhu i) (Qi6 a l c) (Qi1 l) 0 i (Qhs i = h ∧ Qi5 i l h i k v q op ∧ (∀ (j : OX Int), OXok Sh.int h j ∧ OX.xs j = castsL l k v q op → (∃ (h' : AHeap), ACall Tryz.prog 173 [Qht j] (OX.g j) (Value.tuple (Array.mk List.nil)) h' ∧ Q (Qht j) h')) ∧ (∀ (v : Value) (h : AHeap), False → Q v h))) = _) ?_; delta Qhr Qhs Qht Qhu Qhw Qhx Qhy Qi1 Qi5 Qi6 Qi9)
  refine ⟨(0, ⟨none, 0, [], [], h⟩), rfl, rfl, rfl, rfl, rfl, rfl, rfl, rfl, rfl, ⟨Nat.zero_le _, OXok.nil hw, by unfold castsL; rfl⟩, fun o ⟨B, hxs⟩ => ?_, fun _ _ h => h.elim⟩
  have h4 := casts_len H k v q op
  rcases B.num with ⟨e1, e2, e3⟩ | ⟨lo, e1, hlo, hg, hc⟩
  · obtain ⟨a', c', xs', ids', g'⟩ := o
    dsimp only at *
    subst e1; subst e2; subst e3
    exact ⟨_, sortNum_nil _, HQ _ _ ⟨⟨none, 0, [], ids', g'⟩, rfl, rfl, B, casts_voters H (by rw [← hxs]) (fun p q a b _ h2 => by simp at h2)⟩⟩
  · rw [e1]
    obtain ⟨_, A, ys, rfl, hp, m, hm, ho⟩ := sortNum_spec o.g lo o.c o.xs (by rw [hxs]; omega) hg
    have hl := hp.length_eq
    refine ⟨_, A, HQ _ _ ⟨⟨some ⟨lo, 0, some 1⟩, o.c, ys, [lo], o.g.put lo (some (numO ys))⟩, by dsimp only; rw [hl], rfl, ?_, ?_⟩⟩
    · exact num_sob (B.le.put (hw lo hlo) _) (B.wf.put (B.wf.lt hg) _) hw hlo AHeap.get_put_eq (by rw [hl]; exact hc)
    · rw [hxs] at hp
      exact casts_voters H hp (fun p q a b h1 h2 => ho p q a b h1 (Nat.lt_of_lt_of_le h2 (by rw [hl]; exact hm)))
def ioL (h : AHeap) (a : Option Addr) (c : Nat) (l : List voteSh.T) (k v q : Int) : LSpec where
  ι := Nat × OX ByteArray
  κ := OX ByteArray
  I := fun i => i.1 ≤ l.length ∧ OXok Sh.str h i.2 ∧ i.2.xs = opsL (l.take i.1) k v q
  μ := fun i => l.length - i.1
  head := fun i => ⟨[(1, .int .i64 k), (2, .int .i64 v), (3, .int .i64 q), (9, .slice i.2.a i.2.xs.length i.2.c), (12, .slice a l.length c), (13, .int .i64 l.length), (14, .int .i64 i.1)], [], i.2.g⟩
  post := fun o => ⟨[(9, .slice o.a o.xs.length o.c)], [], o.g⟩
  R := fun _ o => OXok Sh.str h o ∧ o.xs = opsL l k v q
  ret := fun _ _ _ => False
def cmpL (h : AHeap) (lo c : Nat) (xs : List ByteArray) : Nat → LSpec
  | 0 => {
    ι := Nat
    κ := Unit
    I := fun k => 1 ≤ k ∧ k ≤ xs.length
    μ := fun k => xs.length - k
    head := fun k => ⟨[(0, .slice (some ⟨lo, 0, some 1⟩) xs.length c), (3, .int .i64 k)], [], h.put lo (some (txtO xs))⟩
    post := fun _ => ⟨[(0, .slice (some ⟨lo, 0, some 1⟩) xs.length c)], [], h.put lo (some (txtO xs))⟩
    R := fun _ _ => True
    ret := fun _ r g => ∃ ys m c', ys.length = xs.length ∧ m ≤ xs.length ∧ r = .slice (some ⟨lo, 0, some 1⟩) m c' ∧ g = h.put lo (some (txtO ys)) ∧ ∀ t, t ∈ ys.take m ↔ t ∈ xs }
  | _ => {
    ι := Nat × Nat × Nat × List ByteArray
    κ := Nat × List ByteArray
    I := fun i => CmpI xs i.1 i.2.1 i.2.2.1 i.2.2.2 ∧ 1 ≤ i.1
    μ := fun i => xs.length - i.1 - i.2.1
    head := fun i => ⟨[(0, .slice (some ⟨lo, 0, some 1⟩) xs.length c), (3, .int .i64 i.2.2.1), (4, .slice (some ⟨lo, i.1, some 1⟩) (xs.length - i.1) (bif decide (c = 0) then 0 else c - i.1)), (5, .int .i64 i.2.1)], [], h.put lo (some (txtO i.2.2.2))⟩
    post := fun i => ⟨[(0, .slice (some ⟨lo, 0, some 1⟩) xs.length c), (3, .int .i64 i.1)], [], h.put lo (some (txtO i.2))⟩
    R := fun _ i => i.1 ≤ xs.length ∧ i.2.length = xs.length ∧ ∀ t, t ∈ i.2.take i.1 ↔ t ∈ xs
    ret := fun _ _ _ => False }
def Qib (a : Prop) := True ∧ a ∧ True
def Qic (a : Nat) (b : Qj3) (c : Qj1) (d : Qj3) := Iff (Membership.mem (List.take a b) c) (Membership.mem d c)
def Qid (a : Nat × List ByteArray) (b : Qj1) (c : Qj3) := Qic (Prod.fst a) (Prod.snd a) b c
def Qie (a b : Qj3) := List.length a = List.length b
def Qif (a : Nat) (b : Qj3) := a ≤ List.length b
def Qig (a : AHeap) (b : Nat) (c : Qj3) := AHeap.put a b (some (txtO c))
def Qih (a : AHeap) (b : Nat) (c d : Qj3) := Qig a b c = Qig a b d
def Qii (a : Qj4) := Prod.snd (Prod.snd (Prod.snd a))
def Qij (a : Qj4) := Prod.fst (Prod.snd (Prod.snd a))
def Qik (a : Nat) (b : Qj3) (c : Nat) := Qi8 a Qi9 (List.length b) c
def Qil (a : Nat) (b : Qj3) (c : Nat) := Qik a b c = Qik a b c
def Qim (a : AHeap) (b : Nat) (c : Qj3) (d e : Nat) (f : Qj1) (g : Prop) := AHeap.ld (Qig a b c) d e Qi9 Qi7 = some [Value.string f] ∧ g
def Qin (a : Nat × List ByteArray) (b : Qj3) (c : Prop) := Qif (Prod.fst a) b ∧ Qie (Prod.snd a) b ∧ c
def Qio (a : Qj4) := Prod.fst (Prod.snd a)
def Qip (a : Qj3) (b : Qj4) := List.length a - Prod.fst b
def Qiq (a : Qj4) := Qi7 ≤ Prod.fst a
def Qir (a : Qj3) (b : Qj4) := CmpI a (Prod.fst b) (Qio b) (Qij b) (Qii b)
def Qis (a : Int) (b : Nat) := Qhw (Qhz (a + 1)) = Qhx b
def Qit (a : Qj4) := (↑(Qio a) : Int)
def Qiu (a : Nat) (b : Qj4) (c : Qj3) (d : Bool) (e : Nat) := Qi8 a (Prod.fst b) (Qip c b) (cond d Qi9 (e - Prod.fst b))
def Qiv (a : Qj3) := (↑(List.length a) : Int)
def Qiw (a : Nat) := 0 ≤ (↑a : Int)
def Qix (a b : Nat) := some (Addr.mk a b (some Qi7))
def Qiy (a : Nat) (b : Option Addr) := Qix a Qi9 = b
def Qiz (a b : Qj3) (c : Nat) (d : Value) (e f : Nat) (g h : AHeap) (i : Prop) := Qhr (Qie a b) (Qif c b) (d = Qi8 e Qi9 c f) (g = Qig h e a) i
def Qj0 := Int.toNat 0
theorem compact_spec (h : AHeap) (lo c : Nat) (xs : List ByteArray) (hn : xs.length ≤ 1048576) :
    ∃ r g, ACall Tryz.prog 172 [.slice (some ⟨lo, 0, some 1⟩) xs.length c] (h.put lo (some (txtO xs))) r g ∧ ∃ ys m c', ys.length = xs.length ∧ m ≤ xs.length ∧ r = .slice (some ⟨lo, 0, some 1⟩) m c' ∧ g = h.put lo (some (txtO ys)) ∧ ∀ t, t ∈ ys.take m ↔ t ∈ xs := by
  refine acall_q fun Q HQ => ?_
  refine acall_vc (fun _ => false) (fun r => match r with | 6 => [(0, 0, []), (1, 0, []), (2, 0, []), (4, 0, []), (5, 0, []), (6, 0, []), (7, 0, []), (3, 1, []), (8, 1, []), (9, 0, [])] | 11 => [(0, 0, []), (1, 0, []), (2, 0, []), (4, 0, []), (5, 0, []), (6, 0, []), (7, 0, []), (3, 1, []), (8, 1, []), (9, 0, [])] | _ => []) (cmpL h lo c xs) mixed Tryz.func172 rfl rfl rfl (Nat.le_of_ble_eq_true rfl) ?_ ?_
  · (refine vc_mp (by kernel_rfl : (Qhr True (Qib (True ∧ True)) (Qhr True (∀ (i : Nat), Qi7 ≤ i ∧ Qif i xs → bs (decide ((↑i : Int) < Qiv xs)) (∃ (l r : Nat), Qiy lo (Qix l r) ∧ Qiw i ∧ (↑i : Int) < Qiv xs ∧ (∃ (l_1 r_1 : Nat), Qhv (Qiy lo (Qix l_1 r_1)) (Qhz ((↑i : Int) - 1)) (Qiv xs) (∃ (x : ByteArray), Qim h lo xs l (r + Qia i) x (∃ (x_1 : ByteArray), Qim h lo xs l_1 (r_1 + Int.toNat (Qhz ((↑i : Int) - 1))) x_1 (bs (decide (x = x_1)) (Qhr (Qiw i) ((↑i : Int) ≤ Qiv xs) (Qiv xs ≤ Qiv xs ∨ c ≠ Qi9 ∧ Qiv xs < (↑c : Int)) (∀ (x : Addr), Qiy lo (some x) → Addr.spot x = some Qi7) (∃ (i_1 : Nat × Nat × Nat × List ByteArray), Qhr (Qil lo xs c) (Qhx i = Qhx (Qij i_1)) (Qi8 lo (Qi9 + Qia i) (Int.toNat (Qiv xs) - Qia i) (cond (decide (c = Qi9)) Qi9 (c - Qia i)) = Qiu lo i_1 xs (decide (c = Qi9)) c) (Qhw 1 = Qhx (Qio i_1)) (Qih h lo (Qii i_1) xs ∧ (Qir xs i_1 ∧ Qiq i_1) ∧ (∀ (j : Nat × List ByteArray), Qin j xs (∀ (t : ByteArray), Qid j t xs) → Qhr (Qiw (Prod.fst j)) ((↑(Prod.fst j) : Int) ≤ Qiv xs) (Qiv xs ≤ Qiv xs ∨ c ≠ Qi9 ∧ Qiv xs < (↑c : Int)) (∀ (x : Addr), Qiy lo (some x) → Addr.spot x = some Qi7) (∃ (h' : AHeap), Qhr (AHeap.cpy (Qig h lo (Prod.snd j)) (Qix lo (Qi9 + Qia (Prod.fst j))) Qi7 (List.replicate (Int.toNat (Qiv xs) - Qia (Prod.fst j)) [Value.string (ByteArray.mk (Array.mk List.nil))]) = some h') ((0 : Int) ≤ (0 : Int)) (Qiw (Prod.fst j)) ((↑(Prod.fst j) : Int) ≤ Qiv xs ∨ c ≠ Qi9 ∧ (↑(Prod.fst j) : Int) < (↑c : Int)) ((∀ (x : Addr), Qiy lo (some x) → Addr.spot x = some Qi7) ∧ (∃ (ys : List ByteArray) (m c' : Nat), Qiz ys xs m (Qi8 lo (Qi9 + Qj0) (Qia (Prod.fst j) - Qj0) (cond (decide (c = Qi9)) Qi9 (c - Qj0))) lo c' h' h (∀ (t : ByteArray), Qic m ys t xs))))) ∧ (∀ (v : Value) (h_1 : AHeap), False → (∃ (ys : List ByteArray) (m c' : Nat), Qiz ys xs m v lo c' h_1 h (∀ (t : ByteArray), Qic m ys t xs)))))) (∃ (j : Nat), Qhr (Qil lo xs c) (Qis (↑i : Int) j) (Qih h lo xs xs) (Qi7 ≤ j ∧ Qif j xs) (List.length xs - j < List.length xs - i ∧ (∀ (k : Unit), True → True) ∧ (∀ (v : Value) (h_1 : AHeap), (∃ (ys : List ByteArray) (m c' : Nat), Qiz ys xs m v lo c' h_1 h (∀ (t : ByteArray), Qic m ys t xs)) → (∃ (ys : List ByteArray) (m c' : Nat), Qiz ys xs m v lo c' h_1 h (∀ (t : ByteArray), Qic m ys t xs)))))))))) (∃ (j : Unit), Qil lo xs c ∧ Qih h lo xs xs ∧ True)) (Qib True) (Qib (Qhr True (Qhr True (∀ (i : Nat × Nat × Nat × List ByteArray), Qir xs i ∧ Qiq i → bs (decide (Qit i < (↑(Qip xs i) : Int))) (∃ (l r : Nat), Qhv (Qix lo (Prod.fst i) = Qix l r) (Qit i) (↑(Qip xs i) : Int) (∃ (l_1 r_1 : Nat), Qhv (Qix lo (Prod.fst i) = Qix l_1 r_1) (Qhz (Qit i - 1)) (↑(Qip xs i) : Int) (∃ (x : ByteArray), Qim h lo (Qii i) l (r + Qia (Qio i)) x (∃ (x_1 : ByteArray), Qim h lo (Qii i) l_1 (r_1 + Int.toNat (Qhz (Qit i - 1))) x_1 (bs (not (decide (x = x_1))) (∃ (l r : Nat), Qhv (Qix lo (Prod.fst i) = Qix l r) (Qit i) (↑(Qip xs i) : Int) (∃ (x : ByteArray), Qim h lo (Qii i) l (r + Qia (Qio i)) x (∃ (l r : Nat), Qiy lo (Qix l r) ∧ Qiw (Qij i) ∧ (↑(Qij i) : Int) < Qiv xs ∧ (∃ (h' : AHeap), AHeap.wr (Qig h lo (Qii i)) l (r + Qia (Qij i)) Qi9 [Value.string x] = some h' ∧ (∃ (j : Nat × Nat × Nat × List ByteArray), Qhr (Qil lo xs c) (Qis (↑(Qij i) : Int) (Qij j)) (Qiu lo i xs (decide (c = Qi9)) c = Qiu lo j xs (decide (c = Qi9)) c) (Qis (Qit i) (Qio j)) (Qhr (Qig h lo (Qii j) = h') (Qir xs j ∧ Qiq j) (Qip xs j - Qio j < Qip xs i - Qio i) (∀ (k : Nat × List ByteArray), Qin k xs (∀ (t : ByteArray), Qid k t xs) → Qin k xs (∀ (t : ByteArray), Qid k t xs)) (∀ (v : Value) (h : AHeap), False → False))))))) (∃ (j : Nat × Nat × Nat × List ByteArray), Qhr (Qil lo xs c) (Qhx (Qij i) = Qhx (Qij j)) (Qiu lo i xs (decide (c = Qi9)) c = Qiu lo j xs (decide (c = Qi9)) c) (Qis (Qit i) (Qio j)) (Qhr (Qih h lo (Qii j) (Qii i)) (Qir xs j ∧ Qiq j) (Qip xs j - Qio j < Qip xs i - Qio i) (∀ (k : Nat × List ByteArray), Qin k xs (∀ (t : ByteArray), Qid k t xs) → Qin k xs (∀ (t : ByteArray), Qid k t xs)) (∀ (v : Value) (h : AHeap), False → False)))))))) (∃ (j : Nat × List ByteArray), Qhr (Qil lo xs c) (Qhx (Qij i) = Qhx (Prod.fst j)) (Qih h lo (Prod.snd j) (Qii i)) (Qif (Prod.fst j) xs) (Qie (Prod.snd j) xs ∧ (∀ (t : ByteArray), Qid j t xs)))) (Qib True) (Qib (True ∧ True)) True) True True True)) True) True True) = _) ?_; delta Qhr Qhv Qhw Qhx Qhz Qi7 Qi8 Qi9 Qia Qib Qic Qid Qie Qif Qig Qih Qii Qij Qik Qil Qim Qin Qio Qip Qiq Qir Qis Qit Qiu Qiv Qiw Qix Qiy Qiz Qj0)
    simp only [true_and, and_true]
    refine ⟨fun (k : Nat) ⟨hk1, hk2⟩ => ?_, fun ⟨k0, k2, k, ys⟩ ⟨I, hk0⟩ => ?_⟩
    · refine bs_d (fun hlt => ?_) (fun hge => ⟨(), trivial⟩)
      rw [wrap_pred (i := k) (by omega) (by omega)]
      obtain ⟨x, hx⟩ : ∃ y, xs[k]? = some y := ⟨_, List.getElem?_eq_getElem (by omega)⟩
      obtain ⟨y, hy⟩ : ∃ y, xs[k - 1]? = some y := ⟨_, List.getElem?_eq_getElem (by omega)⟩
      refine ⟨lo, 0, rfl, Int.natCast_nonneg _, hlt, lo, 0, rfl, Int.natCast_nonneg _, by omega, _, txt_ld hx, _, txt_ld hy, bs_d (fun e => ?_) (fun e => ⟨k + 1, by rw [wrap_i64 (by omega)]; rfl, ⟨by omega, by omega⟩, by omega, fun _ h => h, fun _ _ h => h⟩)⟩
      subst e
      simp only [Int.toNat_natCast, Nat.zero_add]
      refine ⟨by omega, by omega, .inl (Int.le_refl _), fun x hx => by cases hx; rfl, (k, 1, k, xs), rfl, rfl, rfl, rfl, ⟨CmpI.start hk1 hy hx, hk1⟩, fun ⟨m, ys⟩ ⟨hm, hl, hmem⟩ => ?_, fun _ _ h => h.elim⟩
      dsimp only at hm hl hmem ⊢
      refine ⟨by omega, by omega, .inl (Int.le_refl _), fun x hx => by cases hx; rfl, ?_⟩
      by_cases c0 : xs.length - m = 0
      · refine ⟨h.put lo (some (txtO ys)), (by rw [c0]; rfl), by omega, by omega, .inl (by omega), fun x hx => (by cases hx; rfl), ys, m, _, hl, hm, rfl, rfl, hmem⟩
      · have hw : (h.put lo (some (txtO ys))).cpy (some ⟨lo, m, some 1⟩) 1 (List.replicate (xs.length - m) [.string ⟨#[]⟩]) = some ((h.put lo (some (txtO ys))).put lo (some ⟨setRows (ys.map fun x => [Value.string x]) m (List.replicate (xs.length - m) [.string ⟨#[]⟩]), 1, true⟩)) :=
          cpy_set AHeap.get_put_eq (fun e => by rw [List.replicate_eq_nil_iff] at e; exact c0 e) (by simp; omega)
        have es : setRows (ys.map fun x => [Value.string x]) m (List.replicate (xs.length - m) [.string ⟨#[]⟩]) = (ys.take m ++ List.replicate (xs.length - m) (⟨#[]⟩ : ByteArray)).map fun x => [Value.string x] := by
          unfold setRows
          rw [List.map_append, List.map_take, List.map_replicate, List.drop_eq_nil_of_le (by simp; omega), List.append_nil]
        refine ⟨_, hw, by omega, by omega, .inl (by omega), fun x hx => by cases hx; rfl, ys.take m ++ List.replicate (xs.length - m) (⟨#[]⟩ : ByteArray), m, _, by simp; omega, hm, rfl, by rw [put2, es]; rfl, fun t => ?_⟩
        rw [List.take_append_of_le_length (by simp; omega), List.take_take, Nat.min_self]
        exact hmem t
    · dsimp only at *
      have i1 := I.hn
      have i2 := I.h2
      have i3 := I.hk
      have i4 := I.len
      have i5 := I.h0
      refine bs_d (fun hlt => ?_) (fun hge => ⟨(k, ys), rfl, rfl, by dsimp only; omega, I.len, fun t => ?_⟩)
      · rw [wrap_pred (i := k2) (by omega) (by omega)]
        obtain ⟨x, hx⟩ : ∃ y, xs[k0 + k2]? = some y := ⟨_, List.getElem?_eq_getElem (by omega)⟩
        obtain ⟨y, hy⟩ : ∃ y, xs[k0 + k2 - 1]? = some y := ⟨_, List.getElem?_eq_getElem (by omega)⟩
        have hx' := (I.same (k0 + k2) (by omega)).trans hx
        have hy' := (I.same (k0 + k2 - 1) (by omega)).trans hy
        have ldx : (h.put lo (some (txtO ys))).ld lo (k0 + ((k2 : Nat) : Int).toNat) 0 1 = some [.string x] := by
          rw [show k0 + ((k2 : Nat) : Int).toNat = 0 + ((k0 + k2 : Nat) : Int).toNat by omega]; exact txt_ld hx'
        have ldy : (h.put lo (some (txtO ys))).ld lo (k0 + ((k2 - 1 : Nat) : Int).toNat) 0 1 = some [.string y] := by
          rw [show k0 + ((k2 - 1 : Nat) : Int).toNat = 0 + ((k0 + k2 - 1 : Nat) : Int).toNat by omega]; exact txt_ld hy'
        refine ⟨lo, k0, rfl, Int.natCast_nonneg _, hlt, lo, k0, rfl, Int.natCast_nonneg _, by omega, _, ldx, _, ldy, bs_dn (fun e => ?_) (fun e => ?_)⟩
        · exact ⟨lo, k0, rfl, Int.natCast_nonneg _, hlt, _, ldx, lo, 0, rfl, Int.natCast_nonneg _, by omega, _, txt_wr x (by omega), (k0, k2 + 1, k + 1, ys.set k x), by rw [wrap_i64 (by omega)]; rfl, rfl, by rw [wrap_i64 (by omega)]; rfl, rfl, ⟨I.step hx, hk0⟩, by dsimp only; omega, fun _ h => h, fun _ _ h => h⟩
        · subst e
          exact ⟨(k0, k2 + 1, k, ys), rfl, rfl, by rw [wrap_i64 (by omega)]; rfl, rfl, ⟨I.same' hy hx, hk0⟩, by dsimp only; omega, fun _ h => h, fun _ _ h => h⟩
      · have := I.mem t
        rw [show k0 + k2 = xs.length by omega, List.take_of_length_le (Nat.le_refl _)] at this
        exact this
  (refine vc_mp (by kernel_rfl : (bs (decide (Qiv xs < 2)) (Q (Qik lo xs c) (Qig h lo xs)) (∃ (i : Nat), Qhr (Qil lo xs c) (Qhw 1 = Qhx i) (Qih h lo xs xs) (Qi7 ≤ i ∧ Qif i xs) ((∀ (j : Unit), True → Q (Qik lo xs c) (Qig h lo xs)) ∧ (∀ (v : Value) (h_1 : AHeap), (∃ (ys : List ByteArray) (m c' : Nat), Qiz ys xs m v lo c' h_1 h (∀ (t : ByteArray), Qic m ys t xs)) → Q v h_1)))) = _) ?_; delta Qhr Qhw Qhx Qi7 Qi8 Qi9 Qic Qie Qif Qig Qih Qik Qil Qiv Qiz)
  refine bs_d (fun e => HQ _ _ ⟨xs, xs.length, c, rfl, Nat.le_refl _, rfl, rfl, fun t => by rw [List.take_of_length_le (Nat.le_refl _)]⟩) (fun e => ?_)
  exact ⟨(1 : Nat), rfl, rfl, rfl, ⟨Nat.le_refl _, by omega⟩, fun _ _ => HQ _ _ ⟨xs, xs.length, c, rfl, Nat.le_refl _, rfl, rfl, fun t => by rw [List.take_of_length_le (Nat.le_refl _)]⟩, fun _ _ H => HQ _ _ H⟩
end Go.Proofs.YtpgfjadjhliohaaGreat
