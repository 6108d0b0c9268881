/- W9. -/
import Derived.Test.YtpgfjadjhliohaaGreatV17W5
import Derived.Test.YtpgfjadjhliohaaGreatV17W8
namespace Go.Dat
open Go.Abs
theorem OXok.num {h : AHeap} {o : OX Int} (B : OXok Sh.int h o) : (o.xs = [] ∧ o.a = none ∧ o.c = 0) ∨ ∃ l, o.a = some ⟨l, 0, some 1⟩ ∧ h.n ≤ l ∧ o.g.get l = some (numO o.xs) ∧ (o.c = 0 ∨ o.c = o.xs.length + 1) := by
  obtain ⟨e1, e2, e3, e4⟩ | ⟨l, rows, idss, e1, hg, hr, hi, e2, hc, hx⟩ := B.at_
  · exact .inl ⟨List.eq_nil_of_length_eq_zero e2, e1, e3⟩
  · refine .inr ⟨l, e1, (B.fr.bd l (by rw [e2]; exact List.mem_cons_self)).1, ?_, hc⟩
    rw [hg]
    unfold numO
    congr 2
    apply List.ext_getElem?
    intro i
    rw [List.getElem?_map]
    cases h1 : o.xs[i]? with
    | none =>
      have := List.getElem?_eq_none_iff.1 h1
      rw [List.getElem?_eq_none (by omega)]; rfl
    | some x =>
      have hl := (List.getElem?_eq_some_iff.1 h1).1
      have h2 : rows[i]? = some (rows[i]'(by omega)) := List.getElem?_eq_getElem _
      have h3 := hx i x _ _ h1 h2 (List.getElem?_eq_getElem (by omega))
      rw [h2, h3.1]; rfl
theorem OXok.txt {h : AHeap} {o : OX ByteArray} (B : OXok Sh.str h o) : (o.xs = [] ∧ o.a = none ∧ o.c = 0) ∨ ∃ l, o.a = some ⟨l, 0, some 1⟩ ∧ h.n ≤ l ∧ o.g.get l = some (txtO o.xs) ∧ (o.c = 0 ∨ o.c = o.xs.length + 1) := by
  obtain ⟨e1, e2, e3, e4⟩ | ⟨l, rows, idss, e1, hg, hr, hi, e2, hc, hx⟩ := B.at_
  · exact .inl ⟨List.eq_nil_of_length_eq_zero e2, e1, e3⟩
  · refine .inr ⟨l, e1, (B.fr.bd l (by rw [e2]; exact List.mem_cons_self)).1, ?_, hc⟩
    rw [hg]
    unfold txtO
    congr 2
    apply List.ext_getElem?
    intro i
    rw [List.getElem?_map]
    cases h1 : o.xs[i]? with
    | none =>
      have := List.getElem?_eq_none_iff.1 h1
      rw [List.getElem?_eq_none (by omega)]; rfl
    | some x =>
      have hl := (List.getElem?_eq_some_iff.1 h1).1
      have h2 : rows[i]? = some (rows[i]'(by omega)) := List.getElem?_eq_getElem _
      have h3 := hx i x _ _ h1 h2 (List.getElem?_eq_getElem (by omega))
      rw [h2, h3.1]; rfl
theorem num_sob {h h1 : AHeap} {l c : Nat} {ys : List Int} (le : h.Le h1) (wf : h1.wf) (wf0 : h.wf) (hn : h.n ≤ l) (hg : h1.get l = some (numO ys)) (hc : c = 0 ∨ c = ys.length + 1) : SoB Sh.int h h1 (some ⟨l, 0, some 1⟩) ys.length c ys [l] :=
  SoB.flat (s := Sh.int) (g := h) rfl le wf wf0 hn rfl hg (by simp) hc (fun i y row e1 e2 => by
    rw [List.getElem?_map, e1] at e2
    cases e2; rfl)
theorem txt_sl {h1 : AHeap} {l m c : Nat} {ys : List ByteArray} (hg : h1.get l = some (txtO ys)) (hm : m ≤ ys.length) : Sl h1 Sh.str (ys.take m) (.slice (some ⟨l, 0, some 1⟩) m c) := by
  refine ⟨_, m, c, _, rfl, .inr ⟨_, _, rfl⟩, get_rowsOf hg (by simp; omega), by rw [List.length_take]; omega, fun i y row e1 e2 => ?_⟩
  rw [List.drop_zero, List.getElem?_take] at e2
  rw [List.getElem?_take] at e1
  split at e1
  · rename_i h
    rw [if_pos h, List.getElem?_map, e1] at e2
    cases e2; rfl
  · cases e1
end Go.Dat
namespace Go.Proofs.YtpgfjadjhliohaaGreat
open Go.Abs Go.Dat
set_option maxRecDepth 100000
set_option maxHeartbeats 8000000
def ivL (h : AHeap) (a : Option Addr) (c : Nat) (l : List voteSh.T) (k v q : Int) (op : ByteArray) : LSpec where
  ι := Nat × OX Int
  κ := OX Int
  I := fun i => i.1 ≤ l.length ∧ OXok Sh.int h i.2 ∧ i.2.xs = castsL (l.take i.1) k v q op
  μ := fun i => l.length - i.1
  head := fun i => ⟨[(1, .int .i64 k), (2, .int .i64 v), (3, .int .i64 q), (4, .string op), (11, .slice i.2.a i.2.xs.length i.2.c), (14, .slice a l.length c), (15, .int .i64 l.length), (16, .int .i64 i.1)], [], i.2.g⟩
  post := fun o => ⟨[(11, .slice o.a o.xs.length o.c)], [], o.g⟩
  R := fun _ o => OXok Sh.int h o ∧ o.xs = castsL l k v q op
  ret := fun _ _ _ => False
def Qep (a b c d e : Prop) := a ∧ b ∧ c ∧ d ∧ e
def Qeq (a b c d : Prop) := a ∧ b ∧ c ∧ d
def Qer (a : Nat × OX Int) := OX.g (Prod.snd a)
def Qes (a b c : OX Int) := Value.slice (OX.a a) (List.length (OX.xs b)) (OX.c c)
def Qet (a b c : Nat × OX Int) := Value.slice (OX.a (Prod.snd a)) (List.length (OX.xs (Prod.snd b))) (OX.c (Prod.snd c))
def Qeu (a : Int) := Value.int IntKind.i64 a
def Qev (a : Nat) := Qeu (↑a : Int)
def Qew (a b c d e f : Int) (g h : ByteArray) (i j k : Prop) (l : Int) (m : Nat × OX Int) (n : Prop) := Qep (Qeu a = Qeu b) (Qeu c = Qeu d) (Qeu e = Qeu f) (Value.string g = Value.string h) (Qep i j k (Qeu l = Qev (Prod.fst m)) n)
def Qex (a : AHeap) (b : OX (Sh.T Sh.int)) (c : OX Int) (d : List (Sh.T voteSh)) (e f g : Int) (h : ByteArray) := OXok Sh.int a b ∧ OX.xs c = castsL d e f g h
def Qey (a : List (Sh.T voteSh)) (b : Nat × OX Int) (c : List (Sh.T voteSh)) (d : Nat × OX Int) := List.length a - Prod.fst b < List.length c - Prod.fst d
def Qez (a : Nat × OX Int) (b : List (Sh.T voteSh)) (c : AHeap) (d : Nat × OX (Sh.T Sh.int)) (e f : Nat × OX Int) (g : List (Sh.T voteSh)) (h i j : Int) (k : ByteArray) := Prod.fst a ≤ List.length b ∧ OXok Sh.int c (Prod.snd d) ∧ OX.xs (Prod.snd e) = castsL (List.take (Prod.fst f) g) h i j k
def Qf0 (a : Int) := IntKind.wrap IntKind.i64 a
def Qf1 (a : Int) := Qf0 (a + 1)
def Qf2 (a : Nat × OX Int) := (↑(Prod.fst a) : Int)
def Qf3 (a b : List (Sh.T voteSh)) := Qev (List.length a) = Qev (List.length b)
def Qf4 (a : Option Addr) (b : List (Sh.T voteSh)) (c : Nat) (d : Option Addr) (e : List (Sh.T voteSh)) (f : Nat) := Value.slice a (List.length b) c = Value.slice d (List.length e) f
def Qf5 := (1 : Nat)
def Qf6 := some Qf5
def Qf7 (a b c d : Nat) := Value.slice (some (Addr.mk a b Qf6)) c d
def Qf8 := (0 : Nat)
def Qf9 (a : Nat) := Int.toNat (↑a : Int)
def Qfa (a : Int) := 0 ≤ a
theorem voters_spec (h : AHeap) (hw : h.wf) (a : Option Addr) (c : Nat) (l : List voteSh.T) (k v q : Int) (op : ByteArray) (hx : Sl h voteSh l (.slice a l.length c)) (H : VotsOk l) :
    ∃ r h', ACall Tryz.prog 164 [.slice a l.length c, .int .i64 k, .int .i64 v, .int .i64 q, .string op] h r h' ∧ ∃ o : OX Int, r = .slice o.a o.xs.length o.c ∧ h' = o.g ∧ OXok Sh.int h o ∧ o.xs = votersM l k v q op := by
  have n1 := H.1
  refine acall_q fun Q HQ => ?_
  refine acall_vc (fun _ => false) (fun _ => []) (fun _ => ivL h a c l k v q op) mixed Tryz.func164 rfl rfl rfl (Nat.le_of_ble_eq_true rfl) ?_ ?_
  · (refine vc_mp (by kernel_rfl : (Qep True True (Qep True (∀ (i : Nat × OX Int), Qez i l h i i i l k v q op → bs (decide (Qf2 i < (↑(List.length l) : Int))) (∃ (l_1 r : Nat), Qeq (a = some (Addr.mk l_1 r (some 5))) (Qfa (Qf2 i)) (Qf2 i < (↑(List.length l) : Int)) (∃ (x x_1 x_2 : Int) (x_3 : ByteArray) (x_4 : Int), AHeap.ld (Qer i) l_1 (r + Qf9 (Prod.fst i)) Qf8 5 = some [Qeu x, Qeu x_1, Qeu x_2, Value.string x_3, Qeu x_4] ∧ bs (decide (x = k)) (bs (decide (x_1 = v)) (bs (decide (x_2 = q)) (bs (decide (x_3 = op)) (∃ (xs : List (List Value)), Qeq (rowsV (AHeap.push (Qer i) (AObj.mk [[Qeu x_4]] Qf5 true)) (Qf7 (AHeap.n (Qer i)) Qf8 Qf5 2) = some xs) (List.all xs (fun (row : List Value) =>
  decide (List.length row = (1 : Nat)) &&
    List.all row fun (v : Value) =>
      match v with
      | Value.agg cells => false
      | Value.tuple cells => false
      | Value.complex k re im => false
      | Value.chan r => false
      | x => true) = true) ((List.length (OX.xs (Prod.snd i)) + List.length xs) * 8 ≤ 140737488355328) (∃ (a_2 : Option Addr) (n c_1 : Nat) (h' : AHeap), AHeap.app (AHeap.push (Qer i) (AObj.mk [[Qeu x_4]] Qf5 true)) (Qet i i i) xs Qf5 = some (Prod.mk (Value.slice a_2 n c_1) h') ∧ (∃ (j : Nat × OX Int), Qew k k v v q q op op (Value.slice a_2 n c_1 = Qet j j j) (Qf4 a l c a l c) (Qf3 l l) (Qf1 (Qf2 i)) j (Qep (Qer j = h') (Qez j l h j j j l k v q op) (Qey l j l i) (∀ (k_1 : OX Int), Qex h k_1 k_1 l k v q op → Qex h k_1 k_1 l k v q op) (∀ (v : Value) (h : AHeap), False → False))))) (∃ (j : Nat × OX Int), Qew k k v v q q op op (Qet i i i = Qet j j j) (Qf4 a l c a l c) (Qf3 l l) (Qf1 (Qf2 i)) j (Qep (Qer j = Qer i) (Qez j l h j j j l k v q op) (Qey l j l i) (∀ (k_1 : OX Int), Qex h k_1 k_1 l k v q op → Qex h k_1 k_1 l k v q op) (∀ (v : Value) (h : AHeap), False → False)))) (∃ (j : Nat × OX Int), Qew k k v v q q op op (Qet i i i = Qet j j j) (Qf4 a l c a l c) (Qf3 l l) (Qf1 (Qf2 i)) j (Qep (Qer j = Qer i) (Qez j l h j j j l k v q op) (Qey l j l i) (∀ (k_1 : OX Int), Qex h k_1 k_1 l k v q op → Qex h k_1 k_1 l k v q op) (∀ (v : Value) (h : AHeap), False → False)))) (∃ (j : Nat × OX Int), Qew k k v v q q op op (Qet i i i = Qet j j j) (Qf4 a l c a l c) (Qf3 l l) (Qf1 (Qf2 i)) j (Qep (Qer j = Qer i) (Qez j l h j j j l k v q op) (Qey l j l i) (∀ (k_1 : OX Int), Qex h k_1 k_1 l k v q op → Qex h k_1 k_1 l k v q op) (∀ (v : Value) (h : AHeap), False → False)))) (∃ (j : Nat × OX Int), Qew k k v v q q op op (Qet i i i = Qet j j j) (Qf4 a l c a l c) (Qf3 l l) (Qf1 (Qf2 i)) j (Qep (Qer j = Qer i) (Qez j l h j j j l k v q op) (Qey l j l i) (∀ (k_1 : OX Int), Qex h k_1 k_1 l k v q op → Qex h k_1 k_1 l k v q op) (∀ (v : Value) (h : AHeap), False → False))))) (∃ (j : OX Int), Qeq (Qet i i i = Qes j j j) (OX.g j = Qer i) (OXok Sh.int h j) (OX.xs j = castsL l k v q op))) True (True ∧ True) (Qeq True True True True ∧ True)) True (True ∧ True)) = _) ?_; delta Qep Qeq Qer Qes Qet Qeu Qev Qew Qex Qey Qez Qf0 Qf1 Qf2 Qf3 Qf4 Qf5 Qf6 Qf7 Qf8 Qf9 Qfa)
    simp only [true_and, and_true]
    refine fun ⟨i, o⟩ ⟨hi, B, hxs⟩ => ?_
    dsimp only at *
    refine bs_d (fun hlt => ?_) (fun hge => ⟨o, rfl, rfl, B, by rw [List.take_of_length_le (by omega)] at hxs; exact hxs⟩)
    obtain ⟨⟨k', v', q', op', f'⟩, hat⟩ : ∃ y : Int × Int × Int × ByteArray × Int, l[i]? = some y := ⟨_, List.getElem?_eq_getElem (by omega)⟩
    obtain ⟨lo, r, row, ha, _, hrd, hld⟩ := (hx.mono B.le).elem hat
    obtain rfl := rd_vote.1 hrd
    dsimp only at hld
    have ct := castsL_take (k := k) (v := v) (q := q) (op := op) hat
    have sk : ¬ (k' = k ∧ v' = v ∧ q' = q ∧ op' = op) → o.xs = castsL (l.take (i + 1)) k v q op := fun hne => by rw [ct, if_neg hne, List.append_nil]; exact hxs
    have hol : o.xs.length ≤ l.length := by
      rw [hxs]; unfold castsL
      exact Nat.le_trans (List.length_filterMap_le _ _) (by rw [List.length_take]; omega)
    refine ⟨lo, r, ha, Int.natCast_nonneg _, hlt, _, _, _, _, _, hld, bs_d (fun e1 => bs_d (fun e2 => bs_d (fun e3 => bs_d (fun e4 => ?_) (fun e => ?_)) (fun e => ?_)) (fun e => ?_)) (fun e => ?_)⟩
    · obtain ⟨o', e6, B', hx', _, _, _⟩ := B.app (x := f') (cs := [.int .i64 f']) (js := []) ⟨rfl, rfl⟩ .nil (by simp)
      refine ⟨[[.int .i64 f']], rowsV_push, rfl, by simp only [List.length_cons, List.length_nil]; omega, _, _, _, o'.g, e6, (i + 1, o'), rfl, by rw [wrap_i64 (by omega)]; rfl, rfl, ⟨by dsimp only; omega, B', ?_⟩, by dsimp only; omega, fun _ h => h, fun _ _ h => h⟩
      dsimp only
      rw [hx', ct, if_pos ⟨e1, e2, e3, e4⟩, hxs]
    · exact ⟨(i + 1, o), rfl, by rw [wrap_i64 (by omega)]; rfl, rfl, ⟨by dsimp only; omega, B, sk fun H => e H.2.2.2⟩, by dsimp only; omega, fun _ h => h, fun _ _ h => h⟩
    · exact ⟨(i + 1, o), rfl, by rw [wrap_i64 (by omega)]; rfl, rfl, ⟨by dsimp only; omega, B, sk fun H => e H.2.2.1⟩, by dsimp only; omega, fun _ h => h, fun _ _ h => h⟩
    · exact ⟨(i + 1, o), rfl, by rw [wrap_i64 (by omega)]; rfl, rfl, ⟨by dsimp only; omega, B, sk fun H => e H.2.1⟩, by dsimp only; omega, fun _ h => h, fun _ _ h => h⟩
    · exact ⟨(i + 1, o), rfl, by rw [wrap_i64 (by omega)]; rfl, rfl, ⟨by dsimp only; omega, B, sk fun H => e H.1⟩, by dsimp only; omega, fun _ h => h, fun _ _ h => h⟩
  (refine vc_mp (by kernel_rfl : (∃ (i : Nat × OX Int), Qew k k v v q q op op (Value.slice none Qf8 Qf8 = Qet i i i) (Qf4 a l c a l c) (Qf3 l l) 0 i (Qeq (Qer i = h) (Qez i l h i i i l k v q op) (∀ (j : OX Int), Qex h j j l k v q op → (∃ (h' : AHeap), ACall Tryz.prog 173 [Qes j j j] (OX.g j) (Value.tuple (Array.mk List.nil)) h' ∧ Q (Qes j j j) h')) (∀ (v : Value) (h : AHeap), False → Q v h))) = _) ?_; delta Qep Qeq Qer Qes Qet Qeu Qev Qew Qex Qez Qf3 Qf4 Qf8)
  refine ⟨(0, ⟨none, 0, [], [], h⟩), rfl, rfl, rfl, rfl, rfl, rfl, rfl, rfl, rfl, ⟨Nat.zero_le _, OXok.nil hw, by unfold castsL; rfl⟩, fun o ⟨B, hxs⟩ => ?_, fun _ _ h => h.elim⟩
  have h4 := casts_len H k v q op
  rcases B.num with ⟨e1, e2, e3⟩ | ⟨lo, e1, hlo, hg, hc⟩
  · obtain ⟨a', c', xs', ids', g'⟩ := o
    dsimp only at *
    subst e1; subst e2; subst e3
    exact ⟨_, sortNum_nil _, HQ _ _ ⟨⟨none, 0, [], ids', g'⟩, rfl, rfl, B, casts_voters H (by rw [← hxs]) (fun p q a b _ h2 => by simp at h2)⟩⟩
  · rw [e1]
    obtain ⟨_, A, ys, rfl, hp, m, hm, ho⟩ := sortNum_spec o.g lo o.c o.xs (by rw [hxs]; omega) hg
    have hl := hp.length_eq
    refine ⟨_, A, HQ _ _ ⟨⟨some ⟨lo, 0, some 1⟩, o.c, ys, [lo], o.g.put lo (some (numO ys))⟩, by dsimp only; rw [hl], rfl, ?_, ?_⟩⟩
    · exact num_sob (B.le.put (hw lo hlo) _) (B.wf.put (B.wf.lt hg) _) hw hlo AHeap.get_put_eq (by rw [hl]; exact hc)
    · rw [hxs] at hp
      exact casts_voters H hp (fun p q a b h1 h2 => ho p q a b h1 (Nat.lt_of_lt_of_le h2 (by rw [hl]; exact hm)))
def ioL (h : AHeap) (a : Option Addr) (c : Nat) (l : List voteSh.T) (k v q : Int) : LSpec where
  ι := Nat × OX ByteArray
  κ := OX ByteArray
  I := fun i => i.1 ≤ l.length ∧ OXok Sh.str h i.2 ∧ i.2.xs = opsL (l.take i.1) k v q
  μ := fun i => l.length - i.1
  head := fun i => ⟨[(1, .int .i64 k), (2, .int .i64 v), (3, .int .i64 q), (9, .slice i.2.a i.2.xs.length i.2.c), (12, .slice a l.length c), (13, .int .i64 l.length), (14, .int .i64 i.1)], [], i.2.g⟩
  post := fun o => ⟨[(9, .slice o.a o.xs.length o.c)], [], o.g⟩
  R := fun _ o => OXok Sh.str h o ∧ o.xs = opsL l k v q
  ret := fun _ _ _ => False
def cmpL (h : AHeap) (lo c : Nat) (xs : List ByteArray) : Nat → LSpec
  | 0 => {
    ι := Nat
    κ := Unit
    I := fun k => 1 ≤ k ∧ k ≤ xs.length
    μ := fun k => xs.length - k
    head := fun k => ⟨[(0, .slice (some ⟨lo, 0, some 1⟩) xs.length c), (3, .int .i64 k)], [], h.put lo (some (txtO xs))⟩
    post := fun _ => ⟨[(0, .slice (some ⟨lo, 0, some 1⟩) xs.length c)], [], h.put lo (some (txtO xs))⟩
    R := fun _ _ => True
    ret := fun _ r g => ∃ ys m c', ys.length = xs.length ∧ m ≤ xs.length ∧ r = .slice (some ⟨lo, 0, some 1⟩) m c' ∧ g = h.put lo (some (txtO ys)) ∧ ∀ t, t ∈ ys.take m ↔ t ∈ xs }
  | _ => {
    ι := Nat × Nat × Nat × List ByteArray
    κ := Nat × List ByteArray
    I := fun i => CmpI xs i.1 i.2.1 i.2.2.1 i.2.2.2 ∧ 1 ≤ i.1
    μ := fun i => xs.length - i.1 - i.2.1
    head := fun i => ⟨[(0, .slice (some ⟨lo, 0, some 1⟩) xs.length c), (3, .int .i64 i.2.2.1), (4, .slice (some ⟨lo, i.1, some 1⟩) (xs.length - i.1) (bif decide (c = 0) then 0 else c - i.1)), (5, .int .i64 i.2.1)], [], h.put lo (some (txtO i.2.2.2))⟩
    post := fun i => ⟨[(0, .slice (some ⟨lo, 0, some 1⟩) xs.length c), (3, .int .i64 i.1)], [], h.put lo (some (txtO i.2))⟩
    R := fun _ i => i.1 ≤ xs.length ∧ i.2.length = xs.length ∧ ∀ t, t ∈ i.2.take i.1 ↔ t ∈ xs
    ret := fun _ _ _ => False }
def Qfb (a : Prop) := True ∧ a ∧ True
def Qfc (a : Nat) (b : List ByteArray) (c : ByteArray) (d : List ByteArray) (e : ByteArray) := Iff (Membership.mem (List.take a b) c) (Membership.mem d e)
def Qfd (a b : Nat × List ByteArray) (c : ByteArray) (d : List ByteArray) (e : ByteArray) := Qfc (Prod.fst a) (Prod.snd b) c d e
def Qfe (a b : List ByteArray) := List.length a = List.length b
def Qff (a : Nat) (b : List ByteArray) := a ≤ List.length b
def Qfg (a : AHeap) (b : Nat) (c : List ByteArray) := AHeap.put a b (some (txtO c))
def Qfh (a : Nat × Nat × Nat × List ByteArray) := Prod.snd (Prod.snd (Prod.snd a))
def Qfi (a : Nat × Nat × Nat × List ByteArray) := Prod.fst (Prod.snd (Prod.snd a))
def Qfj (a : Nat) (b : List ByteArray) (c : Nat) := Value.slice (some (Addr.mk a Qf8 Qf6)) (List.length b) c
def Qfk (a : AHeap) (b : Nat) (c : List ByteArray) (d e : Nat) (f : ByteArray) (g : Prop) := AHeap.ld (Qfg a b c) d e Qf8 Qf5 = some [Value.string f] ∧ g
def Qfl (a : Nat × List ByteArray) (b : List ByteArray) (c : Nat × List ByteArray) (d : List ByteArray) (e : Prop) := Qff (Prod.fst a) b ∧ Qfe (Prod.snd c) d ∧ e
def Qfm (a : Nat × Nat × Nat × List ByteArray) := Prod.fst (Prod.snd a)
def Qfn (a : List ByteArray) (b : Nat × Nat × Nat × List ByteArray) := List.length a - Prod.fst b
def Qfo (a : Nat × Nat × Nat × List ByteArray) := Qf5 ≤ Prod.fst a
def Qfp (a : List ByteArray) (b c d e : Nat × Nat × Nat × List ByteArray) := CmpI a (Prod.fst b) (Qfm c) (Qfi d) (Qfh e)
def Qfq (a : Int) (b : Nat) := Qeu (Qf1 a) = Qev b
def Qfr (a : Nat × Nat × Nat × List ByteArray) := (↑(Qfm a) : Int)
def Qfs (a : Nat) (b : Nat × Nat × Nat × List ByteArray) (c : List ByteArray) (d : Nat × Nat × Nat × List ByteArray) (e : Bool) (f : Nat) (g : Nat × Nat × Nat × List ByteArray) := Qf7 a (Prod.fst b) (Qfn c d) (cond e Qf8 (f - Prod.fst g))
def Qft (a : List ByteArray) := (↑(List.length a) : Int)
def Qfu (a : Nat) := Qfa (↑a : Int)
def Qfv (a b : Nat) := some (Addr.mk a b Qf6)
def Qfw (a : Nat) (b : Option Addr) := Qfv a Qf8 = b
def Qfx (a b : List ByteArray) (c : Nat) (d : List ByteArray) (e : Value) (f g h : Nat) (i j : AHeap) (k : Nat) (l : List ByteArray) (m : Prop) := Qep (Qfe a b) (Qff c d) (e = Qf7 f Qf8 g h) (i = Qfg j k l) m
def Qfy := Int.toNat 0
def Qfz (a : Nat) := (↑a : Int) - 1
theorem compact_spec (h : AHeap) (lo c : Nat) (xs : List ByteArray) (hn : xs.length ≤ 1048576) :
    ∃ r g, ACall Tryz.prog 172 [.slice (some ⟨lo, 0, some 1⟩) xs.length c] (h.put lo (some (txtO xs))) r g ∧ ∃ ys m c', ys.length = xs.length ∧ m ≤ xs.length ∧ r = .slice (some ⟨lo, 0, some 1⟩) m c' ∧ g = h.put lo (some (txtO ys)) ∧ ∀ t, t ∈ ys.take m ↔ t ∈ xs := by
  refine acall_q fun Q HQ => ?_
  refine acall_vc (fun _ => false) (fun r => match r with | 6 => [(0, 0, []), (1, 0, []), (2, 0, []), (4, 0, []), (5, 0, []), (6, 0, []), (7, 0, []), (3, 1, []), (8, 1, []), (9, 0, [])] | 11 => [(0, 0, []), (1, 0, []), (2, 0, []), (4, 0, []), (5, 0, []), (6, 0, []), (7, 0, []), (3, 1, []), (8, 1, []), (9, 0, [])] | _ => []) (cmpL h lo c xs) mixed Tryz.func172 rfl rfl rfl (Nat.le_of_ble_eq_true rfl) ?_ ?_
  · (refine vc_mp (by kernel_rfl : (Qep True (Qfb (True ∧ True)) (Qep True (∀ (i : Nat), Qf5 ≤ i ∧ Qff i xs → bs (decide ((↑i : Int) < Qft xs)) (∃ (l r : Nat), Qeq (Qfw lo (Qfv l r)) (Qfu i) ((↑i : Int) < Qft xs) (∃ (l_1 r_1 : Nat), Qeq (Qfw lo (Qfv l_1 r_1)) (Qfa (Qf0 (Qfz i))) (Qf0 (Qfz i) < Qft xs) (∃ (x : ByteArray), Qfk h lo xs l (r + Qf9 i) x (∃ (x_1 : ByteArray), Qfk h lo xs l_1 (r_1 + Int.toNat (Qf0 (Qfz i))) x_1 (bs (decide (x = x_1)) (Qep (Qfu i) ((↑i : Int) ≤ Qft xs) (Qft xs ≤ Qft xs ∨ c ≠ Qf8 ∧ Qft xs < (↑c : Int)) (∀ (x : Addr), Qfw lo (some x) → Addr.spot x = Qf6) (∃ (i_1 : Nat × Nat × Nat × List ByteArray), Qep (Qfj lo xs c = Qfj lo xs c) (Qev i = Qev (Qfi i_1)) (Qf7 lo (Qf8 + Qf9 i) (Int.toNat (Qft xs) - Qf9 i) (cond (decide (c = Qf8)) Qf8 (c - Qf9 i)) = Qfs lo i_1 xs i_1 (decide (c = Qf8)) c i_1) (Qeu 1 = Qev (Qfm i_1)) (Qeq (Qfg h lo (Qfh i_1) = Qfg h lo xs) (Qfp xs i_1 i_1 i_1 i_1 ∧ Qfo i_1) (∀ (j : Nat × List ByteArray), Qfl j xs j xs (∀ (t : ByteArray), Qfd j j t xs t) → Qep (Qfu (Prod.fst j)) ((↑(Prod.fst j) : Int) ≤ Qft xs) (Qft xs ≤ Qft xs ∨ c ≠ Qf8 ∧ Qft xs < (↑c : Int)) (∀ (x : Addr), Qfw lo (some x) → Addr.spot x = Qf6) (∃ (h' : AHeap), Qep (AHeap.cpy (Qfg h lo (Prod.snd j)) (Qfv lo (Qf8 + Qf9 (Prod.fst j))) Qf5 (List.replicate (Int.toNat (Qft xs) - Qf9 (Prod.fst j)) [Value.string (ByteArray.mk (Array.mk List.nil))]) = some h') (Qfa 0) (Qfu (Prod.fst j)) ((↑(Prod.fst j) : Int) ≤ Qft xs ∨ c ≠ Qf8 ∧ (↑(Prod.fst j) : Int) < (↑c : Int)) ((∀ (x : Addr), Qfw lo (some x) → Addr.spot x = Qf6) ∧ (∃ (ys : List ByteArray) (m c' : Nat), Qfx ys xs m xs (Qf7 lo (Qf8 + Qfy) (Qf9 (Prod.fst j) - Qfy) (cond (decide (c = Qf8)) Qf8 (c - Qfy))) lo m c' h' h lo ys (∀ (t : ByteArray), Qfc m ys t xs t))))) (∀ (v : Value) (h_1 : AHeap), False → (∃ (ys : List ByteArray) (m c' : Nat), Qfx ys xs m xs v lo m c' h_1 h lo ys (∀ (t : ByteArray), Qfc m ys t xs t)))))) (∃ (j : Nat), Qep (Qfj lo xs c = Qfj lo xs c) (Qfq (↑i : Int) j) (Qfg h lo xs = Qfg h lo xs) (Qf5 ≤ j ∧ Qff j xs) (List.length xs - j < List.length xs - i ∧ (∀ (k : Unit), True → True) ∧ (∀ (v : Value) (h_1 : AHeap), (∃ (ys : List ByteArray) (m c' : Nat), Qfx ys xs m xs v lo m c' h_1 h lo ys (∀ (t : ByteArray), Qfc m ys t xs t)) → (∃ (ys : List ByteArray) (m c' : Nat), Qfx ys xs m xs v lo m c' h_1 h lo ys (∀ (t : ByteArray), Qfc m ys t xs t)))))))))) (∃ (j : Unit), Qfj lo xs c = Qfj lo xs c ∧ Qfg h lo xs = Qfg h lo xs ∧ True)) (Qfb True) (Qfb (Qep True (Qep True (∀ (i : Nat × Nat × Nat × List ByteArray), Qfp xs i i i i ∧ Qfo i → bs (decide (Qfr i < (↑(Qfn xs i) : Int))) (∃ (l r : Nat), Qeq (Qfv lo (Prod.fst i) = Qfv l r) (Qfa (Qfr i)) (Qfr i < (↑(Qfn xs i) : Int)) (∃ (l_1 r_1 : Nat), Qeq (Qfv lo (Prod.fst i) = Qfv l_1 r_1) (Qfa (Qf0 (Qfr i - 1))) (Qf0 (Qfr i - 1) < (↑(Qfn xs i) : Int)) (∃ (x : ByteArray), Qfk h lo (Qfh i) l (r + Qf9 (Qfm i)) x (∃ (x_1 : ByteArray), Qfk h lo (Qfh i) l_1 (r_1 + Int.toNat (Qf0 (Qfr i - 1))) x_1 (bs (not (decide (x = x_1))) (∃ (l r : Nat), Qeq (Qfv lo (Prod.fst i) = Qfv l r) (Qfa (Qfr i)) (Qfr i < (↑(Qfn xs i) : Int)) (∃ (x : ByteArray), Qfk h lo (Qfh i) l (r + Qf9 (Qfm i)) x (∃ (l r : Nat), Qeq (Qfw lo (Qfv l r)) (Qfu (Qfi i)) ((↑(Qfi i) : Int) < Qft xs) (∃ (h' : AHeap), AHeap.wr (Qfg h lo (Qfh i)) l (r + Qf9 (Qfi i)) Qf8 [Value.string x] = some h' ∧ (∃ (j : Nat × Nat × Nat × List ByteArray), Qep (Qfj lo xs c = Qfj lo xs c) (Qfq (↑(Qfi i) : Int) (Qfi j)) (Qfs lo i xs i (decide (c = Qf8)) c i = Qfs lo j xs j (decide (c = Qf8)) c j) (Qfq (Qfr i) (Qfm j)) (Qep (Qfg h lo (Qfh j) = h') (Qfp xs j j j j ∧ Qfo j) (Qfn xs j - Qfm j < Qfn xs i - Qfm i) (∀ (k : Nat × List ByteArray), Qfl k xs k xs (∀ (t : ByteArray), Qfd k k t xs t) → Qfl k xs k xs (∀ (t : ByteArray), Qfd k k t xs t)) (∀ (v : Value) (h : AHeap), False → False))))))) (∃ (j : Nat × Nat × Nat × List ByteArray), Qep (Qfj lo xs c = Qfj lo xs c) (Qev (Qfi i) = Qev (Qfi j)) (Qfs lo i xs i (decide (c = Qf8)) c i = Qfs lo j xs j (decide (c = Qf8)) c j) (Qfq (Qfr i) (Qfm j)) (Qep (Qfg h lo (Qfh j) = Qfg h lo (Qfh i)) (Qfp xs j j j j ∧ Qfo j) (Qfn xs j - Qfm j < Qfn xs i - Qfm i) (∀ (k : Nat × List ByteArray), Qfl k xs k xs (∀ (t : ByteArray), Qfd k k t xs t) → Qfl k xs k xs (∀ (t : ByteArray), Qfd k k t xs t)) (∀ (v : Value) (h : AHeap), False → False)))))))) (∃ (j : Nat × List ByteArray), Qep (Qfj lo xs c = Qfj lo xs c) (Qev (Qfi i) = Qev (Prod.fst j)) (Qfg h lo (Prod.snd j) = Qfg h lo (Qfh i)) (Qff (Prod.fst j) xs) (Qfe (Prod.snd j) xs ∧ (∀ (t : ByteArray), Qfd j j t xs t)))) (Qfb True) (Qfb (True ∧ True)) True) True True True)) True) True True) = _) ?_; delta Qep Qeq Qeu Qev Qf0 Qf1 Qf5 Qf6 Qf7 Qf8 Qf9 Qfa Qfb Qfc Qfd Qfe Qff Qfg Qfh Qfi Qfj Qfk Qfl Qfm Qfn Qfo Qfp Qfq Qfr Qfs Qft Qfu Qfv Qfw Qfx Qfy Qfz)
    simp only [true_and, and_true]
    refine ⟨fun (k : Nat) ⟨hk1, hk2⟩ => ?_, fun ⟨k0, k2, k, ys⟩ ⟨I, hk0⟩ => ?_⟩
    · refine bs_d (fun hlt => ?_) (fun hge => ⟨(), trivial⟩)
      rw [wrap_pred (i := k) (by omega) (by omega)]
      obtain ⟨x, hx⟩ : ∃ y, xs[k]? = some y := ⟨_, List.getElem?_eq_getElem (by omega)⟩
      obtain ⟨y, hy⟩ : ∃ y, xs[k - 1]? = some y := ⟨_, List.getElem?_eq_getElem (by omega)⟩
      refine ⟨lo, 0, rfl, Int.natCast_nonneg _, hlt, lo, 0, rfl, Int.natCast_nonneg _, by omega, _, txt_ld hx, _, txt_ld hy, bs_d (fun e => ?_) (fun e => ⟨k + 1, by rw [wrap_i64 (by omega)]; rfl, ⟨by omega, by omega⟩, by omega, fun _ h => h, fun _ _ h => h⟩)⟩
      subst e
      simp only [Int.toNat_natCast, Nat.zero_add]
      refine ⟨by omega, by omega, .inl (Int.le_refl _), fun x hx => by cases hx; rfl, (k, 1, k, xs), rfl, rfl, rfl, rfl, ⟨CmpI.start hk1 hy hx, hk1⟩, fun ⟨m, ys⟩ ⟨hm, hl, hmem⟩ => ?_, fun _ _ h => h.elim⟩
      dsimp only at hm hl hmem ⊢
      refine ⟨by omega, by omega, .inl (Int.le_refl _), fun x hx => by cases hx; rfl, ?_⟩
      by_cases c0 : xs.length - m = 0
      · refine ⟨h.put lo (some (txtO ys)), (by rw [c0]; rfl), by omega, by omega, .inl (by omega), fun x hx => (by cases hx; rfl), ys, m, _, hl, hm, rfl, rfl, hmem⟩
      · have hw : (h.put lo (some (txtO ys))).cpy (some ⟨lo, m, some 1⟩) 1 (List.replicate (xs.length - m) [.string ⟨#[]⟩]) = some ((h.put lo (some (txtO ys))).put lo (some ⟨setRows (ys.map fun x => [Value.string x]) m (List.replicate (xs.length - m) [.string ⟨#[]⟩]), 1, true⟩)) :=
          cpy_set AHeap.get_put_eq (fun e => by rw [List.replicate_eq_nil_iff] at e; exact c0 e) (by simp; omega)
        have es : setRows (ys.map fun x => [Value.string x]) m (List.replicate (xs.length - m) [.string ⟨#[]⟩]) = (ys.take m ++ List.replicate (xs.length - m) (⟨#[]⟩ : ByteArray)).map fun x => [Value.string x] := by
          unfold setRows
          rw [List.map_append, List.map_take, List.map_replicate, List.drop_eq_nil_of_le (by simp; omega), List.append_nil]
        refine ⟨_, hw, by omega, by omega, .inl (by omega), fun x hx => by cases hx; rfl, ys.take m ++ List.replicate (xs.length - m) (⟨#[]⟩ : ByteArray), m, _, by simp; omega, hm, rfl, by rw [put2, es]; rfl, fun t => ?_⟩
        rw [List.take_append_of_le_length (by simp; omega), List.take_take, Nat.min_self]
        exact hmem t
    · dsimp only at *
      have i1 := I.hn
      have i2 := I.h2
      have i3 := I.hk
      have i4 := I.len
      have i5 := I.h0
      refine bs_d (fun hlt => ?_) (fun hge => ⟨(k, ys), rfl, rfl, by dsimp only; omega, I.len, fun t => ?_⟩)
      · rw [wrap_pred (i := k2) (by omega) (by omega)]
        obtain ⟨x, hx⟩ : ∃ y, xs[k0 + k2]? = some y := ⟨_, List.getElem?_eq_getElem (by omega)⟩
        obtain ⟨y, hy⟩ : ∃ y, xs[k0 + k2 - 1]? = some y := ⟨_, List.getElem?_eq_getElem (by omega)⟩
        have hx' := (I.same (k0 + k2) (by omega)).trans hx
        have hy' := (I.same (k0 + k2 - 1) (by omega)).trans hy
        have ldx : (h.put lo (some (txtO ys))).ld lo (k0 + ((k2 : Nat) : Int).toNat) 0 1 = some [.string x] := by
          rw [show k0 + ((k2 : Nat) : Int).toNat = 0 + ((k0 + k2 : Nat) : Int).toNat by omega]; exact txt_ld hx'
        have ldy : (h.put lo (some (txtO ys))).ld lo (k0 + ((k2 - 1 : Nat) : Int).toNat) 0 1 = some [.string y] := by
          rw [show k0 + ((k2 - 1 : Nat) : Int).toNat = 0 + ((k0 + k2 - 1 : Nat) : Int).toNat by omega]; exact txt_ld hy'
        refine ⟨lo, k0, rfl, Int.natCast_nonneg _, hlt, lo, k0, rfl, Int.natCast_nonneg _, by omega, _, ldx, _, ldy, bs_dn (fun e => ?_) (fun e => ?_)⟩
        · exact ⟨lo, k0, rfl, Int.natCast_nonneg _, hlt, _, ldx, lo, 0, rfl, Int.natCast_nonneg _, by omega, _, txt_wr x (by omega), (k0, k2 + 1, k + 1, ys.set k x), by rw [wrap_i64 (by omega)]; rfl, rfl, by rw [wrap_i64 (by omega)]; rfl, rfl, ⟨I.step hx, hk0⟩, by dsimp only; omega, fun _ h => h, fun _ _ h => h⟩
        · subst e
          exact ⟨(k0, k2 + 1, k, ys), rfl, rfl, by rw [wrap_i64 (by omega)]; rfl, rfl, ⟨I.same' hy hx, hk0⟩, by dsimp only; omega, fun _ h => h, fun _ _ h => h⟩
      · have := I.mem t
        rw [show k0 + k2 = xs.length by omega, List.take_of_length_le (Nat.le_refl _)] at this
        exact this
  (refine vc_mp (by kernel_rfl : (bs (decide (Qft xs < 2)) (Q (Qfj lo xs c) (Qfg h lo xs)) (∃ (i : Nat), Qep (Qfj lo xs c = Qfj lo xs c) (Qeu 1 = Qev i) (Qfg h lo xs = Qfg h lo xs) (Qf5 ≤ i ∧ Qff i xs) ((∀ (j : Unit), True → Q (Qfj lo xs c) (Qfg h lo xs)) ∧ (∀ (v : Value) (h_1 : AHeap), (∃ (ys : List ByteArray) (m c' : Nat), Qfx ys xs m xs v lo m c' h_1 h lo ys (∀ (t : ByteArray), Qfc m ys t xs t)) → Q v h_1)))) = _) ?_; delta Qep Qeu Qev Qf5 Qf6 Qf7 Qf8 Qfc Qfe Qff Qfg Qfj Qft Qfx)
  refine bs_d (fun e => HQ _ _ ⟨xs, xs.length, c, rfl, Nat.le_refl _, rfl, rfl, fun t => by rw [List.take_of_length_le (Nat.le_refl _)]⟩) (fun e => ?_)
  exact ⟨(1 : Nat), rfl, rfl, rfl, ⟨Nat.le_refl _, by omega⟩, fun _ _ => HQ _ _ ⟨xs, xs.length, c, rfl, Nat.le_refl _, rfl, rfl, fun t => by rw [List.take_of_length_le (Nat.le_refl _)]⟩, fun _ _ H => HQ _ _ H⟩
end Go.Proofs.YtpgfjadjhliohaaGreat
