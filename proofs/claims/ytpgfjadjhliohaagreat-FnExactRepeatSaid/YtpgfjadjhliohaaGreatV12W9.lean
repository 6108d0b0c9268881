/- W9. -/
import Derived.Test.YtpgfjadjhliohaaGreatV12W5
import Derived.Test.YtpgfjadjhliohaaGreatV12W8
namespace Go.Dat
open Go.Abs
theorem OXok.num {h : AHeap} {o : OX Int} (B : OXok Sh.int h o) : (o.xs = [] ∧ o.a = none ∧ o.c = 0) ∨ ∃ l, o.a = some ⟨l, 0, some 1⟩ ∧ h.n ≤ l ∧ o.g.get l = some (numO o.xs) ∧ (o.c = 0 ∨ o.c = o.xs.length + 1) := by
  obtain ⟨e1, e2, e3, e4⟩ | ⟨l, rows, idss, e1, hg, hr, hi, e2, hc, hx⟩ := B.at_
  · exact .inl ⟨List.eq_nil_of_length_eq_zero e2, e1, e3⟩
  · refine .inr ⟨l, e1, (B.fr.bd l (by rw [e2]; exact List.mem_cons_self)).1, ?_, hc⟩
    rw [hg]
    unfold numO
    congr 2
    apply List.ext_getElem?
    intro i
    rw [List.getElem?_map]
    cases h1 : o.xs[i]? with
    | none =>
      have := List.getElem?_eq_none_iff.1 h1
      rw [List.getElem?_eq_none (by omega)]; rfl
    | some x =>
      have hl := (List.getElem?_eq_some_iff.1 h1).1
      have h2 : rows[i]? = some (rows[i]'(by omega)) := List.getElem?_eq_getElem _
      have h3 := hx i x _ _ h1 h2 (List.getElem?_eq_getElem (by omega))
      rw [h2, h3.1]; rfl
theorem OXok.txt {h : AHeap} {o : OX ByteArray} (B : OXok Sh.str h o) : (o.xs = [] ∧ o.a = none ∧ o.c = 0) ∨ ∃ l, o.a = some ⟨l, 0, some 1⟩ ∧ h.n ≤ l ∧ o.g.get l = some (txtO o.xs) ∧ (o.c = 0 ∨ o.c = o.xs.length + 1) := by
  obtain ⟨e1, e2, e3, e4⟩ | ⟨l, rows, idss, e1, hg, hr, hi, e2, hc, hx⟩ := B.at_
  · exact .inl ⟨List.eq_nil_of_length_eq_zero e2, e1, e3⟩
  · refine .inr ⟨l, e1, (B.fr.bd l (by rw [e2]; exact List.mem_cons_self)).1, ?_, hc⟩
    rw [hg]
    unfold txtO
    congr 2
    apply List.ext_getElem?
    intro i
    rw [List.getElem?_map]
    cases h1 : o.xs[i]? with
    | none =>
      have := List.getElem?_eq_none_iff.1 h1
      rw [List.getElem?_eq_none (by omega)]; rfl
    | some x =>
      have hl := (List.getElem?_eq_some_iff.1 h1).1
      have h2 : rows[i]? = some (rows[i]'(by omega)) := List.getElem?_eq_getElem _
      have h3 := hx i x _ _ h1 h2 (List.getElem?_eq_getElem (by omega))
      rw [h2, h3.1]; rfl
theorem num_sob {h h1 : AHeap} {l c : Nat} {ys : List Int} (le : h.Le h1) (wf : h1.wf) (wf0 : h.wf) (hn : h.n ≤ l) (hg : h1.get l = some (numO ys)) (hc : c = 0 ∨ c = ys.length + 1) : SoB Sh.int h h1 (some ⟨l, 0, some 1⟩) ys.length c ys [l] :=
  SoB.flat (s := Sh.int) (g := h) rfl le wf wf0 hn rfl hg (by simp) hc (fun i y row e1 e2 => by
    rw [List.getElem?_map, e1] at e2
    cases e2; rfl)
theorem txt_sl {h1 : AHeap} {l m c : Nat} {ys : List ByteArray} (hg : h1.get l = some (txtO ys)) (hm : m ≤ ys.length) : Sl h1 Sh.str (ys.take m) (.slice (some ⟨l, 0, some 1⟩) m c) := by
  refine ⟨_, m, c, _, rfl, .inr ⟨_, _, rfl⟩, get_rowsOf hg (by simp; omega), by rw [List.length_take]; omega, fun i y row e1 e2 => ?_⟩
  rw [List.drop_zero, List.getElem?_take] at e2
  rw [List.getElem?_take] at e1
  split at e1
  · rename_i h
    rw [if_pos h, List.getElem?_map, e1] at e2
    cases e2; rfl
  · cases e1
end Go.Dat
namespace Go.Proofs.YtpgfjadjhliohaaGreat
open Go.Abs Go.Dat
set_option maxRecDepth 100000
set_option maxHeartbeats 8000000
def ivL (h : AHeap) (a : Option Addr) (c : Nat) (l : List voteSh.T) (k v q : Int) (op : ByteArray) : LSpec where
  ι := Nat × OX Int
  κ := OX Int
  I := fun i => i.1 ≤ l.length ∧ OXok Sh.int h i.2 ∧ i.2.xs = castsL (l.take i.1) k v q op
  μ := fun i => l.length - i.1
  head := fun i => ⟨[(1, .int .i64 k), (2, .int .i64 v), (3, .int .i64 q), (4, .string op), (11, .slice i.2.a i.2.xs.length i.2.c), (14, .slice a l.length c), (15, .int .i64 l.length), (16, .int .i64 i.1)], [], i.2.g⟩
  post := fun o => ⟨[(11, .slice o.a o.xs.length o.c)], [], o.g⟩
  R := fun _ o => OXok Sh.int h o ∧ o.xs = castsL l k v q op
  ret := fun _ _ _ => False
theorem voters_spec (h : AHeap) (hw : h.wf) (a : Option Addr) (c : Nat) (l : List voteSh.T) (k v q : Int) (op : ByteArray) (hx : Sl h voteSh l (.slice a l.length c)) (H : VotsOk l) :
    ∃ r h', ACall Tryz.prog 164 [.slice a l.length c, .int .i64 k, .int .i64 v, .int .i64 q, .string op] h r h' ∧ ∃ o : OX Int, r = .slice o.a o.xs.length o.c ∧ h' = o.g ∧ OXok Sh.int h o ∧ o.xs = votersM l k v q op := by
  have n1 := H.1
  refine acall_q fun Q HQ => ?_
  refine acall_vc (fun _ => false) (fun _ => []) (fun _ => ivL h a c l k v q op) mixed Tryz.func164 rfl rfl rfl (Nat.le_of_ble_eq_true rfl) ?_ ?_
  · refine vc_mp (by kernel_rfl : (True ∧ True ∧ (True ∧ (∀ (i : Nat × OX Int), Prod.fst i ≤ List.length l ∧ OXok Sh.int h (Prod.snd i) ∧ OX.xs (Prod.snd i) = castsL (List.take (Prod.fst i) l) k v q op → bs (decide ((↑(Prod.fst i) : Int) < (↑(List.length l) : Int))) (∃ (l_1 : Nat), ∃ (r : Nat), a = some (Addr.mk l_1 r (some (5 : Nat))) ∧ (0 : Int) ≤ (↑(Prod.fst i) : Int) ∧ (↑(Prod.fst i) : Int) < (↑(List.length l) : Int) ∧ ∃ (x : Int), ∃ (x_1 : Int), ∃ (x_2 : Int), ∃ (x_3 : ByteArray), ∃ (x_4 : Int), AHeap.ld (OX.g (Prod.snd i)) l_1 (r + Int.toNat (↑(Prod.fst i) : Int)) (0 : Nat) (5 : Nat) = some [Value.int IntKind.i64 x, Value.int IntKind.i64 x_1, Value.int IntKind.i64 x_2, Value.string x_3, Value.int IntKind.i64 x_4] ∧ bs (decide (x = k)) (bs (decide (x_1 = v)) (bs (decide (x_2 = q)) (bs (decide (x_3 = op)) (∃ (xs : List (List Value)), rowsV (AHeap.push (OX.g (Prod.snd i)) (AObj.mk [[Value.int IntKind.i64 x_4]] (1 : Nat) true)) (Value.slice (some (Addr.mk (AHeap.n (OX.g (Prod.snd i))) (0 : Nat) (some (1 : Nat)))) (1 : Nat) (2 : Nat)) = some xs ∧ (List.all xs fun (row : List Value) => decide (List.length row = (1 : Nat)) && List.all row fun (v : Value) => match v with | Value.agg cells => false | Value.tuple cells => false | Value.complex k re im => false | Value.chan r => false | x => true) = true ∧ (List.length (OX.xs (Prod.snd i)) + List.length xs) * (8 : Nat) ≤ (140737488355328 : Nat) ∧ ∃ (a_2 : Option Addr), ∃ (n : Nat), ∃ (c_1 : Nat), ∃ (h' : AHeap), AHeap.app (AHeap.push (OX.g (Prod.snd i)) (AObj.mk [[Value.int IntKind.i64 x_4]] (1 : Nat) true)) (Value.slice (OX.a (Prod.snd i)) (List.length (OX.xs (Prod.snd i))) (OX.c (Prod.snd i))) xs (1 : Nat) = some (Value.slice a_2 n c_1, h') ∧ ∃ (j : Nat × OX Int), Value.int IntKind.i64 k = Value.int IntKind.i64 k ∧ Value.int IntKind.i64 v = Value.int IntKind.i64 v ∧ Value.int IntKind.i64 q = Value.int IntKind.i64 q ∧ Value.string op = Value.string op ∧ Value.slice a_2 n c_1 = Value.slice (OX.a (Prod.snd j)) (List.length (OX.xs (Prod.snd j))) (OX.c (Prod.snd j)) ∧ Value.slice a (List.length l) c = Value.slice a (List.length l) c ∧ Value.int IntKind.i64 (↑(List.length l) : Int) = Value.int IntKind.i64 (↑(List.length l) : Int) ∧ Value.int IntKind.i64 (IntKind.wrap IntKind.i64 ((↑(Prod.fst i) : Int) + (1 : Int))) = Value.int IntKind.i64 (↑(Prod.fst j) : Int) ∧ OX.g (Prod.snd j) = h' ∧ (Prod.fst j ≤ List.length l ∧ OXok Sh.int h (Prod.snd j) ∧ OX.xs (Prod.snd j) = castsL (List.take (Prod.fst j) l) k v q op) ∧ List.length l - Prod.fst j < List.length l - Prod.fst i ∧ (∀ (k_1 : OX Int), OXok Sh.int h k_1 ∧ OX.xs k_1 = castsL l k v q op → OXok Sh.int h k_1 ∧ OX.xs k_1 = castsL l k v q op) ∧ ∀ (v : Value) (h : AHeap), False → False) (∃ (j : Nat × OX Int), Value.int IntKind.i64 k = Value.int IntKind.i64 k ∧ Value.int IntKind.i64 v = Value.int IntKind.i64 v ∧ Value.int IntKind.i64 q = Value.int IntKind.i64 q ∧ Value.string op = Value.string op ∧ Value.slice (OX.a (Prod.snd i)) (List.length (OX.xs (Prod.snd i))) (OX.c (Prod.snd i)) = Value.slice (OX.a (Prod.snd j)) (List.length (OX.xs (Prod.snd j))) (OX.c (Prod.snd j)) ∧ Value.slice a (List.length l) c = Value.slice a (List.length l) c ∧ Value.int IntKind.i64 (↑(List.length l) : Int) = Value.int IntKind.i64 (↑(List.length l) : Int) ∧ Value.int IntKind.i64 (IntKind.wrap IntKind.i64 ((↑(Prod.fst i) : Int) + (1 : Int))) = Value.int IntKind.i64 (↑(Prod.fst j) : Int) ∧ OX.g (Prod.snd j) = OX.g (Prod.snd i) ∧ (Prod.fst j ≤ List.length l ∧ OXok Sh.int h (Prod.snd j) ∧ OX.xs (Prod.snd j) = castsL (List.take (Prod.fst j) l) k v q op) ∧ List.length l - Prod.fst j < List.length l - Prod.fst i ∧ (∀ (k_1 : OX Int), OXok Sh.int h k_1 ∧ OX.xs k_1 = castsL l k v q op → OXok Sh.int h k_1 ∧ OX.xs k_1 = castsL l k v q op) ∧ ∀ (v : Value) (h : AHeap), False → False)) (∃ (j : Nat × OX Int), Value.int IntKind.i64 k = Value.int IntKind.i64 k ∧ Value.int IntKind.i64 v = Value.int IntKind.i64 v ∧ Value.int IntKind.i64 q = Value.int IntKind.i64 q ∧ Value.string op = Value.string op ∧ Value.slice (OX.a (Prod.snd i)) (List.length (OX.xs (Prod.snd i))) (OX.c (Prod.snd i)) = Value.slice (OX.a (Prod.snd j)) (List.length (OX.xs (Prod.snd j))) (OX.c (Prod.snd j)) ∧ Value.slice a (List.length l) c = Value.slice a (List.length l) c ∧ Value.int IntKind.i64 (↑(List.length l) : Int) = Value.int IntKind.i64 (↑(List.length l) : Int) ∧ Value.int IntKind.i64 (IntKind.wrap IntKind.i64 ((↑(Prod.fst i) : Int) + (1 : Int))) = Value.int IntKind.i64 (↑(Prod.fst j) : Int) ∧ OX.g (Prod.snd j) = OX.g (Prod.snd i) ∧ (Prod.fst j ≤ List.length l ∧ OXok Sh.int h (Prod.snd j) ∧ OX.xs (Prod.snd j) = castsL (List.take (Prod.fst j) l) k v q op) ∧ List.length l - Prod.fst j < List.length l - Prod.fst i ∧ (∀ (k_1 : OX Int), OXok Sh.int h k_1 ∧ OX.xs k_1 = castsL l k v q op → OXok Sh.int h k_1 ∧ OX.xs k_1 = castsL l k v q op) ∧ ∀ (v : Value) (h : AHeap), False → False)) (∃ (j : Nat × OX Int), Value.int IntKind.i64 k = Value.int IntKind.i64 k ∧ Value.int IntKind.i64 v = Value.int IntKind.i64 v ∧ Value.int IntKind.i64 q = Value.int IntKind.i64 q ∧ Value.string op = Value.string op ∧ Value.slice (OX.a (Prod.snd i)) (List.length (OX.xs (Prod.snd i))) (OX.c (Prod.snd i)) = Value.slice (OX.a (Prod.snd j)) (List.length (OX.xs (Prod.snd j))) (OX.c (Prod.snd j)) ∧ Value.slice a (List.length l) c = Value.slice a (List.length l) c ∧ Value.int IntKind.i64 (↑(List.length l) : Int) = Value.int IntKind.i64 (↑(List.length l) : Int) ∧ Value.int IntKind.i64 (IntKind.wrap IntKind.i64 ((↑(Prod.fst i) : Int) + (1 : Int))) = Value.int IntKind.i64 (↑(Prod.fst j) : Int) ∧ OX.g (Prod.snd j) = OX.g (Prod.snd i) ∧ (Prod.fst j ≤ List.length l ∧ OXok Sh.int h (Prod.snd j) ∧ OX.xs (Prod.snd j) = castsL (List.take (Prod.fst j) l) k v q op) ∧ List.length l - Prod.fst j < List.length l - Prod.fst i ∧ (∀ (k_1 : OX Int), OXok Sh.int h k_1 ∧ OX.xs k_1 = castsL l k v q op → OXok Sh.int h k_1 ∧ OX.xs k_1 = castsL l k v q op) ∧ ∀ (v : Value) (h : AHeap), False → False)) (∃ (j : Nat × OX Int), Value.int IntKind.i64 k = Value.int IntKind.i64 k ∧ Value.int IntKind.i64 v = Value.int IntKind.i64 v ∧ Value.int IntKind.i64 q = Value.int IntKind.i64 q ∧ Value.string op = Value.string op ∧ Value.slice (OX.a (Prod.snd i)) (List.length (OX.xs (Prod.snd i))) (OX.c (Prod.snd i)) = Value.slice (OX.a (Prod.snd j)) (List.length (OX.xs (Prod.snd j))) (OX.c (Prod.snd j)) ∧ Value.slice a (List.length l) c = Value.slice a (List.length l) c ∧ Value.int IntKind.i64 (↑(List.length l) : Int) = Value.int IntKind.i64 (↑(List.length l) : Int) ∧ Value.int IntKind.i64 (IntKind.wrap IntKind.i64 ((↑(Prod.fst i) : Int) + (1 : Int))) = Value.int IntKind.i64 (↑(Prod.fst j) : Int) ∧ OX.g (Prod.snd j) = OX.g (Prod.snd i) ∧ (Prod.fst j ≤ List.length l ∧ OXok Sh.int h (Prod.snd j) ∧ OX.xs (Prod.snd j) = castsL (List.take (Prod.fst j) l) k v q op) ∧ List.length l - Prod.fst j < List.length l - Prod.fst i ∧ (∀ (k_1 : OX Int), OXok Sh.int h k_1 ∧ OX.xs k_1 = castsL l k v q op → OXok Sh.int h k_1 ∧ OX.xs k_1 = castsL l k v q op) ∧ ∀ (v : Value) (h : AHeap), False → False)) (∃ (j : OX Int), Value.slice (OX.a (Prod.snd i)) (List.length (OX.xs (Prod.snd i))) (OX.c (Prod.snd i)) = Value.slice (OX.a j) (List.length (OX.xs j)) (OX.c j) ∧ OX.g j = OX.g (Prod.snd i) ∧ OXok Sh.int h j ∧ OX.xs j = castsL l k v q op)) ∧ True ∧ (True ∧ True) ∧ (True ∧ True ∧ True ∧ True) ∧ True) ∧ True ∧ True ∧ True) = _) ?_
    simp only [true_and, and_true]
    refine fun ⟨i, o⟩ ⟨hi, B, hxs⟩ => ?_
    dsimp only at *
    refine bs_d (fun hlt => ?_) (fun hge => ⟨o, rfl, rfl, B, by rw [List.take_of_length_le (by omega)] at hxs; exact hxs⟩)
    obtain ⟨⟨k', v', q', op', f'⟩, hat⟩ : ∃ y : Int × Int × Int × ByteArray × Int, l[i]? = some y := ⟨_, List.getElem?_eq_getElem (by omega)⟩
    obtain ⟨lo, r, row, ha, _, hrd, hld⟩ := (hx.mono B.le).elem hat
    obtain rfl := rd_vote.1 hrd
    dsimp only at hld
    have ct := castsL_take (k := k) (v := v) (q := q) (op := op) hat
    have sk : ¬ (k' = k ∧ v' = v ∧ q' = q ∧ op' = op) → o.xs = castsL (l.take (i + 1)) k v q op := fun hne => by rw [ct, if_neg hne, List.append_nil]; exact hxs
    have hol : o.xs.length ≤ l.length := by
      rw [hxs]; unfold castsL
      exact Nat.le_trans (List.length_filterMap_le _ _) (by rw [List.length_take]; omega)
    refine ⟨lo, r, ha, Int.natCast_nonneg _, hlt, _, _, _, _, _, hld, bs_d (fun e1 => bs_d (fun e2 => bs_d (fun e3 => bs_d (fun e4 => ?_) (fun e => ?_)) (fun e => ?_)) (fun e => ?_)) (fun e => ?_)⟩
    · obtain ⟨o', e6, B', hx', _, _, _⟩ := B.app (x := f') (cs := [.int .i64 f']) (js := []) ⟨rfl, rfl⟩ .nil (by simp)
      refine ⟨[[.int .i64 f']], rowsV_push, rfl, by simp only [List.length_cons, List.length_nil]; omega, _, _, _, o'.g, e6, (i + 1, o'), rfl, by rw [wrap_i64 (by omega)]; rfl, rfl, ⟨by dsimp only; omega, B', ?_⟩, by dsimp only; omega, fun _ h => h, fun _ _ h => h⟩
      dsimp only
      rw [hx', ct, if_pos ⟨e1, e2, e3, e4⟩, hxs]
    · exact ⟨(i + 1, o), rfl, by rw [wrap_i64 (by omega)]; rfl, rfl, ⟨by dsimp only; omega, B, sk fun H => e H.2.2.2⟩, by dsimp only; omega, fun _ h => h, fun _ _ h => h⟩
    · exact ⟨(i + 1, o), rfl, by rw [wrap_i64 (by omega)]; rfl, rfl, ⟨by dsimp only; omega, B, sk fun H => e H.2.2.1⟩, by dsimp only; omega, fun _ h => h, fun _ _ h => h⟩
    · exact ⟨(i + 1, o), rfl, by rw [wrap_i64 (by omega)]; rfl, rfl, ⟨by dsimp only; omega, B, sk fun H => e H.2.1⟩, by dsimp only; omega, fun _ h => h, fun _ _ h => h⟩
    · exact ⟨(i + 1, o), rfl, by rw [wrap_i64 (by omega)]; rfl, rfl, ⟨by dsimp only; omega, B, sk fun H => e H.1⟩, by dsimp only; omega, fun _ h => h, fun _ _ h => h⟩
  refine vc_mp (by kernel_rfl : (∃ (i : Nat × OX Int), Value.int IntKind.i64 k = Value.int IntKind.i64 k ∧ Value.int IntKind.i64 v = Value.int IntKind.i64 v ∧ Value.int IntKind.i64 q = Value.int IntKind.i64 q ∧ Value.string op = Value.string op ∧ Value.slice none (0 : Nat) (0 : Nat) = Value.slice (OX.a (Prod.snd i)) (List.length (OX.xs (Prod.snd i))) (OX.c (Prod.snd i)) ∧ Value.slice a (List.length l) c = Value.slice a (List.length l) c ∧ Value.int IntKind.i64 (↑(List.length l) : Int) = Value.int IntKind.i64 (↑(List.length l) : Int) ∧ Value.int IntKind.i64 (0 : Int) = Value.int IntKind.i64 (↑(Prod.fst i) : Int) ∧ OX.g (Prod.snd i) = h ∧ (Prod.fst i ≤ List.length l ∧ OXok Sh.int h (Prod.snd i) ∧ OX.xs (Prod.snd i) = castsL (List.take (Prod.fst i) l) k v q op) ∧ (∀ (j : OX Int), OXok Sh.int h j ∧ OX.xs j = castsL l k v q op → ∃ (h' : AHeap), ACall Tryz.prog (173 : Nat) [Value.slice (OX.a j) (List.length (OX.xs j)) (OX.c j)] (OX.g j) (Value.tuple (Array.mk [])) h' ∧ Q (Value.slice (OX.a j) (List.length (OX.xs j)) (OX.c j)) h') ∧ ∀ (v : Value) (h : AHeap), False → Q v h) = _) ?_
  refine ⟨(0, ⟨none, 0, [], [], h⟩), rfl, rfl, rfl, rfl, rfl, rfl, rfl, rfl, rfl, ⟨Nat.zero_le _, OXok.nil hw, by unfold castsL; rfl⟩, fun o ⟨B, hxs⟩ => ?_, fun _ _ h => h.elim⟩
  have h4 := casts_len H k v q op
  rcases B.num with ⟨e1, e2, e3⟩ | ⟨lo, e1, hlo, hg, hc⟩
  · obtain ⟨a', c', xs', ids', g'⟩ := o
    dsimp only at *
    subst e1; subst e2; subst e3
    exact ⟨_, sortNum_nil _, HQ _ _ ⟨⟨none, 0, [], ids', g'⟩, rfl, rfl, B, casts_voters H (by rw [← hxs]) (fun p q a b _ h2 => by simp at h2)⟩⟩
  · rw [e1]
    obtain ⟨_, A, ys, rfl, hp, m, hm, ho⟩ := sortNum_spec o.g lo o.c o.xs (by rw [hxs]; omega) hg
    have hl := hp.length_eq
    refine ⟨_, A, HQ _ _ ⟨⟨some ⟨lo, 0, some 1⟩, o.c, ys, [lo], o.g.put lo (some (numO ys))⟩, by dsimp only; rw [hl], rfl, ?_, ?_⟩⟩
    · exact num_sob (B.le.put (hw lo hlo) _) (B.wf.put (B.wf.lt hg) _) hw hlo AHeap.get_put_eq (by rw [hl]; exact hc)
    · rw [hxs] at hp
      exact casts_voters H hp (fun p q a b h1 h2 => ho p q a b h1 (Nat.lt_of_lt_of_le h2 (by rw [hl]; exact hm)))
def ioL (h : AHeap) (a : Option Addr) (c : Nat) (l : List voteSh.T) (k v q : Int) : LSpec where
  ι := Nat × OX ByteArray
  κ := OX ByteArray
  I := fun i => i.1 ≤ l.length ∧ OXok Sh.str h i.2 ∧ i.2.xs = opsL (l.take i.1) k v q
  μ := fun i => l.length - i.1
  head := fun i => ⟨[(1, .int .i64 k), (2, .int .i64 v), (3, .int .i64 q), (9, .slice i.2.a i.2.xs.length i.2.c), (12, .slice a l.length c), (13, .int .i64 l.length), (14, .int .i64 i.1)], [], i.2.g⟩
  post := fun o => ⟨[(9, .slice o.a o.xs.length o.c)], [], o.g⟩
  R := fun _ o => OXok Sh.str h o ∧ o.xs = opsL l k v q
  ret := fun _ _ _ => False
def cmpL (h : AHeap) (lo c : Nat) (xs : List ByteArray) : Nat → LSpec
  | 0 => {
    ι := Nat
    κ := Unit
    I := fun k => 1 ≤ k ∧ k ≤ xs.length
    μ := fun k => xs.length - k
    head := fun k => ⟨[(0, .slice (some ⟨lo, 0, some 1⟩) xs.length c), (3, .int .i64 k)], [], h.put lo (some (txtO xs))⟩
    post := fun _ => ⟨[(0, .slice (some ⟨lo, 0, some 1⟩) xs.length c)], [], h.put lo (some (txtO xs))⟩
    R := fun _ _ => True
    ret := fun _ r g => ∃ ys m c', ys.length = xs.length ∧ m ≤ xs.length ∧ r = .slice (some ⟨lo, 0, some 1⟩) m c' ∧ g = h.put lo (some (txtO ys)) ∧ ∀ t, t ∈ ys.take m ↔ t ∈ xs }
  | _ => {
    ι := Nat × Nat × Nat × List ByteArray
    κ := Nat × List ByteArray
    I := fun i => CmpI xs i.1 i.2.1 i.2.2.1 i.2.2.2 ∧ 1 ≤ i.1
    μ := fun i => xs.length - i.1 - i.2.1
    head := fun i => ⟨[(0, .slice (some ⟨lo, 0, some 1⟩) xs.length c), (3, .int .i64 i.2.2.1), (4, .slice (some ⟨lo, i.1, some 1⟩) (xs.length - i.1) (bif decide (c = 0) then 0 else c - i.1)), (5, .int .i64 i.2.1)], [], h.put lo (some (txtO i.2.2.2))⟩
    post := fun i => ⟨[(0, .slice (some ⟨lo, 0, some 1⟩) xs.length c), (3, .int .i64 i.1)], [], h.put lo (some (txtO i.2))⟩
    R := fun _ i => i.1 ≤ xs.length ∧ i.2.length = xs.length ∧ ∀ t, t ∈ i.2.take i.1 ↔ t ∈ xs
    ret := fun _ _ _ => False }
theorem compact_spec (h : AHeap) (lo c : Nat) (xs : List ByteArray) (hn : xs.length ≤ 1048576) :
    ∃ r g, ACall Tryz.prog 172 [.slice (some ⟨lo, 0, some 1⟩) xs.length c] (h.put lo (some (txtO xs))) r g ∧ ∃ ys m c', ys.length = xs.length ∧ m ≤ xs.length ∧ r = .slice (some ⟨lo, 0, some 1⟩) m c' ∧ g = h.put lo (some (txtO ys)) ∧ ∀ t, t ∈ ys.take m ↔ t ∈ xs := by
  refine acall_q fun Q HQ => ?_
  refine acall_vc (fun _ => false) (fun r => match r with | 6 => [(0, 0, []), (1, 0, []), (2, 0, []), (4, 0, []), (5, 0, []), (6, 0, []), (7, 0, []), (3, 1, []), (8, 1, []), (9, 0, [])] | 11 => [(0, 0, []), (1, 0, []), (2, 0, []), (4, 0, []), (5, 0, []), (6, 0, []), (7, 0, []), (3, 1, []), (8, 1, []), (9, 0, [])] | _ => []) (cmpL h lo c xs) mixed Tryz.func172 rfl rfl rfl (Nat.le_of_ble_eq_true rfl) ?_ ?_
  · refine vc_mp (by kernel_rfl : (True ∧ (True ∧ (True ∧ True) ∧ True) ∧ (True ∧ (∀ (i : Nat), (1 : Nat) ≤ i ∧ i ≤ List.length xs → bs (decide ((↑i : Int) < (↑(List.length xs) : Int))) (∃ (l : Nat), ∃ (r : Nat), some (Addr.mk lo (0 : Nat) (some (1 : Nat))) = some (Addr.mk l r (some (1 : Nat))) ∧ (0 : Int) ≤ (↑i : Int) ∧ (↑i : Int) < (↑(List.length xs) : Int) ∧ ∃ (l_1 : Nat), ∃ (r_1 : Nat), some (Addr.mk lo (0 : Nat) (some (1 : Nat))) = some (Addr.mk l_1 r_1 (some (1 : Nat))) ∧ (0 : Int) ≤ IntKind.wrap IntKind.i64 ((↑i : Int) - (1 : Int)) ∧ IntKind.wrap IntKind.i64 ((↑i : Int) - (1 : Int)) < (↑(List.length xs) : Int) ∧ ∃ (x : ByteArray), AHeap.ld (AHeap.put h lo (some (txtO xs))) l (r + Int.toNat (↑i : Int)) (0 : Nat) (1 : Nat) = some [Value.string x] ∧ ∃ (x_1 : ByteArray), AHeap.ld (AHeap.put h lo (some (txtO xs))) l_1 (r_1 + Int.toNat (IntKind.wrap IntKind.i64 ((↑i : Int) - (1 : Int)))) (0 : Nat) (1 : Nat) = some [Value.string x_1] ∧ bs (decide (x = x_1)) ((0 : Int) ≤ (↑i : Int) ∧ (↑i : Int) ≤ (↑(List.length xs) : Int) ∧ ((↑(List.length xs) : Int) ≤ (↑(List.length xs) : Int) ∨ c ≠ (0 : Nat) ∧ (↑(List.length xs) : Int) < (↑c : Int)) ∧ (∀ (x : Addr), some (Addr.mk lo (0 : Nat) (some (1 : Nat))) = some x → Addr.spot x = some (1 : Nat)) ∧ ∃ (i_1 : Nat × Nat × Nat × List ByteArray), Value.slice (some (Addr.mk lo (0 : Nat) (some (1 : Nat)))) (List.length xs) c = Value.slice (some (Addr.mk lo (0 : Nat) (some (1 : Nat)))) (List.length xs) c ∧ Value.int IntKind.i64 (↑i : Int) = Value.int IntKind.i64 (↑(Prod.fst (Prod.snd (Prod.snd i_1))) : Int) ∧ Value.slice (some (Addr.mk lo ((0 : Nat) + Int.toNat (↑i : Int)) (some (1 : Nat)))) (Int.toNat (↑(List.length xs) : Int) - Int.toNat (↑i : Int)) (bif decide (c = (0 : Nat)) then (0 : Nat) else c - Int.toNat (↑i : Int)) = Value.slice (some (Addr.mk lo (Prod.fst i_1) (some (1 : Nat)))) (List.length xs - Prod.fst i_1) (bif decide (c = (0 : Nat)) then (0 : Nat) else c - Prod.fst i_1) ∧ Value.int IntKind.i64 (1 : Int) = Value.int IntKind.i64 (↑(Prod.fst (Prod.snd i_1)) : Int) ∧ AHeap.put h lo (some (txtO (Prod.snd (Prod.snd (Prod.snd i_1))))) = AHeap.put h lo (some (txtO xs)) ∧ (CmpI xs (Prod.fst i_1) (Prod.fst (Prod.snd i_1)) (Prod.fst (Prod.snd (Prod.snd i_1))) (Prod.snd (Prod.snd (Prod.snd i_1))) ∧ (1 : Nat) ≤ Prod.fst i_1) ∧ (∀ (j : Nat × List ByteArray), (Prod.fst j ≤ List.length xs ∧ List.length (Prod.snd j) = List.length xs ∧ ∀ (t : ByteArray), t ∈ List.take (Prod.fst j) (Prod.snd j) ↔ t ∈ xs) → (0 : Int) ≤ (↑(Prod.fst j) : Int) ∧ (↑(Prod.fst j) : Int) ≤ (↑(List.length xs) : Int) ∧ ((↑(List.length xs) : Int) ≤ (↑(List.length xs) : Int) ∨ c ≠ (0 : Nat) ∧ (↑(List.length xs) : Int) < (↑c : Int)) ∧ (∀ (x : Addr), some (Addr.mk lo (0 : Nat) (some (1 : Nat))) = some x → Addr.spot x = some (1 : Nat)) ∧ ∃ (h' : AHeap), AHeap.cpy (AHeap.put h lo (some (txtO (Prod.snd j)))) (some (Addr.mk lo ((0 : Nat) + Int.toNat (↑(Prod.fst j) : Int)) (some (1 : Nat)))) (1 : Nat) (List.replicate (Int.toNat (↑(List.length xs) : Int) - Int.toNat (↑(Prod.fst j) : Int)) [Value.string (ByteArray.mk (Array.mk []))]) = some h' ∧ (0 : Int) ≤ (0 : Int) ∧ (0 : Int) ≤ (↑(Prod.fst j) : Int) ∧ ((↑(Prod.fst j) : Int) ≤ (↑(List.length xs) : Int) ∨ c ≠ (0 : Nat) ∧ (↑(Prod.fst j) : Int) < (↑c : Int)) ∧ (∀ (x : Addr), some (Addr.mk lo (0 : Nat) (some (1 : Nat))) = some x → Addr.spot x = some (1 : Nat)) ∧ ∃ (ys : List ByteArray), ∃ (m : Nat), ∃ (c' : Nat), List.length ys = List.length xs ∧ m ≤ List.length xs ∧ Value.slice (some (Addr.mk lo ((0 : Nat) + Int.toNat (0 : Int)) (some (1 : Nat)))) (Int.toNat (↑(Prod.fst j) : Int) - Int.toNat (0 : Int)) (bif decide (c = (0 : Nat)) then (0 : Nat) else c - Int.toNat (0 : Int)) = Value.slice (some (Addr.mk lo (0 : Nat) (some (1 : Nat)))) m c' ∧ h' = AHeap.put h lo (some (txtO ys)) ∧ ∀ (t : ByteArray), t ∈ List.take m ys ↔ t ∈ xs) ∧ ∀ (v : Value) (h_1 : AHeap), False → ∃ (ys : List ByteArray), ∃ (m : Nat), ∃ (c' : Nat), List.length ys = List.length xs ∧ m ≤ List.length xs ∧ v = Value.slice (some (Addr.mk lo (0 : Nat) (some (1 : Nat)))) m c' ∧ h_1 = AHeap.put h lo (some (txtO ys)) ∧ ∀ (t : ByteArray), t ∈ List.take m ys ↔ t ∈ xs) (∃ (j : Nat), Value.slice (some (Addr.mk lo (0 : Nat) (some (1 : Nat)))) (List.length xs) c = Value.slice (some (Addr.mk lo (0 : Nat) (some (1 : Nat)))) (List.length xs) c ∧ Value.int IntKind.i64 (IntKind.wrap IntKind.i64 ((↑i : Int) + (1 : Int))) = Value.int IntKind.i64 (↑j : Int) ∧ AHeap.put h lo (some (txtO xs)) = AHeap.put h lo (some (txtO xs)) ∧ ((1 : Nat) ≤ j ∧ j ≤ List.length xs) ∧ List.length xs - j < List.length xs - i ∧ (∀ (k : Unit), True → True) ∧ ∀ (v : Value) (h_1 : AHeap), (∃ (ys : List ByteArray), ∃ (m : Nat), ∃ (c' : Nat), List.length ys = List.length xs ∧ m ≤ List.length xs ∧ v = Value.slice (some (Addr.mk lo (0 : Nat) (some (1 : Nat)))) m c' ∧ h_1 = AHeap.put h lo (some (txtO ys)) ∧ ∀ (t : ByteArray), t ∈ List.take m ys ↔ t ∈ xs) → ∃ (ys : List ByteArray), ∃ (m : Nat), ∃ (c' : Nat), List.length ys = List.length xs ∧ m ≤ List.length xs ∧ v = Value.slice (some (Addr.mk lo (0 : Nat) (some (1 : Nat)))) m c' ∧ h_1 = AHeap.put h lo (some (txtO ys)) ∧ ∀ (t : ByteArray), t ∈ List.take m ys ↔ t ∈ xs)) (∃ (j : Unit), Value.slice (some (Addr.mk lo (0 : Nat) (some (1 : Nat)))) (List.length xs) c = Value.slice (some (Addr.mk lo (0 : Nat) (some (1 : Nat)))) (List.length xs) c ∧ AHeap.put h lo (some (txtO xs)) = AHeap.put h lo (some (txtO xs)) ∧ True)) ∧ (True ∧ True ∧ True) ∧ (True ∧ (True ∧ (True ∧ (∀ (i : Nat × Nat × Nat × List ByteArray), CmpI xs (Prod.fst i) (Prod.fst (Prod.snd i)) (Prod.fst (Prod.snd (Prod.snd i))) (Prod.snd (Prod.snd (Prod.snd i))) ∧ (1 : Nat) ≤ Prod.fst i → bs (decide ((↑(Prod.fst (Prod.snd i)) : Int) < (↑(List.length xs - Prod.fst i) : Int))) (∃ (l : Nat), ∃ (r : Nat), some (Addr.mk lo (Prod.fst i) (some (1 : Nat))) = some (Addr.mk l r (some (1 : Nat))) ∧ (0 : Int) ≤ (↑(Prod.fst (Prod.snd i)) : Int) ∧ (↑(Prod.fst (Prod.snd i)) : Int) < (↑(List.length xs - Prod.fst i) : Int) ∧ ∃ (l_1 : Nat), ∃ (r_1 : Nat), some (Addr.mk lo (Prod.fst i) (some (1 : Nat))) = some (Addr.mk l_1 r_1 (some (1 : Nat))) ∧ (0 : Int) ≤ IntKind.wrap IntKind.i64 ((↑(Prod.fst (Prod.snd i)) : Int) - (1 : Int)) ∧ IntKind.wrap IntKind.i64 ((↑(Prod.fst (Prod.snd i)) : Int) - (1 : Int)) < (↑(List.length xs - Prod.fst i) : Int) ∧ ∃ (x : ByteArray), AHeap.ld (AHeap.put h lo (some (txtO (Prod.snd (Prod.snd (Prod.snd i)))))) l (r + Int.toNat (↑(Prod.fst (Prod.snd i)) : Int)) (0 : Nat) (1 : Nat) = some [Value.string x] ∧ ∃ (x_1 : ByteArray), AHeap.ld (AHeap.put h lo (some (txtO (Prod.snd (Prod.snd (Prod.snd i)))))) l_1 (r_1 + Int.toNat (IntKind.wrap IntKind.i64 ((↑(Prod.fst (Prod.snd i)) : Int) - (1 : Int)))) (0 : Nat) (1 : Nat) = some [Value.string x_1] ∧ bs (!decide (x = x_1)) (∃ (l : Nat), ∃ (r : Nat), some (Addr.mk lo (Prod.fst i) (some (1 : Nat))) = some (Addr.mk l r (some (1 : Nat))) ∧ (0 : Int) ≤ (↑(Prod.fst (Prod.snd i)) : Int) ∧ (↑(Prod.fst (Prod.snd i)) : Int) < (↑(List.length xs - Prod.fst i) : Int) ∧ ∃ (x : ByteArray), AHeap.ld (AHeap.put h lo (some (txtO (Prod.snd (Prod.snd (Prod.snd i)))))) l (r + Int.toNat (↑(Prod.fst (Prod.snd i)) : Int)) (0 : Nat) (1 : Nat) = some [Value.string x] ∧ ∃ (l : Nat), ∃ (r : Nat), some (Addr.mk lo (0 : Nat) (some (1 : Nat))) = some (Addr.mk l r (some (1 : Nat))) ∧ (0 : Int) ≤ (↑(Prod.fst (Prod.snd (Prod.snd i))) : Int) ∧ (↑(Prod.fst (Prod.snd (Prod.snd i))) : Int) < (↑(List.length xs) : Int) ∧ ∃ (h' : AHeap), AHeap.wr (AHeap.put h lo (some (txtO (Prod.snd (Prod.snd (Prod.snd i)))))) l (r + Int.toNat (↑(Prod.fst (Prod.snd (Prod.snd i))) : Int)) (0 : Nat) [Value.string x] = some h' ∧ ∃ (j : Nat × Nat × Nat × List ByteArray), Value.slice (some (Addr.mk lo (0 : Nat) (some (1 : Nat)))) (List.length xs) c = Value.slice (some (Addr.mk lo (0 : Nat) (some (1 : Nat)))) (List.length xs) c ∧ Value.int IntKind.i64 (IntKind.wrap IntKind.i64 ((↑(Prod.fst (Prod.snd (Prod.snd i))) : Int) + (1 : Int))) = Value.int IntKind.i64 (↑(Prod.fst (Prod.snd (Prod.snd j))) : Int) ∧ Value.slice (some (Addr.mk lo (Prod.fst i) (some (1 : Nat)))) (List.length xs - Prod.fst i) (bif decide (c = (0 : Nat)) then (0 : Nat) else c - Prod.fst i) = Value.slice (some (Addr.mk lo (Prod.fst j) (some (1 : Nat)))) (List.length xs - Prod.fst j) (bif decide (c = (0 : Nat)) then (0 : Nat) else c - Prod.fst j) ∧ Value.int IntKind.i64 (IntKind.wrap IntKind.i64 ((↑(Prod.fst (Prod.snd i)) : Int) + (1 : Int))) = Value.int IntKind.i64 (↑(Prod.fst (Prod.snd j)) : Int) ∧ AHeap.put h lo (some (txtO (Prod.snd (Prod.snd (Prod.snd j))))) = h' ∧ (CmpI xs (Prod.fst j) (Prod.fst (Prod.snd j)) (Prod.fst (Prod.snd (Prod.snd j))) (Prod.snd (Prod.snd (Prod.snd j))) ∧ (1 : Nat) ≤ Prod.fst j) ∧ List.length xs - Prod.fst j - Prod.fst (Prod.snd j) < List.length xs - Prod.fst i - Prod.fst (Prod.snd i) ∧ (∀ (k : Nat × List ByteArray), (Prod.fst k ≤ List.length xs ∧ List.length (Prod.snd k) = List.length xs ∧ ∀ (t : ByteArray), t ∈ List.take (Prod.fst k) (Prod.snd k) ↔ t ∈ xs) → Prod.fst k ≤ List.length xs ∧ List.length (Prod.snd k) = List.length xs ∧ ∀ (t : ByteArray), t ∈ List.take (Prod.fst k) (Prod.snd k) ↔ t ∈ xs) ∧ ∀ (v : Value) (h : AHeap), False → False) (∃ (j : Nat × Nat × Nat × List ByteArray), Value.slice (some (Addr.mk lo (0 : Nat) (some (1 : Nat)))) (List.length xs) c = Value.slice (some (Addr.mk lo (0 : Nat) (some (1 : Nat)))) (List.length xs) c ∧ Value.int IntKind.i64 (↑(Prod.fst (Prod.snd (Prod.snd i))) : Int) = Value.int IntKind.i64 (↑(Prod.fst (Prod.snd (Prod.snd j))) : Int) ∧ Value.slice (some (Addr.mk lo (Prod.fst i) (some (1 : Nat)))) (List.length xs - Prod.fst i) (bif decide (c = (0 : Nat)) then (0 : Nat) else c - Prod.fst i) = Value.slice (some (Addr.mk lo (Prod.fst j) (some (1 : Nat)))) (List.length xs - Prod.fst j) (bif decide (c = (0 : Nat)) then (0 : Nat) else c - Prod.fst j) ∧ Value.int IntKind.i64 (IntKind.wrap IntKind.i64 ((↑(Prod.fst (Prod.snd i)) : Int) + (1 : Int))) = Value.int IntKind.i64 (↑(Prod.fst (Prod.snd j)) : Int) ∧ AHeap.put h lo (some (txtO (Prod.snd (Prod.snd (Prod.snd j))))) = AHeap.put h lo (some (txtO (Prod.snd (Prod.snd (Prod.snd i))))) ∧ (CmpI xs (Prod.fst j) (Prod.fst (Prod.snd j)) (Prod.fst (Prod.snd (Prod.snd j))) (Prod.snd (Prod.snd (Prod.snd j))) ∧ (1 : Nat) ≤ Prod.fst j) ∧ List.length xs - Prod.fst j - Prod.fst (Prod.snd j) < List.length xs - Prod.fst i - Prod.fst (Prod.snd i) ∧ (∀ (k : Nat × List ByteArray), (Prod.fst k ≤ List.length xs ∧ List.length (Prod.snd k) = List.length xs ∧ ∀ (t : ByteArray), t ∈ List.take (Prod.fst k) (Prod.snd k) ↔ t ∈ xs) → Prod.fst k ≤ List.length xs ∧ List.length (Prod.snd k) = List.length xs ∧ ∀ (t : ByteArray), t ∈ List.take (Prod.fst k) (Prod.snd k) ↔ t ∈ xs) ∧ ∀ (v : Value) (h : AHeap), False → False)) (∃ (j : Nat × List ByteArray), Value.slice (some (Addr.mk lo (0 : Nat) (some (1 : Nat)))) (List.length xs) c = Value.slice (some (Addr.mk lo (0 : Nat) (some (1 : Nat)))) (List.length xs) c ∧ Value.int IntKind.i64 (↑(Prod.fst (Prod.snd (Prod.snd i))) : Int) = Value.int IntKind.i64 (↑(Prod.fst j) : Int) ∧ AHeap.put h lo (some (txtO (Prod.snd j))) = AHeap.put h lo (some (txtO (Prod.snd (Prod.snd (Prod.snd i))))) ∧ Prod.fst j ≤ List.length xs ∧ List.length (Prod.snd j) = List.length xs ∧ ∀ (t : ByteArray), t ∈ List.take (Prod.fst j) (Prod.snd j) ↔ t ∈ xs)) ∧ (True ∧ True ∧ True) ∧ (True ∧ (True ∧ True) ∧ True) ∧ True) ∧ True ∧ True ∧ True) ∧ True) ∧ True) ∧ True ∧ True) = _) ?_
    simp only [true_and, and_true]
    refine ⟨fun (k : Nat) ⟨hk1, hk2⟩ => ?_, fun ⟨k0, k2, k, ys⟩ ⟨I, hk0⟩ => ?_⟩
    · refine bs_d (fun hlt => ?_) (fun hge => ⟨(), trivial⟩)
      rw [wrap_pred (i := k) (by omega) (by omega)]
      obtain ⟨x, hx⟩ : ∃ y, xs[k]? = some y := ⟨_, List.getElem?_eq_getElem (by omega)⟩
      obtain ⟨y, hy⟩ : ∃ y, xs[k - 1]? = some y := ⟨_, List.getElem?_eq_getElem (by omega)⟩
      refine ⟨lo, 0, rfl, Int.natCast_nonneg _, hlt, lo, 0, rfl, Int.natCast_nonneg _, by omega, _, txt_ld hx, _, txt_ld hy, bs_d (fun e => ?_) (fun e => ⟨k + 1, by rw [wrap_i64 (by omega)]; rfl, ⟨by omega, by omega⟩, by omega, fun _ h => h, fun _ _ h => h⟩)⟩
      subst e
      simp only [Int.toNat_natCast, Nat.zero_add]
      refine ⟨by omega, by omega, .inl (Int.le_refl _), fun x hx => by cases hx; rfl, (k, 1, k, xs), rfl, rfl, rfl, rfl, ⟨CmpI.start hk1 hy hx, hk1⟩, fun ⟨m, ys⟩ ⟨hm, hl, hmem⟩ => ?_, fun _ _ h => h.elim⟩
      dsimp only at hm hl hmem ⊢
      refine ⟨by omega, by omega, .inl (Int.le_refl _), fun x hx => by cases hx; rfl, ?_⟩
      by_cases c0 : xs.length - m = 0
      · refine ⟨h.put lo (some (txtO ys)), (by rw [c0]; rfl), by omega, by omega, .inl (by omega), fun x hx => (by cases hx; rfl), ys, m, _, hl, hm, rfl, rfl, hmem⟩
      · have hw : (h.put lo (some (txtO ys))).cpy (some ⟨lo, m, some 1⟩) 1 (List.replicate (xs.length - m) [.string ⟨#[]⟩]) = some ((h.put lo (some (txtO ys))).put lo (some ⟨setRows (ys.map fun x => [Value.string x]) m (List.replicate (xs.length - m) [.string ⟨#[]⟩]), 1, true⟩)) :=
          cpy_set AHeap.get_put_eq (fun e => by rw [List.replicate_eq_nil_iff] at e; exact c0 e) (by simp; omega)
        have es : setRows (ys.map fun x => [Value.string x]) m (List.replicate (xs.length - m) [.string ⟨#[]⟩]) = (ys.take m ++ List.replicate (xs.length - m) (⟨#[]⟩ : ByteArray)).map fun x => [Value.string x] := by
          unfold setRows
          rw [List.map_append, List.map_take, List.map_replicate, List.drop_eq_nil_of_le (by simp; omega), List.append_nil]
        refine ⟨_, hw, by omega, by omega, .inl (by omega), fun x hx => by cases hx; rfl, ys.take m ++ List.replicate (xs.length - m) (⟨#[]⟩ : ByteArray), m, _, by simp; omega, hm, rfl, by rw [put2, es]; rfl, fun t => ?_⟩
        rw [List.take_append_of_le_length (by simp; omega), List.take_take, Nat.min_self]
        exact hmem t
    · dsimp only at *
      have i1 := I.hn
      have i2 := I.h2
      have i3 := I.hk
      have i4 := I.len
      have i5 := I.h0
      refine bs_d (fun hlt => ?_) (fun hge => ⟨(k, ys), rfl, rfl, by dsimp only; omega, I.len, fun t => ?_⟩)
      · rw [wrap_pred (i := k2) (by omega) (by omega)]
        obtain ⟨x, hx⟩ : ∃ y, xs[k0 + k2]? = some y := ⟨_, List.getElem?_eq_getElem (by omega)⟩
        obtain ⟨y, hy⟩ : ∃ y, xs[k0 + k2 - 1]? = some y := ⟨_, List.getElem?_eq_getElem (by omega)⟩
        have hx' := (I.same (k0 + k2) (by omega)).trans hx
        have hy' := (I.same (k0 + k2 - 1) (by omega)).trans hy
        have ldx : (h.put lo (some (txtO ys))).ld lo (k0 + ((k2 : Nat) : Int).toNat) 0 1 = some [.string x] := by
          rw [show k0 + ((k2 : Nat) : Int).toNat = 0 + ((k0 + k2 : Nat) : Int).toNat by omega]; exact txt_ld hx'
        have ldy : (h.put lo (some (txtO ys))).ld lo (k0 + ((k2 - 1 : Nat) : Int).toNat) 0 1 = some [.string y] := by
          rw [show k0 + ((k2 - 1 : Nat) : Int).toNat = 0 + ((k0 + k2 - 1 : Nat) : Int).toNat by omega]; exact txt_ld hy'
        refine ⟨lo, k0, rfl, Int.natCast_nonneg _, hlt, lo, k0, rfl, Int.natCast_nonneg _, by omega, _, ldx, _, ldy, bs_dn (fun e => ?_) (fun e => ?_)⟩
        · exact ⟨lo, k0, rfl, Int.natCast_nonneg _, hlt, _, ldx, lo, 0, rfl, Int.natCast_nonneg _, by omega, _, txt_wr x (by omega), (k0, k2 + 1, k + 1, ys.set k x), by rw [wrap_i64 (by omega)]; rfl, rfl, by rw [wrap_i64 (by omega)]; rfl, rfl, ⟨I.step hx, hk0⟩, by dsimp only; omega, fun _ h => h, fun _ _ h => h⟩
        · subst e
          exact ⟨(k0, k2 + 1, k, ys), rfl, rfl, by rw [wrap_i64 (by omega)]; rfl, rfl, ⟨I.same' hy hx, hk0⟩, by dsimp only; omega, fun _ h => h, fun _ _ h => h⟩
      · have := I.mem t
        rw [show k0 + k2 = xs.length by omega, List.take_of_length_le (Nat.le_refl _)] at this
        exact this
  refine vc_mp (by kernel_rfl : (bs (decide ((↑(List.length xs) : Int) < (2 : Int))) (Q (Value.slice (some (Addr.mk lo (0 : Nat) (some (1 : Nat)))) (List.length xs) c) (AHeap.put h lo (some (txtO xs)))) (∃ (i : Nat), Value.slice (some (Addr.mk lo (0 : Nat) (some (1 : Nat)))) (List.length xs) c = Value.slice (some (Addr.mk lo (0 : Nat) (some (1 : Nat)))) (List.length xs) c ∧ Value.int IntKind.i64 (1 : Int) = Value.int IntKind.i64 (↑i : Int) ∧ AHeap.put h lo (some (txtO xs)) = AHeap.put h lo (some (txtO xs)) ∧ ((1 : Nat) ≤ i ∧ i ≤ List.length xs) ∧ (∀ (j : Unit), True → Q (Value.slice (some (Addr.mk lo (0 : Nat) (some (1 : Nat)))) (List.length xs) c) (AHeap.put h lo (some (txtO xs)))) ∧ ∀ (v : Value) (h_1 : AHeap), (∃ (ys : List ByteArray), ∃ (m : Nat), ∃ (c' : Nat), List.length ys = List.length xs ∧ m ≤ List.length xs ∧ v = Value.slice (some (Addr.mk lo (0 : Nat) (some (1 : Nat)))) m c' ∧ h_1 = AHeap.put h lo (some (txtO ys)) ∧ ∀ (t : ByteArray), t ∈ List.take m ys ↔ t ∈ xs) → Q v h_1)) = _) ?_
  refine bs_d (fun e => HQ _ _ ⟨xs, xs.length, c, rfl, Nat.le_refl _, rfl, rfl, fun t => by rw [List.take_of_length_le (Nat.le_refl _)]⟩) (fun e => ?_)
  exact ⟨(1 : Nat), rfl, rfl, rfl, ⟨Nat.le_refl _, by omega⟩, fun _ _ => HQ _ _ ⟨xs, xs.length, c, rfl, Nat.le_refl _, rfl, rfl, fun t => by rw [List.take_of_length_le (Nat.le_refl _)]⟩, fun _ _ H => HQ _ _ H⟩
end Go.Proofs.YtpgfjadjhliohaaGreat
