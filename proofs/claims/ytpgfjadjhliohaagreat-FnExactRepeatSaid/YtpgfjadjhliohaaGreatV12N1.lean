/- N1. -/
import Derived.Test.YtpgfjadjhliohaaGreatV12R2
namespace Go.Dat
open Go.Abs
theorem len_le_sum {α : Type} {c : α → Nat} (hc : ∀ x, 1 ≤ c x) {xs : List α} : xs.length ≤ (xs.map c).sum := by
  induction xs with
  | nil => simp
  | cons x xs ih => have := hc x; simp only [List.length_cons, List.map_cons, List.sum_cons]; omega
end Go.Dat
namespace Go.Proofs.YtpgfjadjhliohaaGreat
open Go.Abs Go.Dat
set_option maxRecDepth 100000
set_option maxHeartbeats 4000000
theorem mkInt64S (h : AHeap) (hw : h.wf) (xs : List (Sh.T Sh.int)) (v : Value) (ids : List Nat) (so : So h Sh.int xs v ids) (nd : ids.Nodup) (k : Int) (hk : 0 ≤ k) (hb : (mrkL (Sh.mkd Sh.int) xs k).2 ≤ 1000000000000000) :
    ∃ w h', ACall Tryz.prog 141 [v, .int .i64 k] h w h' ∧ w = .int .i64 (mrkL (Sh.mkd Sh.int) xs k).2 ∧ h'.wf ∧ Out ids h h' ∧ So h' Sh.int (mrkL (Sh.mkd Sh.int) xs k).1 v ids := by
  have hn : (xs.length : Int) ≤ 1000000000000000 := by have := mrkL_cn (Sh.mkd_cn Sh.int) xs k; have := len_le_sum (c := Sh.cn Sh.int) (xs := xs) (fun x => by simp only [Sh.cn]; omega); omega
  obtain ⟨a, c, rfl⟩ := so.sl.isSlice
  refine acall_q fun Q HQ => ?_
  refine acall_vc (fun _ => false) (fun _ => []) (fun _ => mkLp Sh.int h xs k (.slice a xs.length c) ids) mixed Tryz.func141 rfl rfl rfl (Nat.le_of_ble_eq_true rfl) ?_ ?_
  · refine vc_mp (by kernel_rfl : (True ∧ (True ∧ (∀ (i : Nat × Int × AHeap × List (Sh.T Sh.int)), MkI Sh.int h xs k (Value.slice a (List.length xs) c) ids (Prod.fst i) (Prod.fst (Prod.snd i)) (Prod.fst (Prod.snd (Prod.snd i))) (Prod.snd (Prod.snd (Prod.snd i))) → bs (decide ((↑(Prod.fst i) : Int) < (↑(List.length xs) : Int))) (∃ (l : Nat), ∃ (r : Nat), a = some (Addr.mk l r (some (1 : Nat))) ∧ (0 : Int) ≤ (↑(Prod.fst i) : Int) ∧ (↑(Prod.fst i) : Int) < (↑(List.length xs) : Int) ∧ ∃ (h' : AHeap), AHeap.wr (Prod.fst (Prod.snd (Prod.snd i))) l (r + Int.toNat (↑(Prod.fst i) : Int)) (0 : Nat) [Value.int IntKind.i64 (Prod.fst (Prod.snd i))] = some h' ∧ ∃ (j : Nat × Int × AHeap × List (Sh.T Sh.int)), Value.slice a (List.length xs) c = Value.slice a (List.length xs) c ∧ Value.int IntKind.i64 (IntKind.wrap IntKind.i64 (Prod.fst (Prod.snd i) + (1 : Int))) = Value.int IntKind.i64 (Prod.fst (Prod.snd j)) ∧ Value.int IntKind.i64 (IntKind.wrap IntKind.i64 ((↑(Prod.fst i) : Int) + (1 : Int))) = Value.int IntKind.i64 (↑(Prod.fst j) : Int) ∧ Prod.fst (Prod.snd (Prod.snd j)) = h' ∧ MkI Sh.int h xs k (Value.slice a (List.length xs) c) ids (Prod.fst j) (Prod.fst (Prod.snd j)) (Prod.fst (Prod.snd (Prod.snd j))) (Prod.snd (Prod.snd (Prod.snd j))) ∧ List.length xs - Prod.fst j < List.length xs - Prod.fst i ∧ (∀ (k_1 : AHeap), AHeap.wf k_1 ∧ Out ids h k_1 ∧ So k_1 Sh.int (Prod.fst (mrkL (Sh.mkd Sh.int) xs k)) (Value.slice a (List.length xs) c) ids → AHeap.wf k_1 ∧ Out ids h k_1 ∧ So k_1 Sh.int (Prod.fst (mrkL (Sh.mkd Sh.int) xs k)) (Value.slice a (List.length xs) c) ids) ∧ ∀ (v : Value) (h : AHeap), False → False) (∃ (j : AHeap), Value.int IntKind.i64 (Prod.fst (Prod.snd i)) = Value.int IntKind.i64 (Prod.snd (mrkL (Sh.mkd Sh.int) xs k)) ∧ j = Prod.fst (Prod.snd (Prod.snd i)) ∧ AHeap.wf j ∧ Out ids h j ∧ So j Sh.int (Prod.fst (mrkL (Sh.mkd Sh.int) xs k)) (Value.slice a (List.length xs) c) ids)) ∧ (True ∧ True ∧ True) ∧ (True ∧ True) ∧ True) ∧ True ∧ True) = _) ?_
    simp only [true_and, and_true]
    rintro ⟨i, ki, g, ys⟩ I
    dsimp only at *
    have hi := I.hi
    have k0 := I.k0
    refine bs_d (fun hlt => ?_) (fun hge => ?_)
    · obtain ⟨x, hx⟩ : ∃ y : Sh.T Sh.int, xs[i]? = some y := ⟨_, List.getElem?_eq_getElem (by omega)⟩
      have bd : ki + 1 ≤ 1000000000000000 := I.bound hx hb
      obtain ⟨l, r, n', c', rows, cs, js, e, hin, E0, ro, hlj, ndj, hsub, fin⟩ := I.so.elem nd I.wf (I.at hx)
      cases e
      obtain ⟨rfl, rfl⟩ := ro
      obtain ⟨g1, w1, E1, o1⟩ := E0.wr 0 [.int .i64 (ki)] [.int .i64 (ki)] (Nat.le_of_ble_eq_true rfl) rfl
      refine ⟨l, r, rfl, Int.natCast_nonneg _, hlt, g1, w1, ?_⟩
      try rw [wrap_i64 (n := ki + 1) (by omega)]
      have so2 := fin _ _ (Sh.mkd Sh.int x ki).1 E1 (⟨rfl, rfl⟩)
      exact ⟨(i + 1, (Sh.mkd Sh.int x ki).2, _, ys.set i (Sh.mkd Sh.int x ki).1), rfl, by rw [wrap_i64 (by omega)] <;> rfl, rfl, I.step hx E1.wf (E1.out.widen hsub) so2, by dsimp only; omega, fun _ h => h, fun _ _ h => h⟩
    · obtain ⟨e1, e2⟩ := I.finish (by omega)
      exact ⟨g, by rw [e1], rfl, I.wf, I.out, e2⟩
  · refine vc_mp (by kernel_rfl : (∃ (i : Nat × Int × AHeap × List (Sh.T Sh.int)), Value.slice a (List.length xs) c = Value.slice a (List.length xs) c ∧ Value.int IntKind.i64 k = Value.int IntKind.i64 (Prod.fst (Prod.snd i)) ∧ Value.int IntKind.i64 (0 : Int) = Value.int IntKind.i64 (↑(Prod.fst i) : Int) ∧ Prod.fst (Prod.snd (Prod.snd i)) = h ∧ MkI Sh.int h xs k (Value.slice a (List.length xs) c) ids (Prod.fst i) (Prod.fst (Prod.snd i)) (Prod.fst (Prod.snd (Prod.snd i))) (Prod.snd (Prod.snd (Prod.snd i))) ∧ (∀ (j : AHeap), AHeap.wf j ∧ Out ids h j ∧ So j Sh.int (Prod.fst (mrkL (Sh.mkd Sh.int) xs k)) (Value.slice a (List.length xs) c) ids → Q (Value.int IntKind.i64 (Prod.snd (mrkL (Sh.mkd Sh.int) xs k))) j) ∧ ∀ (v : Value) (h : AHeap), False → Q v h) = _) ?_
    exact ⟨(0, k, h, xs), rfl, rfl, rfl, rfl, .start hw hk so, fun j hj => HQ _ _ ⟨rfl, hj⟩, fun _ _ h => h.elim⟩
theorem hdInt64S (h : AHeap) (hw : h.wf) (xs : List (Sh.T Sh.int)) (v : Value) (k : Int) (hx : Sl h Sh.int (mrkL (Sh.mkd Sh.int) xs k).1 v) (hk : 0 ≤ k) (hb : (mrkL (Sh.mkd Sh.int) xs k).2 ≤ 1000000000000000) :
    ∃ w h', ACall Tryz.prog 142 [v, .int .i64 k] h w h' ∧ w = .int .i64 (mrkL (Sh.mkd Sh.int) xs k).2 ∧ h'.wf ∧ h.Le h' := by
  have hn : (xs.length : Int) ≤ 1000000000000000 := by have := mrkL_cn (Sh.mkd_cn Sh.int) xs k; have := len_le_sum (c := Sh.cn Sh.int) (xs := xs) (fun x => by simp only [Sh.cn]; omega); omega
  obtain ⟨a, c, rfl⟩ := hx.isSlice
  rw [mrkL_len] at hx ⊢
  refine acall_q fun Q HQ => ?_
  refine acall_vc (fun _ => false) (fun _ => []) (fun _ => hdLp Sh.int h xs k (.slice a xs.length c)) mixed Tryz.func142 rfl rfl rfl (Nat.le_of_ble_eq_true rfl) ?_ ?_
  · refine vc_mp (by kernel_rfl : (True ∧ (True ∧ (∀ (i : Nat × Int × AHeap), HdI Sh.int h xs k (Prod.fst i) (Prod.fst (Prod.snd i)) (Prod.snd (Prod.snd i)) → bs (decide ((↑(Prod.fst i) : Int) < (↑(List.length xs) : Int))) (∃ (l : Nat), ∃ (r : Nat), a = some (Addr.mk l r (some (1 : Nat))) ∧ (0 : Int) ≤ (↑(Prod.fst i) : Int) ∧ (↑(Prod.fst i) : Int) < (↑(List.length xs) : Int) ∧ ∃ (x : Int), AHeap.ld (Prod.snd (Prod.snd i)) l (r + Int.toNat (↑(Prod.fst i) : Int)) (0 : Nat) (1 : Nat) = some [Value.int IntKind.i64 x] ∧ bs (!decide (x = Prod.fst (Prod.snd i))) False (∃ (j : Nat × Int × AHeap), Value.slice a (List.length xs) c = Value.slice a (List.length xs) c ∧ Value.int IntKind.i64 (IntKind.wrap IntKind.i64 (Prod.fst (Prod.snd i) + (1 : Int))) = Value.int IntKind.i64 (Prod.fst (Prod.snd j)) ∧ Value.int IntKind.i64 (IntKind.wrap IntKind.i64 ((↑(Prod.fst i) : Int) + (1 : Int))) = Value.int IntKind.i64 (↑(Prod.fst j) : Int) ∧ Prod.snd (Prod.snd j) = Prod.snd (Prod.snd i) ∧ HdI Sh.int h xs k (Prod.fst j) (Prod.fst (Prod.snd j)) (Prod.snd (Prod.snd j)) ∧ List.length xs - Prod.fst j < List.length xs - Prod.fst i ∧ (∀ (k : AHeap), AHeap.wf k ∧ AHeap.Le h k → AHeap.wf k ∧ AHeap.Le h k) ∧ ∀ (v : Value) (h : AHeap), False → False)) (∃ (j : AHeap), Value.int IntKind.i64 (Prod.fst (Prod.snd i)) = Value.int IntKind.i64 (Prod.snd (mrkL (Sh.mkd Sh.int) xs k)) ∧ j = Prod.snd (Prod.snd i) ∧ AHeap.wf j ∧ AHeap.Le h j)) ∧ (True ∧ True ∧ True) ∧ ((True ∧ (True ∧ True) ∧ True) ∧ True) ∧ True) ∧ True ∧ True) = _) ?_
    simp only [true_and, and_true]
    rintro ⟨i, ki, g⟩ I
    dsimp only at *
    have hi := I.hi
    have k0 := I.k0
    refine bs_d (fun hlt => ?_) (fun hge => ?_)
    · obtain ⟨x, hat⟩ : ∃ y : Sh.T Sh.int, xs[i]? = some y := ⟨_, List.getElem?_eq_getElem (by omega)⟩
      have bd : ki + 1 ≤ 1000000000000000 := I.bound hat hb
      obtain ⟨l, r, row, ha, _, hrd, hld⟩ := (hx.mono I.le).elem (I.at hat)
      obtain rfl : row = [.int .i64 ki] := hrd
      refine ⟨l, r, ha, Int.natCast_nonneg _, hlt, _, hld, bs_dn (fun e => absurd rfl e) (fun _ => ?_)⟩
      try rw [wrap_i64 (n := ki + 1) (by omega)]
      exact ⟨(i + 1, (Sh.mkd Sh.int x ki).2, _), rfl, by rw [wrap_i64 (by omega)] <;> rfl, rfl, I.step hat I.wf (.refl _), by dsimp only; omega, fun _ h => h, fun _ _ h => h⟩
    · exact ⟨g, by rw [I.finish (by omega)], rfl, I.wf, I.le⟩
  · refine vc_mp (by kernel_rfl : (∃ (i : Nat × Int × AHeap), Value.slice a (List.length xs) c = Value.slice a (List.length xs) c ∧ Value.int IntKind.i64 k = Value.int IntKind.i64 (Prod.fst (Prod.snd i)) ∧ Value.int IntKind.i64 (0 : Int) = Value.int IntKind.i64 (↑(Prod.fst i) : Int) ∧ Prod.snd (Prod.snd i) = h ∧ HdI Sh.int h xs k (Prod.fst i) (Prod.fst (Prod.snd i)) (Prod.snd (Prod.snd i)) ∧ (∀ (j : AHeap), AHeap.wf j ∧ AHeap.Le h j → Q (Value.int IntKind.i64 (Prod.snd (mrkL (Sh.mkd Sh.int) xs k))) j) ∧ ∀ (v : Value) (h : AHeap), False → Q v h) = _) ?_
    exact ⟨(0, k, h), rfl, rfl, rfl, rfl, .start hw hk, fun j hj => HQ _ _ ⟨rfl, hj⟩, fun _ _ h => h.elim⟩
theorem mkStringS (h : AHeap) (hw : h.wf) (xs : List (Sh.T Sh.str)) (v : Value) (ids : List Nat) (so : So h Sh.str xs v ids) (nd : ids.Nodup) (k : Int) (hk : 0 ≤ k) (hb : (mrkL (Sh.mkd Sh.str) xs k).2 ≤ 1000000000000000) :
    ∃ w h', ACall Tryz.prog 46 [v, .int .i64 k] h w h' ∧ w = .int .i64 (mrkL (Sh.mkd Sh.str) xs k).2 ∧ h'.wf ∧ Out ids h h' ∧ So h' Sh.str (mrkL (Sh.mkd Sh.str) xs k).1 v ids := by
  have hn : (xs.length : Int) ≤ 1000000000000000 := by have := mrkL_cn (Sh.mkd_cn Sh.str) xs k; have := len_le_sum (c := Sh.cn Sh.str) (xs := xs) (fun x => by simp only [Sh.cn]; omega); omega
  obtain ⟨a, c, rfl⟩ := so.sl.isSlice
  refine acall_q fun Q HQ => ?_
  refine acall_vc (fun _ => false) (fun _ => []) (fun _ => mkLp Sh.str h xs k (.slice a xs.length c) ids) mixed Tryz.func46 rfl rfl rfl (Nat.le_of_ble_eq_true rfl) ?_ ?_
  · refine vc_mp (by kernel_rfl : (True ∧ (True ∧ (∀ (i : Nat × Int × AHeap × List (Sh.T Sh.str)), MkI Sh.str h xs k (Value.slice a (List.length xs) c) ids (Prod.fst i) (Prod.fst (Prod.snd i)) (Prod.fst (Prod.snd (Prod.snd i))) (Prod.snd (Prod.snd (Prod.snd i))) → bs (decide ((↑(Prod.fst i) : Int) < (↑(List.length xs) : Int))) (∃ (x : ByteArray), ∃ (h' : AHeap), ACall Tryz.prog (47 : Nat) [Value.int IntKind.i64 (Prod.fst (Prod.snd i))] (Prod.fst (Prod.snd (Prod.snd i))) (Value.string x) h' ∧ ∃ (l : Nat), ∃ (r : Nat), a = some (Addr.mk l r (some (1 : Nat))) ∧ (0 : Int) ≤ (↑(Prod.fst i) : Int) ∧ (↑(Prod.fst i) : Int) < (↑(List.length xs) : Int) ∧ ∃ (h'_1 : AHeap), AHeap.wr h' l (r + Int.toNat (↑(Prod.fst i) : Int)) (0 : Nat) [Value.string x] = some h'_1 ∧ ∃ (j : Nat × Int × AHeap × List (Sh.T Sh.str)), Value.slice a (List.length xs) c = Value.slice a (List.length xs) c ∧ Value.int IntKind.i64 (IntKind.wrap IntKind.i64 (Prod.fst (Prod.snd i) + (1 : Int))) = Value.int IntKind.i64 (Prod.fst (Prod.snd j)) ∧ Value.int IntKind.i64 (IntKind.wrap IntKind.i64 ((↑(Prod.fst i) : Int) + (1 : Int))) = Value.int IntKind.i64 (↑(Prod.fst j) : Int) ∧ Prod.fst (Prod.snd (Prod.snd j)) = h'_1 ∧ MkI Sh.str h xs k (Value.slice a (List.length xs) c) ids (Prod.fst j) (Prod.fst (Prod.snd j)) (Prod.fst (Prod.snd (Prod.snd j))) (Prod.snd (Prod.snd (Prod.snd j))) ∧ List.length xs - Prod.fst j < List.length xs - Prod.fst i ∧ (∀ (k_1 : AHeap), AHeap.wf k_1 ∧ Out ids h k_1 ∧ So k_1 Sh.str (Prod.fst (mrkL (Sh.mkd Sh.str) xs k)) (Value.slice a (List.length xs) c) ids → AHeap.wf k_1 ∧ Out ids h k_1 ∧ So k_1 Sh.str (Prod.fst (mrkL (Sh.mkd Sh.str) xs k)) (Value.slice a (List.length xs) c) ids) ∧ ∀ (v : Value) (h : AHeap), False → False) (∃ (j : AHeap), Value.int IntKind.i64 (Prod.fst (Prod.snd i)) = Value.int IntKind.i64 (Prod.snd (mrkL (Sh.mkd Sh.str) xs k)) ∧ j = Prod.fst (Prod.snd (Prod.snd i)) ∧ AHeap.wf j ∧ Out ids h j ∧ So j Sh.str (Prod.fst (mrkL (Sh.mkd Sh.str) xs k)) (Value.slice a (List.length xs) c) ids)) ∧ (True ∧ True ∧ True) ∧ (True ∧ True) ∧ True) ∧ True ∧ True) = _) ?_
    simp only [true_and, and_true]
    rintro ⟨i, ki, g, ys⟩ I
    dsimp only at *
    have hi := I.hi
    have k0 := I.k0
    refine bs_d (fun hlt => ?_) (fun hge => ?_)
    · obtain ⟨x, hx⟩ : ∃ y : Sh.T Sh.str, xs[i]? = some y := ⟨_, List.getElem?_eq_getElem (by omega)⟩
      have bd : ki + 1 ≤ 1000000000000000 := I.bound hx hb
      obtain ⟨l, r, n', c', rows, cs, js, e, hin, E0, ro, hlj, ndj, hsub, fin⟩ := I.so.elem nd I.wf (I.at hx)
      cases e
      obtain ⟨rfl, rfl⟩ := ro
      obtain ⟨_, t1, A1, lt1, wt1, rfl⟩ := mt_spec (ki) _ E0.wf (by omega)
      have E0 := E0.le lt1 wt1
      obtain ⟨g1, w1, E1, o1⟩ := E0.wr 0 [.string (mtext (ki))] [.string (mtext (ki))] (Nat.le_of_ble_eq_true rfl) rfl
      refine ⟨_, _, A1, l, r, rfl, Int.natCast_nonneg _, hlt, g1, w1, ?_⟩
      try rw [wrap_i64 (n := ki + 1) (by omega)]
      have so2 := fin _ _ (Sh.mkd Sh.str x ki).1 E1 (⟨rfl, rfl⟩)
      exact ⟨(i + 1, (Sh.mkd Sh.str x ki).2, _, ys.set i (Sh.mkd Sh.str x ki).1), rfl, by rw [wrap_i64 (by omega)] <;> rfl, rfl, I.step hx E1.wf (E1.out.widen hsub) so2, by dsimp only; omega, fun _ h => h, fun _ _ h => h⟩
    · obtain ⟨e1, e2⟩ := I.finish (by omega)
      exact ⟨g, by rw [e1], rfl, I.wf, I.out, e2⟩
  · refine vc_mp (by kernel_rfl : (∃ (i : Nat × Int × AHeap × List (Sh.T Sh.str)), Value.slice a (List.length xs) c = Value.slice a (List.length xs) c ∧ Value.int IntKind.i64 k = Value.int IntKind.i64 (Prod.fst (Prod.snd i)) ∧ Value.int IntKind.i64 (0 : Int) = Value.int IntKind.i64 (↑(Prod.fst i) : Int) ∧ Prod.fst (Prod.snd (Prod.snd i)) = h ∧ MkI Sh.str h xs k (Value.slice a (List.length xs) c) ids (Prod.fst i) (Prod.fst (Prod.snd i)) (Prod.fst (Prod.snd (Prod.snd i))) (Prod.snd (Prod.snd (Prod.snd i))) ∧ (∀ (j : AHeap), AHeap.wf j ∧ Out ids h j ∧ So j Sh.str (Prod.fst (mrkL (Sh.mkd Sh.str) xs k)) (Value.slice a (List.length xs) c) ids → Q (Value.int IntKind.i64 (Prod.snd (mrkL (Sh.mkd Sh.str) xs k))) j) ∧ ∀ (v : Value) (h : AHeap), False → Q v h) = _) ?_
    exact ⟨(0, k, h, xs), rfl, rfl, rfl, rfl, .start hw hk so, fun j hj => HQ _ _ ⟨rfl, hj⟩, fun _ _ h => h.elim⟩
theorem mkProofS (h : AHeap) (hw : h.wf) (xs : List (Sh.T proofSh)) (v : Value) (ids : List Nat) (so : So h proofSh xs v ids) (nd : ids.Nodup) (k : Int) (hk : 0 ≤ k) (hb : (mrkL (Sh.mkd proofSh) xs k).2 ≤ 1000000000000000) :
    ∃ w h', ACall Tryz.prog 102 [v, .int .i64 k] h w h' ∧ w = .int .i64 (mrkL (Sh.mkd proofSh) xs k).2 ∧ h'.wf ∧ Out ids h h' ∧ So h' proofSh (mrkL (Sh.mkd proofSh) xs k).1 v ids := by
  have hn : (xs.length : Int) ≤ 1000000000000000 := by have := mrkL_cn (Sh.mkd_cn proofSh) xs k; have := len_le_sum (c := Sh.cn proofSh) (xs := xs) (fun x => by simp only [Sh.cn]; omega); omega
  obtain ⟨a, c, rfl⟩ := so.sl.isSlice
  refine acall_q fun Q HQ => ?_
  refine acall_vc (fun _ => false) (fun _ => []) (fun _ => mkLp proofSh h xs k (.slice a xs.length c) ids) mixed Tryz.func102 rfl rfl rfl (Nat.le_of_ble_eq_true rfl) ?_ ?_
  · refine vc_mp (by kernel_rfl : (True ∧ (True ∧ (∀ (i : Nat × Int × AHeap × List (Sh.T proofSh)), MkI proofSh h xs k (Value.slice a (List.length xs) c) ids (Prod.fst i) (Prod.fst (Prod.snd i)) (Prod.fst (Prod.snd (Prod.snd i))) (Prod.snd (Prod.snd (Prod.snd i))) → bs (decide ((↑(Prod.fst i) : Int) < (↑(List.length xs) : Int))) (∃ (l : Nat), ∃ (r : Nat), a = some (Addr.mk l r (some (4 : Nat))) ∧ (0 : Int) ≤ (↑(Prod.fst i) : Int) ∧ (↑(Prod.fst i) : Int) < (↑(List.length xs) : Int) ∧ ∃ (h' : AHeap), AHeap.wr (Prod.fst (Prod.snd (Prod.snd i))) l (r + Int.toNat (↑(Prod.fst i) : Int)) (0 : Nat) [Value.int IntKind.i64 (Prod.fst (Prod.snd i))] = some h' ∧ ∃ (l : Nat), ∃ (r : Nat), a = some (Addr.mk l r (some (4 : Nat))) ∧ (0 : Int) ≤ (↑(Prod.fst i) : Int) ∧ (↑(Prod.fst i) : Int) < (↑(List.length xs) : Int) ∧ ∃ (h'_1 : AHeap), AHeap.wr h' l (r + Int.toNat (↑(Prod.fst i) : Int)) (1 : Nat) [Value.int IntKind.i64 (IntKind.wrap IntKind.i64 (Prod.fst (Prod.snd i) + (1 : Int)))] = some h'_1 ∧ ∃ (x : ByteArray), ∃ (h' : AHeap), ACall Tryz.prog (47 : Nat) [Value.int IntKind.i64 (IntKind.wrap IntKind.i64 (IntKind.wrap IntKind.i64 (Prod.fst (Prod.snd i) + (1 : Int)) + (1 : Int)))] h'_1 (Value.string x) h' ∧ ∃ (l : Nat), ∃ (r : Nat), a = some (Addr.mk l r (some (4 : Nat))) ∧ (0 : Int) ≤ (↑(Prod.fst i) : Int) ∧ (↑(Prod.fst i) : Int) < (↑(List.length xs) : Int) ∧ ∃ (h'_2 : AHeap), AHeap.wr h' l (r + Int.toNat (↑(Prod.fst i) : Int)) (2 : Nat) [Value.string x] = some h'_2 ∧ ∃ (l : Nat), ∃ (r : Nat), a = some (Addr.mk l r (some (4 : Nat))) ∧ (0 : Int) ≤ (↑(Prod.fst i) : Int) ∧ (↑(Prod.fst i) : Int) < (↑(List.length xs) : Int) ∧ ∃ (a_2 : Option Addr), ∃ (n : Nat), ∃ (c_1 : Nat), AHeap.ld h'_2 l (r + Int.toNat (↑(Prod.fst i) : Int)) (3 : Nat) (1 : Nat) = some [Value.slice a_2 n c_1] ∧ ∃ (x : Int), ∃ (h' : AHeap), ACall Tryz.prog (141 : Nat) [Value.slice a_2 n c_1, Value.int IntKind.i64 (IntKind.wrap IntKind.i64 (IntKind.wrap IntKind.i64 (IntKind.wrap IntKind.i64 (Prod.fst (Prod.snd i) + (1 : Int)) + (1 : Int)) + (1 : Int)))] h'_2 (Value.int IntKind.i64 x) h' ∧ ∃ (j : Nat × Int × AHeap × List (Sh.T proofSh)), Value.slice a (List.length xs) c = Value.slice a (List.length xs) c ∧ Value.int IntKind.i64 x = Value.int IntKind.i64 (Prod.fst (Prod.snd j)) ∧ Value.int IntKind.i64 (IntKind.wrap IntKind.i64 ((↑(Prod.fst i) : Int) + (1 : Int))) = Value.int IntKind.i64 (↑(Prod.fst j) : Int) ∧ Prod.fst (Prod.snd (Prod.snd j)) = h' ∧ MkI proofSh h xs k (Value.slice a (List.length xs) c) ids (Prod.fst j) (Prod.fst (Prod.snd j)) (Prod.fst (Prod.snd (Prod.snd j))) (Prod.snd (Prod.snd (Prod.snd j))) ∧ List.length xs - Prod.fst j < List.length xs - Prod.fst i ∧ (∀ (k_1 : AHeap), AHeap.wf k_1 ∧ Out ids h k_1 ∧ So k_1 proofSh (Prod.fst (mrkL (Sh.mkd proofSh) xs k)) (Value.slice a (List.length xs) c) ids → AHeap.wf k_1 ∧ Out ids h k_1 ∧ So k_1 proofSh (Prod.fst (mrkL (Sh.mkd proofSh) xs k)) (Value.slice a (List.length xs) c) ids) ∧ ∀ (v : Value) (h : AHeap), False → False) (∃ (j : AHeap), Value.int IntKind.i64 (Prod.fst (Prod.snd i)) = Value.int IntKind.i64 (Prod.snd (mrkL (Sh.mkd proofSh) xs k)) ∧ j = Prod.fst (Prod.snd (Prod.snd i)) ∧ AHeap.wf j ∧ Out ids h j ∧ So j proofSh (Prod.fst (mrkL (Sh.mkd proofSh) xs k)) (Value.slice a (List.length xs) c) ids)) ∧ (True ∧ True ∧ True) ∧ (True ∧ True ∧ True ∧ True ∧ True ∧ True ∧ True) ∧ True) ∧ True ∧ True) = _) ?_
    simp only [true_and, and_true]
    rintro ⟨i, ki, g, ys⟩ I
    dsimp only at *
    have hi := I.hi
    have k0 := I.k0
    refine bs_d (fun hlt => ?_) (fun hge => ?_)
    · obtain ⟨x, hx⟩ : ∃ y : Sh.T proofSh, xs[i]? = some y := ⟨_, List.getElem?_eq_getElem (by omega)⟩
      have bd : (mrkL (Sh.mkd Sh.int) x.2.2.2 (ki + 1 + 1 + 1)).2 ≤ 1000000000000000 := I.bound hx hb
      obtain ⟨l, r, n', c', rows, cs, js, e, hin, E0, ro, hlj, ndj, hsub, fin⟩ := I.so.elem nd I.wf (I.at hx)
      cases e
      have q1 := Sh.mrkL_le Sh.int x.2.2.2 (ki + 1 + 1 + 1)
      obtain ⟨v1, j1, rfl, rfl, s1⟩ := ro_proof.1 ro
      obtain ⟨a1, c1, rfl⟩ := s1.sl.isSlice
      try simp only [List.mem_append, not_or, List.append_nil, List.nil_append, List.not_mem_nil, not_false_eq_true, true_and, and_true] at hlj
      try simp only [List.nodup_append, List.append_nil, List.nil_append, List.nodup_nil, List.not_mem_nil, List.mem_append, false_imp_iff, implies_true, true_and, and_true] at ndj
      obtain ⟨g1, w1, E1, o1⟩ := E0.wr 0 [.int .i64 (ki)] [.int .i64 (ki), .int .i64 x.2.1, .string x.2.2.1, _] (Nat.le_of_ble_eq_true rfl) rfl
      have s1 := s1.out o1 (nin1 hlj)
      refine ⟨l, r, rfl, Int.natCast_nonneg _, hlt, g1, w1, ?_⟩
      obtain ⟨g2, w2, E2, o2⟩ := E1.wr 1 [.int .i64 (ki + 1)] [.int .i64 (ki), .int .i64 (ki + 1), .string x.2.2.1, _] (Nat.le_of_ble_eq_true rfl) rfl
      have s1 := s1.out o2 (nin1 hlj)
      try rw [wrap_i64 (n := ki + 1) (by omega)]
      refine ⟨l, r, rfl, Int.natCast_nonneg _, hlt, g2, w2, ?_⟩
      obtain ⟨_, t1, A1, lt1, wt1, rfl⟩ := mt_spec (ki + 1 + 1) _ E2.wf (by omega)
      have E2 := E2.le lt1 wt1
      have s1 := So.le lt1 s1
      obtain ⟨g3, w3, E3, o3⟩ := E2.wr 2 [.string (mtext (ki + 1 + 1))] [.int .i64 (ki), .int .i64 (ki + 1), .string (mtext (ki + 1 + 1)), _] (Nat.le_of_ble_eq_true rfl) rfl
      have s1 := s1.out o3 (nin1 hlj)
      try rw [wrap_i64 (n := ki + 1 + 1) (by omega)]
      refine ⟨_, _, A1, l, r, rfl, Int.natCast_nonneg _, hlt, g3, w3, ?_⟩
      try rw [wrap_i64 (n := ki + 1 + 1 + 1) (by omega)]
      obtain ⟨_, t2, A2, rfl, wt2, ot2, s1⟩ := mkInt64S _ E3.wf x.2.2.2 _ _ s1 ndj (ki + 1 + 1 + 1) (by omega) (by omega)
      refine ⟨l, r, rfl, Int.natCast_nonneg _, hlt, _, _, _, E3.ld 3 1 (Nat.le_of_ble_eq_true rfl), _, _, A2, ?_⟩
      have F2' := E3.call ot2 wt2 hlj (by intro z hz; simp [hz])
      have so2 := fin _ _ (Sh.mkd proofSh x ki).1 F2' (ro_proof.2 ⟨_, _, rfl, rfl, s1⟩)
      exact ⟨(i + 1, (Sh.mkd proofSh x ki).2, _, ys.set i (Sh.mkd proofSh x ki).1), rfl, by rw [wrap_i64 (by omega)] <;> rfl, rfl, I.step hx F2'.wf (F2'.out.widen hsub) so2, by dsimp only; omega, fun _ h => h, fun _ _ h => h⟩
    · obtain ⟨e1, e2⟩ := I.finish (by omega)
      exact ⟨g, by rw [e1], rfl, I.wf, I.out, e2⟩
  · refine vc_mp (by kernel_rfl : (∃ (i : Nat × Int × AHeap × List (Sh.T proofSh)), Value.slice a (List.length xs) c = Value.slice a (List.length xs) c ∧ Value.int IntKind.i64 k = Value.int IntKind.i64 (Prod.fst (Prod.snd i)) ∧ Value.int IntKind.i64 (0 : Int) = Value.int IntKind.i64 (↑(Prod.fst i) : Int) ∧ Prod.fst (Prod.snd (Prod.snd i)) = h ∧ MkI proofSh h xs k (Value.slice a (List.length xs) c) ids (Prod.fst i) (Prod.fst (Prod.snd i)) (Prod.fst (Prod.snd (Prod.snd i))) (Prod.snd (Prod.snd (Prod.snd i))) ∧ (∀ (j : AHeap), AHeap.wf j ∧ Out ids h j ∧ So j proofSh (Prod.fst (mrkL (Sh.mkd proofSh) xs k)) (Value.slice a (List.length xs) c) ids → Q (Value.int IntKind.i64 (Prod.snd (mrkL (Sh.mkd proofSh) xs k))) j) ∧ ∀ (v : Value) (h : AHeap), False → Q v h) = _) ?_
    exact ⟨(0, k, h, xs), rfl, rfl, rfl, rfl, .start hw hk so, fun j hj => HQ _ _ ⟨rfl, hj⟩, fun _ _ h => h.elim⟩
theorem hdProofS (h : AHeap) (hw : h.wf) (xs : List (Sh.T proofSh)) (v : Value) (k : Int) (hx : Sl h proofSh (mrkL (Sh.mkd proofSh) xs k).1 v) (hk : 0 ≤ k) (hb : (mrkL (Sh.mkd proofSh) xs k).2 ≤ 1000000000000000) :
    ∃ w h', ACall Tryz.prog 103 [v, .int .i64 k] h w h' ∧ w = .int .i64 (mrkL (Sh.mkd proofSh) xs k).2 ∧ h'.wf ∧ h.Le h' := by
  have hn : (xs.length : Int) ≤ 1000000000000000 := by have := mrkL_cn (Sh.mkd_cn proofSh) xs k; have := len_le_sum (c := Sh.cn proofSh) (xs := xs) (fun x => by simp only [Sh.cn]; omega); omega
  obtain ⟨a, c, rfl⟩ := hx.isSlice
  rw [mrkL_len] at hx ⊢
  refine acall_q fun Q HQ => ?_
  refine acall_vc (fun _ => false) (fun r => match r with | 10 => [(0, 0, []), (1, 0, []), (2, 0, []), (3, 0, []), (5, 0, []), (4, 1, []), (6, 3, [4]), (7, 0, [])] | _ => []) (fun _ => hdLp proofSh h xs k (.slice a xs.length c)) mixed Tryz.func103 rfl rfl rfl (Nat.le_of_ble_eq_true rfl) ?_ ?_
  · refine vc_mp (by kernel_rfl : (True ∧ (True ∧ (∀ (i : Nat × Int × AHeap), HdI proofSh h xs k (Prod.fst i) (Prod.fst (Prod.snd i)) (Prod.snd (Prod.snd i)) → bs (decide ((↑(Prod.fst i) : Int) < (↑(List.length xs) : Int))) (∃ (l : Nat), ∃ (r : Nat), a = some (Addr.mk l r (some (4 : Nat))) ∧ (0 : Int) ≤ (↑(Prod.fst i) : Int) ∧ (↑(Prod.fst i) : Int) < (↑(List.length xs) : Int) ∧ ∃ (x : Int), AHeap.ld (Prod.snd (Prod.snd i)) l (r + Int.toNat (↑(Prod.fst i) : Int)) (0 : Nat) (1 : Nat) = some [Value.int IntKind.i64 x] ∧ bs (!decide (x = Prod.fst (Prod.snd i))) False (∃ (l : Nat), ∃ (r : Nat), a = some (Addr.mk l r (some (4 : Nat))) ∧ (0 : Int) ≤ (↑(Prod.fst i) : Int) ∧ (↑(Prod.fst i) : Int) < (↑(List.length xs) : Int) ∧ ∃ (x : Int), AHeap.ld (Prod.snd (Prod.snd i)) l (r + Int.toNat (↑(Prod.fst i) : Int)) (1 : Nat) (1 : Nat) = some [Value.int IntKind.i64 x] ∧ bs (!decide (x = IntKind.wrap IntKind.i64 (Prod.fst (Prod.snd i) + (1 : Int)))) False (∃ (l : Nat), ∃ (r : Nat), a = some (Addr.mk l r (some (4 : Nat))) ∧ (0 : Int) ≤ (↑(Prod.fst i) : Int) ∧ (↑(Prod.fst i) : Int) < (↑(List.length xs) : Int) ∧ ∃ (x : ByteArray), AHeap.ld (Prod.snd (Prod.snd i)) l (r + Int.toNat (↑(Prod.fst i) : Int)) (2 : Nat) (1 : Nat) = some [Value.string x] ∧ ∃ (x_1 : ByteArray), ∃ (h' : AHeap), ACall Tryz.prog (47 : Nat) [Value.int IntKind.i64 (IntKind.wrap IntKind.i64 (IntKind.wrap IntKind.i64 (Prod.fst (Prod.snd i) + (1 : Int)) + (1 : Int)))] (Prod.snd (Prod.snd i)) (Value.string x_1) h' ∧ (∃ (x_2 : ByteArray), AHeap.ld h' l (r + Int.toNat (↑(Prod.fst i) : Int)) (2 : Nat) (1 : Nat) = some [Value.string x_2] ∧ Value.string x_2 = Value.string x) ∧ bs (!decide (x = x_1)) False (∃ (l : Nat), ∃ (r : Nat), a = some (Addr.mk l r (some (4 : Nat))) ∧ (0 : Int) ≤ (↑(Prod.fst i) : Int) ∧ (↑(Prod.fst i) : Int) < (↑(List.length xs) : Int) ∧ ∃ (a_2 : Option Addr), ∃ (n : Nat), ∃ (c_1 : Nat), AHeap.ld h' l (r + Int.toNat (↑(Prod.fst i) : Int)) (3 : Nat) (1 : Nat) = some [Value.slice a_2 n c_1] ∧ ∃ (x : Int), ∃ (h'_1 : AHeap), ACall Tryz.prog (142 : Nat) [Value.slice a_2 n c_1, Value.int IntKind.i64 (IntKind.wrap IntKind.i64 (IntKind.wrap IntKind.i64 (IntKind.wrap IntKind.i64 (Prod.fst (Prod.snd i) + (1 : Int)) + (1 : Int)) + (1 : Int)))] h' (Value.int IntKind.i64 x) h'_1 ∧ bs (decide (x < (0 : Int))) False (∃ (j : Nat × Int × AHeap), Value.slice a (List.length xs) c = Value.slice a (List.length xs) c ∧ Value.int IntKind.i64 x = Value.int IntKind.i64 (Prod.fst (Prod.snd j)) ∧ Value.int IntKind.i64 (IntKind.wrap IntKind.i64 ((↑(Prod.fst i) : Int) + (1 : Int))) = Value.int IntKind.i64 (↑(Prod.fst j) : Int) ∧ Prod.snd (Prod.snd j) = h'_1 ∧ HdI proofSh h xs k (Prod.fst j) (Prod.fst (Prod.snd j)) (Prod.snd (Prod.snd j)) ∧ List.length xs - Prod.fst j < List.length xs - Prod.fst i ∧ (∀ (k : AHeap), AHeap.wf k ∧ AHeap.Le h k → AHeap.wf k ∧ AHeap.Le h k) ∧ ∀ (v : Value) (h : AHeap), False → False))))) (∃ (j : AHeap), Value.int IntKind.i64 (Prod.fst (Prod.snd i)) = Value.int IntKind.i64 (Prod.snd (mrkL (Sh.mkd proofSh) xs k)) ∧ j = Prod.snd (Prod.snd i) ∧ AHeap.wf j ∧ AHeap.Le h j)) ∧ (True ∧ True ∧ True) ∧ ((True ∧ (True ∧ True) ∧ True) ∧ True ∧ (True ∧ (True ∧ True) ∧ True) ∧ True ∧ (True ∧ (True ∧ True) ∧ True) ∧ True ∧ True ∧ True ∧ (True ∧ True) ∧ True) ∧ True) ∧ True ∧ True) = _) ?_
    simp only [true_and, and_true]
    rintro ⟨i, ki, g⟩ I
    dsimp only at *
    have hi := I.hi
    have k0 := I.k0
    refine bs_d (fun hlt => ?_) (fun hge => ?_)
    · obtain ⟨x, hat⟩ : ∃ y : Sh.T proofSh, xs[i]? = some y := ⟨_, List.getElem?_eq_getElem (by omega)⟩
      have bd : (mrkL (Sh.mkd Sh.int) x.2.2.2 (ki + 1 + 1 + 1)).2 ≤ 1000000000000000 := I.bound hat hb
      have q1 := Sh.mrkL_le Sh.int x.2.2.2 (ki + 1 + 1 + 1)
      obtain ⟨l, r, row, ha, _, hrd, hld⟩ := (hx.mono I.le).elem (I.at hat)
      obtain ⟨v1, rfl, s1⟩ := rd_proof.1 hrd
      have hld : g.ld l (r + i) 0 4 = some [.int .i64 (ki), .int .i64 (ki + 1), .string (mtext (ki + 1 + 1)), v1] := hld
      have s1 : Sl g Sh.int (mrkL (Sh.mkd Sh.int) x.2.2.2 (ki + 1 + 1 + 1)).1 v1 := s1
      obtain ⟨a1, c1, rfl⟩ := s1.isSlice
      refine ⟨l, r, ha, Int.natCast_nonneg _, hlt, _, ld_cells (k := 0) (m := 1) hld (Nat.le_of_ble_eq_true rfl), bs_dn (fun e => absurd rfl e) (fun _ => ?_)⟩
      try rw [wrap_i64 (n := ki + 1) (by omega)]
      refine ⟨l, r, ha, Int.natCast_nonneg _, hlt, _, ld_cells (k := 1) (m := 1) hld (Nat.le_of_ble_eq_true rfl), bs_dn (fun e => absurd rfl e) (fun _ => ?_)⟩
      try rw [wrap_i64 (n := ki + 1 + 1) (by omega)]
      obtain ⟨_, t1, A1, lt1, wt1, rfl⟩ := mt_spec (ki + 1 + 1) _ I.wf (by omega)
      refine ⟨l, r, ha, Int.natCast_nonneg _, hlt, _, ld_cells (k := 2) (m := 1) hld (Nat.le_of_ble_eq_true rfl), _, _, A1, ⟨_, lt1.ld (ld_cells (k := 2) (m := 1) hld (Nat.le_of_ble_eq_true rfl)), rfl⟩, bs_dn (fun e => absurd rfl e) (fun _ => ?_)⟩
      have hld := lt1.ld hld
      have s1 := s1.mono lt1
      try rw [wrap_i64 (n := ki + 1 + 1 + 1) (by omega)]
      obtain ⟨_, t2, A2, rfl, wt2, lt2⟩ := hdInt64S _ wt1 x.2.2.2 _ (ki + 1 + 1 + 1) s1 (by omega) (by omega)
      refine ⟨l, r, ha, Int.natCast_nonneg _, hlt, _, _, _, ld_cells (k := 3) (m := 1) hld (Nat.le_of_ble_eq_true rfl), _, _, A2, bs_d (fun e => absurd e (by omega)) (fun _ => ?_)⟩
      have hld := lt2.ld hld
      have s1 := s1.mono lt2
      exact ⟨(i + 1, (Sh.mkd proofSh x ki).2, _), rfl, by rw [wrap_i64 (by omega)] <;> rfl, rfl, I.step hat wt2 (lt1.trans lt2), by dsimp only; omega, fun _ h => h, fun _ _ h => h⟩
    · exact ⟨g, by rw [I.finish (by omega)], rfl, I.wf, I.le⟩
  · refine vc_mp (by kernel_rfl : (∃ (i : Nat × Int × AHeap), Value.slice a (List.length xs) c = Value.slice a (List.length xs) c ∧ Value.int IntKind.i64 k = Value.int IntKind.i64 (Prod.fst (Prod.snd i)) ∧ Value.int IntKind.i64 (0 : Int) = Value.int IntKind.i64 (↑(Prod.fst i) : Int) ∧ Prod.snd (Prod.snd i) = h ∧ HdI proofSh h xs k (Prod.fst i) (Prod.fst (Prod.snd i)) (Prod.snd (Prod.snd i)) ∧ (∀ (j : AHeap), AHeap.wf j ∧ AHeap.Le h j → Q (Value.int IntKind.i64 (Prod.snd (mrkL (Sh.mkd proofSh) xs k))) j) ∧ ∀ (v : Value) (h : AHeap), False → Q v h) = _) ?_
    exact ⟨(0, k, h), rfl, rfl, rfl, rfl, .start hw hk, fun j hj => HQ _ _ ⟨rfl, hj⟩, fun _ _ h => h.elim⟩
theorem mkChangeS (h : AHeap) (hw : h.wf) (xs : List (Sh.T changeSh)) (v : Value) (ids : List Nat) (so : So h changeSh xs v ids) (nd : ids.Nodup) (k : Int) (hk : 0 ≤ k) (hb : (mrkL (Sh.mkd changeSh) xs k).2 ≤ 1000000000000000) :
    ∃ w h', ACall Tryz.prog 45 [v, .int .i64 k] h w h' ∧ w = .int .i64 (mrkL (Sh.mkd changeSh) xs k).2 ∧ h'.wf ∧ Out ids h h' ∧ So h' changeSh (mrkL (Sh.mkd changeSh) xs k).1 v ids := by
  have hn : (xs.length : Int) ≤ 1000000000000000 := by have := mrkL_cn (Sh.mkd_cn changeSh) xs k; have := len_le_sum (c := Sh.cn changeSh) (xs := xs) (fun x => by simp only [Sh.cn]; omega); omega
  obtain ⟨a, c, rfl⟩ := so.sl.isSlice
  refine acall_q fun Q HQ => ?_
  refine acall_vc (fun _ => false) (fun _ => []) (fun _ => mkLp changeSh h xs k (.slice a xs.length c) ids) mixed Tryz.func45 rfl rfl rfl (Nat.le_of_ble_eq_true rfl) ?_ ?_
  · refine vc_mp (by kernel_rfl : (True ∧ (True ∧ (∀ (i : Nat × Int × AHeap × List (Sh.T changeSh)), MkI changeSh h xs k (Value.slice a (List.length xs) c) ids (Prod.fst i) (Prod.fst (Prod.snd i)) (Prod.fst (Prod.snd (Prod.snd i))) (Prod.snd (Prod.snd (Prod.snd i))) → bs (decide ((↑(Prod.fst i) : Int) < (↑(List.length xs) : Int))) (∃ (l : Nat), ∃ (r : Nat), a = some (Addr.mk l r (some (3 : Nat))) ∧ (0 : Int) ≤ (↑(Prod.fst i) : Int) ∧ (↑(Prod.fst i) : Int) < (↑(List.length xs) : Int) ∧ ∃ (h' : AHeap), AHeap.wr (Prod.fst (Prod.snd (Prod.snd i))) l (r + Int.toNat (↑(Prod.fst i) : Int)) (0 : Nat) [Value.int IntKind.i64 (Prod.fst (Prod.snd i))] = some h' ∧ ∃ (l : Nat), ∃ (r : Nat), a = some (Addr.mk l r (some (3 : Nat))) ∧ (0 : Int) ≤ (↑(Prod.fst i) : Int) ∧ (↑(Prod.fst i) : Int) < (↑(List.length xs) : Int) ∧ ∃ (h'_1 : AHeap), AHeap.wr h' l (r + Int.toNat (↑(Prod.fst i) : Int)) (1 : Nat) [Value.int IntKind.i64 (IntKind.wrap IntKind.i64 (Prod.fst (Prod.snd i) + (1 : Int)))] = some h'_1 ∧ ∃ (l : Nat), ∃ (r : Nat), a = some (Addr.mk l r (some (3 : Nat))) ∧ (0 : Int) ≤ (↑(Prod.fst i) : Int) ∧ (↑(Prod.fst i) : Int) < (↑(List.length xs) : Int) ∧ ∃ (a_2 : Option Addr), ∃ (n : Nat), ∃ (c_1 : Nat), AHeap.ld h'_1 l (r + Int.toNat (↑(Prod.fst i) : Int)) (2 : Nat) (1 : Nat) = some [Value.slice a_2 n c_1] ∧ ∃ (x : Int), ∃ (h' : AHeap), ACall Tryz.prog (102 : Nat) [Value.slice a_2 n c_1, Value.int IntKind.i64 (IntKind.wrap IntKind.i64 (IntKind.wrap IntKind.i64 (Prod.fst (Prod.snd i) + (1 : Int)) + (1 : Int)))] h'_1 (Value.int IntKind.i64 x) h' ∧ ∃ (j : Nat × Int × AHeap × List (Sh.T changeSh)), Value.slice a (List.length xs) c = Value.slice a (List.length xs) c ∧ Value.int IntKind.i64 x = Value.int IntKind.i64 (Prod.fst (Prod.snd j)) ∧ Value.int IntKind.i64 (IntKind.wrap IntKind.i64 ((↑(Prod.fst i) : Int) + (1 : Int))) = Value.int IntKind.i64 (↑(Prod.fst j) : Int) ∧ Prod.fst (Prod.snd (Prod.snd j)) = h' ∧ MkI changeSh h xs k (Value.slice a (List.length xs) c) ids (Prod.fst j) (Prod.fst (Prod.snd j)) (Prod.fst (Prod.snd (Prod.snd j))) (Prod.snd (Prod.snd (Prod.snd j))) ∧ List.length xs - Prod.fst j < List.length xs - Prod.fst i ∧ (∀ (k_1 : AHeap), AHeap.wf k_1 ∧ Out ids h k_1 ∧ So k_1 changeSh (Prod.fst (mrkL (Sh.mkd changeSh) xs k)) (Value.slice a (List.length xs) c) ids → AHeap.wf k_1 ∧ Out ids h k_1 ∧ So k_1 changeSh (Prod.fst (mrkL (Sh.mkd changeSh) xs k)) (Value.slice a (List.length xs) c) ids) ∧ ∀ (v : Value) (h : AHeap), False → False) (∃ (j : AHeap), Value.int IntKind.i64 (Prod.fst (Prod.snd i)) = Value.int IntKind.i64 (Prod.snd (mrkL (Sh.mkd changeSh) xs k)) ∧ j = Prod.fst (Prod.snd (Prod.snd i)) ∧ AHeap.wf j ∧ Out ids h j ∧ So j changeSh (Prod.fst (mrkL (Sh.mkd changeSh) xs k)) (Value.slice a (List.length xs) c) ids)) ∧ (True ∧ True ∧ True) ∧ (True ∧ True ∧ True ∧ True ∧ True) ∧ True) ∧ True ∧ True) = _) ?_
    simp only [true_and, and_true]
    rintro ⟨i, ki, g, ys⟩ I
    dsimp only at *
    have hi := I.hi
    have k0 := I.k0
    refine bs_d (fun hlt => ?_) (fun hge => ?_)
    · obtain ⟨x, hx⟩ : ∃ y : Sh.T changeSh, xs[i]? = some y := ⟨_, List.getElem?_eq_getElem (by omega)⟩
      have bd : (mrkL (Sh.mkd proofSh) x.2.2 (ki + 1 + 1)).2 ≤ 1000000000000000 := I.bound hx hb
      obtain ⟨l, r, n', c', rows, cs, js, e, hin, E0, ro, hlj, ndj, hsub, fin⟩ := I.so.elem nd I.wf (I.at hx)
      cases e
      have q1 := Sh.mrkL_le proofSh x.2.2 (ki + 1 + 1)
      obtain ⟨v1, j1, rfl, rfl, s1⟩ := ro_change.1 ro
      obtain ⟨a1, c1, rfl⟩ := s1.sl.isSlice
      try simp only [List.mem_append, not_or, List.append_nil, List.nil_append, List.not_mem_nil, not_false_eq_true, true_and, and_true] at hlj
      try simp only [List.nodup_append, List.append_nil, List.nil_append, List.nodup_nil, List.not_mem_nil, List.mem_append, false_imp_iff, implies_true, true_and, and_true] at ndj
      obtain ⟨g1, w1, E1, o1⟩ := E0.wr 0 [.int .i64 (ki)] [.int .i64 (ki), .int .i64 x.2.1, _] (Nat.le_of_ble_eq_true rfl) rfl
      have s1 := s1.out o1 (nin1 hlj)
      refine ⟨l, r, rfl, Int.natCast_nonneg _, hlt, g1, w1, ?_⟩
      obtain ⟨g2, w2, E2, o2⟩ := E1.wr 1 [.int .i64 (ki + 1)] [.int .i64 (ki), .int .i64 (ki + 1), _] (Nat.le_of_ble_eq_true rfl) rfl
      have s1 := s1.out o2 (nin1 hlj)
      try rw [wrap_i64 (n := ki + 1) (by omega)]
      refine ⟨l, r, rfl, Int.natCast_nonneg _, hlt, g2, w2, ?_⟩
      try rw [wrap_i64 (n := ki + 1 + 1) (by omega)]
      obtain ⟨_, t1, A1, rfl, wt1, ot1, s1⟩ := mkProofS _ E2.wf x.2.2 _ _ s1 ndj (ki + 1 + 1) (by omega) (by omega)
      refine ⟨l, r, rfl, Int.natCast_nonneg _, hlt, _, _, _, E2.ld 2 1 (Nat.le_of_ble_eq_true rfl), _, _, A1, ?_⟩
      have F1' := E2.call ot1 wt1 hlj (by intro z hz; simp [hz])
      have so2 := fin _ _ (Sh.mkd changeSh x ki).1 F1' (ro_change.2 ⟨_, _, rfl, rfl, s1⟩)
      exact ⟨(i + 1, (Sh.mkd changeSh x ki).2, _, ys.set i (Sh.mkd changeSh x ki).1), rfl, by rw [wrap_i64 (by omega)] <;> rfl, rfl, I.step hx F1'.wf (F1'.out.widen hsub) so2, by dsimp only; omega, fun _ h => h, fun _ _ h => h⟩
    · obtain ⟨e1, e2⟩ := I.finish (by omega)
      exact ⟨g, by rw [e1], rfl, I.wf, I.out, e2⟩
  · refine vc_mp (by kernel_rfl : (∃ (i : Nat × Int × AHeap × List (Sh.T changeSh)), Value.slice a (List.length xs) c = Value.slice a (List.length xs) c ∧ Value.int IntKind.i64 k = Value.int IntKind.i64 (Prod.fst (Prod.snd i)) ∧ Value.int IntKind.i64 (0 : Int) = Value.int IntKind.i64 (↑(Prod.fst i) : Int) ∧ Prod.fst (Prod.snd (Prod.snd i)) = h ∧ MkI changeSh h xs k (Value.slice a (List.length xs) c) ids (Prod.fst i) (Prod.fst (Prod.snd i)) (Prod.fst (Prod.snd (Prod.snd i))) (Prod.snd (Prod.snd (Prod.snd i))) ∧ (∀ (j : AHeap), AHeap.wf j ∧ Out ids h j ∧ So j changeSh (Prod.fst (mrkL (Sh.mkd changeSh) xs k)) (Value.slice a (List.length xs) c) ids → Q (Value.int IntKind.i64 (Prod.snd (mrkL (Sh.mkd changeSh) xs k))) j) ∧ ∀ (v : Value) (h : AHeap), False → Q v h) = _) ?_
    exact ⟨(0, k, h, xs), rfl, rfl, rfl, rfl, .start hw hk so, fun j hj => HQ _ _ ⟨rfl, hj⟩, fun _ _ h => h.elim⟩
theorem hdChangeS (h : AHeap) (hw : h.wf) (xs : List (Sh.T changeSh)) (v : Value) (k : Int) (hx : Sl h changeSh (mrkL (Sh.mkd changeSh) xs k).1 v) (hk : 0 ≤ k) (hb : (mrkL (Sh.mkd changeSh) xs k).2 ≤ 1000000000000000) :
    ∃ w h', ACall Tryz.prog 48 [v, .int .i64 k] h w h' ∧ w = .int .i64 (mrkL (Sh.mkd changeSh) xs k).2 ∧ h'.wf ∧ h.Le h' := by
  have hn : (xs.length : Int) ≤ 1000000000000000 := by have := mrkL_cn (Sh.mkd_cn changeSh) xs k; have := len_le_sum (c := Sh.cn changeSh) (xs := xs) (fun x => by simp only [Sh.cn]; omega); omega
  obtain ⟨a, c, rfl⟩ := hx.isSlice
  rw [mrkL_len] at hx ⊢
  refine acall_q fun Q HQ => ?_
  refine acall_vc (fun _ => false) (fun _ => []) (fun _ => hdLp changeSh h xs k (.slice a xs.length c)) mixed Tryz.func48 rfl rfl rfl (Nat.le_of_ble_eq_true rfl) ?_ ?_
  · refine vc_mp (by kernel_rfl : (True ∧ (True ∧ (∀ (i : Nat × Int × AHeap), HdI changeSh h xs k (Prod.fst i) (Prod.fst (Prod.snd i)) (Prod.snd (Prod.snd i)) → bs (decide ((↑(Prod.fst i) : Int) < (↑(List.length xs) : Int))) (∃ (l : Nat), ∃ (r : Nat), a = some (Addr.mk l r (some (3 : Nat))) ∧ (0 : Int) ≤ (↑(Prod.fst i) : Int) ∧ (↑(Prod.fst i) : Int) < (↑(List.length xs) : Int) ∧ ∃ (x : Int), AHeap.ld (Prod.snd (Prod.snd i)) l (r + Int.toNat (↑(Prod.fst i) : Int)) (0 : Nat) (1 : Nat) = some [Value.int IntKind.i64 x] ∧ bs (!decide (x = Prod.fst (Prod.snd i))) False (∃ (l : Nat), ∃ (r : Nat), a = some (Addr.mk l r (some (3 : Nat))) ∧ (0 : Int) ≤ (↑(Prod.fst i) : Int) ∧ (↑(Prod.fst i) : Int) < (↑(List.length xs) : Int) ∧ ∃ (x : Int), AHeap.ld (Prod.snd (Prod.snd i)) l (r + Int.toNat (↑(Prod.fst i) : Int)) (1 : Nat) (1 : Nat) = some [Value.int IntKind.i64 x] ∧ bs (!decide (x = IntKind.wrap IntKind.i64 (Prod.fst (Prod.snd i) + (1 : Int)))) False (∃ (l : Nat), ∃ (r : Nat), a = some (Addr.mk l r (some (3 : Nat))) ∧ (0 : Int) ≤ (↑(Prod.fst i) : Int) ∧ (↑(Prod.fst i) : Int) < (↑(List.length xs) : Int) ∧ ∃ (a_2 : Option Addr), ∃ (n : Nat), ∃ (c_1 : Nat), AHeap.ld (Prod.snd (Prod.snd i)) l (r + Int.toNat (↑(Prod.fst i) : Int)) (2 : Nat) (1 : Nat) = some [Value.slice a_2 n c_1] ∧ ∃ (x : Int), ∃ (h' : AHeap), ACall Tryz.prog (103 : Nat) [Value.slice a_2 n c_1, Value.int IntKind.i64 (IntKind.wrap IntKind.i64 (IntKind.wrap IntKind.i64 (Prod.fst (Prod.snd i) + (1 : Int)) + (1 : Int)))] (Prod.snd (Prod.snd i)) (Value.int IntKind.i64 x) h' ∧ bs (decide (x < (0 : Int))) False (∃ (j : Nat × Int × AHeap), Value.slice a (List.length xs) c = Value.slice a (List.length xs) c ∧ Value.int IntKind.i64 x = Value.int IntKind.i64 (Prod.fst (Prod.snd j)) ∧ Value.int IntKind.i64 (IntKind.wrap IntKind.i64 ((↑(Prod.fst i) : Int) + (1 : Int))) = Value.int IntKind.i64 (↑(Prod.fst j) : Int) ∧ Prod.snd (Prod.snd j) = h' ∧ HdI changeSh h xs k (Prod.fst j) (Prod.fst (Prod.snd j)) (Prod.snd (Prod.snd j)) ∧ List.length xs - Prod.fst j < List.length xs - Prod.fst i ∧ (∀ (k : AHeap), AHeap.wf k ∧ AHeap.Le h k → AHeap.wf k ∧ AHeap.Le h k) ∧ ∀ (v : Value) (h : AHeap), False → False)))) (∃ (j : AHeap), Value.int IntKind.i64 (Prod.fst (Prod.snd i)) = Value.int IntKind.i64 (Prod.snd (mrkL (Sh.mkd changeSh) xs k)) ∧ j = Prod.snd (Prod.snd i) ∧ AHeap.wf j ∧ AHeap.Le h j)) ∧ (True ∧ True ∧ True) ∧ ((True ∧ (True ∧ True) ∧ True) ∧ True ∧ (True ∧ (True ∧ True) ∧ True) ∧ True ∧ True ∧ True ∧ (True ∧ True) ∧ True) ∧ True) ∧ True ∧ True) = _) ?_
    simp only [true_and, and_true]
    rintro ⟨i, ki, g⟩ I
    dsimp only at *
    have hi := I.hi
    have k0 := I.k0
    refine bs_d (fun hlt => ?_) (fun hge => ?_)
    · obtain ⟨x, hat⟩ : ∃ y : Sh.T changeSh, xs[i]? = some y := ⟨_, List.getElem?_eq_getElem (by omega)⟩
      have bd : (mrkL (Sh.mkd proofSh) x.2.2 (ki + 1 + 1)).2 ≤ 1000000000000000 := I.bound hat hb
      have q1 := Sh.mrkL_le proofSh x.2.2 (ki + 1 + 1)
      obtain ⟨l, r, row, ha, _, hrd, hld⟩ := (hx.mono I.le).elem (I.at hat)
      obtain ⟨v1, rfl, s1⟩ := rd_change.1 hrd
      have hld : g.ld l (r + i) 0 3 = some [.int .i64 (ki), .int .i64 (ki + 1), v1] := hld
      have s1 : Sl g proofSh (mrkL (Sh.mkd proofSh) x.2.2 (ki + 1 + 1)).1 v1 := s1
      obtain ⟨a1, c1, rfl⟩ := s1.isSlice
      refine ⟨l, r, ha, Int.natCast_nonneg _, hlt, _, ld_cells (k := 0) (m := 1) hld (Nat.le_of_ble_eq_true rfl), bs_dn (fun e => absurd rfl e) (fun _ => ?_)⟩
      try rw [wrap_i64 (n := ki + 1) (by omega)]
      refine ⟨l, r, ha, Int.natCast_nonneg _, hlt, _, ld_cells (k := 1) (m := 1) hld (Nat.le_of_ble_eq_true rfl), bs_dn (fun e => absurd rfl e) (fun _ => ?_)⟩
      try rw [wrap_i64 (n := ki + 1 + 1) (by omega)]
      obtain ⟨_, t1, A1, rfl, wt1, lt1⟩ := hdProofS _ I.wf x.2.2 _ (ki + 1 + 1) s1 (by omega) (by omega)
      refine ⟨l, r, ha, Int.natCast_nonneg _, hlt, _, _, _, ld_cells (k := 2) (m := 1) hld (Nat.le_of_ble_eq_true rfl), _, _, A1, bs_d (fun e => absurd e (by omega)) (fun _ => ?_)⟩
      have hld := lt1.ld hld
      have s1 := s1.mono lt1
      exact ⟨(i + 1, (Sh.mkd changeSh x ki).2, _), rfl, by rw [wrap_i64 (by omega)] <;> rfl, rfl, I.step hat wt1 lt1, by dsimp only; omega, fun _ h => h, fun _ _ h => h⟩
    · exact ⟨g, by rw [I.finish (by omega)], rfl, I.wf, I.le⟩
  · refine vc_mp (by kernel_rfl : (∃ (i : Nat × Int × AHeap), Value.slice a (List.length xs) c = Value.slice a (List.length xs) c ∧ Value.int IntKind.i64 k = Value.int IntKind.i64 (Prod.fst (Prod.snd i)) ∧ Value.int IntKind.i64 (0 : Int) = Value.int IntKind.i64 (↑(Prod.fst i) : Int) ∧ Prod.snd (Prod.snd i) = h ∧ HdI changeSh h xs k (Prod.fst i) (Prod.fst (Prod.snd i)) (Prod.snd (Prod.snd i)) ∧ (∀ (j : AHeap), AHeap.wf j ∧ AHeap.Le h j → Q (Value.int IntKind.i64 (Prod.snd (mrkL (Sh.mkd changeSh) xs k))) j) ∧ ∀ (v : Value) (h : AHeap), False → Q v h) = _) ?_
    exact ⟨(0, k, h), rfl, rfl, rfl, rfl, .start hw hk, fun j hj => HQ _ _ ⟨rfl, hj⟩, fun _ _ h => h.elim⟩
theorem mkSayS (h : AHeap) (hw : h.wf) (xs : List (Sh.T saySh)) (v : Value) (ids : List Nat) (so : So h saySh xs v ids) (nd : ids.Nodup) (k : Int) (hk : 0 ≤ k) (hb : (mrkL (Sh.mkd saySh) xs k).2 ≤ 1000000000000000) :
    ∃ w h', ACall Tryz.prog 14 [v, .int .i64 k] h w h' ∧ w = .int .i64 (mrkL (Sh.mkd saySh) xs k).2 ∧ h'.wf ∧ Out ids h h' ∧ So h' saySh (mrkL (Sh.mkd saySh) xs k).1 v ids := by
  have hn : (xs.length : Int) ≤ 1000000000000000 := by have := mrkL_cn (Sh.mkd_cn saySh) xs k; have := len_le_sum (c := Sh.cn saySh) (xs := xs) (fun x => by simp only [Sh.cn]; omega); omega
  obtain ⟨a, c, rfl⟩ := so.sl.isSlice
  refine acall_q fun Q HQ => ?_
  refine acall_vc (fun _ => false) (fun _ => []) (fun _ => mkLp saySh h xs k (.slice a xs.length c) ids) mixed Tryz.func14 rfl rfl rfl (Nat.le_of_ble_eq_true rfl) ?_ ?_
  · refine vc_mp (by kernel_rfl : (True ∧ (True ∧ (∀ (i : Nat × Int × AHeap × List (Sh.T saySh)), MkI saySh h xs k (Value.slice a (List.length xs) c) ids (Prod.fst i) (Prod.fst (Prod.snd i)) (Prod.fst (Prod.snd (Prod.snd i))) (Prod.snd (Prod.snd (Prod.snd i))) → bs (decide ((↑(Prod.fst i) : Int) < (↑(List.length xs) : Int))) (∃ (l : Nat), ∃ (r : Nat), a = some (Addr.mk l r (some (6 : Nat))) ∧ (0 : Int) ≤ (↑(Prod.fst i) : Int) ∧ (↑(Prod.fst i) : Int) < (↑(List.length xs) : Int) ∧ ∃ (h' : AHeap), AHeap.wr (Prod.fst (Prod.snd (Prod.snd i))) l (r + Int.toNat (↑(Prod.fst i) : Int)) (0 : Nat) [Value.int IntKind.i64 (Prod.fst (Prod.snd i))] = some h' ∧ ∃ (l : Nat), ∃ (r : Nat), a = some (Addr.mk l r (some (6 : Nat))) ∧ (0 : Int) ≤ (↑(Prod.fst i) : Int) ∧ (↑(Prod.fst i) : Int) < (↑(List.length xs) : Int) ∧ ∃ (h'_1 : AHeap), AHeap.wr h' l (r + Int.toNat (↑(Prod.fst i) : Int)) (1 : Nat) [Value.int IntKind.i64 (IntKind.wrap IntKind.i64 (Prod.fst (Prod.snd i) + (1 : Int)))] = some h'_1 ∧ ∃ (l : Nat), ∃ (r : Nat), a = some (Addr.mk l r (some (6 : Nat))) ∧ (0 : Int) ≤ (↑(Prod.fst i) : Int) ∧ (↑(Prod.fst i) : Int) < (↑(List.length xs) : Int) ∧ ∃ (h' : AHeap), AHeap.wr h'_1 l (r + Int.toNat (↑(Prod.fst i) : Int)) (2 : Nat) [Value.int IntKind.i64 (IntKind.wrap IntKind.i64 (IntKind.wrap IntKind.i64 (Prod.fst (Prod.snd i) + (1 : Int)) + (1 : Int)))] = some h' ∧ ∃ (l : Nat), ∃ (r : Nat), a = some (Addr.mk l r (some (6 : Nat))) ∧ (0 : Int) ≤ (↑(Prod.fst i) : Int) ∧ (↑(Prod.fst i) : Int) < (↑(List.length xs) : Int) ∧ ∃ (h'_2 : AHeap), AHeap.wr h' l (r + Int.toNat (↑(Prod.fst i) : Int)) (3 : Nat) [Value.int IntKind.i64 (IntKind.wrap IntKind.i64 (IntKind.wrap IntKind.i64 (IntKind.wrap IntKind.i64 (Prod.fst (Prod.snd i) + (1 : Int)) + (1 : Int)) + (1 : Int)))] = some h'_2 ∧ ∃ (x : ByteArray), ∃ (h' : AHeap), ACall Tryz.prog (47 : Nat) [Value.int IntKind.i64 (IntKind.wrap IntKind.i64 (IntKind.wrap IntKind.i64 (IntKind.wrap IntKind.i64 (IntKind.wrap IntKind.i64 (Prod.fst (Prod.snd i) + (1 : Int)) + (1 : Int)) + (1 : Int)) + (1 : Int)))] h'_2 (Value.string x) h' ∧ ∃ (l : Nat), ∃ (r : Nat), a = some (Addr.mk l r (some (6 : Nat))) ∧ (0 : Int) ≤ (↑(Prod.fst i) : Int) ∧ (↑(Prod.fst i) : Int) < (↑(List.length xs) : Int) ∧ ∃ (h'_3 : AHeap), AHeap.wr h' l (r + Int.toNat (↑(Prod.fst i) : Int)) (4 : Nat) [Value.string x] = some h'_3 ∧ ∃ (l : Nat), ∃ (r : Nat), a = some (Addr.mk l r (some (6 : Nat))) ∧ (0 : Int) ≤ (↑(Prod.fst i) : Int) ∧ (↑(Prod.fst i) : Int) < (↑(List.length xs) : Int) ∧ ∃ (a_2 : Option Addr), ∃ (n : Nat), ∃ (c_1 : Nat), AHeap.ld h'_3 l (r + Int.toNat (↑(Prod.fst i) : Int)) (5 : Nat) (1 : Nat) = some [Value.slice a_2 n c_1] ∧ ∃ (x : Int), ∃ (h' : AHeap), ACall Tryz.prog (45 : Nat) [Value.slice a_2 n c_1, Value.int IntKind.i64 (IntKind.wrap IntKind.i64 (IntKind.wrap IntKind.i64 (IntKind.wrap IntKind.i64 (IntKind.wrap IntKind.i64 (IntKind.wrap IntKind.i64 (Prod.fst (Prod.snd i) + (1 : Int)) + (1 : Int)) + (1 : Int)) + (1 : Int)) + (1 : Int)))] h'_3 (Value.int IntKind.i64 x) h' ∧ ∃ (j : Nat × Int × AHeap × List (Sh.T saySh)), Value.slice a (List.length xs) c = Value.slice a (List.length xs) c ∧ Value.int IntKind.i64 x = Value.int IntKind.i64 (Prod.fst (Prod.snd j)) ∧ Value.int IntKind.i64 (IntKind.wrap IntKind.i64 ((↑(Prod.fst i) : Int) + (1 : Int))) = Value.int IntKind.i64 (↑(Prod.fst j) : Int) ∧ Prod.fst (Prod.snd (Prod.snd j)) = h' ∧ MkI saySh h xs k (Value.slice a (List.length xs) c) ids (Prod.fst j) (Prod.fst (Prod.snd j)) (Prod.fst (Prod.snd (Prod.snd j))) (Prod.snd (Prod.snd (Prod.snd j))) ∧ List.length xs - Prod.fst j < List.length xs - Prod.fst i ∧ (∀ (k_1 : AHeap), AHeap.wf k_1 ∧ Out ids h k_1 ∧ So k_1 saySh (Prod.fst (mrkL (Sh.mkd saySh) xs k)) (Value.slice a (List.length xs) c) ids → AHeap.wf k_1 ∧ Out ids h k_1 ∧ So k_1 saySh (Prod.fst (mrkL (Sh.mkd saySh) xs k)) (Value.slice a (List.length xs) c) ids) ∧ ∀ (v : Value) (h : AHeap), False → False) (∃ (j : AHeap), Value.int IntKind.i64 (Prod.fst (Prod.snd i)) = Value.int IntKind.i64 (Prod.snd (mrkL (Sh.mkd saySh) xs k)) ∧ j = Prod.fst (Prod.snd (Prod.snd i)) ∧ AHeap.wf j ∧ Out ids h j ∧ So j saySh (Prod.fst (mrkL (Sh.mkd saySh) xs k)) (Value.slice a (List.length xs) c) ids)) ∧ (True ∧ True ∧ True) ∧ (True ∧ True ∧ True ∧ True ∧ True ∧ True ∧ True ∧ True ∧ True ∧ True ∧ True) ∧ True) ∧ True ∧ True) = _) ?_
    simp only [true_and, and_true]
    rintro ⟨i, ki, g, ys⟩ I
    dsimp only at *
    have hi := I.hi
    have k0 := I.k0
    refine bs_d (fun hlt => ?_) (fun hge => ?_)
    · obtain ⟨x, hx⟩ : ∃ y : Sh.T saySh, xs[i]? = some y := ⟨_, List.getElem?_eq_getElem (by omega)⟩
      have bd : (mrkL (Sh.mkd changeSh) x.2.2.2.2.2 (ki + 1 + 1 + 1 + 1 + 1)).2 ≤ 1000000000000000 := I.bound hx hb
      obtain ⟨l, r, n', c', rows, cs, js, e, hin, E0, ro, hlj, ndj, hsub, fin⟩ := I.so.elem nd I.wf (I.at hx)
      cases e
      have q1 := Sh.mrkL_le changeSh x.2.2.2.2.2 (ki + 1 + 1 + 1 + 1 + 1)
      obtain ⟨v1, j1, rfl, rfl, s1⟩ := ro_say.1 ro
      obtain ⟨a1, c1, rfl⟩ := s1.sl.isSlice
      try simp only [List.mem_append, not_or, List.append_nil, List.nil_append, List.not_mem_nil, not_false_eq_true, true_and, and_true] at hlj
      try simp only [List.nodup_append, List.append_nil, List.nil_append, List.nodup_nil, List.not_mem_nil, List.mem_append, false_imp_iff, implies_true, true_and, and_true] at ndj
      obtain ⟨g1, w1, E1, o1⟩ := E0.wr 0 [.int .i64 (ki)] [.int .i64 (ki), .int .i64 x.2.1, .int .i64 x.2.2.1, .int .i64 x.2.2.2.1, .string x.2.2.2.2.1, _] (Nat.le_of_ble_eq_true rfl) rfl
      have s1 := s1.out o1 (nin1 hlj)
      refine ⟨l, r, rfl, Int.natCast_nonneg _, hlt, g1, w1, ?_⟩
      obtain ⟨g2, w2, E2, o2⟩ := E1.wr 1 [.int .i64 (ki + 1)] [.int .i64 (ki), .int .i64 (ki + 1), .int .i64 x.2.2.1, .int .i64 x.2.2.2.1, .string x.2.2.2.2.1, _] (Nat.le_of_ble_eq_true rfl) rfl
      have s1 := s1.out o2 (nin1 hlj)
      try rw [wrap_i64 (n := ki + 1) (by omega)]
      refine ⟨l, r, rfl, Int.natCast_nonneg _, hlt, g2, w2, ?_⟩
      obtain ⟨g3, w3, E3, o3⟩ := E2.wr 2 [.int .i64 (ki + 1 + 1)] [.int .i64 (ki), .int .i64 (ki + 1), .int .i64 (ki + 1 + 1), .int .i64 x.2.2.2.1, .string x.2.2.2.2.1, _] (Nat.le_of_ble_eq_true rfl) rfl
      have s1 := s1.out o3 (nin1 hlj)
      try rw [wrap_i64 (n := ki + 1 + 1) (by omega)]
      refine ⟨l, r, rfl, Int.natCast_nonneg _, hlt, g3, w3, ?_⟩
      obtain ⟨g4, w4, E4, o4⟩ := E3.wr 3 [.int .i64 (ki + 1 + 1 + 1)] [.int .i64 (ki), .int .i64 (ki + 1), .int .i64 (ki + 1 + 1), .int .i64 (ki + 1 + 1 + 1), .string x.2.2.2.2.1, _] (Nat.le_of_ble_eq_true rfl) rfl
      have s1 := s1.out o4 (nin1 hlj)
      try rw [wrap_i64 (n := ki + 1 + 1 + 1) (by omega)]
      refine ⟨l, r, rfl, Int.natCast_nonneg _, hlt, g4, w4, ?_⟩
      obtain ⟨_, t1, A1, lt1, wt1, rfl⟩ := mt_spec (ki + 1 + 1 + 1 + 1) _ E4.wf (by omega)
      have E4 := E4.le lt1 wt1
      have s1 := So.le lt1 s1
      obtain ⟨g5, w5, E5, o5⟩ := E4.wr 4 [.string (mtext (ki + 1 + 1 + 1 + 1))] [.int .i64 (ki), .int .i64 (ki + 1), .int .i64 (ki + 1 + 1), .int .i64 (ki + 1 + 1 + 1), .string (mtext (ki + 1 + 1 + 1 + 1)), _] (Nat.le_of_ble_eq_true rfl) rfl
      have s1 := s1.out o5 (nin1 hlj)
      try rw [wrap_i64 (n := ki + 1 + 1 + 1 + 1) (by omega)]
      refine ⟨_, _, A1, l, r, rfl, Int.natCast_nonneg _, hlt, g5, w5, ?_⟩
      try rw [wrap_i64 (n := ki + 1 + 1 + 1 + 1 + 1) (by omega)]
      obtain ⟨_, t2, A2, rfl, wt2, ot2, s1⟩ := mkChangeS _ E5.wf x.2.2.2.2.2 _ _ s1 ndj (ki + 1 + 1 + 1 + 1 + 1) (by omega) (by omega)
      refine ⟨l, r, rfl, Int.natCast_nonneg _, hlt, _, _, _, E5.ld 5 1 (Nat.le_of_ble_eq_true rfl), _, _, A2, ?_⟩
      have F2' := E5.call ot2 wt2 hlj (by intro z hz; simp [hz])
      have so2 := fin _ _ (Sh.mkd saySh x ki).1 F2' (ro_say.2 ⟨_, _, rfl, rfl, s1⟩)
      exact ⟨(i + 1, (Sh.mkd saySh x ki).2, _, ys.set i (Sh.mkd saySh x ki).1), rfl, by rw [wrap_i64 (by omega)] <;> rfl, rfl, I.step hx F2'.wf (F2'.out.widen hsub) so2, by dsimp only; omega, fun _ h => h, fun _ _ h => h⟩
    · obtain ⟨e1, e2⟩ := I.finish (by omega)
      exact ⟨g, by rw [e1], rfl, I.wf, I.out, e2⟩
  · refine vc_mp (by kernel_rfl : (∃ (i : Nat × Int × AHeap × List (Sh.T saySh)), Value.slice a (List.length xs) c = Value.slice a (List.length xs) c ∧ Value.int IntKind.i64 k = Value.int IntKind.i64 (Prod.fst (Prod.snd i)) ∧ Value.int IntKind.i64 (0 : Int) = Value.int IntKind.i64 (↑(Prod.fst i) : Int) ∧ Prod.fst (Prod.snd (Prod.snd i)) = h ∧ MkI saySh h xs k (Value.slice a (List.length xs) c) ids (Prod.fst i) (Prod.fst (Prod.snd i)) (Prod.fst (Prod.snd (Prod.snd i))) (Prod.snd (Prod.snd (Prod.snd i))) ∧ (∀ (j : AHeap), AHeap.wf j ∧ Out ids h j ∧ So j saySh (Prod.fst (mrkL (Sh.mkd saySh) xs k)) (Value.slice a (List.length xs) c) ids → Q (Value.int IntKind.i64 (Prod.snd (mrkL (Sh.mkd saySh) xs k))) j) ∧ ∀ (v : Value) (h : AHeap), False → Q v h) = _) ?_
    exact ⟨(0, k, h, xs), rfl, rfl, rfl, rfl, .start hw hk so, fun j hj => HQ _ _ ⟨rfl, hj⟩, fun _ _ h => h.elim⟩
theorem hdSayS (h : AHeap) (hw : h.wf) (xs : List (Sh.T saySh)) (v : Value) (k : Int) (hx : Sl h saySh (mrkL (Sh.mkd saySh) xs k).1 v) (hk : 0 ≤ k) (hb : (mrkL (Sh.mkd saySh) xs k).2 ≤ 1000000000000000) :
    ∃ w h', ACall Tryz.prog 15 [v, .int .i64 k] h w h' ∧ w = .int .i64 (mrkL (Sh.mkd saySh) xs k).2 ∧ h'.wf ∧ h.Le h' := by
  have hn : (xs.length : Int) ≤ 1000000000000000 := by have := mrkL_cn (Sh.mkd_cn saySh) xs k; have := len_le_sum (c := Sh.cn saySh) (xs := xs) (fun x => by simp only [Sh.cn]; omega); omega
  obtain ⟨a, c, rfl⟩ := hx.isSlice
  rw [mrkL_len] at hx ⊢
  refine acall_q fun Q HQ => ?_
  refine acall_vc (fun _ => false) (fun r => match r with | 16 => [(0, 0, []), (1, 0, []), (2, 0, []), (3, 0, []), (5, 0, []), (4, 1, []), (6, 3, [4]), (7, 0, [])] | _ => []) (fun _ => hdLp saySh h xs k (.slice a xs.length c)) mixed Tryz.func15 rfl rfl rfl (Nat.le_of_ble_eq_true rfl) ?_ ?_
  · refine vc_mp (by kernel_rfl : (True ∧ (True ∧ (∀ (i : Nat × Int × AHeap), HdI saySh h xs k (Prod.fst i) (Prod.fst (Prod.snd i)) (Prod.snd (Prod.snd i)) → bs (decide ((↑(Prod.fst i) : Int) < (↑(List.length xs) : Int))) (∃ (l : Nat), ∃ (r : Nat), a = some (Addr.mk l r (some (6 : Nat))) ∧ (0 : Int) ≤ (↑(Prod.fst i) : Int) ∧ (↑(Prod.fst i) : Int) < (↑(List.length xs) : Int) ∧ ∃ (x : Int), AHeap.ld (Prod.snd (Prod.snd i)) l (r + Int.toNat (↑(Prod.fst i) : Int)) (0 : Nat) (1 : Nat) = some [Value.int IntKind.i64 x] ∧ bs (!decide (x = Prod.fst (Prod.snd i))) False (∃ (l : Nat), ∃ (r : Nat), a = some (Addr.mk l r (some (6 : Nat))) ∧ (0 : Int) ≤ (↑(Prod.fst i) : Int) ∧ (↑(Prod.fst i) : Int) < (↑(List.length xs) : Int) ∧ ∃ (x : Int), AHeap.ld (Prod.snd (Prod.snd i)) l (r + Int.toNat (↑(Prod.fst i) : Int)) (1 : Nat) (1 : Nat) = some [Value.int IntKind.i64 x] ∧ bs (!decide (x = IntKind.wrap IntKind.i64 (Prod.fst (Prod.snd i) + (1 : Int)))) False (∃ (l : Nat), ∃ (r : Nat), a = some (Addr.mk l r (some (6 : Nat))) ∧ (0 : Int) ≤ (↑(Prod.fst i) : Int) ∧ (↑(Prod.fst i) : Int) < (↑(List.length xs) : Int) ∧ ∃ (x : Int), AHeap.ld (Prod.snd (Prod.snd i)) l (r + Int.toNat (↑(Prod.fst i) : Int)) (2 : Nat) (1 : Nat) = some [Value.int IntKind.i64 x] ∧ bs (!decide (x = IntKind.wrap IntKind.i64 (IntKind.wrap IntKind.i64 (Prod.fst (Prod.snd i) + (1 : Int)) + (1 : Int)))) False (∃ (l : Nat), ∃ (r : Nat), a = some (Addr.mk l r (some (6 : Nat))) ∧ (0 : Int) ≤ (↑(Prod.fst i) : Int) ∧ (↑(Prod.fst i) : Int) < (↑(List.length xs) : Int) ∧ ∃ (x : Int), AHeap.ld (Prod.snd (Prod.snd i)) l (r + Int.toNat (↑(Prod.fst i) : Int)) (3 : Nat) (1 : Nat) = some [Value.int IntKind.i64 x] ∧ bs (!decide (x = IntKind.wrap IntKind.i64 (IntKind.wrap IntKind.i64 (IntKind.wrap IntKind.i64 (Prod.fst (Prod.snd i) + (1 : Int)) + (1 : Int)) + (1 : Int)))) False (∃ (l : Nat), ∃ (r : Nat), a = some (Addr.mk l r (some (6 : Nat))) ∧ (0 : Int) ≤ (↑(Prod.fst i) : Int) ∧ (↑(Prod.fst i) : Int) < (↑(List.length xs) : Int) ∧ ∃ (x : ByteArray), AHeap.ld (Prod.snd (Prod.snd i)) l (r + Int.toNat (↑(Prod.fst i) : Int)) (4 : Nat) (1 : Nat) = some [Value.string x] ∧ ∃ (x_1 : ByteArray), ∃ (h' : AHeap), ACall Tryz.prog (47 : Nat) [Value.int IntKind.i64 (IntKind.wrap IntKind.i64 (IntKind.wrap IntKind.i64 (IntKind.wrap IntKind.i64 (IntKind.wrap IntKind.i64 (Prod.fst (Prod.snd i) + (1 : Int)) + (1 : Int)) + (1 : Int)) + (1 : Int)))] (Prod.snd (Prod.snd i)) (Value.string x_1) h' ∧ (∃ (x_2 : ByteArray), AHeap.ld h' l (r + Int.toNat (↑(Prod.fst i) : Int)) (4 : Nat) (1 : Nat) = some [Value.string x_2] ∧ Value.string x_2 = Value.string x) ∧ bs (!decide (x = x_1)) False (∃ (l : Nat), ∃ (r : Nat), a = some (Addr.mk l r (some (6 : Nat))) ∧ (0 : Int) ≤ (↑(Prod.fst i) : Int) ∧ (↑(Prod.fst i) : Int) < (↑(List.length xs) : Int) ∧ ∃ (a_2 : Option Addr), ∃ (n : Nat), ∃ (c_1 : Nat), AHeap.ld h' l (r + Int.toNat (↑(Prod.fst i) : Int)) (5 : Nat) (1 : Nat) = some [Value.slice a_2 n c_1] ∧ ∃ (x : Int), ∃ (h'_1 : AHeap), ACall Tryz.prog (48 : Nat) [Value.slice a_2 n c_1, Value.int IntKind.i64 (IntKind.wrap IntKind.i64 (IntKind.wrap IntKind.i64 (IntKind.wrap IntKind.i64 (IntKind.wrap IntKind.i64 (IntKind.wrap IntKind.i64 (Prod.fst (Prod.snd i) + (1 : Int)) + (1 : Int)) + (1 : Int)) + (1 : Int)) + (1 : Int)))] h' (Value.int IntKind.i64 x) h'_1 ∧ bs (decide (x < (0 : Int))) False (∃ (j : Nat × Int × AHeap), Value.slice a (List.length xs) c = Value.slice a (List.length xs) c ∧ Value.int IntKind.i64 x = Value.int IntKind.i64 (Prod.fst (Prod.snd j)) ∧ Value.int IntKind.i64 (IntKind.wrap IntKind.i64 ((↑(Prod.fst i) : Int) + (1 : Int))) = Value.int IntKind.i64 (↑(Prod.fst j) : Int) ∧ Prod.snd (Prod.snd j) = h'_1 ∧ HdI saySh h xs k (Prod.fst j) (Prod.fst (Prod.snd j)) (Prod.snd (Prod.snd j)) ∧ List.length xs - Prod.fst j < List.length xs - Prod.fst i ∧ (∀ (k : AHeap), AHeap.wf k ∧ AHeap.Le h k → AHeap.wf k ∧ AHeap.Le h k) ∧ ∀ (v : Value) (h : AHeap), False → False))))))) (∃ (j : AHeap), Value.int IntKind.i64 (Prod.fst (Prod.snd i)) = Value.int IntKind.i64 (Prod.snd (mrkL (Sh.mkd saySh) xs k)) ∧ j = Prod.snd (Prod.snd i) ∧ AHeap.wf j ∧ AHeap.Le h j)) ∧ (True ∧ True ∧ True) ∧ ((True ∧ (True ∧ True) ∧ True) ∧ True ∧ (True ∧ (True ∧ True) ∧ True) ∧ True ∧ (True ∧ (True ∧ True) ∧ True) ∧ True ∧ (True ∧ (True ∧ True) ∧ True) ∧ True ∧ (True ∧ (True ∧ True) ∧ True) ∧ True ∧ True ∧ True ∧ (True ∧ True) ∧ True) ∧ True) ∧ True ∧ True) = _) ?_
    simp only [true_and, and_true]
    rintro ⟨i, ki, g⟩ I
    dsimp only at *
    have hi := I.hi
    have k0 := I.k0
    refine bs_d (fun hlt => ?_) (fun hge => ?_)
    · obtain ⟨x, hat⟩ : ∃ y : Sh.T saySh, xs[i]? = some y := ⟨_, List.getElem?_eq_getElem (by omega)⟩
      have bd : (mrkL (Sh.mkd changeSh) x.2.2.2.2.2 (ki + 1 + 1 + 1 + 1 + 1)).2 ≤ 1000000000000000 := I.bound hat hb
      have q1 := Sh.mrkL_le changeSh x.2.2.2.2.2 (ki + 1 + 1 + 1 + 1 + 1)
      obtain ⟨l, r, row, ha, _, hrd, hld⟩ := (hx.mono I.le).elem (I.at hat)
      obtain ⟨v1, rfl, s1⟩ := rd_say.1 hrd
      have hld : g.ld l (r + i) 0 6 = some [.int .i64 (ki), .int .i64 (ki + 1), .int .i64 (ki + 1 + 1), .int .i64 (ki + 1 + 1 + 1), .string (mtext (ki + 1 + 1 + 1 + 1)), v1] := hld
      have s1 : Sl g changeSh (mrkL (Sh.mkd changeSh) x.2.2.2.2.2 (ki + 1 + 1 + 1 + 1 + 1)).1 v1 := s1
      obtain ⟨a1, c1, rfl⟩ := s1.isSlice
      refine ⟨l, r, ha, Int.natCast_nonneg _, hlt, _, ld_cells (k := 0) (m := 1) hld (Nat.le_of_ble_eq_true rfl), bs_dn (fun e => absurd rfl e) (fun _ => ?_)⟩
      try rw [wrap_i64 (n := ki + 1) (by omega)]
      refine ⟨l, r, ha, Int.natCast_nonneg _, hlt, _, ld_cells (k := 1) (m := 1) hld (Nat.le_of_ble_eq_true rfl), bs_dn (fun e => absurd rfl e) (fun _ => ?_)⟩
      try rw [wrap_i64 (n := ki + 1 + 1) (by omega)]
      refine ⟨l, r, ha, Int.natCast_nonneg _, hlt, _, ld_cells (k := 2) (m := 1) hld (Nat.le_of_ble_eq_true rfl), bs_dn (fun e => absurd rfl e) (fun _ => ?_)⟩
      try rw [wrap_i64 (n := ki + 1 + 1 + 1) (by omega)]
      refine ⟨l, r, ha, Int.natCast_nonneg _, hlt, _, ld_cells (k := 3) (m := 1) hld (Nat.le_of_ble_eq_true rfl), bs_dn (fun e => absurd rfl e) (fun _ => ?_)⟩
      try rw [wrap_i64 (n := ki + 1 + 1 + 1 + 1) (by omega)]
      obtain ⟨_, t1, A1, lt1, wt1, rfl⟩ := mt_spec (ki + 1 + 1 + 1 + 1) _ I.wf (by omega)
      refine ⟨l, r, ha, Int.natCast_nonneg _, hlt, _, ld_cells (k := 4) (m := 1) hld (Nat.le_of_ble_eq_true rfl), _, _, A1, ⟨_, lt1.ld (ld_cells (k := 4) (m := 1) hld (Nat.le_of_ble_eq_true rfl)), rfl⟩, bs_dn (fun e => absurd rfl e) (fun _ => ?_)⟩
      have hld := lt1.ld hld
      have s1 := s1.mono lt1
      try rw [wrap_i64 (n := ki + 1 + 1 + 1 + 1 + 1) (by omega)]
      obtain ⟨_, t2, A2, rfl, wt2, lt2⟩ := hdChangeS _ wt1 x.2.2.2.2.2 _ (ki + 1 + 1 + 1 + 1 + 1) s1 (by omega) (by omega)
      refine ⟨l, r, ha, Int.natCast_nonneg _, hlt, _, _, _, ld_cells (k := 5) (m := 1) hld (Nat.le_of_ble_eq_true rfl), _, _, A2, bs_d (fun e => absurd e (by omega)) (fun _ => ?_)⟩
      have hld := lt2.ld hld
      have s1 := s1.mono lt2
      exact ⟨(i + 1, (Sh.mkd saySh x ki).2, _), rfl, by rw [wrap_i64 (by omega)] <;> rfl, rfl, I.step hat wt2 (lt1.trans lt2), by dsimp only; omega, fun _ h => h, fun _ _ h => h⟩
    · exact ⟨g, by rw [I.finish (by omega)], rfl, I.wf, I.le⟩
  · refine vc_mp (by kernel_rfl : (∃ (i : Nat × Int × AHeap), Value.slice a (List.length xs) c = Value.slice a (List.length xs) c ∧ Value.int IntKind.i64 k = Value.int IntKind.i64 (Prod.fst (Prod.snd i)) ∧ Value.int IntKind.i64 (0 : Int) = Value.int IntKind.i64 (↑(Prod.fst i) : Int) ∧ Prod.snd (Prod.snd i) = h ∧ HdI saySh h xs k (Prod.fst i) (Prod.fst (Prod.snd i)) (Prod.snd (Prod.snd i)) ∧ (∀ (j : AHeap), AHeap.wf j ∧ AHeap.Le h j → Q (Value.int IntKind.i64 (Prod.snd (mrkL (Sh.mkd saySh) xs k))) j) ∧ ∀ (v : Value) (h : AHeap), False → Q v h) = _) ?_
    exact ⟨(0, k, h), rfl, rfl, rfl, rfl, .start hw hk, fun j hj => HQ _ _ ⟨rfl, hj⟩, fun _ _ h => h.elim⟩
theorem mkVoteS (h : AHeap) (hw : h.wf) (xs : List (Sh.T voteSh)) (v : Value) (ids : List Nat) (so : So h voteSh xs v ids) (nd : ids.Nodup) (k : Int) (hk : 0 ≤ k) (hb : (mrkL (Sh.mkd voteSh) xs k).2 ≤ 1000000000000000) :
    ∃ w h', ACall Tryz.prog 44 [v, .int .i64 k] h w h' ∧ w = .int .i64 (mrkL (Sh.mkd voteSh) xs k).2 ∧ h'.wf ∧ Out ids h h' ∧ So h' voteSh (mrkL (Sh.mkd voteSh) xs k).1 v ids := by
  have hn : (xs.length : Int) ≤ 1000000000000000 := by have := mrkL_cn (Sh.mkd_cn voteSh) xs k; have := len_le_sum (c := Sh.cn voteSh) (xs := xs) (fun x => by simp only [Sh.cn]; omega); omega
  obtain ⟨a, c, rfl⟩ := so.sl.isSlice
  refine acall_q fun Q HQ => ?_
  refine acall_vc (fun _ => false) (fun _ => []) (fun _ => mkLp voteSh h xs k (.slice a xs.length c) ids) mixed Tryz.func44 rfl rfl rfl (Nat.le_of_ble_eq_true rfl) ?_ ?_
  · refine vc_mp (by kernel_rfl : (True ∧ (True ∧ (∀ (i : Nat × Int × AHeap × List (Sh.T voteSh)), MkI voteSh h xs k (Value.slice a (List.length xs) c) ids (Prod.fst i) (Prod.fst (Prod.snd i)) (Prod.fst (Prod.snd (Prod.snd i))) (Prod.snd (Prod.snd (Prod.snd i))) → bs (decide ((↑(Prod.fst i) : Int) < (↑(List.length xs) : Int))) (∃ (l : Nat), ∃ (r : Nat), a = some (Addr.mk l r (some (5 : Nat))) ∧ (0 : Int) ≤ (↑(Prod.fst i) : Int) ∧ (↑(Prod.fst i) : Int) < (↑(List.length xs) : Int) ∧ ∃ (h' : AHeap), AHeap.wr (Prod.fst (Prod.snd (Prod.snd i))) l (r + Int.toNat (↑(Prod.fst i) : Int)) (0 : Nat) [Value.int IntKind.i64 (Prod.fst (Prod.snd i))] = some h' ∧ ∃ (l : Nat), ∃ (r : Nat), a = some (Addr.mk l r (some (5 : Nat))) ∧ (0 : Int) ≤ (↑(Prod.fst i) : Int) ∧ (↑(Prod.fst i) : Int) < (↑(List.length xs) : Int) ∧ ∃ (h'_1 : AHeap), AHeap.wr h' l (r + Int.toNat (↑(Prod.fst i) : Int)) (1 : Nat) [Value.int IntKind.i64 (IntKind.wrap IntKind.i64 (Prod.fst (Prod.snd i) + (1 : Int)))] = some h'_1 ∧ ∃ (l : Nat), ∃ (r : Nat), a = some (Addr.mk l r (some (5 : Nat))) ∧ (0 : Int) ≤ (↑(Prod.fst i) : Int) ∧ (↑(Prod.fst i) : Int) < (↑(List.length xs) : Int) ∧ ∃ (h' : AHeap), AHeap.wr h'_1 l (r + Int.toNat (↑(Prod.fst i) : Int)) (2 : Nat) [Value.int IntKind.i64 (IntKind.wrap IntKind.i64 (IntKind.wrap IntKind.i64 (Prod.fst (Prod.snd i) + (1 : Int)) + (1 : Int)))] = some h' ∧ ∃ (x : ByteArray), ∃ (h'_2 : AHeap), ACall Tryz.prog (47 : Nat) [Value.int IntKind.i64 (IntKind.wrap IntKind.i64 (IntKind.wrap IntKind.i64 (IntKind.wrap IntKind.i64 (Prod.fst (Prod.snd i) + (1 : Int)) + (1 : Int)) + (1 : Int)))] h' (Value.string x) h'_2 ∧ ∃ (l : Nat), ∃ (r : Nat), a = some (Addr.mk l r (some (5 : Nat))) ∧ (0 : Int) ≤ (↑(Prod.fst i) : Int) ∧ (↑(Prod.fst i) : Int) < (↑(List.length xs) : Int) ∧ ∃ (h' : AHeap), AHeap.wr h'_2 l (r + Int.toNat (↑(Prod.fst i) : Int)) (3 : Nat) [Value.string x] = some h' ∧ ∃ (l : Nat), ∃ (r : Nat), a = some (Addr.mk l r (some (5 : Nat))) ∧ (0 : Int) ≤ (↑(Prod.fst i) : Int) ∧ (↑(Prod.fst i) : Int) < (↑(List.length xs) : Int) ∧ ∃ (h'_3 : AHeap), AHeap.wr h' l (r + Int.toNat (↑(Prod.fst i) : Int)) (4 : Nat) [Value.int IntKind.i64 (IntKind.wrap IntKind.i64 (IntKind.wrap IntKind.i64 (IntKind.wrap IntKind.i64 (IntKind.wrap IntKind.i64 (Prod.fst (Prod.snd i) + (1 : Int)) + (1 : Int)) + (1 : Int)) + (1 : Int)))] = some h'_3 ∧ ∃ (j : Nat × Int × AHeap × List (Sh.T voteSh)), Value.slice a (List.length xs) c = Value.slice a (List.length xs) c ∧ Value.int IntKind.i64 (IntKind.wrap IntKind.i64 (IntKind.wrap IntKind.i64 (IntKind.wrap IntKind.i64 (IntKind.wrap IntKind.i64 (IntKind.wrap IntKind.i64 (Prod.fst (Prod.snd i) + (1 : Int)) + (1 : Int)) + (1 : Int)) + (1 : Int)) + (1 : Int))) = Value.int IntKind.i64 (Prod.fst (Prod.snd j)) ∧ Value.int IntKind.i64 (IntKind.wrap IntKind.i64 ((↑(Prod.fst i) : Int) + (1 : Int))) = Value.int IntKind.i64 (↑(Prod.fst j) : Int) ∧ Prod.fst (Prod.snd (Prod.snd j)) = h'_3 ∧ MkI voteSh h xs k (Value.slice a (List.length xs) c) ids (Prod.fst j) (Prod.fst (Prod.snd j)) (Prod.fst (Prod.snd (Prod.snd j))) (Prod.snd (Prod.snd (Prod.snd j))) ∧ List.length xs - Prod.fst j < List.length xs - Prod.fst i ∧ (∀ (k_1 : AHeap), AHeap.wf k_1 ∧ Out ids h k_1 ∧ So k_1 voteSh (Prod.fst (mrkL (Sh.mkd voteSh) xs k)) (Value.slice a (List.length xs) c) ids → AHeap.wf k_1 ∧ Out ids h k_1 ∧ So k_1 voteSh (Prod.fst (mrkL (Sh.mkd voteSh) xs k)) (Value.slice a (List.length xs) c) ids) ∧ ∀ (v : Value) (h : AHeap), False → False) (∃ (j : AHeap), Value.int IntKind.i64 (Prod.fst (Prod.snd i)) = Value.int IntKind.i64 (Prod.snd (mrkL (Sh.mkd voteSh) xs k)) ∧ j = Prod.fst (Prod.snd (Prod.snd i)) ∧ AHeap.wf j ∧ Out ids h j ∧ So j voteSh (Prod.fst (mrkL (Sh.mkd voteSh) xs k)) (Value.slice a (List.length xs) c) ids)) ∧ (True ∧ True ∧ True) ∧ (True ∧ True ∧ True ∧ True ∧ True ∧ True ∧ True ∧ True ∧ True ∧ True) ∧ True) ∧ True ∧ True) = _) ?_
    simp only [true_and, and_true]
    rintro ⟨i, ki, g, ys⟩ I
    dsimp only at *
    have hi := I.hi
    have k0 := I.k0
    refine bs_d (fun hlt => ?_) (fun hge => ?_)
    · obtain ⟨x, hx⟩ : ∃ y : Sh.T voteSh, xs[i]? = some y := ⟨_, List.getElem?_eq_getElem (by omega)⟩
      have bd : ki + 1 + 1 + 1 + 1 + 1 ≤ 1000000000000000 := I.bound hx hb
      obtain ⟨l, r, n', c', rows, cs, js, e, hin, E0, ro, hlj, ndj, hsub, fin⟩ := I.so.elem nd I.wf (I.at hx)
      cases e
      obtain ⟨rfl, rfl⟩ := ro_vote.1 ro
      obtain ⟨g1, w1, E1, o1⟩ := E0.wr 0 [.int .i64 (ki)] [.int .i64 (ki), .int .i64 x.2.1, .int .i64 x.2.2.1, .string x.2.2.2.1, .int .i64 x.2.2.2.2] (Nat.le_of_ble_eq_true rfl) rfl
      refine ⟨l, r, rfl, Int.natCast_nonneg _, hlt, g1, w1, ?_⟩
      obtain ⟨g2, w2, E2, o2⟩ := E1.wr 1 [.int .i64 (ki + 1)] [.int .i64 (ki), .int .i64 (ki + 1), .int .i64 x.2.2.1, .string x.2.2.2.1, .int .i64 x.2.2.2.2] (Nat.le_of_ble_eq_true rfl) rfl
      try rw [wrap_i64 (n := ki + 1) (by omega)]
      refine ⟨l, r, rfl, Int.natCast_nonneg _, hlt, g2, w2, ?_⟩
      obtain ⟨g3, w3, E3, o3⟩ := E2.wr 2 [.int .i64 (ki + 1 + 1)] [.int .i64 (ki), .int .i64 (ki + 1), .int .i64 (ki + 1 + 1), .string x.2.2.2.1, .int .i64 x.2.2.2.2] (Nat.le_of_ble_eq_true rfl) rfl
      try rw [wrap_i64 (n := ki + 1 + 1) (by omega)]
      refine ⟨l, r, rfl, Int.natCast_nonneg _, hlt, g3, w3, ?_⟩
      obtain ⟨_, t1, A1, lt1, wt1, rfl⟩ := mt_spec (ki + 1 + 1 + 1) _ E3.wf (by omega)
      have E3 := E3.le lt1 wt1
      obtain ⟨g4, w4, E4, o4⟩ := E3.wr 3 [.string (mtext (ki + 1 + 1 + 1))] [.int .i64 (ki), .int .i64 (ki + 1), .int .i64 (ki + 1 + 1), .string (mtext (ki + 1 + 1 + 1)), .int .i64 x.2.2.2.2] (Nat.le_of_ble_eq_true rfl) rfl
      try rw [wrap_i64 (n := ki + 1 + 1 + 1) (by omega)]
      refine ⟨_, _, A1, l, r, rfl, Int.natCast_nonneg _, hlt, g4, w4, ?_⟩
      obtain ⟨g5, w5, E5, o5⟩ := E4.wr 4 [.int .i64 (ki + 1 + 1 + 1 + 1)] [.int .i64 (ki), .int .i64 (ki + 1), .int .i64 (ki + 1 + 1), .string (mtext (ki + 1 + 1 + 1)), .int .i64 (ki + 1 + 1 + 1 + 1)] (Nat.le_of_ble_eq_true rfl) rfl
      try rw [wrap_i64 (n := ki + 1 + 1 + 1 + 1) (by omega)]
      refine ⟨l, r, rfl, Int.natCast_nonneg _, hlt, g5, w5, ?_⟩
      try rw [wrap_i64 (n := ki + 1 + 1 + 1 + 1 + 1) (by omega)]
      have so2 := fin _ _ (Sh.mkd voteSh x ki).1 E5 (ro_vote.2 ⟨rfl, rfl⟩)
      exact ⟨(i + 1, (Sh.mkd voteSh x ki).2, _, ys.set i (Sh.mkd voteSh x ki).1), rfl, by rw [wrap_i64 (by omega)] <;> rfl, rfl, I.step hx E5.wf (E5.out.widen hsub) so2, by dsimp only; omega, fun _ h => h, fun _ _ h => h⟩
    · obtain ⟨e1, e2⟩ := I.finish (by omega)
      exact ⟨g, by rw [e1], rfl, I.wf, I.out, e2⟩
  · refine vc_mp (by kernel_rfl : (∃ (i : Nat × Int × AHeap × List (Sh.T voteSh)), Value.slice a (List.length xs) c = Value.slice a (List.length xs) c ∧ Value.int IntKind.i64 k = Value.int IntKind.i64 (Prod.fst (Prod.snd i)) ∧ Value.int IntKind.i64 (0 : Int) = Value.int IntKind.i64 (↑(Prod.fst i) : Int) ∧ Prod.fst (Prod.snd (Prod.snd i)) = h ∧ MkI voteSh h xs k (Value.slice a (List.length xs) c) ids (Prod.fst i) (Prod.fst (Prod.snd i)) (Prod.fst (Prod.snd (Prod.snd i))) (Prod.snd (Prod.snd (Prod.snd i))) ∧ (∀ (j : AHeap), AHeap.wf j ∧ Out ids h j ∧ So j voteSh (Prod.fst (mrkL (Sh.mkd voteSh) xs k)) (Value.slice a (List.length xs) c) ids → Q (Value.int IntKind.i64 (Prod.snd (mrkL (Sh.mkd voteSh) xs k))) j) ∧ ∀ (v : Value) (h : AHeap), False → Q v h) = _) ?_
    exact ⟨(0, k, h, xs), rfl, rfl, rfl, rfl, .start hw hk so, fun j hj => HQ _ _ ⟨rfl, hj⟩, fun _ _ h => h.elim⟩
theorem mkSay (h : AHeap) (hw : h.wf) (x : saySh.T) (v1 : Value) (j1 : List Nat) (s1 : So h changeSh x.2.2.2.2.2 v1 j1) (nd : (j1).Nodup) (k : Int) (hk : 0 ≤ k) (hb : (saySh.mkv x k).2 ≤ 1000000000000000) :
    ∃ w h', ACall Tryz.prog 26 [.agg #[.int .i64 x.1, .int .i64 x.2.1, .int .i64 x.2.2.1, .int .i64 x.2.2.2.1, .string x.2.2.2.2.1, v1], .int .i64 k] h w h' ∧ w = .int .i64 (saySh.mkv x k).2 ∧ h'.wf ∧ Out (j1) h h' ∧ So h' changeSh (saySh.mkv x k).1.2.2.2.2.2 v1 j1 := by
  obtain ⟨a1, c1, rfl⟩ := s1.sl.isSlice
  have bd : (mrkL (Sh.mkd changeSh) x.2.2.2.2.2 k).2 ≤ 1000000000000000 := hb
  have q1 := Sh.mrkL_le changeSh x.2.2.2.2.2 k
  refine acall_q fun Q HQ => ?_
  obtain ⟨_, t1, A1, rfl, wt1, ot1, s1⟩ := mkChangeS h hw x.2.2.2.2.2 _ _ s1 nd k (by omega) (by omega)
  refine acall_vc (fun _ => false) (fun _ => []) (fun _ => .none) mixed Tryz.func26 rfl rfl rfl (Nat.le_of_ble_eq_true rfl) (by refine vc_mp (by kernel_rfl : (True ∧ True ∧ True ∧ True) = _) ?_; simp only [and_self]) ?_
  refine vc_mp (by kernel_rfl : (∃ (x_1 : Int), ∃ (h' : AHeap), ACall Tryz.prog (45 : Nat) [Value.slice a1 (List.length (Prod.snd (Prod.snd (Prod.snd (Prod.snd (Prod.snd x)))))) c1, Value.int IntKind.i64 k] h (Value.int IntKind.i64 x_1) h' ∧ Q (Value.int IntKind.i64 x_1) h') = _) ?_
  refine ⟨_, _, A1, ?_⟩
  exact HQ _ _ ⟨rfl, wt1, (ot1.widen (by intro z hz; (try simp only [List.mem_append, List.append_nil, List.nil_append, List.not_mem_nil, or_false, false_or] at hz ⊢); first | simp [hz] | grind)), s1⟩
theorem mkReplica (h : AHeap) (hw : h.wf) (x : replicaSh.T) (v1 v2 v3 v4 : Value) (j1 j2 j3 j4 : List Nat) (s1 : So h voteSh x.2.2.2.2.1 v1 j1) (s2 : So h changeSh x.2.2.2.2.2.1 v2 j2) (s3 : So h changeSh x.2.2.2.2.2.2.1.2.2.2.2.2 v3 j3) (s4 : So h Sh.str x.2.2.2.2.2.2.2 v4 j4) (nd : (j1 ++ (j2 ++ (j3 ++ j4))).Nodup) (k : Int) (hk : 0 ≤ k) (hb : (replicaSh.mkv x k).2 ≤ 1000000000000000) :
    ∃ w h', ACall Tryz.prog 13 [.agg #[.int .i64 x.1, .int .i64 x.2.1, .bool x.2.2.1, .int .i64 x.2.2.2.1, v1, v2, .int .i64 x.2.2.2.2.2.2.1.1, .int .i64 x.2.2.2.2.2.2.1.2.1, .int .i64 x.2.2.2.2.2.2.1.2.2.1, .int .i64 x.2.2.2.2.2.2.1.2.2.2.1, .string x.2.2.2.2.2.2.1.2.2.2.2.1, v3, v4], .int .i64 k] h w h' ∧ w = .int .i64 (replicaSh.mkv x k).2 ∧ h'.wf ∧ Out (j1 ++ (j2 ++ (j3 ++ j4))) h h' ∧ So h' voteSh (replicaSh.mkv x k).1.2.2.2.2.1 v1 j1 ∧ So h' changeSh (replicaSh.mkv x k).1.2.2.2.2.2.1 v2 j2 ∧ So h' changeSh (replicaSh.mkv x k).1.2.2.2.2.2.2.1.2.2.2.2.2 v3 j3 ∧ So h' Sh.str (replicaSh.mkv x k).1.2.2.2.2.2.2.2 v4 j4 := by
  obtain ⟨a1, c1, rfl⟩ := s1.sl.isSlice
  obtain ⟨a2, c2, rfl⟩ := s2.sl.isSlice
  obtain ⟨a3, c3, rfl⟩ := s3.sl.isSlice
  obtain ⟨a4, c4, rfl⟩ := s4.sl.isSlice
  simp only [List.nodup_append, List.mem_append] at nd
  have bd : (mrkL (Sh.mkd Sh.str) x.2.2.2.2.2.2.2 (saySh.mkv x.2.2.2.2.2.2.1 (mrkL (Sh.mkd changeSh) x.2.2.2.2.2.1 (mrkL (Sh.mkd voteSh) x.2.2.2.2.1 k).2).2).2).2 ≤ 1000000000000000 := hb
  have q1 := Sh.mrkL_le voteSh x.2.2.2.2.1 k
  have q2 := Sh.mrkL_le changeSh x.2.2.2.2.2.1 (mrkL (Sh.mkd voteSh) x.2.2.2.2.1 k).2
  have q3 := Sh.mkv_le saySh x.2.2.2.2.2.2.1 (mrkL (Sh.mkd changeSh) x.2.2.2.2.2.1 (mrkL (Sh.mkd voteSh) x.2.2.2.2.1 k).2).2
  have q4 := Sh.mrkL_le Sh.str x.2.2.2.2.2.2.2 (saySh.mkv x.2.2.2.2.2.2.1 (mrkL (Sh.mkd changeSh) x.2.2.2.2.2.1 (mrkL (Sh.mkd voteSh) x.2.2.2.2.1 k).2).2).2
  refine acall_q fun Q HQ => ?_
  obtain ⟨_, t1, A1, rfl, wt1, ot1, s1⟩ := mkVoteS h hw x.2.2.2.2.1 _ _ s1 nd.1 k (by omega) (by omega)
  have s2 := s2.out ot1 (by intro z hz hz2; (try simp only [List.mem_append, List.append_nil, List.nil_append, List.not_mem_nil, or_false, false_or] at hz2); first | exact (show ∀ z ∈ j2, z ∉ j1 from (by intro z hz hz2; have := nd.2.2; first | exact this z (by simp [hz]) z (by simp [hz2]) rfl | exact this z (by simp [hz2]) z (by simp [hz]) rfl)) z hz hz2 | grind)
  have s3 := s3.out ot1 (by intro z hz hz2; (try simp only [List.mem_append, List.append_nil, List.nil_append, List.not_mem_nil, or_false, false_or] at hz2); first | exact (show ∀ z ∈ j3, z ∉ j1 from (by intro z hz hz2; have := nd.2.2; first | exact this z (by simp [hz]) z (by simp [hz2]) rfl | exact this z (by simp [hz2]) z (by simp [hz]) rfl)) z hz hz2 | grind)
  have s4 := s4.out ot1 (by intro z hz hz2; (try simp only [List.mem_append, List.append_nil, List.nil_append, List.not_mem_nil, or_false, false_or] at hz2); first | exact (show ∀ z ∈ j4, z ∉ j1 from (by intro z hz hz2; have := nd.2.2; first | exact this z (by simp [hz]) z (by simp [hz2]) rfl | exact this z (by simp [hz2]) z (by simp [hz]) rfl)) z hz hz2 | grind)
  obtain ⟨_, t2, A2, rfl, wt2, ot2, s2⟩ := mkChangeS t1 wt1 x.2.2.2.2.2.1 _ _ s2 nd.2.1.1 (mrkL (Sh.mkd voteSh) x.2.2.2.2.1 k).2 (by omega) (by omega)
  have s1 := s1.out ot2 (by intro z hz hz2; (try simp only [List.mem_append, List.append_nil, List.nil_append, List.not_mem_nil, or_false, false_or] at hz2); first | exact (show ∀ z ∈ j1, z ∉ j2 from (by intro z hz hz2; have := nd.2.2; first | exact this z (by simp [hz]) z (by simp [hz2]) rfl | exact this z (by simp [hz2]) z (by simp [hz]) rfl)) z hz hz2 | grind)
  have s3 := s3.out ot2 (by intro z hz hz2; (try simp only [List.mem_append, List.append_nil, List.nil_append, List.not_mem_nil, or_false, false_or] at hz2); first | exact (show ∀ z ∈ j3, z ∉ j2 from (by intro z hz hz2; have := nd.2.1.2.2; first | exact this z (by simp [hz]) z (by simp [hz2]) rfl | exact this z (by simp [hz2]) z (by simp [hz]) rfl)) z hz hz2 | grind)
  have s4 := s4.out ot2 (by intro z hz hz2; (try simp only [List.mem_append, List.append_nil, List.nil_append, List.not_mem_nil, or_false, false_or] at hz2); first | exact (show ∀ z ∈ j4, z ∉ j2 from (by intro z hz hz2; have := nd.2.1.2.2; first | exact this z (by simp [hz]) z (by simp [hz2]) rfl | exact this z (by simp [hz2]) z (by simp [hz]) rfl)) z hz hz2 | grind)
  obtain ⟨_, t3, A3, rfl, wt3, ot3, s3⟩ := mkSay t2 wt2 x.2.2.2.2.2.2.1 _ j3 s3 (by (try simp only [List.nodup_append, List.mem_append]); first | exact nd | exact nd.1 | exact nd.2.1 | exact nd.2.1.1 | exact nd.2.1.2.1 | exact nd.2.1.2.1.1 | exact ⟨nd.1, nd.2.1.1, fun a ha b hb => nd.2.2 a ha b (.inl hb)⟩ | grind) (mrkL (Sh.mkd changeSh) x.2.2.2.2.2.1 (mrkL (Sh.mkd voteSh) x.2.2.2.2.1 k).2).2 (by omega) (by omega)
  have s1 := s1.out ot3 (by intro z hz hz2; (try simp only [List.mem_append, List.append_nil, List.nil_append, List.not_mem_nil, or_false, false_or] at hz2); first | exact (show ∀ z ∈ j1, z ∉ j3 from (by intro z hz hz2; have := nd.2.2; first | exact this z (by simp [hz]) z (by simp [hz2]) rfl | exact this z (by simp [hz2]) z (by simp [hz]) rfl)) z hz hz2 | grind)
  have s2 := s2.out ot3 (by intro z hz hz2; (try simp only [List.mem_append, List.append_nil, List.nil_append, List.not_mem_nil, or_false, false_or] at hz2); first | exact (show ∀ z ∈ j2, z ∉ j3 from (by intro z hz hz2; have := nd.2.1.2.2; first | exact this z (by simp [hz]) z (by simp [hz2]) rfl | exact this z (by simp [hz2]) z (by simp [hz]) rfl)) z hz hz2 | grind)
  have s4 := s4.out ot3 (by intro z hz hz2; (try simp only [List.mem_append, List.append_nil, List.nil_append, List.not_mem_nil, or_false, false_or] at hz2); first | exact (show ∀ z ∈ j4, z ∉ j3 from (by intro z hz hz2; have := nd.2.1.2.1.2.2; first | exact this z (by simp [hz]) z (by simp [hz2]) rfl | exact this z (by simp [hz2]) z (by simp [hz]) rfl)) z hz hz2 | grind)
  obtain ⟨_, t4, A4, rfl, wt4, ot4, s4⟩ := mkStringS t3 wt3 x.2.2.2.2.2.2.2 _ _ s4 nd.2.1.2.1.2.1 (saySh.mkv x.2.2.2.2.2.2.1 (mrkL (Sh.mkd changeSh) x.2.2.2.2.2.1 (mrkL (Sh.mkd voteSh) x.2.2.2.2.1 k).2).2).2 (by omega) (by omega)
  have s1 := s1.out ot4 (by intro z hz hz2; (try simp only [List.mem_append, List.append_nil, List.nil_append, List.not_mem_nil, or_false, false_or] at hz2); first | exact (show ∀ z ∈ j1, z ∉ j4 from (by intro z hz hz2; have := nd.2.2; first | exact this z (by simp [hz]) z (by simp [hz2]) rfl | exact this z (by simp [hz2]) z (by simp [hz]) rfl)) z hz hz2 | grind)
  have s2 := s2.out ot4 (by intro z hz hz2; (try simp only [List.mem_append, List.append_nil, List.nil_append, List.not_mem_nil, or_false, false_or] at hz2); first | exact (show ∀ z ∈ j2, z ∉ j4 from (by intro z hz hz2; have := nd.2.1.2.2; first | exact this z (by simp [hz]) z (by simp [hz2]) rfl | exact this z (by simp [hz2]) z (by simp [hz]) rfl)) z hz hz2 | grind)
  have s3 := s3.out ot4 (by intro z hz hz2; (try simp only [List.mem_append, List.append_nil, List.nil_append, List.not_mem_nil, or_false, false_or] at hz2); first | exact (show ∀ z ∈ j3, z ∉ j4 from (by intro z hz hz2; have := nd.2.1.2.1.2.2; first | exact this z (by simp [hz]) z (by simp [hz2]) rfl | exact this z (by simp [hz2]) z (by simp [hz]) rfl)) z hz hz2 | grind)
  refine acall_vc (fun _ => false) (fun _ => []) (fun _ => .none) mixed Tryz.func13 rfl rfl rfl (Nat.le_of_ble_eq_true rfl) (by refine vc_mp (by kernel_rfl : (True ∧ True ∧ True ∧ True ∧ True ∧ True ∧ True) = _) ?_; simp only [and_self]) ?_
  refine vc_mp (by kernel_rfl : (∃ (x_1 : Int), ∃ (h' : AHeap), ACall Tryz.prog (44 : Nat) [Value.slice a1 (List.length (Prod.fst (Prod.snd (Prod.snd (Prod.snd (Prod.snd x)))))) c1, Value.int IntKind.i64 k] h (Value.int IntKind.i64 x_1) h' ∧ ∃ (x_2 : Int), ∃ (h'_1 : AHeap), ACall Tryz.prog (45 : Nat) [Value.slice a2 (List.length (Prod.fst (Prod.snd (Prod.snd (Prod.snd (Prod.snd (Prod.snd x))))))) c2, Value.int IntKind.i64 x_1] h' (Value.int IntKind.i64 x_2) h'_1 ∧ ∃ (x_3 : Int), ∃ (h' : AHeap), ACall Tryz.prog (26 : Nat) [Value.agg (Array.mk [Value.int IntKind.i64 (Prod.fst (Prod.fst (Prod.snd (Prod.snd (Prod.snd (Prod.snd (Prod.snd (Prod.snd x)))))))), Value.int IntKind.i64 (Prod.fst (Prod.snd (Prod.fst (Prod.snd (Prod.snd (Prod.snd (Prod.snd (Prod.snd (Prod.snd x))))))))), Value.int IntKind.i64 (Prod.fst (Prod.snd (Prod.snd (Prod.fst (Prod.snd (Prod.snd (Prod.snd (Prod.snd (Prod.snd (Prod.snd x)))))))))), Value.int IntKind.i64 (Prod.fst (Prod.snd (Prod.snd (Prod.snd (Prod.fst (Prod.snd (Prod.snd (Prod.snd (Prod.snd (Prod.snd (Prod.snd x))))))))))), Value.string (Prod.fst (Prod.snd (Prod.snd (Prod.snd (Prod.snd (Prod.fst (Prod.snd (Prod.snd (Prod.snd (Prod.snd (Prod.snd (Prod.snd x)))))))))))), Value.slice a3 (List.length (Prod.snd (Prod.snd (Prod.snd (Prod.snd (Prod.snd (Prod.fst (Prod.snd (Prod.snd (Prod.snd (Prod.snd (Prod.snd (Prod.snd x))))))))))))) c3]), Value.int IntKind.i64 x_2] h'_1 (Value.int IntKind.i64 x_3) h' ∧ ∃ (x_4 : Int), ∃ (h'_2 : AHeap), ACall Tryz.prog (46 : Nat) [Value.slice a4 (List.length (Prod.snd (Prod.snd (Prod.snd (Prod.snd (Prod.snd (Prod.snd (Prod.snd x)))))))) c4, Value.int IntKind.i64 x_3] h' (Value.int IntKind.i64 x_4) h'_2 ∧ Q (Value.int IntKind.i64 x_4) h'_2) = _) ?_
  refine ⟨_, _, A1, ?_⟩
  refine ⟨_, _, A2, ?_⟩
  refine ⟨_, _, A3, ?_⟩
  refine ⟨_, _, A4, ?_⟩
  exact HQ _ _ ⟨rfl, wt4, ((ot1.widen (by intro z hz; (try simp only [List.mem_append, List.append_nil, List.nil_append, List.not_mem_nil, or_false, false_or] at hz ⊢); first | simp [hz] | grind)).trans ((ot2.widen (by intro z hz; (try simp only [List.mem_append, List.append_nil, List.nil_append, List.not_mem_nil, or_false, false_or] at hz ⊢); first | simp [hz] | grind)).trans ((ot3.widen (by intro z hz; (try simp only [List.mem_append, List.append_nil, List.nil_append, List.not_mem_nil, or_false, false_or] at hz ⊢); first | simp [hz] | grind)).trans (ot4.widen (by intro z hz; (try simp only [List.mem_append, List.append_nil, List.nil_append, List.not_mem_nil, or_false, false_or] at hz ⊢); first | simp [hz] | grind))))), s1, s2, s3, s4⟩
end Go.Proofs.YtpgfjadjhliohaaGreat
