/- Contracts: marks set and found. Written by gen.py. -/
import Derived.Test.YtdcijleeoihlfaaV8N0
namespace Go.Dat
open Go.Abs
theorem len_le_sum {α : Type} {c : α → Nat} (hc : ∀ x, 1 ≤ c x) {xs : List α} : xs.length ≤ (xs.map c).sum := by
  induction xs with
  | nil => simp
  | cons x xs ih => have := hc x; simp only [List.length_cons, List.map_cons, List.sum_cons]; omega
theorem rn_group {h : AHeap} {x : groupSh.T} {cs : List Value} {ids : List Nat} : groupSh.rn h x cs ids ↔ cs = [.string x.1, .int .i64 x.2] ∧ ids = [] ++ ([]) := by
  constructor
  · rintro ⟨_, _, _, _, rfl, rfl, ⟨rfl, rfl⟩, rfl, rfl⟩
    exact ⟨rfl, rfl⟩
  · rintro ⟨rfl, rfl⟩
    exact ⟨[_], _, [], _, rfl, rfl, ⟨rfl, rfl⟩, rfl, rfl⟩
theorem rn_topic {h : AHeap} {x : topicSh.T} {cs : List Value} {ids : List Nat} : topicSh.rn h x cs ids ↔ ∃ v1 v2 j1 j2, cs = [.string x.1, .int .i64 x.2.1, v1, v2] ∧ ids = [] ++ ([] ++ (j1 ++ (j2))) ∧ Sn h Sh.str x.2.2.1 v1 j1 ∧ Sn h groupSh x.2.2.2 v2 j2 := by
  constructor
  · rintro ⟨_, _, _, _, rfl, rfl, ⟨rfl, rfl⟩, _, _, _, _, rfl, rfl, ⟨rfl, rfl⟩, _, _, _, _, rfl, rfl, q1, q2⟩
    obtain ⟨v1, rfl, k1⟩ := rn_sl.1 q1
    obtain ⟨v2, rfl, k2⟩ := rn_sl.1 q2
    exact ⟨v1, v2, _, _, rfl, rfl, k1, k2⟩
  · rintro ⟨v1, v2, j1, j2, rfl, rfl, k1, k2⟩
    exact ⟨[_], _, [], _, rfl, rfl, ⟨rfl, rfl⟩, [_], _, [], _, rfl, rfl, ⟨rfl, rfl⟩, [_], _, j1, _, rfl, rfl, rn_sl.2 ⟨_, rfl, k1⟩, rn_sl.2 ⟨_, rfl, k2⟩⟩
theorem rn_reply {h : AHeap} {x : replySh.T} {cs : List Value} {ids : List Nat} : replySh.rn h x cs ids ↔ cs = [.int .i64 x.1, .int .i64 x.2.1, .string x.2.2] ∧ ids = [] ++ ([] ++ ([])) := by
  constructor
  · rintro ⟨_, _, _, _, rfl, rfl, ⟨rfl, rfl⟩, _, _, _, _, rfl, rfl, ⟨rfl, rfl⟩, rfl, rfl⟩
    exact ⟨rfl, rfl⟩
  · rintro ⟨rfl, rfl⟩
    exact ⟨[_], _, [], _, rfl, rfl, ⟨rfl, rfl⟩, [_], _, [], _, rfl, rfl, ⟨rfl, rfl⟩, rfl, rfl⟩
end Go.Dat
namespace Go.Proofs.Ytdcijleeoihlfaa
open Go.Abs Go.Dat
set_option maxRecDepth 100000
set_option maxHeartbeats 4000000
theorem mkStringS (h : AHeap) (hw : h.wf) (xs : List (Sh.T Sh.str)) (v : Value) (ids : List Nat) (so : So h Sh.str xs v ids) (nd : ids.Nodup) (k : Int) (hk : 0 ≤ k) (hb : (mrkL (Sh.mkd Sh.str) xs k).2 ≤ 1000000000000000) :
    ∃ w h', ACall Try.prog 179 [v, .int .i64 k] h w h' ∧ w = .int .i64 (mrkL (Sh.mkd Sh.str) xs k).2 ∧ h'.wf ∧ Out ids h h' ∧ So h' Sh.str (mrkL (Sh.mkd Sh.str) xs k).1 v ids := by
  have hn : (xs.length : Int) ≤ 1000000000000000 := by have := mrkL_cn (Sh.mkd_cn Sh.str) xs k; have := len_le_sum (c := Sh.cn Sh.str) (xs := xs) (fun x => by simp only [Sh.cn]; omega); omega
  obtain ⟨a, c, rfl⟩ := so.sl.isSlice
  refine acall_q fun Q HQ => ?_
  refine acall_vc (fun _ => false) (fun _ => []) (fun _ => mkLp Sh.str h xs k (.slice a xs.length c) ids) mixed Try.func179 rfl rfl rfl (Nat.le_of_ble_eq_true rfl) ?_ ?_
  · refine vc_mp (by kernel_rfl : (True ∧ (True ∧ (∀ (i : Nat × Int × AHeap × List (Sh.T Sh.str)), MkI Sh.str h xs k (Value.slice a (List.length xs) c) ids (Prod.fst i) (Prod.fst (Prod.snd i)) (Prod.fst (Prod.snd (Prod.snd i))) (Prod.snd (Prod.snd (Prod.snd i))) → bs (decide ((↑(Prod.fst i) : Int) < (↑(List.length xs) : Int))) (∃ (x : ByteArray), ∃ (h' : AHeap), ACall Try.prog (170 : Nat) [Value.int IntKind.i64 (Prod.fst (Prod.snd i))] (Prod.fst (Prod.snd (Prod.snd i))) (Value.string x) h' ∧ ∃ (l : Nat), ∃ (r : Nat), a = some (Addr.mk l r (some (1 : Nat))) ∧ (0 : Int) ≤ (↑(Prod.fst i) : Int) ∧ (↑(Prod.fst i) : Int) < (↑(List.length xs) : Int) ∧ ∃ (h'_1 : AHeap), AHeap.wr h' l (r + Int.toNat (↑(Prod.fst i) : Int)) (0 : Nat) [Value.string x] = some h'_1 ∧ ∃ (j : Nat × Int × AHeap × List (Sh.T Sh.str)), Value.slice a (List.length xs) c = Value.slice a (List.length xs) c ∧ Value.int IntKind.i64 (IntKind.wrap IntKind.i64 (Prod.fst (Prod.snd i) + (1 : Int))) = Value.int IntKind.i64 (Prod.fst (Prod.snd j)) ∧ Value.int IntKind.i64 (IntKind.wrap IntKind.i64 ((↑(Prod.fst i) : Int) + (1 : Int))) = Value.int IntKind.i64 (↑(Prod.fst j) : Int) ∧ Prod.fst (Prod.snd (Prod.snd j)) = h'_1 ∧ MkI Sh.str h xs k (Value.slice a (List.length xs) c) ids (Prod.fst j) (Prod.fst (Prod.snd j)) (Prod.fst (Prod.snd (Prod.snd j))) (Prod.snd (Prod.snd (Prod.snd j))) ∧ List.length xs - Prod.fst j < List.length xs - Prod.fst i ∧ (∀ (k_1 : AHeap), AHeap.wf k_1 ∧ Out ids h k_1 ∧ So k_1 Sh.str (Prod.fst (mrkL (Sh.mkd Sh.str) xs k)) (Value.slice a (List.length xs) c) ids → AHeap.wf k_1 ∧ Out ids h k_1 ∧ So k_1 Sh.str (Prod.fst (mrkL (Sh.mkd Sh.str) xs k)) (Value.slice a (List.length xs) c) ids) ∧ ∀ (v : Value) (h : AHeap), False → False) (∃ (j : AHeap), Value.int IntKind.i64 (Prod.fst (Prod.snd i)) = Value.int IntKind.i64 (Prod.snd (mrkL (Sh.mkd Sh.str) xs k)) ∧ j = Prod.fst (Prod.snd (Prod.snd i)) ∧ AHeap.wf j ∧ Out ids h j ∧ So j Sh.str (Prod.fst (mrkL (Sh.mkd Sh.str) xs k)) (Value.slice a (List.length xs) c) ids)) ∧ (True ∧ True ∧ True) ∧ (True ∧ True) ∧ True) ∧ True ∧ True) = _) ?_
    simp only [true_and, and_true]
    rintro ⟨i, ki, g, ys⟩ I
    dsimp only at *
    have hi := I.hi
    have k0 := I.k0
    refine bs_d (fun hlt => ?_) (fun hge => ?_)
    · obtain ⟨x, hx⟩ : ∃ y : Sh.T Sh.str, xs[i]? = some y := ⟨_, List.getElem?_eq_getElem (by omega)⟩
      have bd : ki + 1 ≤ 1000000000000000 := I.bound hx hb
      obtain ⟨l, r, n', c', rows, cs, js, e, hin, E0, ro, hlj, ndj, hsub, fin⟩ := I.so.elem nd I.wf (I.at hx)
      cases e
      obtain ⟨rfl, rfl⟩ := ro
      obtain ⟨_, t1, A1, lt1, wt1, rfl⟩ := mt_spec (ki) _ E0.wf (by omega)
      have E0 := E0.le lt1 wt1
      obtain ⟨g1, w1, E1, o1⟩ := E0.wr 0 [.string (mtext (ki))] [.string (mtext (ki))] (Nat.le_of_ble_eq_true rfl) rfl
      refine ⟨_, _, A1, l, r, rfl, Int.natCast_nonneg _, hlt, g1, w1, ?_⟩
      try rw [wrap_i64 (n := ki + 1) (by omega)]
      have so2 := fin _ _ (Sh.mkd Sh.str x ki).1 E1 (⟨rfl, rfl⟩)
      exact ⟨(i + 1, (Sh.mkd Sh.str x ki).2, _, ys.set i (Sh.mkd Sh.str x ki).1), rfl, by rw [wrap_i64 (by omega)] <;> rfl, rfl, I.step hx E1.wf (E1.out.widen hsub) so2, by dsimp only; omega, fun _ h => h, fun _ _ h => h⟩
    · obtain ⟨e1, e2⟩ := I.finish (by omega)
      exact ⟨g, by rw [e1], rfl, I.wf, I.out, e2⟩
  · refine vc_mp (by kernel_rfl : (∃ (i : Nat × Int × AHeap × List (Sh.T Sh.str)), Value.slice a (List.length xs) c = Value.slice a (List.length xs) c ∧ Value.int IntKind.i64 k = Value.int IntKind.i64 (Prod.fst (Prod.snd i)) ∧ Value.int IntKind.i64 (0 : Int) = Value.int IntKind.i64 (↑(Prod.fst i) : Int) ∧ Prod.fst (Prod.snd (Prod.snd i)) = h ∧ MkI Sh.str h xs k (Value.slice a (List.length xs) c) ids (Prod.fst i) (Prod.fst (Prod.snd i)) (Prod.fst (Prod.snd (Prod.snd i))) (Prod.snd (Prod.snd (Prod.snd i))) ∧ (∀ (j : AHeap), AHeap.wf j ∧ Out ids h j ∧ So j Sh.str (Prod.fst (mrkL (Sh.mkd Sh.str) xs k)) (Value.slice a (List.length xs) c) ids → Q (Value.int IntKind.i64 (Prod.snd (mrkL (Sh.mkd Sh.str) xs k))) j) ∧ ∀ (v : Value) (h : AHeap), False → Q v h) = _) ?_
    exact ⟨(0, k, h, xs), rfl, rfl, rfl, rfl, .start hw hk so, fun j hj => HQ _ _ ⟨rfl, hj⟩, fun _ _ h => h.elim⟩
theorem hdStringS (h : AHeap) (hw : h.wf) (xs : List (Sh.T Sh.str)) (v : Value) (k : Int) (hx : Sl h Sh.str (mrkL (Sh.mkd Sh.str) xs k).1 v) (hk : 0 ≤ k) (hb : (mrkL (Sh.mkd Sh.str) xs k).2 ≤ 1000000000000000) :
    ∃ w h', ACall Try.prog 181 [v, .int .i64 k] h w h' ∧ w = .int .i64 (mrkL (Sh.mkd Sh.str) xs k).2 ∧ h'.wf ∧ h.Le h' := by
  have hn : (xs.length : Int) ≤ 1000000000000000 := by have := mrkL_cn (Sh.mkd_cn Sh.str) xs k; have := len_le_sum (c := Sh.cn Sh.str) (xs := xs) (fun x => by simp only [Sh.cn]; omega); omega
  obtain ⟨a, c, rfl⟩ := hx.isSlice
  rw [mrkL_len] at hx ⊢
  refine acall_q fun Q HQ => ?_
  refine acall_vc (fun _ => false) (fun r => match r with | 4 => [(0, 0, []), (1, 0, []), (2, 0, []), (4, 0, []), (3, 1, []), (5, 3, [3]), (6, 0, [])] | _ => []) (fun _ => hdLp Sh.str h xs k (.slice a xs.length c)) mixed Try.func181 rfl rfl rfl (Nat.le_of_ble_eq_true rfl) ?_ ?_
  · refine vc_mp (by kernel_rfl : (True ∧ (True ∧ (∀ (i : Nat × Int × AHeap), HdI Sh.str h xs k (Prod.fst i) (Prod.fst (Prod.snd i)) (Prod.snd (Prod.snd i)) → bs (decide ((↑(Prod.fst i) : Int) < (↑(List.length xs) : Int))) (∃ (l : Nat), ∃ (r : Nat), a = some (Addr.mk l r (some (1 : Nat))) ∧ (0 : Int) ≤ (↑(Prod.fst i) : Int) ∧ (↑(Prod.fst i) : Int) < (↑(List.length xs) : Int) ∧ ∃ (x : ByteArray), AHeap.ld (Prod.snd (Prod.snd i)) l (r + Int.toNat (↑(Prod.fst i) : Int)) (0 : Nat) (1 : Nat) = some [Value.string x] ∧ ∃ (x_1 : ByteArray), ∃ (h' : AHeap), ACall Try.prog (170 : Nat) [Value.int IntKind.i64 (Prod.fst (Prod.snd i))] (Prod.snd (Prod.snd i)) (Value.string x_1) h' ∧ (∃ (x_2 : ByteArray), AHeap.ld h' l (r + Int.toNat (↑(Prod.fst i) : Int)) (0 : Nat) (1 : Nat) = some [Value.string x_2] ∧ Value.string x_2 = Value.string x) ∧ bs (!decide (x = x_1)) False (∃ (j : Nat × Int × AHeap), Value.slice a (List.length xs) c = Value.slice a (List.length xs) c ∧ Value.int IntKind.i64 (IntKind.wrap IntKind.i64 (Prod.fst (Prod.snd i) + (1 : Int))) = Value.int IntKind.i64 (Prod.fst (Prod.snd j)) ∧ Value.int IntKind.i64 (IntKind.wrap IntKind.i64 ((↑(Prod.fst i) : Int) + (1 : Int))) = Value.int IntKind.i64 (↑(Prod.fst j) : Int) ∧ Prod.snd (Prod.snd j) = h' ∧ HdI Sh.str h xs k (Prod.fst j) (Prod.fst (Prod.snd j)) (Prod.snd (Prod.snd j)) ∧ List.length xs - Prod.fst j < List.length xs - Prod.fst i ∧ (∀ (k : AHeap), AHeap.wf k ∧ AHeap.Le h k → AHeap.wf k ∧ AHeap.Le h k) ∧ ∀ (v : Value) (h : AHeap), False → False)) (∃ (j : AHeap), Value.int IntKind.i64 (Prod.fst (Prod.snd i)) = Value.int IntKind.i64 (Prod.snd (mrkL (Sh.mkd Sh.str) xs k)) ∧ j = Prod.snd (Prod.snd i) ∧ AHeap.wf j ∧ AHeap.Le h j)) ∧ (True ∧ True ∧ True) ∧ ((True ∧ (True ∧ True) ∧ True) ∧ True) ∧ True) ∧ True ∧ True) = _) ?_
    simp only [true_and, and_true]
    rintro ⟨i, ki, g⟩ I
    dsimp only at *
    have hi := I.hi
    have k0 := I.k0
    refine bs_d (fun hlt => ?_) (fun hge => ?_)
    · obtain ⟨x, hat⟩ : ∃ y : Sh.T Sh.str, xs[i]? = some y := ⟨_, List.getElem?_eq_getElem (by omega)⟩
      have bd : ki + 1 ≤ 1000000000000000 := I.bound hat hb
      obtain ⟨l, r, row, ha, _, hrd, hld⟩ := (hx.mono I.le).elem (I.at hat)
      obtain rfl : row = [.string (mtext ki)] := hrd
      obtain ⟨_, t1, A1, lt1, wt1, rfl⟩ := mt_spec (ki) _ I.wf (by omega)
      refine ⟨l, r, ha, Int.natCast_nonneg _, hlt, _, hld, _, _, A1, ⟨_, lt1.ld (hld), rfl⟩, bs_dn (fun e => absurd rfl e) (fun _ => ?_)⟩
      have hld := lt1.ld hld
      try rw [wrap_i64 (n := ki + 1) (by omega)]
      exact ⟨(i + 1, (Sh.mkd Sh.str x ki).2, _), rfl, by rw [wrap_i64 (by omega)] <;> rfl, rfl, I.step hat wt1 lt1, by dsimp only; omega, fun _ h => h, fun _ _ h => h⟩
    · exact ⟨g, by rw [I.finish (by omega)], rfl, I.wf, I.le⟩
  · refine vc_mp (by kernel_rfl : (∃ (i : Nat × Int × AHeap), Value.slice a (List.length xs) c = Value.slice a (List.length xs) c ∧ Value.int IntKind.i64 k = Value.int IntKind.i64 (Prod.fst (Prod.snd i)) ∧ Value.int IntKind.i64 (0 : Int) = Value.int IntKind.i64 (↑(Prod.fst i) : Int) ∧ Prod.snd (Prod.snd i) = h ∧ HdI Sh.str h xs k (Prod.fst i) (Prod.fst (Prod.snd i)) (Prod.snd (Prod.snd i)) ∧ (∀ (j : AHeap), AHeap.wf j ∧ AHeap.Le h j → Q (Value.int IntKind.i64 (Prod.snd (mrkL (Sh.mkd Sh.str) xs k))) j) ∧ ∀ (v : Value) (h : AHeap), False → Q v h) = _) ?_
    exact ⟨(0, k, h), rfl, rfl, rfl, rfl, .start hw hk, fun j hj => HQ _ _ ⟨rfl, hj⟩, fun _ _ h => h.elim⟩
theorem mkGroupS (h : AHeap) (hw : h.wf) (xs : List (Sh.T groupSh)) (v : Value) (ids : List Nat) (so : So h groupSh xs v ids) (nd : ids.Nodup) (k : Int) (hk : 0 ≤ k) (hb : (mrkL (Sh.mkd groupSh) xs k).2 ≤ 1000000000000000) :
    ∃ w h', ACall Try.prog 180 [v, .int .i64 k] h w h' ∧ w = .int .i64 (mrkL (Sh.mkd groupSh) xs k).2 ∧ h'.wf ∧ Out ids h h' ∧ So h' groupSh (mrkL (Sh.mkd groupSh) xs k).1 v ids := by
  have hn : (xs.length : Int) ≤ 1000000000000000 := by have := mrkL_cn (Sh.mkd_cn groupSh) xs k; have := len_le_sum (c := Sh.cn groupSh) (xs := xs) (fun x => by simp only [Sh.cn]; omega); omega
  obtain ⟨a, c, rfl⟩ := so.sl.isSlice
  refine acall_q fun Q HQ => ?_
  refine acall_vc (fun _ => false) (fun _ => []) (fun _ => mkLp groupSh h xs k (.slice a xs.length c) ids) mixed Try.func180 rfl rfl rfl (Nat.le_of_ble_eq_true rfl) ?_ ?_
  · refine vc_mp (by kernel_rfl : (True ∧ (True ∧ (∀ (i : Nat × Int × AHeap × List (Sh.T groupSh)), MkI groupSh h xs k (Value.slice a (List.length xs) c) ids (Prod.fst i) (Prod.fst (Prod.snd i)) (Prod.fst (Prod.snd (Prod.snd i))) (Prod.snd (Prod.snd (Prod.snd i))) → bs (decide ((↑(Prod.fst i) : Int) < (↑(List.length xs) : Int))) (∃ (x : ByteArray), ∃ (h' : AHeap), ACall Try.prog (170 : Nat) [Value.int IntKind.i64 (Prod.fst (Prod.snd i))] (Prod.fst (Prod.snd (Prod.snd i))) (Value.string x) h' ∧ ∃ (l : Nat), ∃ (r : Nat), a = some (Addr.mk l r (some (2 : Nat))) ∧ (0 : Int) ≤ (↑(Prod.fst i) : Int) ∧ (↑(Prod.fst i) : Int) < (↑(List.length xs) : Int) ∧ ∃ (h'_1 : AHeap), AHeap.wr h' l (r + Int.toNat (↑(Prod.fst i) : Int)) (0 : Nat) [Value.string x] = some h'_1 ∧ ∃ (l : Nat), ∃ (r : Nat), a = some (Addr.mk l r (some (2 : Nat))) ∧ (0 : Int) ≤ (↑(Prod.fst i) : Int) ∧ (↑(Prod.fst i) : Int) < (↑(List.length xs) : Int) ∧ ∃ (h' : AHeap), AHeap.wr h'_1 l (r + Int.toNat (↑(Prod.fst i) : Int)) (1 : Nat) [Value.int IntKind.i64 (IntKind.wrap IntKind.i64 (Prod.fst (Prod.snd i) + (1 : Int)))] = some h' ∧ ∃ (j : Nat × Int × AHeap × List (Sh.T groupSh)), Value.slice a (List.length xs) c = Value.slice a (List.length xs) c ∧ Value.int IntKind.i64 (IntKind.wrap IntKind.i64 (IntKind.wrap IntKind.i64 (Prod.fst (Prod.snd i) + (1 : Int)) + (1 : Int))) = Value.int IntKind.i64 (Prod.fst (Prod.snd j)) ∧ Value.int IntKind.i64 (IntKind.wrap IntKind.i64 ((↑(Prod.fst i) : Int) + (1 : Int))) = Value.int IntKind.i64 (↑(Prod.fst j) : Int) ∧ Prod.fst (Prod.snd (Prod.snd j)) = h' ∧ MkI groupSh h xs k (Value.slice a (List.length xs) c) ids (Prod.fst j) (Prod.fst (Prod.snd j)) (Prod.fst (Prod.snd (Prod.snd j))) (Prod.snd (Prod.snd (Prod.snd j))) ∧ List.length xs - Prod.fst j < List.length xs - Prod.fst i ∧ (∀ (k_1 : AHeap), AHeap.wf k_1 ∧ Out ids h k_1 ∧ So k_1 groupSh (Prod.fst (mrkL (Sh.mkd groupSh) xs k)) (Value.slice a (List.length xs) c) ids → AHeap.wf k_1 ∧ Out ids h k_1 ∧ So k_1 groupSh (Prod.fst (mrkL (Sh.mkd groupSh) xs k)) (Value.slice a (List.length xs) c) ids) ∧ ∀ (v : Value) (h : AHeap), False → False) (∃ (j : AHeap), Value.int IntKind.i64 (Prod.fst (Prod.snd i)) = Value.int IntKind.i64 (Prod.snd (mrkL (Sh.mkd groupSh) xs k)) ∧ j = Prod.fst (Prod.snd (Prod.snd i)) ∧ AHeap.wf j ∧ Out ids h j ∧ So j groupSh (Prod.fst (mrkL (Sh.mkd groupSh) xs k)) (Value.slice a (List.length xs) c) ids)) ∧ (True ∧ True ∧ True) ∧ (True ∧ True ∧ True ∧ True) ∧ True) ∧ True ∧ True) = _) ?_
    simp only [true_and, and_true]
    rintro ⟨i, ki, g, ys⟩ I
    dsimp only at *
    have hi := I.hi
    have k0 := I.k0
    refine bs_d (fun hlt => ?_) (fun hge => ?_)
    · obtain ⟨x, hx⟩ : ∃ y : Sh.T groupSh, xs[i]? = some y := ⟨_, List.getElem?_eq_getElem (by omega)⟩
      have bd : ki + 1 + 1 ≤ 1000000000000000 := I.bound hx hb
      obtain ⟨l, r, n', c', rows, cs, js, e, hin, E0, ro, hlj, ndj, hsub, fin⟩ := I.so.elem nd I.wf (I.at hx)
      cases e
      obtain ⟨rfl, rfl⟩ := ro_group.1 ro
      obtain ⟨_, t1, A1, lt1, wt1, rfl⟩ := mt_spec (ki) _ E0.wf (by omega)
      have E0 := E0.le lt1 wt1
      obtain ⟨g1, w1, E1, o1⟩ := E0.wr 0 [.string (mtext (ki))] [.string (mtext (ki)), .int .i64 x.2] (Nat.le_of_ble_eq_true rfl) rfl
      refine ⟨_, _, A1, l, r, rfl, Int.natCast_nonneg _, hlt, g1, w1, ?_⟩
      obtain ⟨g2, w2, E2, o2⟩ := E1.wr 1 [.int .i64 (ki + 1)] [.string (mtext (ki)), .int .i64 (ki + 1)] (Nat.le_of_ble_eq_true rfl) rfl
      try rw [wrap_i64 (n := ki + 1) (by omega)]
      refine ⟨l, r, rfl, Int.natCast_nonneg _, hlt, g2, w2, ?_⟩
      try rw [wrap_i64 (n := ki + 1 + 1) (by omega)]
      have so2 := fin _ _ (Sh.mkd groupSh x ki).1 E2 (ro_group.2 ⟨rfl, rfl⟩)
      exact ⟨(i + 1, (Sh.mkd groupSh x ki).2, _, ys.set i (Sh.mkd groupSh x ki).1), rfl, by rw [wrap_i64 (by omega)] <;> rfl, rfl, I.step hx E2.wf (E2.out.widen hsub) so2, by dsimp only; omega, fun _ h => h, fun _ _ h => h⟩
    · obtain ⟨e1, e2⟩ := I.finish (by omega)
      exact ⟨g, by rw [e1], rfl, I.wf, I.out, e2⟩
  · refine vc_mp (by kernel_rfl : (∃ (i : Nat × Int × AHeap × List (Sh.T groupSh)), Value.slice a (List.length xs) c = Value.slice a (List.length xs) c ∧ Value.int IntKind.i64 k = Value.int IntKind.i64 (Prod.fst (Prod.snd i)) ∧ Value.int IntKind.i64 (0 : Int) = Value.int IntKind.i64 (↑(Prod.fst i) : Int) ∧ Prod.fst (Prod.snd (Prod.snd i)) = h ∧ MkI groupSh h xs k (Value.slice a (List.length xs) c) ids (Prod.fst i) (Prod.fst (Prod.snd i)) (Prod.fst (Prod.snd (Prod.snd i))) (Prod.snd (Prod.snd (Prod.snd i))) ∧ (∀ (j : AHeap), AHeap.wf j ∧ Out ids h j ∧ So j groupSh (Prod.fst (mrkL (Sh.mkd groupSh) xs k)) (Value.slice a (List.length xs) c) ids → Q (Value.int IntKind.i64 (Prod.snd (mrkL (Sh.mkd groupSh) xs k))) j) ∧ ∀ (v : Value) (h : AHeap), False → Q v h) = _) ?_
    exact ⟨(0, k, h, xs), rfl, rfl, rfl, rfl, .start hw hk so, fun j hj => HQ _ _ ⟨rfl, hj⟩, fun _ _ h => h.elim⟩
theorem hdGroupS (h : AHeap) (hw : h.wf) (xs : List (Sh.T groupSh)) (v : Value) (k : Int) (hx : Sl h groupSh (mrkL (Sh.mkd groupSh) xs k).1 v) (hk : 0 ≤ k) (hb : (mrkL (Sh.mkd groupSh) xs k).2 ≤ 1000000000000000) :
    ∃ w h', ACall Try.prog 182 [v, .int .i64 k] h w h' ∧ w = .int .i64 (mrkL (Sh.mkd groupSh) xs k).2 ∧ h'.wf ∧ h.Le h' := by
  have hn : (xs.length : Int) ≤ 1000000000000000 := by have := mrkL_cn (Sh.mkd_cn groupSh) xs k; have := len_le_sum (c := Sh.cn groupSh) (xs := xs) (fun x => by simp only [Sh.cn]; omega); omega
  obtain ⟨a, c, rfl⟩ := hx.isSlice
  rw [mrkL_len] at hx ⊢
  refine acall_q fun Q HQ => ?_
  refine acall_vc (fun _ => false) (fun r => match r with | 4 => [(0, 0, []), (1, 0, []), (2, 0, []), (3, 0, []), (5, 0, []), (4, 1, []), (6, 3, [4]), (7, 0, [])] | _ => []) (fun _ => hdLp groupSh h xs k (.slice a xs.length c)) mixed Try.func182 rfl rfl rfl (Nat.le_of_ble_eq_true rfl) ?_ ?_
  · refine vc_mp (by kernel_rfl : (True ∧ (True ∧ (∀ (i : Nat × Int × AHeap), HdI groupSh h xs k (Prod.fst i) (Prod.fst (Prod.snd i)) (Prod.snd (Prod.snd i)) → bs (decide ((↑(Prod.fst i) : Int) < (↑(List.length xs) : Int))) (∃ (l : Nat), ∃ (r : Nat), a = some (Addr.mk l r (some (2 : Nat))) ∧ (0 : Int) ≤ (↑(Prod.fst i) : Int) ∧ (↑(Prod.fst i) : Int) < (↑(List.length xs) : Int) ∧ ∃ (x : ByteArray), AHeap.ld (Prod.snd (Prod.snd i)) l (r + Int.toNat (↑(Prod.fst i) : Int)) (0 : Nat) (1 : Nat) = some [Value.string x] ∧ ∃ (x_1 : ByteArray), ∃ (h' : AHeap), ACall Try.prog (170 : Nat) [Value.int IntKind.i64 (Prod.fst (Prod.snd i))] (Prod.snd (Prod.snd i)) (Value.string x_1) h' ∧ (∃ (x_2 : ByteArray), AHeap.ld h' l (r + Int.toNat (↑(Prod.fst i) : Int)) (0 : Nat) (1 : Nat) = some [Value.string x_2] ∧ Value.string x_2 = Value.string x) ∧ bs (!decide (x = x_1)) False (∃ (l : Nat), ∃ (r : Nat), a = some (Addr.mk l r (some (2 : Nat))) ∧ (0 : Int) ≤ (↑(Prod.fst i) : Int) ∧ (↑(Prod.fst i) : Int) < (↑(List.length xs) : Int) ∧ ∃ (x : Int), AHeap.ld h' l (r + Int.toNat (↑(Prod.fst i) : Int)) (1 : Nat) (1 : Nat) = some [Value.int IntKind.i64 x] ∧ bs (!decide (x = IntKind.wrap IntKind.i64 (Prod.fst (Prod.snd i) + (1 : Int)))) False (∃ (j : Nat × Int × AHeap), Value.slice a (List.length xs) c = Value.slice a (List.length xs) c ∧ Value.int IntKind.i64 (IntKind.wrap IntKind.i64 (IntKind.wrap IntKind.i64 (Prod.fst (Prod.snd i) + (1 : Int)) + (1 : Int))) = Value.int IntKind.i64 (Prod.fst (Prod.snd j)) ∧ Value.int IntKind.i64 (IntKind.wrap IntKind.i64 ((↑(Prod.fst i) : Int) + (1 : Int))) = Value.int IntKind.i64 (↑(Prod.fst j) : Int) ∧ Prod.snd (Prod.snd j) = h' ∧ HdI groupSh h xs k (Prod.fst j) (Prod.fst (Prod.snd j)) (Prod.snd (Prod.snd j)) ∧ List.length xs - Prod.fst j < List.length xs - Prod.fst i ∧ (∀ (k : AHeap), AHeap.wf k ∧ AHeap.Le h k → AHeap.wf k ∧ AHeap.Le h k) ∧ ∀ (v : Value) (h : AHeap), False → False))) (∃ (j : AHeap), Value.int IntKind.i64 (Prod.fst (Prod.snd i)) = Value.int IntKind.i64 (Prod.snd (mrkL (Sh.mkd groupSh) xs k)) ∧ j = Prod.snd (Prod.snd i) ∧ AHeap.wf j ∧ AHeap.Le h j)) ∧ (True ∧ True ∧ True) ∧ ((True ∧ (True ∧ True) ∧ True) ∧ True ∧ (True ∧ (True ∧ True) ∧ True) ∧ True) ∧ True) ∧ True ∧ True) = _) ?_
    simp only [true_and, and_true]
    rintro ⟨i, ki, g⟩ I
    dsimp only at *
    have hi := I.hi
    have k0 := I.k0
    refine bs_d (fun hlt => ?_) (fun hge => ?_)
    · obtain ⟨x, hat⟩ : ∃ y : Sh.T groupSh, xs[i]? = some y := ⟨_, List.getElem?_eq_getElem (by omega)⟩
      have bd : ki + 1 + 1 ≤ 1000000000000000 := I.bound hat hb
      obtain ⟨l, r, row, ha, _, hrd, hld⟩ := (hx.mono I.le).elem (I.at hat)
      obtain rfl := rd_group.1 hrd
      have hld : g.ld l (r + i) 0 2 = some [.string (mtext (ki)), .int .i64 (ki + 1)] := hld
      obtain ⟨_, t1, A1, lt1, wt1, rfl⟩ := mt_spec (ki) _ I.wf (by omega)
      refine ⟨l, r, ha, Int.natCast_nonneg _, hlt, _, ld_cells (k := 0) (m := 1) hld (Nat.le_of_ble_eq_true rfl), _, _, A1, ⟨_, lt1.ld (ld_cells (k := 0) (m := 1) hld (Nat.le_of_ble_eq_true rfl)), rfl⟩, bs_dn (fun e => absurd rfl e) (fun _ => ?_)⟩
      have hld := lt1.ld hld
      try rw [wrap_i64 (n := ki + 1) (by omega)]
      refine ⟨l, r, ha, Int.natCast_nonneg _, hlt, _, ld_cells (k := 1) (m := 1) hld (Nat.le_of_ble_eq_true rfl), bs_dn (fun e => absurd rfl e) (fun _ => ?_)⟩
      try rw [wrap_i64 (n := ki + 1 + 1) (by omega)]
      exact ⟨(i + 1, (Sh.mkd groupSh x ki).2, _), rfl, by rw [wrap_i64 (by omega)] <;> rfl, rfl, I.step hat wt1 lt1, by dsimp only; omega, fun _ h => h, fun _ _ h => h⟩
    · exact ⟨g, by rw [I.finish (by omega)], rfl, I.wf, I.le⟩
  · refine vc_mp (by kernel_rfl : (∃ (i : Nat × Int × AHeap), Value.slice a (List.length xs) c = Value.slice a (List.length xs) c ∧ Value.int IntKind.i64 k = Value.int IntKind.i64 (Prod.fst (Prod.snd i)) ∧ Value.int IntKind.i64 (0 : Int) = Value.int IntKind.i64 (↑(Prod.fst i) : Int) ∧ Prod.snd (Prod.snd i) = h ∧ HdI groupSh h xs k (Prod.fst i) (Prod.fst (Prod.snd i)) (Prod.snd (Prod.snd i)) ∧ (∀ (j : AHeap), AHeap.wf j ∧ AHeap.Le h j → Q (Value.int IntKind.i64 (Prod.snd (mrkL (Sh.mkd groupSh) xs k))) j) ∧ ∀ (v : Value) (h : AHeap), False → Q v h) = _) ?_
    exact ⟨(0, k, h), rfl, rfl, rfl, rfl, .start hw hk, fun j hj => HQ _ _ ⟨rfl, hj⟩, fun _ _ h => h.elim⟩
theorem mkTopicS (h : AHeap) (hw : h.wf) (xs : List (Sh.T topicSh)) (v : Value) (ids : List Nat) (so : So h topicSh xs v ids) (nd : ids.Nodup) (k : Int) (hk : 0 ≤ k) (hb : (mrkL (Sh.mkd topicSh) xs k).2 ≤ 1000000000000000) :
    ∃ w h', ACall Try.prog 154 [v, .int .i64 k] h w h' ∧ w = .int .i64 (mrkL (Sh.mkd topicSh) xs k).2 ∧ h'.wf ∧ Out ids h h' ∧ So h' topicSh (mrkL (Sh.mkd topicSh) xs k).1 v ids := by
  have hn : (xs.length : Int) ≤ 1000000000000000 := by have := mrkL_cn (Sh.mkd_cn topicSh) xs k; have := len_le_sum (c := Sh.cn topicSh) (xs := xs) (fun x => by simp only [Sh.cn]; omega); omega
  obtain ⟨a, c, rfl⟩ := so.sl.isSlice
  refine acall_q fun Q HQ => ?_
  refine acall_vc (fun _ => false) (fun _ => []) (fun _ => mkLp topicSh h xs k (.slice a xs.length c) ids) mixed Try.func154 rfl rfl rfl (Nat.le_of_ble_eq_true rfl) ?_ ?_
  · refine vc_mp (by kernel_rfl : (True ∧ (True ∧ (∀ (i : Nat × Int × AHeap × List (Sh.T topicSh)), MkI topicSh h xs k (Value.slice a (List.length xs) c) ids (Prod.fst i) (Prod.fst (Prod.snd i)) (Prod.fst (Prod.snd (Prod.snd i))) (Prod.snd (Prod.snd (Prod.snd i))) → bs (decide ((↑(Prod.fst i) : Int) < (↑(List.length xs) : Int))) (∃ (x : ByteArray), ∃ (h' : AHeap), ACall Try.prog (170 : Nat) [Value.int IntKind.i64 (Prod.fst (Prod.snd i))] (Prod.fst (Prod.snd (Prod.snd i))) (Value.string x) h' ∧ ∃ (l : Nat), ∃ (r : Nat), a = some (Addr.mk l r (some (4 : Nat))) ∧ (0 : Int) ≤ (↑(Prod.fst i) : Int) ∧ (↑(Prod.fst i) : Int) < (↑(List.length xs) : Int) ∧ ∃ (h'_1 : AHeap), AHeap.wr h' l (r + Int.toNat (↑(Prod.fst i) : Int)) (0 : Nat) [Value.string x] = some h'_1 ∧ ∃ (l : Nat), ∃ (r : Nat), a = some (Addr.mk l r (some (4 : Nat))) ∧ (0 : Int) ≤ (↑(Prod.fst i) : Int) ∧ (↑(Prod.fst i) : Int) < (↑(List.length xs) : Int) ∧ ∃ (h' : AHeap), AHeap.wr h'_1 l (r + Int.toNat (↑(Prod.fst i) : Int)) (1 : Nat) [Value.int IntKind.i64 (IntKind.wrap IntKind.i64 (Prod.fst (Prod.snd i) + (1 : Int)))] = some h' ∧ ∃ (l : Nat), ∃ (r : Nat), a = some (Addr.mk l r (some (4 : Nat))) ∧ (0 : Int) ≤ (↑(Prod.fst i) : Int) ∧ (↑(Prod.fst i) : Int) < (↑(List.length xs) : Int) ∧ ∃ (a_2 : Option Addr), ∃ (n : Nat), ∃ (c_1 : Nat), AHeap.ld h' l (r + Int.toNat (↑(Prod.fst i) : Int)) (2 : Nat) (1 : Nat) = some [Value.slice a_2 n c_1] ∧ ∃ (x : Int), ∃ (h'_2 : AHeap), ACall Try.prog (179 : Nat) [Value.slice a_2 n c_1, Value.int IntKind.i64 (IntKind.wrap IntKind.i64 (IntKind.wrap IntKind.i64 (Prod.fst (Prod.snd i) + (1 : Int)) + (1 : Int)))] h' (Value.int IntKind.i64 x) h'_2 ∧ ∃ (l : Nat), ∃ (r : Nat), a = some (Addr.mk l r (some (4 : Nat))) ∧ (0 : Int) ≤ (↑(Prod.fst i) : Int) ∧ (↑(Prod.fst i) : Int) < (↑(List.length xs) : Int) ∧ ∃ (a_3 : Option Addr), ∃ (n : Nat), ∃ (c_2 : Nat), AHeap.ld h'_2 l (r + Int.toNat (↑(Prod.fst i) : Int)) (3 : Nat) (1 : Nat) = some [Value.slice a_3 n c_2] ∧ ∃ (x_1 : Int), ∃ (h' : AHeap), ACall Try.prog (180 : Nat) [Value.slice a_3 n c_2, Value.int IntKind.i64 x] h'_2 (Value.int IntKind.i64 x_1) h' ∧ ∃ (j : Nat × Int × AHeap × List (Sh.T topicSh)), Value.slice a (List.length xs) c = Value.slice a (List.length xs) c ∧ Value.int IntKind.i64 x_1 = Value.int IntKind.i64 (Prod.fst (Prod.snd j)) ∧ Value.int IntKind.i64 (IntKind.wrap IntKind.i64 ((↑(Prod.fst i) : Int) + (1 : Int))) = Value.int IntKind.i64 (↑(Prod.fst j) : Int) ∧ Prod.fst (Prod.snd (Prod.snd j)) = h' ∧ MkI topicSh h xs k (Value.slice a (List.length xs) c) ids (Prod.fst j) (Prod.fst (Prod.snd j)) (Prod.fst (Prod.snd (Prod.snd j))) (Prod.snd (Prod.snd (Prod.snd j))) ∧ List.length xs - Prod.fst j < List.length xs - Prod.fst i ∧ (∀ (k_1 : AHeap), AHeap.wf k_1 ∧ Out ids h k_1 ∧ So k_1 topicSh (Prod.fst (mrkL (Sh.mkd topicSh) xs k)) (Value.slice a (List.length xs) c) ids → AHeap.wf k_1 ∧ Out ids h k_1 ∧ So k_1 topicSh (Prod.fst (mrkL (Sh.mkd topicSh) xs k)) (Value.slice a (List.length xs) c) ids) ∧ ∀ (v : Value) (h : AHeap), False → False) (∃ (j : AHeap), Value.int IntKind.i64 (Prod.fst (Prod.snd i)) = Value.int IntKind.i64 (Prod.snd (mrkL (Sh.mkd topicSh) xs k)) ∧ j = Prod.fst (Prod.snd (Prod.snd i)) ∧ AHeap.wf j ∧ Out ids h j ∧ So j topicSh (Prod.fst (mrkL (Sh.mkd topicSh) xs k)) (Value.slice a (List.length xs) c) ids)) ∧ (True ∧ True ∧ True) ∧ (True ∧ True ∧ True ∧ True ∧ True ∧ True) ∧ True) ∧ True ∧ True) = _) ?_
    simp only [true_and, and_true]
    rintro ⟨i, ki, g, ys⟩ I
    dsimp only at *
    have hi := I.hi
    have k0 := I.k0
    refine bs_d (fun hlt => ?_) (fun hge => ?_)
    · obtain ⟨x, hx⟩ : ∃ y : Sh.T topicSh, xs[i]? = some y := ⟨_, List.getElem?_eq_getElem (by omega)⟩
      have bd : (mrkL (Sh.mkd groupSh) x.2.2.2 (mrkL (Sh.mkd Sh.str) x.2.2.1 (ki + 1 + 1)).2).2 ≤ 1000000000000000 := I.bound hx hb
      obtain ⟨l, r, n', c', rows, cs, js, e, hin, E0, ro, hlj, ndj, hsub, fin⟩ := I.so.elem nd I.wf (I.at hx)
      cases e
      have q1 := Sh.mrkL_le Sh.str x.2.2.1 (ki + 1 + 1)
      have q2 := Sh.mrkL_le groupSh x.2.2.2 ((mrkL (Sh.mkd Sh.str) x.2.2.1 (ki + 1 + 1)).2)
      obtain ⟨v1, v2, j1, j2, rfl, rfl, s1, s2⟩ := ro_topic.1 ro
      obtain ⟨a1, c1, rfl⟩ := s1.sl.isSlice
      obtain ⟨a2, c2, rfl⟩ := s2.sl.isSlice
      try simp only [List.mem_append, not_or, List.append_nil, List.nil_append, List.not_mem_nil, not_false_eq_true, true_and, and_true] at hlj
      try simp only [List.nodup_append, List.append_nil, List.nil_append, List.nodup_nil, List.not_mem_nil, List.mem_append, false_imp_iff, implies_true, true_and, and_true] at ndj
      obtain ⟨_, t1, A1, lt1, wt1, rfl⟩ := mt_spec (ki) _ E0.wf (by omega)
      have E0 := E0.le lt1 wt1
      have s1 := So.le lt1 s1
      have s2 := So.le lt1 s2
      obtain ⟨g1, w1, E1, o1⟩ := E0.wr 0 [.string (mtext (ki))] [.string (mtext (ki)), .int .i64 x.2.1, _, _] (Nat.le_of_ble_eq_true rfl) rfl
      have s1 := s1.out o1 (nin1 hlj.1)
      have s2 := s2.out o1 (nin1 hlj.2)
      refine ⟨_, _, A1, l, r, rfl, Int.natCast_nonneg _, hlt, g1, w1, ?_⟩
      obtain ⟨g2, w2, E2, o2⟩ := E1.wr 1 [.int .i64 (ki + 1)] [.string (mtext (ki)), .int .i64 (ki + 1), _, _] (Nat.le_of_ble_eq_true rfl) rfl
      have s1 := s1.out o2 (nin1 hlj.1)
      have s2 := s2.out o2 (nin1 hlj.2)
      try rw [wrap_i64 (n := ki + 1) (by omega)]
      refine ⟨l, r, rfl, Int.natCast_nonneg _, hlt, g2, w2, ?_⟩
      try rw [wrap_i64 (n := ki + 1 + 1) (by omega)]
      obtain ⟨_, t2, A2, rfl, wt2, ot2, s1⟩ := mkStringS _ E2.wf x.2.2.1 _ _ s1 ndj.1 (ki + 1 + 1) (by omega) (by omega)
      have s2 := s2.out ot2 (by intro z hz hz2; have := ndj.2.2; first | exact this z (by simp [hz]) z (by simp [hz2]) rfl | exact this z (by simp [hz2]) z (by simp [hz]) rfl)
      refine ⟨l, r, rfl, Int.natCast_nonneg _, hlt, _, _, _, E2.ld 2 1 (Nat.le_of_ble_eq_true rfl), _, _, A2, ?_⟩
      have F2' := E2.call ot2 wt2 hlj.1 (by intro z hz; simp [hz])
      obtain ⟨_, t3, A3, rfl, wt3, ot3, s2⟩ := mkGroupS _ F2'.wf x.2.2.2 _ _ s2 ndj.2.1 ((mrkL (Sh.mkd Sh.str) x.2.2.1 (ki + 1 + 1)).2) (by omega) (by omega)
      have s1 := s1.out ot3 (by intro z hz hz2; have := ndj.2.2; first | exact this z (by simp [hz]) z (by simp [hz2]) rfl | exact this z (by simp [hz2]) z (by simp [hz]) rfl)
      refine ⟨l, r, rfl, Int.natCast_nonneg _, hlt, _, _, _, F2'.ld 3 1 (Nat.le_of_ble_eq_true rfl), _, _, A3, ?_⟩
      have F3' := F2'.call ot3 wt3 hlj.2 (by intro z hz; simp [hz])
      have so2 := fin _ _ (Sh.mkd topicSh x ki).1 F3' (ro_topic.2 ⟨_, _, _, _, rfl, rfl, s1, s2⟩)
      exact ⟨(i + 1, (Sh.mkd topicSh x ki).2, _, ys.set i (Sh.mkd topicSh x ki).1), rfl, by rw [wrap_i64 (by omega)] <;> rfl, rfl, I.step hx F3'.wf (F3'.out.widen hsub) so2, by dsimp only; omega, fun _ h => h, fun _ _ h => h⟩
    · obtain ⟨e1, e2⟩ := I.finish (by omega)
      exact ⟨g, by rw [e1], rfl, I.wf, I.out, e2⟩
  · refine vc_mp (by kernel_rfl : (∃ (i : Nat × Int × AHeap × List (Sh.T topicSh)), Value.slice a (List.length xs) c = Value.slice a (List.length xs) c ∧ Value.int IntKind.i64 k = Value.int IntKind.i64 (Prod.fst (Prod.snd i)) ∧ Value.int IntKind.i64 (0 : Int) = Value.int IntKind.i64 (↑(Prod.fst i) : Int) ∧ Prod.fst (Prod.snd (Prod.snd i)) = h ∧ MkI topicSh h xs k (Value.slice a (List.length xs) c) ids (Prod.fst i) (Prod.fst (Prod.snd i)) (Prod.fst (Prod.snd (Prod.snd i))) (Prod.snd (Prod.snd (Prod.snd i))) ∧ (∀ (j : AHeap), AHeap.wf j ∧ Out ids h j ∧ So j topicSh (Prod.fst (mrkL (Sh.mkd topicSh) xs k)) (Value.slice a (List.length xs) c) ids → Q (Value.int IntKind.i64 (Prod.snd (mrkL (Sh.mkd topicSh) xs k))) j) ∧ ∀ (v : Value) (h : AHeap), False → Q v h) = _) ?_
    exact ⟨(0, k, h, xs), rfl, rfl, rfl, rfl, .start hw hk so, fun j hj => HQ _ _ ⟨rfl, hj⟩, fun _ _ h => h.elim⟩
theorem hdTopicS (h : AHeap) (hw : h.wf) (xs : List (Sh.T topicSh)) (v : Value) (k : Int) (hx : Sl h topicSh (mrkL (Sh.mkd topicSh) xs k).1 v) (hk : 0 ≤ k) (hb : (mrkL (Sh.mkd topicSh) xs k).2 ≤ 1000000000000000) :
    ∃ w h', ACall Try.prog 156 [v, .int .i64 k] h w h' ∧ w = .int .i64 (mrkL (Sh.mkd topicSh) xs k).2 ∧ h'.wf ∧ h.Le h' := by
  have hn : (xs.length : Int) ≤ 1000000000000000 := by have := mrkL_cn (Sh.mkd_cn topicSh) xs k; have := len_le_sum (c := Sh.cn topicSh) (xs := xs) (fun x => by simp only [Sh.cn]; omega); omega
  obtain ⟨a, c, rfl⟩ := hx.isSlice
  rw [mrkL_len] at hx ⊢
  refine acall_q fun Q HQ => ?_
  refine acall_vc (fun _ => false) (fun r => match r with | 4 => [(0, 0, []), (1, 0, []), (2, 0, []), (3, 0, []), (5, 0, []), (4, 1, []), (6, 3, [4]), (7, 0, [])] | _ => []) (fun _ => hdLp topicSh h xs k (.slice a xs.length c)) mixed Try.func156 rfl rfl rfl (Nat.le_of_ble_eq_true rfl) ?_ ?_
  · refine vc_mp (by kernel_rfl : (True ∧ (True ∧ (∀ (i : Nat × Int × AHeap), HdI topicSh h xs k (Prod.fst i) (Prod.fst (Prod.snd i)) (Prod.snd (Prod.snd i)) → bs (decide ((↑(Prod.fst i) : Int) < (↑(List.length xs) : Int))) (∃ (l : Nat), ∃ (r : Nat), a = some (Addr.mk l r (some (4 : Nat))) ∧ (0 : Int) ≤ (↑(Prod.fst i) : Int) ∧ (↑(Prod.fst i) : Int) < (↑(List.length xs) : Int) ∧ ∃ (x : ByteArray), AHeap.ld (Prod.snd (Prod.snd i)) l (r + Int.toNat (↑(Prod.fst i) : Int)) (0 : Nat) (1 : Nat) = some [Value.string x] ∧ ∃ (x_1 : ByteArray), ∃ (h' : AHeap), ACall Try.prog (170 : Nat) [Value.int IntKind.i64 (Prod.fst (Prod.snd i))] (Prod.snd (Prod.snd i)) (Value.string x_1) h' ∧ (∃ (x_2 : ByteArray), AHeap.ld h' l (r + Int.toNat (↑(Prod.fst i) : Int)) (0 : Nat) (1 : Nat) = some [Value.string x_2] ∧ Value.string x_2 = Value.string x) ∧ bs (!decide (x = x_1)) False (∃ (l : Nat), ∃ (r : Nat), a = some (Addr.mk l r (some (4 : Nat))) ∧ (0 : Int) ≤ (↑(Prod.fst i) : Int) ∧ (↑(Prod.fst i) : Int) < (↑(List.length xs) : Int) ∧ ∃ (x : Int), AHeap.ld h' l (r + Int.toNat (↑(Prod.fst i) : Int)) (1 : Nat) (1 : Nat) = some [Value.int IntKind.i64 x] ∧ bs (!decide (x = IntKind.wrap IntKind.i64 (Prod.fst (Prod.snd i) + (1 : Int)))) False (∃ (l : Nat), ∃ (r : Nat), a = some (Addr.mk l r (some (4 : Nat))) ∧ (0 : Int) ≤ (↑(Prod.fst i) : Int) ∧ (↑(Prod.fst i) : Int) < (↑(List.length xs) : Int) ∧ ∃ (a_2 : Option Addr), ∃ (n : Nat), ∃ (c_1 : Nat), AHeap.ld h' l (r + Int.toNat (↑(Prod.fst i) : Int)) (2 : Nat) (1 : Nat) = some [Value.slice a_2 n c_1] ∧ ∃ (x : Int), ∃ (h'_1 : AHeap), ACall Try.prog (181 : Nat) [Value.slice a_2 n c_1, Value.int IntKind.i64 (IntKind.wrap IntKind.i64 (IntKind.wrap IntKind.i64 (Prod.fst (Prod.snd i) + (1 : Int)) + (1 : Int)))] h' (Value.int IntKind.i64 x) h'_1 ∧ bs (decide (x < (0 : Int))) False (∃ (l : Nat), ∃ (r : Nat), a = some (Addr.mk l r (some (4 : Nat))) ∧ (0 : Int) ≤ (↑(Prod.fst i) : Int) ∧ (↑(Prod.fst i) : Int) < (↑(List.length xs) : Int) ∧ ∃ (a_3 : Option Addr), ∃ (n : Nat), ∃ (c_2 : Nat), AHeap.ld h'_1 l (r + Int.toNat (↑(Prod.fst i) : Int)) (3 : Nat) (1 : Nat) = some [Value.slice a_3 n c_2] ∧ ∃ (x_2 : Int), ∃ (h' : AHeap), ACall Try.prog (182 : Nat) [Value.slice a_3 n c_2, Value.int IntKind.i64 x] h'_1 (Value.int IntKind.i64 x_2) h' ∧ bs (decide (x_2 < (0 : Int))) False (∃ (j : Nat × Int × AHeap), Value.slice a (List.length xs) c = Value.slice a (List.length xs) c ∧ Value.int IntKind.i64 x_2 = Value.int IntKind.i64 (Prod.fst (Prod.snd j)) ∧ Value.int IntKind.i64 (IntKind.wrap IntKind.i64 ((↑(Prod.fst i) : Int) + (1 : Int))) = Value.int IntKind.i64 (↑(Prod.fst j) : Int) ∧ Prod.snd (Prod.snd j) = h' ∧ HdI topicSh h xs k (Prod.fst j) (Prod.fst (Prod.snd j)) (Prod.snd (Prod.snd j)) ∧ List.length xs - Prod.fst j < List.length xs - Prod.fst i ∧ (∀ (k : AHeap), AHeap.wf k ∧ AHeap.Le h k → AHeap.wf k ∧ AHeap.Le h k) ∧ ∀ (v : Value) (h : AHeap), False → False))))) (∃ (j : AHeap), Value.int IntKind.i64 (Prod.fst (Prod.snd i)) = Value.int IntKind.i64 (Prod.snd (mrkL (Sh.mkd topicSh) xs k)) ∧ j = Prod.snd (Prod.snd i) ∧ AHeap.wf j ∧ AHeap.Le h j)) ∧ (True ∧ True ∧ True) ∧ ((True ∧ (True ∧ True) ∧ True) ∧ True ∧ (True ∧ (True ∧ True) ∧ True) ∧ True ∧ True ∧ (True ∧ (True ∧ True) ∧ True) ∧ True ∧ True ∧ (True ∧ True) ∧ True) ∧ True) ∧ True ∧ True) = _) ?_
    simp only [true_and, and_true]
    rintro ⟨i, ki, g⟩ I
    dsimp only at *
    have hi := I.hi
    have k0 := I.k0
    refine bs_d (fun hlt => ?_) (fun hge => ?_)
    · obtain ⟨x, hat⟩ : ∃ y : Sh.T topicSh, xs[i]? = some y := ⟨_, List.getElem?_eq_getElem (by omega)⟩
      have bd : (mrkL (Sh.mkd groupSh) x.2.2.2 (mrkL (Sh.mkd Sh.str) x.2.2.1 (ki + 1 + 1)).2).2 ≤ 1000000000000000 := I.bound hat hb
      have q1 := Sh.mrkL_le Sh.str x.2.2.1 (ki + 1 + 1)
      have q2 := Sh.mrkL_le groupSh x.2.2.2 ((mrkL (Sh.mkd Sh.str) x.2.2.1 (ki + 1 + 1)).2)
      obtain ⟨l, r, row, ha, _, hrd, hld⟩ := (hx.mono I.le).elem (I.at hat)
      obtain ⟨v1, v2, rfl, s1, s2⟩ := rd_topic.1 hrd
      have hld : g.ld l (r + i) 0 4 = some [.string (mtext (ki)), .int .i64 (ki + 1), v1, v2] := hld
      have s1 : Sl g Sh.str (mrkL (Sh.mkd Sh.str) x.2.2.1 (ki + 1 + 1)).1 v1 := s1
      obtain ⟨a1, c1, rfl⟩ := s1.isSlice
      have s2 : Sl g groupSh (mrkL (Sh.mkd groupSh) x.2.2.2 ((mrkL (Sh.mkd Sh.str) x.2.2.1 (ki + 1 + 1)).2)).1 v2 := s2
      obtain ⟨a2, c2, rfl⟩ := s2.isSlice
      obtain ⟨_, t1, A1, lt1, wt1, rfl⟩ := mt_spec (ki) _ I.wf (by omega)
      refine ⟨l, r, ha, Int.natCast_nonneg _, hlt, _, ld_cells (k := 0) (m := 1) hld (Nat.le_of_ble_eq_true rfl), _, _, A1, ⟨_, lt1.ld (ld_cells (k := 0) (m := 1) hld (Nat.le_of_ble_eq_true rfl)), rfl⟩, bs_dn (fun e => absurd rfl e) (fun _ => ?_)⟩
      have hld := lt1.ld hld
      have s1 := s1.mono lt1
      have s2 := s2.mono lt1
      try rw [wrap_i64 (n := ki + 1) (by omega)]
      refine ⟨l, r, ha, Int.natCast_nonneg _, hlt, _, ld_cells (k := 1) (m := 1) hld (Nat.le_of_ble_eq_true rfl), bs_dn (fun e => absurd rfl e) (fun _ => ?_)⟩
      try rw [wrap_i64 (n := ki + 1 + 1) (by omega)]
      obtain ⟨_, t2, A2, rfl, wt2, lt2⟩ := hdStringS _ wt1 x.2.2.1 _ (ki + 1 + 1) s1 (by omega) (by omega)
      refine ⟨l, r, ha, Int.natCast_nonneg _, hlt, _, _, _, ld_cells (k := 2) (m := 1) hld (Nat.le_of_ble_eq_true rfl), _, _, A2, bs_d (fun e => absurd e (by omega)) (fun _ => ?_)⟩
      have hld := lt2.ld hld
      have s1 := s1.mono lt2
      have s2 := s2.mono lt2
      obtain ⟨_, t3, A3, rfl, wt3, lt3⟩ := hdGroupS _ wt2 x.2.2.2 _ ((mrkL (Sh.mkd Sh.str) x.2.2.1 (ki + 1 + 1)).2) s2 (by omega) (by omega)
      refine ⟨l, r, ha, Int.natCast_nonneg _, hlt, _, _, _, ld_cells (k := 3) (m := 1) hld (Nat.le_of_ble_eq_true rfl), _, _, A3, bs_d (fun e => absurd e (by omega)) (fun _ => ?_)⟩
      have hld := lt3.ld hld
      have s1 := s1.mono lt3
      have s2 := s2.mono lt3
      exact ⟨(i + 1, (Sh.mkd topicSh x ki).2, _), rfl, by rw [wrap_i64 (by omega)] <;> rfl, rfl, I.step hat wt3 (lt1.trans (lt2.trans lt3)), by dsimp only; omega, fun _ h => h, fun _ _ h => h⟩
    · exact ⟨g, by rw [I.finish (by omega)], rfl, I.wf, I.le⟩
  · refine vc_mp (by kernel_rfl : (∃ (i : Nat × Int × AHeap), Value.slice a (List.length xs) c = Value.slice a (List.length xs) c ∧ Value.int IntKind.i64 k = Value.int IntKind.i64 (Prod.fst (Prod.snd i)) ∧ Value.int IntKind.i64 (0 : Int) = Value.int IntKind.i64 (↑(Prod.fst i) : Int) ∧ Prod.snd (Prod.snd i) = h ∧ HdI topicSh h xs k (Prod.fst i) (Prod.fst (Prod.snd i)) (Prod.snd (Prod.snd i)) ∧ (∀ (j : AHeap), AHeap.wf j ∧ AHeap.Le h j → Q (Value.int IntKind.i64 (Prod.snd (mrkL (Sh.mkd topicSh) xs k))) j) ∧ ∀ (v : Value) (h : AHeap), False → Q v h) = _) ?_
    exact ⟨(0, k, h), rfl, rfl, rfl, rfl, .start hw hk, fun j hj => HQ _ _ ⟨rfl, hj⟩, fun _ _ h => h.elim⟩
theorem mkReplyS (h : AHeap) (hw : h.wf) (xs : List (Sh.T replySh)) (v : Value) (ids : List Nat) (so : So h replySh xs v ids) (nd : ids.Nodup) (k : Int) (hk : 0 ≤ k) (hb : (mrkL (Sh.mkd replySh) xs k).2 ≤ 1000000000000000) :
    ∃ w h', ACall Try.prog 155 [v, .int .i64 k] h w h' ∧ w = .int .i64 (mrkL (Sh.mkd replySh) xs k).2 ∧ h'.wf ∧ Out ids h h' ∧ So h' replySh (mrkL (Sh.mkd replySh) xs k).1 v ids := by
  have hn : (xs.length : Int) ≤ 1000000000000000 := by have := mrkL_cn (Sh.mkd_cn replySh) xs k; have := len_le_sum (c := Sh.cn replySh) (xs := xs) (fun x => by simp only [Sh.cn]; omega); omega
  obtain ⟨a, c, rfl⟩ := so.sl.isSlice
  refine acall_q fun Q HQ => ?_
  refine acall_vc (fun _ => false) (fun _ => []) (fun _ => mkLp replySh h xs k (.slice a xs.length c) ids) mixed Try.func155 rfl rfl rfl (Nat.le_of_ble_eq_true rfl) ?_ ?_
  · refine vc_mp (by kernel_rfl : (True ∧ (True ∧ (∀ (i : Nat × Int × AHeap × List (Sh.T replySh)), MkI replySh h xs k (Value.slice a (List.length xs) c) ids (Prod.fst i) (Prod.fst (Prod.snd i)) (Prod.fst (Prod.snd (Prod.snd i))) (Prod.snd (Prod.snd (Prod.snd i))) → bs (decide ((↑(Prod.fst i) : Int) < (↑(List.length xs) : Int))) (∃ (l : Nat), ∃ (r : Nat), a = some (Addr.mk l r (some (3 : Nat))) ∧ (0 : Int) ≤ (↑(Prod.fst i) : Int) ∧ (↑(Prod.fst i) : Int) < (↑(List.length xs) : Int) ∧ ∃ (h' : AHeap), AHeap.wr (Prod.fst (Prod.snd (Prod.snd i))) l (r + Int.toNat (↑(Prod.fst i) : Int)) (0 : Nat) [Value.int IntKind.i64 (Prod.fst (Prod.snd i))] = some h' ∧ ∃ (l : Nat), ∃ (r : Nat), a = some (Addr.mk l r (some (3 : Nat))) ∧ (0 : Int) ≤ (↑(Prod.fst i) : Int) ∧ (↑(Prod.fst i) : Int) < (↑(List.length xs) : Int) ∧ ∃ (h'_1 : AHeap), AHeap.wr h' l (r + Int.toNat (↑(Prod.fst i) : Int)) (1 : Nat) [Value.int IntKind.i64 (IntKind.wrap IntKind.i64 (Prod.fst (Prod.snd i) + (1 : Int)))] = some h'_1 ∧ ∃ (x : ByteArray), ∃ (h' : AHeap), ACall Try.prog (170 : Nat) [Value.int IntKind.i64 (IntKind.wrap IntKind.i64 (IntKind.wrap IntKind.i64 (Prod.fst (Prod.snd i) + (1 : Int)) + (1 : Int)))] h'_1 (Value.string x) h' ∧ ∃ (l : Nat), ∃ (r : Nat), a = some (Addr.mk l r (some (3 : Nat))) ∧ (0 : Int) ≤ (↑(Prod.fst i) : Int) ∧ (↑(Prod.fst i) : Int) < (↑(List.length xs) : Int) ∧ ∃ (h'_2 : AHeap), AHeap.wr h' l (r + Int.toNat (↑(Prod.fst i) : Int)) (2 : Nat) [Value.string x] = some h'_2 ∧ ∃ (j : Nat × Int × AHeap × List (Sh.T replySh)), Value.slice a (List.length xs) c = Value.slice a (List.length xs) c ∧ Value.int IntKind.i64 (IntKind.wrap IntKind.i64 (IntKind.wrap IntKind.i64 (IntKind.wrap IntKind.i64 (Prod.fst (Prod.snd i) + (1 : Int)) + (1 : Int)) + (1 : Int))) = Value.int IntKind.i64 (Prod.fst (Prod.snd j)) ∧ Value.int IntKind.i64 (IntKind.wrap IntKind.i64 ((↑(Prod.fst i) : Int) + (1 : Int))) = Value.int IntKind.i64 (↑(Prod.fst j) : Int) ∧ Prod.fst (Prod.snd (Prod.snd j)) = h'_2 ∧ MkI replySh h xs k (Value.slice a (List.length xs) c) ids (Prod.fst j) (Prod.fst (Prod.snd j)) (Prod.fst (Prod.snd (Prod.snd j))) (Prod.snd (Prod.snd (Prod.snd j))) ∧ List.length xs - Prod.fst j < List.length xs - Prod.fst i ∧ (∀ (k_1 : AHeap), AHeap.wf k_1 ∧ Out ids h k_1 ∧ So k_1 replySh (Prod.fst (mrkL (Sh.mkd replySh) xs k)) (Value.slice a (List.length xs) c) ids → AHeap.wf k_1 ∧ Out ids h k_1 ∧ So k_1 replySh (Prod.fst (mrkL (Sh.mkd replySh) xs k)) (Value.slice a (List.length xs) c) ids) ∧ ∀ (v : Value) (h : AHeap), False → False) (∃ (j : AHeap), Value.int IntKind.i64 (Prod.fst (Prod.snd i)) = Value.int IntKind.i64 (Prod.snd (mrkL (Sh.mkd replySh) xs k)) ∧ j = Prod.fst (Prod.snd (Prod.snd i)) ∧ AHeap.wf j ∧ Out ids h j ∧ So j replySh (Prod.fst (mrkL (Sh.mkd replySh) xs k)) (Value.slice a (List.length xs) c) ids)) ∧ (True ∧ True ∧ True) ∧ (True ∧ True ∧ True ∧ True ∧ True ∧ True) ∧ True) ∧ True ∧ True) = _) ?_
    simp only [true_and, and_true]
    rintro ⟨i, ki, g, ys⟩ I
    dsimp only at *
    have hi := I.hi
    have k0 := I.k0
    refine bs_d (fun hlt => ?_) (fun hge => ?_)
    · obtain ⟨x, hx⟩ : ∃ y : Sh.T replySh, xs[i]? = some y := ⟨_, List.getElem?_eq_getElem (by omega)⟩
      have bd : ki + 1 + 1 + 1 ≤ 1000000000000000 := I.bound hx hb
      obtain ⟨l, r, n', c', rows, cs, js, e, hin, E0, ro, hlj, ndj, hsub, fin⟩ := I.so.elem nd I.wf (I.at hx)
      cases e
      obtain ⟨rfl, rfl⟩ := ro_reply.1 ro
      obtain ⟨g1, w1, E1, o1⟩ := E0.wr 0 [.int .i64 (ki)] [.int .i64 (ki), .int .i64 x.2.1, .string x.2.2] (Nat.le_of_ble_eq_true rfl) rfl
      refine ⟨l, r, rfl, Int.natCast_nonneg _, hlt, g1, w1, ?_⟩
      obtain ⟨g2, w2, E2, o2⟩ := E1.wr 1 [.int .i64 (ki + 1)] [.int .i64 (ki), .int .i64 (ki + 1), .string x.2.2] (Nat.le_of_ble_eq_true rfl) rfl
      try rw [wrap_i64 (n := ki + 1) (by omega)]
      refine ⟨l, r, rfl, Int.natCast_nonneg _, hlt, g2, w2, ?_⟩
      obtain ⟨_, t1, A1, lt1, wt1, rfl⟩ := mt_spec (ki + 1 + 1) _ E2.wf (by omega)
      have E2 := E2.le lt1 wt1
      obtain ⟨g3, w3, E3, o3⟩ := E2.wr 2 [.string (mtext (ki + 1 + 1))] [.int .i64 (ki), .int .i64 (ki + 1), .string (mtext (ki + 1 + 1))] (Nat.le_of_ble_eq_true rfl) rfl
      try rw [wrap_i64 (n := ki + 1 + 1) (by omega)]
      refine ⟨_, _, A1, l, r, rfl, Int.natCast_nonneg _, hlt, g3, w3, ?_⟩
      try rw [wrap_i64 (n := ki + 1 + 1 + 1) (by omega)]
      have so2 := fin _ _ (Sh.mkd replySh x ki).1 E3 (ro_reply.2 ⟨rfl, rfl⟩)
      exact ⟨(i + 1, (Sh.mkd replySh x ki).2, _, ys.set i (Sh.mkd replySh x ki).1), rfl, by rw [wrap_i64 (by omega)] <;> rfl, rfl, I.step hx E3.wf (E3.out.widen hsub) so2, by dsimp only; omega, fun _ h => h, fun _ _ h => h⟩
    · obtain ⟨e1, e2⟩ := I.finish (by omega)
      exact ⟨g, by rw [e1], rfl, I.wf, I.out, e2⟩
  · refine vc_mp (by kernel_rfl : (∃ (i : Nat × Int × AHeap × List (Sh.T replySh)), Value.slice a (List.length xs) c = Value.slice a (List.length xs) c ∧ Value.int IntKind.i64 k = Value.int IntKind.i64 (Prod.fst (Prod.snd i)) ∧ Value.int IntKind.i64 (0 : Int) = Value.int IntKind.i64 (↑(Prod.fst i) : Int) ∧ Prod.fst (Prod.snd (Prod.snd i)) = h ∧ MkI replySh h xs k (Value.slice a (List.length xs) c) ids (Prod.fst i) (Prod.fst (Prod.snd i)) (Prod.fst (Prod.snd (Prod.snd i))) (Prod.snd (Prod.snd (Prod.snd i))) ∧ (∀ (j : AHeap), AHeap.wf j ∧ Out ids h j ∧ So j replySh (Prod.fst (mrkL (Sh.mkd replySh) xs k)) (Value.slice a (List.length xs) c) ids → Q (Value.int IntKind.i64 (Prod.snd (mrkL (Sh.mkd replySh) xs k))) j) ∧ ∀ (v : Value) (h : AHeap), False → Q v h) = _) ?_
    exact ⟨(0, k, h, xs), rfl, rfl, rfl, rfl, .start hw hk so, fun j hj => HQ _ _ ⟨rfl, hj⟩, fun _ _ h => h.elim⟩
theorem hdReplyS (h : AHeap) (hw : h.wf) (xs : List (Sh.T replySh)) (v : Value) (k : Int) (hx : Sl h replySh (mrkL (Sh.mkd replySh) xs k).1 v) (hk : 0 ≤ k) (hb : (mrkL (Sh.mkd replySh) xs k).2 ≤ 1000000000000000) :
    ∃ w h', ACall Try.prog 157 [v, .int .i64 k] h w h' ∧ w = .int .i64 (mrkL (Sh.mkd replySh) xs k).2 ∧ h'.wf ∧ h.Le h' := by
  have hn : (xs.length : Int) ≤ 1000000000000000 := by have := mrkL_cn (Sh.mkd_cn replySh) xs k; have := len_le_sum (c := Sh.cn replySh) (xs := xs) (fun x => by simp only [Sh.cn]; omega); omega
  obtain ⟨a, c, rfl⟩ := hx.isSlice
  rw [mrkL_len] at hx ⊢
  refine acall_q fun Q HQ => ?_
  refine acall_vc (fun _ => false) (fun r => match r with | 10 => [(0, 0, []), (1, 0, []), (2, 0, []), (3, 0, []), (5, 0, []), (4, 1, []), (6, 3, [4]), (7, 0, [])] | _ => []) (fun _ => hdLp replySh h xs k (.slice a xs.length c)) mixed Try.func157 rfl rfl rfl (Nat.le_of_ble_eq_true rfl) ?_ ?_
  · refine vc_mp (by kernel_rfl : (True ∧ (True ∧ (∀ (i : Nat × Int × AHeap), HdI replySh h xs k (Prod.fst i) (Prod.fst (Prod.snd i)) (Prod.snd (Prod.snd i)) → bs (decide ((↑(Prod.fst i) : Int) < (↑(List.length xs) : Int))) (∃ (l : Nat), ∃ (r : Nat), a = some (Addr.mk l r (some (3 : Nat))) ∧ (0 : Int) ≤ (↑(Prod.fst i) : Int) ∧ (↑(Prod.fst i) : Int) < (↑(List.length xs) : Int) ∧ ∃ (x : Int), AHeap.ld (Prod.snd (Prod.snd i)) l (r + Int.toNat (↑(Prod.fst i) : Int)) (0 : Nat) (1 : Nat) = some [Value.int IntKind.i64 x] ∧ bs (!decide (x = Prod.fst (Prod.snd i))) False (∃ (l : Nat), ∃ (r : Nat), a = some (Addr.mk l r (some (3 : Nat))) ∧ (0 : Int) ≤ (↑(Prod.fst i) : Int) ∧ (↑(Prod.fst i) : Int) < (↑(List.length xs) : Int) ∧ ∃ (x : Int), AHeap.ld (Prod.snd (Prod.snd i)) l (r + Int.toNat (↑(Prod.fst i) : Int)) (1 : Nat) (1 : Nat) = some [Value.int IntKind.i64 x] ∧ bs (!decide (x = IntKind.wrap IntKind.i64 (Prod.fst (Prod.snd i) + (1 : Int)))) False (∃ (l : Nat), ∃ (r : Nat), a = some (Addr.mk l r (some (3 : Nat))) ∧ (0 : Int) ≤ (↑(Prod.fst i) : Int) ∧ (↑(Prod.fst i) : Int) < (↑(List.length xs) : Int) ∧ ∃ (x : ByteArray), AHeap.ld (Prod.snd (Prod.snd i)) l (r + Int.toNat (↑(Prod.fst i) : Int)) (2 : Nat) (1 : Nat) = some [Value.string x] ∧ ∃ (x_1 : ByteArray), ∃ (h' : AHeap), ACall Try.prog (170 : Nat) [Value.int IntKind.i64 (IntKind.wrap IntKind.i64 (IntKind.wrap IntKind.i64 (Prod.fst (Prod.snd i) + (1 : Int)) + (1 : Int)))] (Prod.snd (Prod.snd i)) (Value.string x_1) h' ∧ (∃ (x_2 : ByteArray), AHeap.ld h' l (r + Int.toNat (↑(Prod.fst i) : Int)) (2 : Nat) (1 : Nat) = some [Value.string x_2] ∧ Value.string x_2 = Value.string x) ∧ bs (!decide (x = x_1)) False (∃ (j : Nat × Int × AHeap), Value.slice a (List.length xs) c = Value.slice a (List.length xs) c ∧ Value.int IntKind.i64 (IntKind.wrap IntKind.i64 (IntKind.wrap IntKind.i64 (IntKind.wrap IntKind.i64 (Prod.fst (Prod.snd i) + (1 : Int)) + (1 : Int)) + (1 : Int))) = Value.int IntKind.i64 (Prod.fst (Prod.snd j)) ∧ Value.int IntKind.i64 (IntKind.wrap IntKind.i64 ((↑(Prod.fst i) : Int) + (1 : Int))) = Value.int IntKind.i64 (↑(Prod.fst j) : Int) ∧ Prod.snd (Prod.snd j) = h' ∧ HdI replySh h xs k (Prod.fst j) (Prod.fst (Prod.snd j)) (Prod.snd (Prod.snd j)) ∧ List.length xs - Prod.fst j < List.length xs - Prod.fst i ∧ (∀ (k : AHeap), AHeap.wf k ∧ AHeap.Le h k → AHeap.wf k ∧ AHeap.Le h k) ∧ ∀ (v : Value) (h : AHeap), False → False)))) (∃ (j : AHeap), Value.int IntKind.i64 (Prod.fst (Prod.snd i)) = Value.int IntKind.i64 (Prod.snd (mrkL (Sh.mkd replySh) xs k)) ∧ j = Prod.snd (Prod.snd i) ∧ AHeap.wf j ∧ AHeap.Le h j)) ∧ (True ∧ True ∧ True) ∧ ((True ∧ (True ∧ True) ∧ True) ∧ True ∧ (True ∧ (True ∧ True) ∧ True) ∧ True ∧ (True ∧ (True ∧ True) ∧ True) ∧ True) ∧ True) ∧ True ∧ True) = _) ?_
    simp only [true_and, and_true]
    rintro ⟨i, ki, g⟩ I
    dsimp only at *
    have hi := I.hi
    have k0 := I.k0
    refine bs_d (fun hlt => ?_) (fun hge => ?_)
    · obtain ⟨x, hat⟩ : ∃ y : Sh.T replySh, xs[i]? = some y := ⟨_, List.getElem?_eq_getElem (by omega)⟩
      have bd : ki + 1 + 1 + 1 ≤ 1000000000000000 := I.bound hat hb
      obtain ⟨l, r, row, ha, _, hrd, hld⟩ := (hx.mono I.le).elem (I.at hat)
      obtain rfl := rd_reply.1 hrd
      have hld : g.ld l (r + i) 0 3 = some [.int .i64 (ki), .int .i64 (ki + 1), .string (mtext (ki + 1 + 1))] := hld
      refine ⟨l, r, ha, Int.natCast_nonneg _, hlt, _, ld_cells (k := 0) (m := 1) hld (Nat.le_of_ble_eq_true rfl), bs_dn (fun e => absurd rfl e) (fun _ => ?_)⟩
      try rw [wrap_i64 (n := ki + 1) (by omega)]
      refine ⟨l, r, ha, Int.natCast_nonneg _, hlt, _, ld_cells (k := 1) (m := 1) hld (Nat.le_of_ble_eq_true rfl), bs_dn (fun e => absurd rfl e) (fun _ => ?_)⟩
      try rw [wrap_i64 (n := ki + 1 + 1) (by omega)]
      obtain ⟨_, t1, A1, lt1, wt1, rfl⟩ := mt_spec (ki + 1 + 1) _ I.wf (by omega)
      refine ⟨l, r, ha, Int.natCast_nonneg _, hlt, _, ld_cells (k := 2) (m := 1) hld (Nat.le_of_ble_eq_true rfl), _, _, A1, ⟨_, lt1.ld (ld_cells (k := 2) (m := 1) hld (Nat.le_of_ble_eq_true rfl)), rfl⟩, bs_dn (fun e => absurd rfl e) (fun _ => ?_)⟩
      have hld := lt1.ld hld
      try rw [wrap_i64 (n := ki + 1 + 1 + 1) (by omega)]
      exact ⟨(i + 1, (Sh.mkd replySh x ki).2, _), rfl, by rw [wrap_i64 (by omega)] <;> rfl, rfl, I.step hat wt1 lt1, by dsimp only; omega, fun _ h => h, fun _ _ h => h⟩
    · exact ⟨g, by rw [I.finish (by omega)], rfl, I.wf, I.le⟩
  · refine vc_mp (by kernel_rfl : (∃ (i : Nat × Int × AHeap), Value.slice a (List.length xs) c = Value.slice a (List.length xs) c ∧ Value.int IntKind.i64 k = Value.int IntKind.i64 (Prod.fst (Prod.snd i)) ∧ Value.int IntKind.i64 (0 : Int) = Value.int IntKind.i64 (↑(Prod.fst i) : Int) ∧ Prod.snd (Prod.snd i) = h ∧ HdI replySh h xs k (Prod.fst i) (Prod.fst (Prod.snd i)) (Prod.snd (Prod.snd i)) ∧ (∀ (j : AHeap), AHeap.wf j ∧ AHeap.Le h j → Q (Value.int IntKind.i64 (Prod.snd (mrkL (Sh.mkd replySh) xs k))) j) ∧ ∀ (v : Value) (h : AHeap), False → Q v h) = _) ?_
    exact ⟨(0, k, h), rfl, rfl, rfl, rfl, .start hw hk, fun j hj => HQ _ _ ⟨rfl, hj⟩, fun _ _ h => h.elim⟩
theorem mkBroker (h : AHeap) (hw : h.wf) (x : brokerSh.T) (v1 v2 : Value) (j1 j2 : List Nat) (s1 : So h topicSh x.1 v1 j1) (s2 : So h replySh x.2 v2 j2) (nd : (j1 ++ j2).Nodup) (k : Int) (hk : 0 ≤ k) (hb : (brokerSh.mkv x k).2 ≤ 1000000000000000) :
    ∃ w h', ACall Try.prog 121 [.agg #[v1, v2], .int .i64 k] h w h' ∧ w = .int .i64 (brokerSh.mkv x k).2 ∧ h'.wf ∧ Out (j1 ++ j2) h h' ∧ So h' topicSh (brokerSh.mkv x k).1.1 v1 j1 ∧ So h' replySh (brokerSh.mkv x k).1.2 v2 j2 := by
  obtain ⟨a1, c1, rfl⟩ := s1.sl.isSlice
  obtain ⟨a2, c2, rfl⟩ := s2.sl.isSlice
  simp only [List.nodup_append, List.mem_append] at nd
  have bd : (mrkL (Sh.mkd replySh) x.2 (mrkL (Sh.mkd topicSh) x.1 k).2).2 ≤ 1000000000000000 := hb
  have q1 := Sh.mrkL_le topicSh x.1 k
  have q2 := Sh.mrkL_le replySh x.2 (mrkL (Sh.mkd topicSh) x.1 k).2
  refine acall_q fun Q HQ => ?_
  obtain ⟨_, t1, A1, rfl, wt1, ot1, s1⟩ := mkTopicS h hw x.1 _ _ s1 nd.1 k (by omega) (by omega)
  have s2 := s2.out ot1 (by intro z hz hz2; (try simp only [List.mem_append, List.append_nil, List.nil_append, List.not_mem_nil, or_false, false_or] at hz2); first | exact (show ∀ z ∈ j2, z ∉ j1 from (by intro z hz hz2; have := nd.2.2; first | exact this z (by simp [hz]) z (by simp [hz2]) rfl | exact this z (by simp [hz2]) z (by simp [hz]) rfl)) z hz hz2 | grind)
  obtain ⟨_, t2, A2, rfl, wt2, ot2, s2⟩ := mkReplyS t1 wt1 x.2 _ _ s2 nd.2.1 (mrkL (Sh.mkd topicSh) x.1 k).2 (by omega) (by omega)
  have s1 := s1.out ot2 (by intro z hz hz2; (try simp only [List.mem_append, List.append_nil, List.nil_append, List.not_mem_nil, or_false, false_or] at hz2); first | exact (show ∀ z ∈ j1, z ∉ j2 from (by intro z hz hz2; have := nd.2.2; first | exact this z (by simp [hz]) z (by simp [hz2]) rfl | exact this z (by simp [hz2]) z (by simp [hz]) rfl)) z hz hz2 | grind)
  refine acall_vc (fun _ => false) (fun _ => []) (fun _ => .none) mixed Try.func121 rfl rfl rfl (Nat.le_of_ble_eq_true rfl) (by refine vc_mp (by kernel_rfl : (True ∧ True ∧ True ∧ True ∧ True) = _) ?_; simp only [and_self]) ?_
  refine vc_mp (by kernel_rfl : (∃ (x_1 : Int), ∃ (h' : AHeap), ACall Try.prog (154 : Nat) [Value.slice a1 (List.length (Prod.fst x)) c1, Value.int IntKind.i64 k] h (Value.int IntKind.i64 x_1) h' ∧ ∃ (x_2 : Int), ∃ (h'_1 : AHeap), ACall Try.prog (155 : Nat) [Value.slice a2 (List.length (Prod.snd x)) c2, Value.int IntKind.i64 x_1] h' (Value.int IntKind.i64 x_2) h'_1 ∧ Q (Value.int IntKind.i64 x_2) h'_1) = _) ?_
  refine ⟨_, _, A1, ?_⟩
  refine ⟨_, _, A2, ?_⟩
  exact HQ _ _ ⟨rfl, wt2, ((ot1.widen (by intro z hz; (try simp only [List.mem_append, List.append_nil, List.nil_append, List.not_mem_nil, or_false, false_or] at hz ⊢); first | simp [hz] | grind)).trans (ot2.widen (by intro z hz; (try simp only [List.mem_append, List.append_nil, List.nil_append, List.not_mem_nil, or_false, false_or] at hz ⊢); first | simp [hz] | grind))), s1, s2⟩
theorem hdBroker (h : AHeap) (hw : h.wf) (x : brokerSh.T) (v1 v2 : Value) (k : Int) (rd : brokerSh.rd h (brokerSh.mkv x k).1 [v1, v2]) (hk : 0 ≤ k) (hb : (brokerSh.mkv x k).2 ≤ 1000000000000000) :
    ∃ w h', ACall Try.prog 122 [.agg #[v1, v2], .int .i64 k] h w h' ∧ w = .int .i64 (brokerSh.mkv x k).2 ∧ h'.wf ∧ h.Le h' := by
  obtain ⟨y1, y2, ec, s1, s2⟩ := rd_broker.1 rd
  cases ec
  have bd : (mrkL (Sh.mkd replySh) x.2 (mrkL (Sh.mkd topicSh) x.1 k).2).2 ≤ 1000000000000000 := hb
  have q1 := Sh.mrkL_le topicSh x.1 k
  have s1 : Sl h topicSh (mrkL (Sh.mkd topicSh) x.1 k).1 v1 := s1
  have q2 := Sh.mrkL_le replySh x.2 (mrkL (Sh.mkd topicSh) x.1 k).2
  have s2 : Sl h replySh (mrkL (Sh.mkd replySh) x.2 (mrkL (Sh.mkd topicSh) x.1 k).2).1 v2 := s2
  obtain ⟨a1, c1, rfl⟩ := s1.isSlice
  obtain ⟨a2, c2, rfl⟩ := s2.isSlice
  refine acall_q fun Q HQ => ?_
  obtain ⟨_, t1, A1, rfl, wt1, lt1⟩ := hdTopicS h hw x.1 _ k s1 (by omega) (by omega)
  have s1 := s1.mono lt1
  have s2 := s2.mono lt1
  obtain ⟨_, t2, A2, rfl, wt2, lt2⟩ := hdReplyS t1 wt1 x.2 _ (mrkL (Sh.mkd topicSh) x.1 k).2 s2 (by omega) (by omega)
  have s1 := s1.mono lt2
  have s2 := s2.mono lt2
  refine acall_vc (fun _ => false) (fun _ => []) (fun _ => .none) mixed Try.func122 rfl rfl rfl (Nat.le_of_ble_eq_true rfl) (by refine vc_mp (by kernel_rfl : (True ∧ True ∧ (True ∧ (True ∧ True) ∧ True) ∧ True ∧ (True ∧ (True ∧ True) ∧ True) ∧ True ∧ True) = _) ?_; simp only [and_self]) ?_
  refine vc_mp (by kernel_rfl : (∃ (x_1 : Int), ∃ (h' : AHeap), ACall Try.prog (156 : Nat) [Value.slice a1 (List.length (Prod.fst (mrkL (Sh.mkd topicSh) (Prod.fst x) k))) c1, Value.int IntKind.i64 k] h (Value.int IntKind.i64 x_1) h' ∧ bs (decide (x_1 < (0 : Int))) (Q (Value.int IntKind.i64 (-1 : Int)) h') (∃ (x_2 : Int), ∃ (h'_1 : AHeap), ACall Try.prog (157 : Nat) [Value.slice a2 (List.length (Prod.fst (mrkL (Sh.mkd replySh) (Prod.snd x) (Prod.snd (mrkL (Sh.mkd topicSh) (Prod.fst x) k))))) c2, Value.int IntKind.i64 x_1] h' (Value.int IntKind.i64 x_2) h'_1 ∧ bs (decide (x_2 < (0 : Int))) (Q (Value.int IntKind.i64 (-1 : Int)) h'_1) (Q (Value.int IntKind.i64 x_2) h'_1))) = _) ?_
  refine ⟨_, _, A1, bs_d (fun e => absurd e (by omega)) (fun _ => ?_)⟩
  refine ⟨_, _, A2, bs_d (fun e => absurd e (by omega)) (fun _ => ?_)⟩
  exact HQ _ _ ⟨rfl, wt2, (lt1.trans lt2)⟩
theorem mkSnap (h : AHeap) (hw : h.wf) (x : snapSh.T) (v1 v2 : Value) (j1 j2 : List Nat) (s1 : So h topicSh x.2.1 v1 j1) (s2 : So h replySh x.2.2 v2 j2) (nd : (j1 ++ j2).Nodup) (k : Int) (hk : 0 ≤ k) (hb : (snapSh.mkv x k).2 ≤ 1000000000000000) :
    ∃ w h', ACall Try.prog 68 [.agg #[.int .i64 x.1, v1, v2], .int .i64 k] h w h' ∧ w = .int .i64 (snapSh.mkv x k).2 ∧ h'.wf ∧ Out (j1 ++ j2) h h' ∧ So h' topicSh (snapSh.mkv x k).1.2.1 v1 j1 ∧ So h' replySh (snapSh.mkv x k).1.2.2 v2 j2 := by
  obtain ⟨a1, c1, rfl⟩ := s1.sl.isSlice
  obtain ⟨a2, c2, rfl⟩ := s2.sl.isSlice
  simp only [List.nodup_append, List.mem_append] at nd
  have bd : (brokerSh.mkv x.2 k).2 ≤ 1000000000000000 := hb
  have q1 := Sh.mkv_le brokerSh x.2 k
  refine acall_q fun Q HQ => ?_
  obtain ⟨_, t1, A1, rfl, wt1, ot1, s1, s2⟩ := mkBroker h hw x.2 _ _ j1 j2 s1 s2 (by (try simp only [List.nodup_append, List.mem_append]); first | exact nd | exact nd.1 | exact nd.2.1 | exact nd.2.1.1 | exact nd.2.1.2.1 | exact nd.2.1.2.1.1 | exact ⟨nd.1, nd.2.1.1, fun a ha b hb => nd.2.2 a ha b (.inl hb)⟩ | grind) k (by omega) (by omega)
  refine acall_vc (fun _ => false) (fun _ => []) (fun _ => .none) mixed Try.func68 rfl rfl rfl (Nat.le_of_ble_eq_true rfl) (by refine vc_mp (by kernel_rfl : (True ∧ True ∧ True ∧ True) = _) ?_; simp only [and_self]) ?_
  refine vc_mp (by kernel_rfl : (∃ (x_1 : Int), ∃ (h' : AHeap), ACall Try.prog (121 : Nat) [Value.agg (Array.mk [Value.slice a1 (List.length (Prod.fst (Prod.snd x))) c1, Value.slice a2 (List.length (Prod.snd (Prod.snd x))) c2]), Value.int IntKind.i64 k] h (Value.int IntKind.i64 x_1) h' ∧ Q (Value.int IntKind.i64 x_1) h') = _) ?_
  refine ⟨_, _, A1, ?_⟩
  exact HQ _ _ ⟨rfl, wt1, (ot1.widen (by intro z hz; (try simp only [List.mem_append, List.append_nil, List.nil_append, List.not_mem_nil, or_false, false_or] at hz ⊢); first | simp [hz] | grind)), s1, s2⟩
theorem hdSnap (h : AHeap) (hw : h.wf) (x : snapSh.T) (v1 v2 : Value) (k : Int) (rd : snapSh.rd h (snapSh.mkv x k).1 [.int .i64 x.1, v1, v2]) (hk : 0 ≤ k) (hb : (snapSh.mkv x k).2 ≤ 1000000000000000) :
    ∃ w h', ACall Try.prog 69 [.agg #[.int .i64 x.1, v1, v2], .int .i64 k] h w h' ∧ w = .int .i64 (snapSh.mkv x k).2 ∧ h'.wf ∧ h.Le h' := by
  obtain ⟨y1, y2, ec, s1, s2⟩ := rd_snap.1 rd
  cases ec
  have bd : (brokerSh.mkv x.2 k).2 ≤ 1000000000000000 := hb
  have q1 := Sh.mkv_le brokerSh x.2 k
  obtain ⟨a1, c1, rfl⟩ := s1.isSlice
  obtain ⟨a2, c2, rfl⟩ := s2.isSlice
  refine acall_q fun Q HQ => ?_
  obtain ⟨_, t1, A1, rfl, wt1, lt1⟩ := hdBroker h hw x.2 _ _ k (rd_broker.2 ⟨_, _, rfl, s1, s2⟩) (by omega) (by omega)
  have s1 := s1.mono lt1
  have s2 := s2.mono lt1
  refine acall_vc (fun _ => false) (fun _ => []) (fun _ => .none) mixed Try.func69 rfl rfl rfl (Nat.le_of_ble_eq_true rfl) (by refine vc_mp (by kernel_rfl : (True ∧ True ∧ (True ∧ (True ∧ True) ∧ True) ∧ True ∧ True) = _) ?_; simp only [and_self]) ?_
  refine vc_mp (by kernel_rfl : (∃ (x_1 : Int), ∃ (h' : AHeap), ACall Try.prog (122 : Nat) [Value.agg (Array.mk [Value.slice a1 (List.length (Prod.fst (Prod.snd (Prod.fst (Sh.mkv snapSh x k))))) c1, Value.slice a2 (List.length (Prod.snd (Prod.snd (Prod.fst (Sh.mkv snapSh x k))))) c2]), Value.int IntKind.i64 k] h (Value.int IntKind.i64 x_1) h' ∧ bs (decide (x_1 < (0 : Int))) (Q (Value.int IntKind.i64 (-1 : Int)) h') (Q (Value.int IntKind.i64 x_1) h')) = _) ?_
  refine ⟨_, _, A1, bs_d (fun e => absurd e (by omega)) (fun _ => ?_)⟩
  exact HQ _ _ ⟨rfl, wt1, lt1⟩
theorem mkSnapOut (h : AHeap) (hw : h.wf) (x : snapOutSh.T) (v1 v2 : Value) (j1 j2 : List Nat) (s1 : So h topicSh x.1.2.1 v1 j1) (s2 : So h replySh x.1.2.2 v2 j2) (nd : (j1 ++ j2).Nodup) (k : Int) (hk : 0 ≤ k) (hb : (snapOutSh.mkv x k).2 ≤ 1000000000000000) :
    ∃ w h', ACall Try.prog 25 [.agg #[.int .i64 x.1.1, v1, v2, .int .i64 x.2], .int .i64 k] h w h' ∧ w = .int .i64 (snapOutSh.mkv x k).2 ∧ h'.wf ∧ Out (j1 ++ j2) h h' ∧ So h' topicSh (snapOutSh.mkv x k).1.1.2.1 v1 j1 ∧ So h' replySh (snapOutSh.mkv x k).1.1.2.2 v2 j2 := by
  obtain ⟨a1, c1, rfl⟩ := s1.sl.isSlice
  obtain ⟨a2, c2, rfl⟩ := s2.sl.isSlice
  simp only [List.nodup_append, List.mem_append] at nd
  have bd : (snapSh.mkv x.1 k).2 ≤ 1000000000000000 := hb
  have q1 := Sh.mkv_le snapSh x.1 k
  refine acall_q fun Q HQ => ?_
  obtain ⟨_, t1, A1, rfl, wt1, ot1, s1, s2⟩ := mkSnap h hw x.1 _ _ j1 j2 s1 s2 (by (try simp only [List.nodup_append, List.mem_append]); first | exact nd | exact nd.1 | exact nd.2.1 | exact nd.2.1.1 | exact nd.2.1.2.1 | exact nd.2.1.2.1.1 | exact ⟨nd.1, nd.2.1.1, fun a ha b hb => nd.2.2 a ha b (.inl hb)⟩ | grind) k (by omega) (by omega)
  refine acall_vc (fun _ => false) (fun _ => []) (fun _ => .none) mixed Try.func25 rfl rfl rfl (Nat.le_of_ble_eq_true rfl) (by refine vc_mp (by kernel_rfl : (True ∧ True ∧ True ∧ True) = _) ?_; simp only [and_self]) ?_
  refine vc_mp (by kernel_rfl : (∃ (x_1 : Int), ∃ (h' : AHeap), ACall Try.prog (68 : Nat) [Value.agg (Array.mk [Value.int IntKind.i64 (Prod.fst (Prod.fst x)), Value.slice a1 (List.length (Prod.fst (Prod.snd (Prod.fst x)))) c1, Value.slice a2 (List.length (Prod.snd (Prod.snd (Prod.fst x)))) c2]), Value.int IntKind.i64 k] h (Value.int IntKind.i64 x_1) h' ∧ Q (Value.int IntKind.i64 x_1) h') = _) ?_
  refine ⟨_, _, A1, ?_⟩
  exact HQ _ _ ⟨rfl, wt1, (ot1.widen (by intro z hz; (try simp only [List.mem_append, List.append_nil, List.nil_append, List.not_mem_nil, or_false, false_or] at hz ⊢); first | simp [hz] | grind)), s1, s2⟩
theorem hdSnapOut (h : AHeap) (hw : h.wf) (x : snapOutSh.T) (v1 v2 : Value) (k : Int) (rd : snapOutSh.rd h (snapOutSh.mkv x k).1 [.int .i64 x.1.1, v1, v2, .int .i64 x.2]) (hk : 0 ≤ k) (hb : (snapOutSh.mkv x k).2 ≤ 1000000000000000) :
    ∃ w h', ACall Try.prog 26 [.agg #[.int .i64 x.1.1, v1, v2, .int .i64 x.2], .int .i64 k] h w h' ∧ w = .int .i64 (snapOutSh.mkv x k).2 ∧ h'.wf ∧ h.Le h' := by
  obtain ⟨y1, y2, ec, s1, s2⟩ := rd_snapOut.1 rd
  cases ec
  have bd : (snapSh.mkv x.1 k).2 ≤ 1000000000000000 := hb
  have q1 := Sh.mkv_le snapSh x.1 k
  obtain ⟨a1, c1, rfl⟩ := s1.isSlice
  obtain ⟨a2, c2, rfl⟩ := s2.isSlice
  refine acall_q fun Q HQ => ?_
  obtain ⟨_, t1, A1, rfl, wt1, lt1⟩ := hdSnap h hw x.1 _ _ k (rd_snap.2 ⟨_, _, rfl, s1, s2⟩) (by omega) (by omega)
  have s1 := s1.mono lt1
  have s2 := s2.mono lt1
  refine acall_vc (fun _ => false) (fun _ => []) (fun _ => .none) mixed Try.func26 rfl rfl rfl (Nat.le_of_ble_eq_true rfl) (by refine vc_mp (by kernel_rfl : (True ∧ True ∧ (True ∧ (True ∧ True) ∧ True) ∧ True ∧ True) = _) ?_; simp only [and_self]) ?_
  refine vc_mp (by kernel_rfl : (∃ (x_1 : Int), ∃ (h' : AHeap), ACall Try.prog (69 : Nat) [Value.agg (Array.mk [Value.int IntKind.i64 (Prod.fst (Prod.fst x)), Value.slice a1 (List.length (Prod.fst (Prod.snd (Prod.fst (Prod.fst (Sh.mkv snapOutSh x k)))))) c1, Value.slice a2 (List.length (Prod.snd (Prod.snd (Prod.fst (Prod.fst (Sh.mkv snapOutSh x k)))))) c2]), Value.int IntKind.i64 k] h (Value.int IntKind.i64 x_1) h' ∧ bs (decide (x_1 < (0 : Int))) (Q (Value.int IntKind.i64 (-1 : Int)) h') (Q (Value.int IntKind.i64 x_1) h')) = _) ?_
  refine ⟨_, _, A1, bs_d (fun e => absurd e (by omega)) (fun _ => ?_)⟩
  exact HQ _ _ ⟨rfl, wt1, lt1⟩
end Go.Proofs.Ytdcijleeoihlfaa
