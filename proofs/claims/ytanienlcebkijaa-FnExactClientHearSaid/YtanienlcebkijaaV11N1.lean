/- Contracts: marks set and found. Written by gen.py. -/
import Derived.Test.YtanienlcebkijaaV11N0
namespace Go.Dat
open Go.Abs
theorem len_le_sum {α : Type} {c : α → Nat} (hc : ∀ x, 1 ≤ c x) {xs : List α} : xs.length ≤ (xs.map c).sum := by
  induction xs with
  | nil => simp
  | cons x xs ih => have := hc x; simp only [List.length_cons, List.map_cons, List.sum_cons]; omega
end Go.Dat
namespace Go.Proofs.Ytanienlcebkijaa
open Go.Abs Go.Dat
set_option maxRecDepth 100000
set_option maxHeartbeats 4000000
theorem mkHeardS (h : AHeap) (hw : h.wf) (xs : List (Sh.T heardSh)) (v : Value) (ids : List Nat) (so : So h heardSh xs v ids) (nd : ids.Nodup) (k : Int) (hk : 0 ≤ k) (hb : (mrkL (Sh.mkd heardSh) xs k).2 ≤ 1000000000000000) :
    ∃ w h', ACall Try.prog 94 [v, .int .i64 k] h w h' ∧ w = .int .i64 (mrkL (Sh.mkd heardSh) xs k).2 ∧ h'.wf ∧ Out ids h h' ∧ So h' heardSh (mrkL (Sh.mkd heardSh) xs k).1 v ids := by
  have hn : (xs.length : Int) ≤ 1000000000000000 := by have := mrkL_cn (Sh.mkd_cn heardSh) xs k; have := len_le_sum (c := Sh.cn heardSh) (xs := xs) (fun x => by simp only [Sh.cn]; omega); omega
  obtain ⟨a, c, rfl⟩ := so.sl.isSlice
  refine acall_q fun Q HQ => ?_
  refine acall_vc (fun _ => false) (fun _ => []) (fun _ => mkLp heardSh h xs k (.slice a xs.length c) ids) mixed Try.func94 rfl rfl rfl (Nat.le_of_ble_eq_true rfl) ?_ ?_
  · refine vc_mp (by kernel_rfl : (True ∧ (True ∧ (∀ (i : Nat × Int × AHeap × List (Sh.T heardSh)), MkI heardSh h xs k (Value.slice a (List.length xs) c) ids (Prod.fst i) (Prod.fst (Prod.snd i)) (Prod.fst (Prod.snd (Prod.snd i))) (Prod.snd (Prod.snd (Prod.snd i))) → bs (decide ((↑(Prod.fst i) : Int) < (↑(List.length xs) : Int))) (∃ (l : Nat), ∃ (r : Nat), a = some (Addr.mk l r (some (2 : Nat))) ∧ (0 : Int) ≤ (↑(Prod.fst i) : Int) ∧ (↑(Prod.fst i) : Int) < (↑(List.length xs) : Int) ∧ ∃ (h' : AHeap), AHeap.wr (Prod.fst (Prod.snd (Prod.snd i))) l (r + Int.toNat (↑(Prod.fst i) : Int)) (0 : Nat) [Value.int IntKind.i64 (Prod.fst (Prod.snd i))] = some h' ∧ ∃ (x : ByteArray), ∃ (h'_1 : AHeap), ACall Try.prog (150 : Nat) [Value.int IntKind.i64 (IntKind.wrap IntKind.i64 (Prod.fst (Prod.snd i) + (1 : Int)))] h' (Value.string x) h'_1 ∧ ∃ (l : Nat), ∃ (r : Nat), a = some (Addr.mk l r (some (2 : Nat))) ∧ (0 : Int) ≤ (↑(Prod.fst i) : Int) ∧ (↑(Prod.fst i) : Int) < (↑(List.length xs) : Int) ∧ ∃ (h' : AHeap), AHeap.wr h'_1 l (r + Int.toNat (↑(Prod.fst i) : Int)) (1 : Nat) [Value.string x] = some h' ∧ ∃ (j : Nat × Int × AHeap × List (Sh.T heardSh)), Value.slice a (List.length xs) c = Value.slice a (List.length xs) c ∧ Value.int IntKind.i64 (IntKind.wrap IntKind.i64 (IntKind.wrap IntKind.i64 (Prod.fst (Prod.snd i) + (1 : Int)) + (1 : Int))) = Value.int IntKind.i64 (Prod.fst (Prod.snd j)) ∧ Value.int IntKind.i64 (IntKind.wrap IntKind.i64 ((↑(Prod.fst i) : Int) + (1 : Int))) = Value.int IntKind.i64 (↑(Prod.fst j) : Int) ∧ Prod.fst (Prod.snd (Prod.snd j)) = h' ∧ MkI heardSh h xs k (Value.slice a (List.length xs) c) ids (Prod.fst j) (Prod.fst (Prod.snd j)) (Prod.fst (Prod.snd (Prod.snd j))) (Prod.snd (Prod.snd (Prod.snd j))) ∧ List.length xs - Prod.fst j < List.length xs - Prod.fst i ∧ (∀ (k_1 : AHeap), AHeap.wf k_1 ∧ Out ids h k_1 ∧ So k_1 heardSh (Prod.fst (mrkL (Sh.mkd heardSh) xs k)) (Value.slice a (List.length xs) c) ids → AHeap.wf k_1 ∧ Out ids h k_1 ∧ So k_1 heardSh (Prod.fst (mrkL (Sh.mkd heardSh) xs k)) (Value.slice a (List.length xs) c) ids) ∧ ∀ (v : Value) (h : AHeap), False → False) (∃ (j : AHeap), Value.int IntKind.i64 (Prod.fst (Prod.snd i)) = Value.int IntKind.i64 (Prod.snd (mrkL (Sh.mkd heardSh) xs k)) ∧ j = Prod.fst (Prod.snd (Prod.snd i)) ∧ AHeap.wf j ∧ Out ids h j ∧ So j heardSh (Prod.fst (mrkL (Sh.mkd heardSh) xs k)) (Value.slice a (List.length xs) c) ids)) ∧ (True ∧ True ∧ True) ∧ (True ∧ True ∧ True ∧ True) ∧ True) ∧ True ∧ True) = _) ?_
    simp only [true_and, and_true]
    rintro ⟨i, ki, g, ys⟩ I
    dsimp only at *
    have hi := I.hi
    have k0 := I.k0
    refine bs_d (fun hlt => ?_) (fun hge => ?_)
    · obtain ⟨x, hx⟩ : ∃ y : Sh.T heardSh, xs[i]? = some y := ⟨_, List.getElem?_eq_getElem (by omega)⟩
      have bd : ki + 1 + 1 ≤ 1000000000000000 := I.bound hx hb
      obtain ⟨l, r, n', c', rows, cs, js, e, hin, E0, ro, hlj, ndj, hsub, fin⟩ := I.so.elem nd I.wf (I.at hx)
      cases e
      obtain ⟨rfl, rfl⟩ := ro_heard.1 ro
      obtain ⟨g1, w1, E1, o1⟩ := E0.wr 0 [.int .i64 (ki)] [.int .i64 (ki), .string x.2] (Nat.le_of_ble_eq_true rfl) rfl
      refine ⟨l, r, rfl, Int.natCast_nonneg _, hlt, g1, w1, ?_⟩
      obtain ⟨_, t1, A1, lt1, wt1, rfl⟩ := mt_spec (ki + 1) _ E1.wf (by omega)
      have E1 := E1.le lt1 wt1
      obtain ⟨g2, w2, E2, o2⟩ := E1.wr 1 [.string (mtext (ki + 1))] [.int .i64 (ki), .string (mtext (ki + 1))] (Nat.le_of_ble_eq_true rfl) rfl
      try rw [wrap_i64 (n := ki + 1) (by omega)]
      refine ⟨_, _, A1, l, r, rfl, Int.natCast_nonneg _, hlt, g2, w2, ?_⟩
      try rw [wrap_i64 (n := ki + 1 + 1) (by omega)]
      have so2 := fin _ _ (Sh.mkd heardSh x ki).1 E2 (ro_heard.2 ⟨rfl, rfl⟩)
      exact ⟨(i + 1, (Sh.mkd heardSh x ki).2, _, ys.set i (Sh.mkd heardSh x ki).1), rfl, by rw [wrap_i64 (by omega)] <;> rfl, rfl, I.step hx E2.wf (E2.out.widen hsub) so2, by dsimp only; omega, fun _ h => h, fun _ _ h => h⟩
    · obtain ⟨e1, e2⟩ := I.finish (by omega)
      exact ⟨g, by rw [e1], rfl, I.wf, I.out, e2⟩
  · refine vc_mp (by kernel_rfl : (∃ (i : Nat × Int × AHeap × List (Sh.T heardSh)), Value.slice a (List.length xs) c = Value.slice a (List.length xs) c ∧ Value.int IntKind.i64 k = Value.int IntKind.i64 (Prod.fst (Prod.snd i)) ∧ Value.int IntKind.i64 (0 : Int) = Value.int IntKind.i64 (↑(Prod.fst i) : Int) ∧ Prod.fst (Prod.snd (Prod.snd i)) = h ∧ MkI heardSh h xs k (Value.slice a (List.length xs) c) ids (Prod.fst i) (Prod.fst (Prod.snd i)) (Prod.fst (Prod.snd (Prod.snd i))) (Prod.snd (Prod.snd (Prod.snd i))) ∧ (∀ (j : AHeap), AHeap.wf j ∧ Out ids h j ∧ So j heardSh (Prod.fst (mrkL (Sh.mkd heardSh) xs k)) (Value.slice a (List.length xs) c) ids → Q (Value.int IntKind.i64 (Prod.snd (mrkL (Sh.mkd heardSh) xs k))) j) ∧ ∀ (v : Value) (h : AHeap), False → Q v h) = _) ?_
    exact ⟨(0, k, h, xs), rfl, rfl, rfl, rfl, .start hw hk so, fun j hj => HQ _ _ ⟨rfl, hj⟩, fun _ _ h => h.elim⟩
theorem hdHeardS (h : AHeap) (hw : h.wf) (xs : List (Sh.T heardSh)) (v : Value) (k : Int) (hx : Sl h heardSh (mrkL (Sh.mkd heardSh) xs k).1 v) (hk : 0 ≤ k) (hb : (mrkL (Sh.mkd heardSh) xs k).2 ≤ 1000000000000000) :
    ∃ w h', ACall Try.prog 151 [v, .int .i64 k] h w h' ∧ w = .int .i64 (mrkL (Sh.mkd heardSh) xs k).2 ∧ h'.wf ∧ h.Le h' := by
  have hn : (xs.length : Int) ≤ 1000000000000000 := by have := mrkL_cn (Sh.mkd_cn heardSh) xs k; have := len_le_sum (c := Sh.cn heardSh) (xs := xs) (fun x => by simp only [Sh.cn]; omega); omega
  obtain ⟨a, c, rfl⟩ := hx.isSlice
  rw [mrkL_len] at hx ⊢
  refine acall_q fun Q HQ => ?_
  refine acall_vc (fun _ => false) (fun r => match r with | 7 => [(0, 0, []), (1, 0, []), (2, 0, []), (3, 0, []), (5, 0, []), (4, 1, []), (6, 3, [4]), (7, 0, [])] | _ => []) (fun _ => hdLp heardSh h xs k (.slice a xs.length c)) mixed Try.func151 rfl rfl rfl (Nat.le_of_ble_eq_true rfl) ?_ ?_
  · refine vc_mp (by kernel_rfl : (True ∧ (True ∧ (∀ (i : Nat × Int × AHeap), HdI heardSh h xs k (Prod.fst i) (Prod.fst (Prod.snd i)) (Prod.snd (Prod.snd i)) → bs (decide ((↑(Prod.fst i) : Int) < (↑(List.length xs) : Int))) (∃ (l : Nat), ∃ (r : Nat), a = some (Addr.mk l r (some (2 : Nat))) ∧ (0 : Int) ≤ (↑(Prod.fst i) : Int) ∧ (↑(Prod.fst i) : Int) < (↑(List.length xs) : Int) ∧ ∃ (x : Int), AHeap.ld (Prod.snd (Prod.snd i)) l (r + Int.toNat (↑(Prod.fst i) : Int)) (0 : Nat) (1 : Nat) = some [Value.int IntKind.i64 x] ∧ bs (!decide (x = Prod.fst (Prod.snd i))) False (∃ (l : Nat), ∃ (r : Nat), a = some (Addr.mk l r (some (2 : Nat))) ∧ (0 : Int) ≤ (↑(Prod.fst i) : Int) ∧ (↑(Prod.fst i) : Int) < (↑(List.length xs) : Int) ∧ ∃ (x : ByteArray), AHeap.ld (Prod.snd (Prod.snd i)) l (r + Int.toNat (↑(Prod.fst i) : Int)) (1 : Nat) (1 : Nat) = some [Value.string x] ∧ ∃ (x_1 : ByteArray), ∃ (h' : AHeap), ACall Try.prog (150 : Nat) [Value.int IntKind.i64 (IntKind.wrap IntKind.i64 (Prod.fst (Prod.snd i) + (1 : Int)))] (Prod.snd (Prod.snd i)) (Value.string x_1) h' ∧ (∃ (x_2 : ByteArray), AHeap.ld h' l (r + Int.toNat (↑(Prod.fst i) : Int)) (1 : Nat) (1 : Nat) = some [Value.string x_2] ∧ Value.string x_2 = Value.string x) ∧ bs (!decide (x = x_1)) False (∃ (j : Nat × Int × AHeap), Value.slice a (List.length xs) c = Value.slice a (List.length xs) c ∧ Value.int IntKind.i64 (IntKind.wrap IntKind.i64 (IntKind.wrap IntKind.i64 (Prod.fst (Prod.snd i) + (1 : Int)) + (1 : Int))) = Value.int IntKind.i64 (Prod.fst (Prod.snd j)) ∧ Value.int IntKind.i64 (IntKind.wrap IntKind.i64 ((↑(Prod.fst i) : Int) + (1 : Int))) = Value.int IntKind.i64 (↑(Prod.fst j) : Int) ∧ Prod.snd (Prod.snd j) = h' ∧ HdI heardSh h xs k (Prod.fst j) (Prod.fst (Prod.snd j)) (Prod.snd (Prod.snd j)) ∧ List.length xs - Prod.fst j < List.length xs - Prod.fst i ∧ (∀ (k : AHeap), AHeap.wf k ∧ AHeap.Le h k → AHeap.wf k ∧ AHeap.Le h k) ∧ ∀ (v : Value) (h : AHeap), False → False))) (∃ (j : AHeap), Value.int IntKind.i64 (Prod.fst (Prod.snd i)) = Value.int IntKind.i64 (Prod.snd (mrkL (Sh.mkd heardSh) xs k)) ∧ j = Prod.snd (Prod.snd i) ∧ AHeap.wf j ∧ AHeap.Le h j)) ∧ (True ∧ True ∧ True) ∧ ((True ∧ (True ∧ True) ∧ True) ∧ True ∧ (True ∧ (True ∧ True) ∧ True) ∧ True) ∧ True) ∧ True ∧ True) = _) ?_
    simp only [true_and, and_true]
    rintro ⟨i, ki, g⟩ I
    dsimp only at *
    have hi := I.hi
    have k0 := I.k0
    refine bs_d (fun hlt => ?_) (fun hge => ?_)
    · obtain ⟨x, hat⟩ : ∃ y : Sh.T heardSh, xs[i]? = some y := ⟨_, List.getElem?_eq_getElem (by omega)⟩
      have bd : ki + 1 + 1 ≤ 1000000000000000 := I.bound hat hb
      obtain ⟨l, r, row, ha, _, hrd, hld⟩ := (hx.mono I.le).elem (I.at hat)
      obtain rfl := rd_heard.1 hrd
      have hld : g.ld l (r + i) 0 2 = some [.int .i64 (ki), .string (mtext (ki + 1))] := hld
      refine ⟨l, r, ha, Int.natCast_nonneg _, hlt, _, ld_cells (k := 0) (m := 1) hld (Nat.le_of_ble_eq_true rfl), bs_dn (fun e => absurd rfl e) (fun _ => ?_)⟩
      try rw [wrap_i64 (n := ki + 1) (by omega)]
      obtain ⟨_, t1, A1, lt1, wt1, rfl⟩ := mt_spec (ki + 1) _ I.wf (by omega)
      refine ⟨l, r, ha, Int.natCast_nonneg _, hlt, _, ld_cells (k := 1) (m := 1) hld (Nat.le_of_ble_eq_true rfl), _, _, A1, ⟨_, lt1.ld (ld_cells (k := 1) (m := 1) hld (Nat.le_of_ble_eq_true rfl)), rfl⟩, bs_dn (fun e => absurd rfl e) (fun _ => ?_)⟩
      have hld := lt1.ld hld
      try rw [wrap_i64 (n := ki + 1 + 1) (by omega)]
      exact ⟨(i + 1, (Sh.mkd heardSh x ki).2, _), rfl, by rw [wrap_i64 (by omega)] <;> rfl, rfl, I.step hat wt1 lt1, by dsimp only; omega, fun _ h => h, fun _ _ h => h⟩
    · exact ⟨g, by rw [I.finish (by omega)], rfl, I.wf, I.le⟩
  · refine vc_mp (by kernel_rfl : (∃ (i : Nat × Int × AHeap), Value.slice a (List.length xs) c = Value.slice a (List.length xs) c ∧ Value.int IntKind.i64 k = Value.int IntKind.i64 (Prod.fst (Prod.snd i)) ∧ Value.int IntKind.i64 (0 : Int) = Value.int IntKind.i64 (↑(Prod.fst i) : Int) ∧ Prod.snd (Prod.snd i) = h ∧ HdI heardSh h xs k (Prod.fst i) (Prod.fst (Prod.snd i)) (Prod.snd (Prod.snd i)) ∧ (∀ (j : AHeap), AHeap.wf j ∧ AHeap.Le h j → Q (Value.int IntKind.i64 (Prod.snd (mrkL (Sh.mkd heardSh) xs k))) j) ∧ ∀ (v : Value) (h : AHeap), False → Q v h) = _) ?_
    exact ⟨(0, k, h), rfl, rfl, rfl, rfl, .start hw hk, fun j hj => HQ _ _ ⟨rfl, hj⟩, fun _ _ h => h.elim⟩
theorem mkClient (h : AHeap) (hw : h.wf) (x : clientSh.T) (v1 : Value) (j1 : List Nat) (s1 : So h heardSh x.2.2.2.1 v1 j1) (nd : (j1).Nodup) (k : Int) (hk : 0 ≤ k) (hb : (clientSh.mkv x k).2 ≤ 1000000000000000) :
    ∃ w h', ACall Try.prog 27 [.agg #[.int .i64 x.1, .int .i64 x.2.1, .bool x.2.2.1, v1, .string x.2.2.2.2], .int .i64 k] h w h' ∧ w = .int .i64 (clientSh.mkv x k).2 ∧ h'.wf ∧ Out (j1) h h' ∧ So h' heardSh (clientSh.mkv x k).1.2.2.2.1 v1 j1 := by
  obtain ⟨a1, c1, rfl⟩ := s1.sl.isSlice
  have bd : (mrkL (Sh.mkd heardSh) x.2.2.2.1 k).2 ≤ 1000000000000000 := hb
  have q1 := Sh.mrkL_le heardSh x.2.2.2.1 k
  refine acall_q fun Q HQ => ?_
  obtain ⟨_, t1, A1, rfl, wt1, ot1, s1⟩ := mkHeardS h hw x.2.2.2.1 _ _ s1 nd k (by omega) (by omega)
  refine acall_vc (fun _ => false) (fun _ => []) (fun _ => .none) mixed Try.func27 rfl rfl rfl (Nat.le_of_ble_eq_true rfl) (by refine vc_mp (by kernel_rfl : (True ∧ True ∧ True ∧ True) = _) ?_; simp only [and_self]) ?_
  refine vc_mp (by kernel_rfl : (∃ (x_1 : Int), ∃ (h' : AHeap), ACall Try.prog (94 : Nat) [Value.slice a1 (List.length (Prod.fst (Prod.snd (Prod.snd (Prod.snd x))))) c1, Value.int IntKind.i64 k] h (Value.int IntKind.i64 x_1) h' ∧ Q (Value.int IntKind.i64 x_1) h') = _) ?_
  refine ⟨_, _, A1, ?_⟩
  exact HQ _ _ ⟨rfl, wt1, (ot1.widen (by intro z hz; (try simp only [List.mem_append, List.append_nil, List.nil_append, List.not_mem_nil, or_false, false_or] at hz ⊢); first | simp [hz] | grind)), s1⟩
theorem hdClient (h : AHeap) (hw : h.wf) (x : clientSh.T) (v1 : Value) (k : Int) (rd : clientSh.rd h (clientSh.mkv x k).1 [.int .i64 x.1, .int .i64 x.2.1, .bool x.2.2.1, v1, .string x.2.2.2.2]) (hk : 0 ≤ k) (hb : (clientSh.mkv x k).2 ≤ 1000000000000000) :
    ∃ w h', ACall Try.prog 95 [.agg #[.int .i64 x.1, .int .i64 x.2.1, .bool x.2.2.1, v1, .string x.2.2.2.2], .int .i64 k] h w h' ∧ w = .int .i64 (clientSh.mkv x k).2 ∧ h'.wf ∧ h.Le h' := by
  obtain ⟨y1, ec, s1⟩ := rd_client.1 rd
  cases ec
  have bd : (mrkL (Sh.mkd heardSh) x.2.2.2.1 k).2 ≤ 1000000000000000 := hb
  have q1 := Sh.mrkL_le heardSh x.2.2.2.1 k
  have s1 : Sl h heardSh (mrkL (Sh.mkd heardSh) x.2.2.2.1 k).1 v1 := s1
  obtain ⟨a1, c1, rfl⟩ := s1.isSlice
  refine acall_q fun Q HQ => ?_
  obtain ⟨_, t1, A1, rfl, wt1, lt1⟩ := hdHeardS h hw x.2.2.2.1 _ k s1 (by omega) (by omega)
  have s1 := s1.mono lt1
  refine acall_vc (fun _ => false) (fun _ => []) (fun _ => .none) mixed Try.func95 rfl rfl rfl (Nat.le_of_ble_eq_true rfl) (by refine vc_mp (by kernel_rfl : (True ∧ True ∧ (True ∧ (True ∧ True) ∧ True) ∧ True ∧ True) = _) ?_; simp only [and_self]) ?_
  refine vc_mp (by kernel_rfl : (∃ (x_1 : Int), ∃ (h' : AHeap), ACall Try.prog (151 : Nat) [Value.slice a1 (List.length (Prod.fst (mrkL (Sh.mkd heardSh) (Prod.fst (Prod.snd (Prod.snd (Prod.snd x)))) k))) c1, Value.int IntKind.i64 k] h (Value.int IntKind.i64 x_1) h' ∧ bs (decide (x_1 < (0 : Int))) (Q (Value.int IntKind.i64 (-1 : Int)) h') (Q (Value.int IntKind.i64 x_1) h')) = _) ?_
  refine ⟨_, _, A1, bs_d (fun e => absurd e (by omega)) (fun _ => ?_)⟩
  exact HQ _ _ ⟨rfl, wt1, lt1⟩
theorem mkClientOut (h : AHeap) (hw : h.wf) (x : clientOutSh.T) (v1 : Value) (j1 : List Nat) (s1 : So h heardSh x.1.2.2.2.1 v1 j1) (nd : (j1).Nodup) (k : Int) (hk : 0 ≤ k) (hb : (clientOutSh.mkv x k).2 ≤ 1000000000000000) :
    ∃ w h', ACall Try.prog 28 [.agg #[.int .i64 x.1.1, .int .i64 x.1.2.1, .bool x.1.2.2.1, v1, .string x.1.2.2.2.2, .string x.2.1, .int .i64 x.2.2], .int .i64 k] h w h' ∧ w = .int .i64 (clientOutSh.mkv x k).2 ∧ h'.wf ∧ Out (j1) h h' ∧ So h' heardSh (clientOutSh.mkv x k).1.1.2.2.2.1 v1 j1 := by
  obtain ⟨a1, c1, rfl⟩ := s1.sl.isSlice
  have bd : (clientSh.mkv x.1 k).2 ≤ 1000000000000000 := hb
  have q1 := Sh.mkv_le clientSh x.1 k
  refine acall_q fun Q HQ => ?_
  obtain ⟨_, t1, A1, rfl, wt1, ot1, s1⟩ := mkClient h hw x.1 _ j1 s1 (by (try simp only [List.nodup_append, List.mem_append]); first | exact nd | exact nd.1 | exact nd.2.1 | exact nd.2.1.1 | exact nd.2.1.2.1 | exact nd.2.1.2.1.1 | exact ⟨nd.1, nd.2.1.1, fun a ha b hb => nd.2.2 a ha b (.inl hb)⟩ | grind) k (by omega) (by omega)
  refine acall_vc (fun _ => false) (fun _ => []) (fun _ => .none) mixed Try.func28 rfl rfl rfl (Nat.le_of_ble_eq_true rfl) (by refine vc_mp (by kernel_rfl : (True ∧ True ∧ True ∧ True) = _) ?_; simp only [and_self]) ?_
  refine vc_mp (by kernel_rfl : (∃ (x_1 : Int), ∃ (h' : AHeap), ACall Try.prog (27 : Nat) [Value.agg (Array.mk [Value.int IntKind.i64 (Prod.fst (Prod.fst x)), Value.int IntKind.i64 (Prod.fst (Prod.snd (Prod.fst x))), Value.bool (Prod.fst (Prod.snd (Prod.snd (Prod.fst x)))), Value.slice a1 (List.length (Prod.fst (Prod.snd (Prod.snd (Prod.snd (Prod.fst x)))))) c1, Value.string (Prod.snd (Prod.snd (Prod.snd (Prod.snd (Prod.fst x)))))]), Value.int IntKind.i64 k] h (Value.int IntKind.i64 x_1) h' ∧ Q (Value.int IntKind.i64 x_1) h') = _) ?_
  refine ⟨_, _, A1, ?_⟩
  exact HQ _ _ ⟨rfl, wt1, (ot1.widen (by intro z hz; (try simp only [List.mem_append, List.append_nil, List.nil_append, List.not_mem_nil, or_false, false_or] at hz ⊢); first | simp [hz] | grind)), s1⟩
theorem hdClientOut (h : AHeap) (hw : h.wf) (x : clientOutSh.T) (v1 : Value) (k : Int) (rd : clientOutSh.rd h (clientOutSh.mkv x k).1 [.int .i64 x.1.1, .int .i64 x.1.2.1, .bool x.1.2.2.1, v1, .string x.1.2.2.2.2, .string x.2.1, .int .i64 x.2.2]) (hk : 0 ≤ k) (hb : (clientOutSh.mkv x k).2 ≤ 1000000000000000) :
    ∃ w h', ACall Try.prog 29 [.agg #[.int .i64 x.1.1, .int .i64 x.1.2.1, .bool x.1.2.2.1, v1, .string x.1.2.2.2.2, .string x.2.1, .int .i64 x.2.2], .int .i64 k] h w h' ∧ w = .int .i64 (clientOutSh.mkv x k).2 ∧ h'.wf ∧ h.Le h' := by
  obtain ⟨y1, ec, s1⟩ := rd_clientOut.1 rd
  cases ec
  have bd : (clientSh.mkv x.1 k).2 ≤ 1000000000000000 := hb
  have q1 := Sh.mkv_le clientSh x.1 k
  obtain ⟨a1, c1, rfl⟩ := s1.isSlice
  refine acall_q fun Q HQ => ?_
  obtain ⟨_, t1, A1, rfl, wt1, lt1⟩ := hdClient h hw x.1 _ k (rd_client.2 ⟨_, rfl, s1⟩) (by omega) (by omega)
  have s1 := s1.mono lt1
  refine acall_vc (fun _ => false) (fun _ => []) (fun _ => .none) mixed Try.func29 rfl rfl rfl (Nat.le_of_ble_eq_true rfl) (by refine vc_mp (by kernel_rfl : (True ∧ True ∧ (True ∧ (True ∧ True) ∧ True) ∧ True ∧ True) = _) ?_; simp only [and_self]) ?_
  refine vc_mp (by kernel_rfl : (∃ (x_1 : Int), ∃ (h' : AHeap), ACall Try.prog (95 : Nat) [Value.agg (Array.mk [Value.int IntKind.i64 (Prod.fst (Prod.fst x)), Value.int IntKind.i64 (Prod.fst (Prod.snd (Prod.fst x))), Value.bool (Prod.fst (Prod.snd (Prod.snd (Prod.fst x)))), Value.slice a1 (List.length (Prod.fst (Prod.snd (Prod.snd (Prod.snd (Prod.fst (Prod.fst (Sh.mkv clientOutSh x k)))))))) c1, Value.string (Prod.snd (Prod.snd (Prod.snd (Prod.snd (Prod.fst x)))))]), Value.int IntKind.i64 k] h (Value.int IntKind.i64 x_1) h' ∧ bs (decide (x_1 < (0 : Int))) (Q (Value.int IntKind.i64 (-1 : Int)) h') (Q (Value.int IntKind.i64 x_1) h')) = _) ?_
  refine ⟨_, _, A1, bs_d (fun e => absurd e (by omega)) (fun _ => ?_)⟩
  exact HQ _ _ ⟨rfl, wt1, lt1⟩
end Go.Proofs.Ytanienlcebkijaa
