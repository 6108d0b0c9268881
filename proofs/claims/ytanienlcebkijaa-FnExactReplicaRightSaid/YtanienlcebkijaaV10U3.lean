/- Contracts: changes that a replica holds. -/
import Derived.Test.YtanienlcebkijaaV10U2
namespace Go.Dat
open Go.Abs
def ChAt (xs : List changeSh.T) (f v : Int) (i : Nat) : Prop := ∃ x : changeSh.T, xs[i]? = some x ∧ (show Int from x.1) = f ∧ (show Int from x.2.1) = v
theorem ChAt.iff {xs : List changeSh.T} {f v f' v' : Int} {p : List proofSh.T} {i : Nat} (h : xs[i]? = some (f', v', p)) : ChAt xs f v i ↔ f' = f ∧ v' = v := ⟨fun ⟨x', e, H⟩ => by rw [h] at e; cases e; exact H, fun H => ⟨_, h, H⟩⟩
def CgAt (xs : List changeSh.T) (i : Nat) : Prop := ∃ x : changeSh.T, xs[i]? = some x ∧ ChgOk x.1 x.2.1 x.2.2 ∧ ∀ j, j < i → ¬ ChAt xs x.1 x.2.1 j
theorem CgAt.out {xs : List changeSh.T} {i : Nat} {f v : Int} {p : List proofSh.T} (H : CgAt xs i) (e : xs[i]? = some (f, v, p)) : ChgOk f v p ∧ ∀ j, j < i → ¬ ChAt xs f v j := by
  obtain ⟨x, e', h1, h2⟩ := H
  rw [e] at e'
  cases e'
  exact ⟨h1, h2⟩
def CgsOk (xs : List changeSh.T) : Prop := xs.length ≤ 40 ∧ ∀ i, i < xs.length → CgAt xs i
theorem ChAt.pre {xs : List changeSh.T} {f v : Int} {i j : Nat} (hj : j < i) : ChAt (xs.take i) f v j ↔ ChAt xs f v j := by
  unfold ChAt
  rw [List.getElem?_take, if_pos hj]
theorem chs_pre {xs : List changeSh.T} {f v : Int} {i : Nat} : (∀ j, j < i → ¬ ChAt (xs.take i) f v j) ↔ ∀ j, j < i → ¬ ChAt xs f v j :=
  ⟨fun H j hj h => H j hj ((ChAt.pre hj).2 h), fun H j hj h => H j hj ((ChAt.pre hj).1 h)⟩
theorem IdxRes.none {P : Nat → Prop} {n : Nat} {r : Int} (H : IdxRes P n r) : r < 0 ↔ ∀ j, j < n → ¬ P j := by
  rcases H with ⟨rfl, h⟩ | ⟨m, hm, rfl, h1, h2⟩
  · exact ⟨fun _ => h, fun _ => by decide⟩
  · exact ⟨fun hlt => by omega, fun H => absurd h1 (H m hm)⟩
end Go.Dat
namespace Go.Proofs.Ytanienlcebkijaa
open Go.Abs Go.Dat
set_option maxRecDepth 100000
set_option maxHeartbeats 8000000
theorem changeIndex1_spec (h : AHeap) (lo : Nat) (f v : Int) (y : Value) (f' v' : Int) (a : Option Addr) (n c : Nat) (hd : h.ld lo 0 0 3 = some [.int .i64 f, .int .i64 v, y]) :
    ACall Try.prog 208 [.agg #[.int .i64 f', .int .i64 v', .slice a n c], .pointer (some ⟨lo, 0, some 0⟩)] h (.bool (tr (f' = f ∧ v' = v))) h := by
  refine acall_out (acall_vc (fun _ => false) (fun _ => []) (fun _ => .none) mixed Try.func208 rfl rfl rfl (Nat.le_of_ble_eq_true rfl) (by refine vc_mp (by kernel_rfl : (True ∧ True ∧ True) = _) ?_; simp only [and_self]) ?_)
  refine vc_mp (by kernel_rfl : (∃ (x : Int), AHeap.ld h lo (0 : Nat) (0 : Nat) (1 : Nat) = some [Value.int IntKind.i64 x] ∧ bs (decide (f' = x)) (∃ (x : Int), AHeap.ld h lo (0 : Nat) (1 : Nat) (1 : Nat) = some [Value.int IntKind.i64 x] ∧ Value.bool (decide (v' = x)) = Value.bool (tr (f' = f ∧ v' = v)) ∧ h = h) (Value.bool false = Value.bool (tr (f' = f ∧ v' = v)) ∧ h = h)) = _) ?_
  refine ⟨_, ld_cells (k := 0) (m := 1) hd (by simp), bs_d (fun e1 => ?_) (fun e => ⟨congrArg _ (tr_false fun H => e H.1), rfl⟩)⟩
  refine ⟨_, ld_cells (k := 1) (m := 1) hd (by simp), congrArg _ ?_, rfl⟩
  rw [tr_dec]
  exact tr_congr ⟨fun H => ⟨e1, H⟩, fun H => H.2⟩
def cloC (lo : Nat) : Value := .func (.func 208) #[] #[.pointer (some ⟨lo, 0, some 0⟩)]
def ixcL (a : Option Addr) (n c lo : Nat) (h : AHeap) (xs : List changeSh.T) (f v : Int) : LSpec where
  ι := Nat
  κ := Unit
  I := fun i => i ≤ n ∧ ∀ j, j < i → ¬ ChAt xs f v j
  μ := fun i => n - i
  head := fun i => ⟨[(0, .slice a n c), (1, cloC lo), (7, .int .i64 n), (8, .int .i64 i)], [], h⟩
  post := fun _ => ⟨[], [], h⟩
  R := fun _ _ => ∀ j, j < n → ¬ ChAt xs f v j
  ret := fun _ v' h' => h' = h ∧ ∃ r : Int, v' = .int .i64 r ∧ IdxRes (ChAt xs f v) n r
theorem indexChange_spec (h : AHeap) (a : Option Addr) (c lo : Nat) (xs : List changeSh.T) (f v : Int) (y : Value) (hx : Sl h changeSh xs (.slice a xs.length c)) (hn : xs.length ≤ 9223372036854775807) (hd : h.ld lo 0 0 3 = some [.int .i64 f, .int .i64 v, y]) :
    ∃ r h', ACall Try.prog 207 [.slice a xs.length c, cloC lo] h r h' ∧ h' = h ∧ ∃ i : Int, r = .int .i64 i ∧ IdxRes (ChAt xs f v) xs.length i := by
  refine acall_q fun Q HQ => ?_
  refine acall_vc (fun _ => false) (fun _ => []) (fun _ => ixcL a xs.length c lo h xs f v) mixed Try.func207 rfl rfl rfl (Nat.le_of_ble_eq_true rfl) ?_ ?_
  · refine vc_mp (by kernel_rfl : (True ∧ (True ∧ (∀ (i : Nat), (i ≤ List.length xs ∧ ∀ (j : Nat), j < i → ¬ChAt xs f v j) → bs (decide ((↑i : Int) < (↑(List.length xs) : Int))) (∃ (l : Nat), ∃ (r : Nat), a = some (Addr.mk l r (some (3 : Nat))) ∧ (0 : Int) ≤ (↑i : Int) ∧ (↑i : Int) < (↑(List.length xs) : Int) ∧ ∃ (x : Int), ∃ (x_1 : Int), ∃ (a_2 : Option Addr), ∃ (n : Nat), ∃ (c_1 : Nat), AHeap.ld h l (r + Int.toNat (↑i : Int)) (0 : Nat) (3 : Nat) = some [Value.int IntKind.i64 x, Value.int IntKind.i64 x_1, Value.slice a_2 n c_1] ∧ ∃ (x_2 : Bool), ∃ (h' : AHeap), ACall Try.prog (208 : FuncId) [Value.agg (Array.mk [Value.int IntKind.i64 x, Value.int IntKind.i64 x_1, Value.slice a_2 n c_1]), Value.pointer (some (Addr.mk lo (0 : Nat) (some (0 : Nat))))] h (Value.bool x_2) h' ∧ bs x_2 (h' = h ∧ ∃ (r : Int), Value.int IntKind.i64 (↑i : Int) = Value.int IntKind.i64 r ∧ IdxRes (ChAt xs f v) (List.length xs) r) (∃ (j : Nat), Value.slice a (List.length xs) c = Value.slice a (List.length xs) c ∧ Value.func (Fn.func (208 : FuncId)) (Array.mk []) (Array.mk [Value.pointer (some (Addr.mk lo (0 : Nat) (some (0 : Nat))))]) = Value.func (Fn.func (208 : FuncId)) (Array.mk []) (Array.mk [Value.pointer (some (Addr.mk lo (0 : Nat) (some (0 : Nat))))]) ∧ Value.int IntKind.i64 (↑(List.length xs) : Int) = Value.int IntKind.i64 (↑(List.length xs) : Int) ∧ Value.int IntKind.i64 (IntKind.wrap IntKind.i64 ((↑i : Int) + (1 : Int))) = Value.int IntKind.i64 (↑j : Int) ∧ h = h' ∧ (j ≤ List.length xs ∧ ∀ (j_1 : Nat), j_1 < j → ¬ChAt xs f v j_1) ∧ List.length xs - j < List.length xs - i ∧ (∀ (k : Unit), (∀ (j : Nat), j < List.length xs → ¬ChAt xs f v j) → ∀ (j : Nat), j < List.length xs → ¬ChAt xs f v j) ∧ ∀ (v_1 : Value) (h_1 : AHeap), (h_1 = h ∧ ∃ (r : Int), v_1 = Value.int IntKind.i64 r ∧ IdxRes (ChAt xs f v) (List.length xs) r) → h_1 = h ∧ ∃ (r : Int), v_1 = Value.int IntKind.i64 r ∧ IdxRes (ChAt xs f v) (List.length xs) r)) (∃ (j : Unit), h = h ∧ ∀ (j : Nat), j < List.length xs → ¬ChAt xs f v j)) ∧ True ∧ (True ∧ True) ∧ (True ∧ True ∧ (True ∧ True) ∧ True) ∧ True) ∧ True ∧ True) = _) ?_
    simp only [true_and, and_true]
    rintro (i : Nat) ⟨hi, hall⟩
    refine bs_d (fun hlt => ?_) (fun hge => ⟨(), fun j hj => hall j (by omega)⟩)
    have hio : i < xs.length := by omega
    obtain ⟨⟨f', v', p⟩, hat⟩ : ∃ y : Int × Int × List proofSh.T, xs[i]? = some y := ⟨_, List.getElem?_eq_getElem hio⟩
    obtain ⟨l, r, row, ha, _, hrd, hld⟩ := hx.elem hat
    obtain ⟨v1, rfl, s1⟩ := rd_change.1 hrd
    obtain ⟨a2, c2, rfl⟩ := s1.isSlice
    dsimp only at hld
    refine ⟨l, r, ha, Int.natCast_nonneg _, hlt, _, _, _, _, _, hld, _, _, changeIndex1_spec h lo f v y f' v' a2 _ c2 hd, bs_b (fun e => ?_) (fun e => ?_)⟩
    · exact ⟨rfl, _, rfl, .inr ⟨i, hio, rfl, (ChAt.iff hat).2 (of_tr e), hall⟩⟩
    · exact ⟨i + 1, by rw [wrap_i64 (by omega)]; rfl, rfl, ⟨by omega, upto_step hall (fun H => of_trn e ((ChAt.iff hat).1 H))⟩, by omega, fun _ h => h, fun _ _ h => h⟩
  refine vc_mp (by kernel_rfl : (∃ (i : Nat), Value.slice a (List.length xs) c = Value.slice a (List.length xs) c ∧ Value.func (Fn.func (208 : FuncId)) (Array.mk []) (Array.mk [Value.pointer (some (Addr.mk lo (0 : Nat) (some (0 : Nat))))]) = Value.func (Fn.func (208 : FuncId)) (Array.mk []) (Array.mk [Value.pointer (some (Addr.mk lo (0 : Nat) (some (0 : Nat))))]) ∧ Value.int IntKind.i64 (↑(List.length xs) : Int) = Value.int IntKind.i64 (↑(List.length xs) : Int) ∧ Value.int IntKind.i64 (0 : Int) = Value.int IntKind.i64 (↑i : Int) ∧ h = h ∧ (i ≤ List.length xs ∧ ∀ (j : Nat), j < i → ¬ChAt xs f v j) ∧ (∀ (j : Unit), (∀ (j : Nat), j < List.length xs → ¬ChAt xs f v j) → Q (Value.int IntKind.i64 (-1 : Int)) h) ∧ ∀ (v_1 : Value) (h_1 : AHeap), (h_1 = h ∧ ∃ (r : Int), v_1 = Value.int IntKind.i64 r ∧ IdxRes (ChAt xs f v) (List.length xs) r) → Q v_1 h_1) = _) ?_
  exact ⟨(0 : Nat), rfl, rfl, rfl, rfl, rfl, ⟨Nat.zero_le _, fun j hj => absurd hj (Nat.not_lt_zero _)⟩, fun _ hall => HQ _ _ ⟨rfl, _, rfl, .inl ⟨rfl, hall⟩⟩, fun _ _ H => HQ _ _ H⟩
theorem changeIndex_spec (h : AHeap) (hw : h.wf) (a : Option Addr) (c : Nat) (xs : List changeSh.T) (f v : Int) (a' : Option Addr) (n' c' : Nat) (hx : Sl h changeSh xs (.slice a xs.length c)) (hn : xs.length ≤ 9223372036854775807) :
    ∃ r h', ACall Try.prog 182 [.slice a xs.length c, .agg #[.int .i64 f, .int .i64 v, .slice a' n' c']] h r h' ∧ h.Le h' ∧ h'.wf ∧ ∃ i : Int, r = .int .i64 i ∧ IdxRes (ChAt xs f v) xs.length i := by
  refine acall_q fun Q HQ => ?_
  refine acall_vc (fun t => t == 3) (fun _ => []) (fun _ => .none) mixed Try.func182 rfl rfl rfl (Nat.le_of_ble_eq_true rfl) (by refine vc_mp (by kernel_rfl : (True ∧ True ∧ True) = _) ?_; simp only [and_self]) ?_
  refine vc_mp (by kernel_rfl : (∃ (x : Int), ∃ (h' : AHeap), ACall Try.prog (207 : Nat) [Value.slice a (List.length xs) c, Value.func (Fn.func (208 : Nat)) (Array.mk []) (Array.mk [Value.pointer (some (Addr.mk (AHeap.n h) (0 : Nat) (some (0 : Nat))))])] (AHeap.push h (AObj.mk [[Value.int IntKind.i64 f, Value.int IntKind.i64 v, Value.slice a' n' c']] (3 : Nat) true)) (Value.int IntKind.i64 x) h' ∧ Q (Value.int IntKind.i64 x) h') = _) ?_
  have wp := hw.push ⟨[[.int .i64 f, .int .i64 v, .slice a' n' c']], 3, true⟩
  have lp := AHeap.Le.push hw ⟨[[.int .i64 f, .int .i64 v, .slice a' n' c']], 3, true⟩
  obtain ⟨_, _, A, rfl, i, rfl, hi⟩ := indexChange_spec _ a c h.n xs f v (.slice a' n' c') (hx.mono lp) hn (by rw [AHeap.ld, AHeap.get_push_eq]; rfl)
  exact ⟨_, _, A, HQ _ _ ⟨lp, wp, i, rfl, hi⟩⟩
def ofL (xs : List changeSh.T) (f v : Int) (a : Option Addr) (c : Nat) (h : AHeap) : LSpec where
  ι := Nat
  κ := Unit
  I := fun i => i ≤ xs.length ∧ ∀ j, j < i → ¬ ChAt xs f v j
  μ := fun i => xs.length - i
  head := fun i => ⟨[(0, .slice a xs.length c), (1, .int .i64 f), (2, .int .i64 v), (7, .int .i64 i)], [], h⟩
  post := fun _ => ⟨[], [], h⟩
  R := fun _ _ => ∀ j, j < xs.length → ¬ ChAt xs f v j
  ret := fun _ r h' => h' = h ∧ ∃ i : Int, r = .int .i64 i ∧ IdxRes (ChAt xs f v) xs.length i
theorem l13Of_spec (h : AHeap) (xs : List changeSh.T) (a : Option Addr) (c : Nat) (f v : Int) (hx : Sl h changeSh xs (.slice a xs.length c)) (hn : xs.length ≤ 9223372036854775807) :
    ∃ r h', ACall Try.prog 177 [.slice a xs.length c, .int .i64 f, .int .i64 v] h r h' ∧ h' = h ∧ ∃ i : Int, r = .int .i64 i ∧ IdxRes (ChAt xs f v) xs.length i := by
  refine acall_q fun Q HQ => ?_
  refine acall_vc (fun _ => false) (fun _ => []) (fun _ => ofL xs f v a c h) mixed Try.func177 rfl rfl rfl (Nat.le_of_ble_eq_true rfl) ?_ ?_
  · refine vc_mp (by kernel_rfl : (True ∧ (True ∧ (∀ (i : Nat), (i ≤ List.length xs ∧ ∀ (j : Nat), j < i → ¬ChAt xs f v j) → bs (decide ((↑i : Int) < (↑(List.length xs) : Int))) (∃ (l : Nat), ∃ (r : Nat), a = some (Addr.mk l r (some (3 : Nat))) ∧ (0 : Int) ≤ (↑i : Int) ∧ (↑i : Int) < (↑(List.length xs) : Int) ∧ ∃ (x : Int), AHeap.ld h l (r + Int.toNat (↑i : Int)) (0 : Nat) (1 : Nat) = some [Value.int IntKind.i64 x] ∧ bs (decide (x = f)) (∃ (l : Nat), ∃ (r : Nat), a = some (Addr.mk l r (some (3 : Nat))) ∧ (0 : Int) ≤ (↑i : Int) ∧ (↑i : Int) < (↑(List.length xs) : Int) ∧ ∃ (x : Int), AHeap.ld h l (r + Int.toNat (↑i : Int)) (1 : Nat) (1 : Nat) = some [Value.int IntKind.i64 x] ∧ bs (decide (x = v)) (h = h ∧ ∃ (i_1 : Int), Value.int IntKind.i64 (↑i : Int) = Value.int IntKind.i64 i_1 ∧ IdxRes (ChAt xs f v) (List.length xs) i_1) (∃ (j : Nat), Value.slice a (List.length xs) c = Value.slice a (List.length xs) c ∧ Value.int IntKind.i64 f = Value.int IntKind.i64 f ∧ Value.int IntKind.i64 v = Value.int IntKind.i64 v ∧ Value.int IntKind.i64 (IntKind.wrap IntKind.i64 ((↑i : Int) + (1 : Int))) = Value.int IntKind.i64 (↑j : Int) ∧ h = h ∧ (j ≤ List.length xs ∧ ∀ (j_1 : Nat), j_1 < j → ¬ChAt xs f v j_1) ∧ List.length xs - j < List.length xs - i ∧ (∀ (k : Unit), (∀ (j : Nat), j < List.length xs → ¬ChAt xs f v j) → ∀ (j : Nat), j < List.length xs → ¬ChAt xs f v j) ∧ ∀ (v_1 : Value) (h_1 : AHeap), (h_1 = h ∧ ∃ (i : Int), v_1 = Value.int IntKind.i64 i ∧ IdxRes (ChAt xs f v) (List.length xs) i) → h_1 = h ∧ ∃ (i : Int), v_1 = Value.int IntKind.i64 i ∧ IdxRes (ChAt xs f v) (List.length xs) i)) (∃ (j : Nat), Value.slice a (List.length xs) c = Value.slice a (List.length xs) c ∧ Value.int IntKind.i64 f = Value.int IntKind.i64 f ∧ Value.int IntKind.i64 v = Value.int IntKind.i64 v ∧ Value.int IntKind.i64 (IntKind.wrap IntKind.i64 ((↑i : Int) + (1 : Int))) = Value.int IntKind.i64 (↑j : Int) ∧ h = h ∧ (j ≤ List.length xs ∧ ∀ (j_1 : Nat), j_1 < j → ¬ChAt xs f v j_1) ∧ List.length xs - j < List.length xs - i ∧ (∀ (k : Unit), (∀ (j : Nat), j < List.length xs → ¬ChAt xs f v j) → ∀ (j : Nat), j < List.length xs → ¬ChAt xs f v j) ∧ ∀ (v_1 : Value) (h_1 : AHeap), (h_1 = h ∧ ∃ (i : Int), v_1 = Value.int IntKind.i64 i ∧ IdxRes (ChAt xs f v) (List.length xs) i) → h_1 = h ∧ ∃ (i : Int), v_1 = Value.int IntKind.i64 i ∧ IdxRes (ChAt xs f v) (List.length xs) i)) (∃ (j : Unit), h = h ∧ ∀ (j : Nat), j < List.length xs → ¬ChAt xs f v j)) ∧ (True ∧ True ∧ True) ∧ (True ∧ (True ∧ True) ∧ True) ∧ True) ∧ True ∧ True) = _) ?_
    simp only [true_and, and_true]
    rintro (i : Nat) ⟨hi, hall⟩
    refine bs_d (fun hlt => ?_) (fun hge => ⟨(), fun j hj => hall j (by omega)⟩)
    have hio : i < xs.length := by omega
    obtain ⟨⟨f', v', p⟩, hat⟩ : ∃ y : Int × Int × List proofSh.T, xs[i]? = some y := ⟨_, List.getElem?_eq_getElem hio⟩
    obtain ⟨l, r, row, ha, _, hrd, hld⟩ := hx.elem hat
    obtain ⟨v1, rfl, s1⟩ := rd_change.1 hrd
    dsimp only at hld
    refine ⟨l, r, ha, Int.natCast_nonneg _, hlt, _, ld_cells (k := 0) (m := 1) hld (by simp), bs_d (fun e1 => ?_) (fun e => ?_)⟩
    · refine ⟨l, r, ha, Int.natCast_nonneg _, hlt, _, ld_cells (k := 1) (m := 1) hld (by simp), bs_d (fun e2 => ?_) (fun e => ?_)⟩
      · exact ⟨_, rfl, .inr ⟨i, hio, rfl, (ChAt.iff hat).2 ⟨e1, e2⟩, hall⟩⟩
      · exact ⟨i + 1, by rw [wrap_i64 (by omega)]; rfl, ⟨by omega, upto_step hall (fun H => e ((ChAt.iff hat).1 H).2)⟩, by omega, fun _ h => h, fun _ _ h => h⟩
    · exact ⟨i + 1, by rw [wrap_i64 (by omega)]; rfl, ⟨by omega, upto_step hall (fun H => e ((ChAt.iff hat).1 H).1)⟩, by omega, fun _ h => h, fun _ _ h => h⟩
  refine vc_mp (by kernel_rfl : (∃ (i : Nat), Value.slice a (List.length xs) c = Value.slice a (List.length xs) c ∧ Value.int IntKind.i64 f = Value.int IntKind.i64 f ∧ Value.int IntKind.i64 v = Value.int IntKind.i64 v ∧ Value.int IntKind.i64 (0 : Int) = Value.int IntKind.i64 (↑i : Int) ∧ h = h ∧ (i ≤ List.length xs ∧ ∀ (j : Nat), j < i → ¬ChAt xs f v j) ∧ (∀ (j : Unit), (∀ (j : Nat), j < List.length xs → ¬ChAt xs f v j) → Q (Value.int IntKind.i64 (-1 : Int)) h) ∧ ∀ (v_1 : Value) (h_1 : AHeap), (h_1 = h ∧ ∃ (i : Int), v_1 = Value.int IntKind.i64 i ∧ IdxRes (ChAt xs f v) (List.length xs) i) → Q v_1 h_1) = _) ?_
  exact ⟨(0 : Nat), rfl, rfl, rfl, rfl, rfl, ⟨Nat.zero_le _, fun j hj => absurd hj (Nat.not_lt_zero _)⟩, fun _ hall => HQ _ _ ⟨rfl, _, rfl, .inl ⟨rfl, hall⟩⟩, fun _ _ H => HQ _ _ H⟩
end Go.Proofs.Ytanienlcebkijaa
