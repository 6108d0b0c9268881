/- V1. -/
import Derived.Test.YtanienlcebkijaaV15U5
namespace Go.Proofs.Ytanienlcebkijaa
open Go.Abs Go.Dat
set_option maxRecDepth 100000
set_option maxHeartbeats 8000000
theorem isNaN_spec (h : AHeap) (x : Int) : ACall Try.prog 145 [.int .i64 x] h (.bool false) h := by
  refine acall_out (acall_vc (fun _ => false) (fun _ => []) (fun _ => .none) mixed Try.func145 rfl rfl rfl (Nat.le_of_ble_eq_true rfl) (by refine vc_mp (by kernel_rfl : (True ∧ True ∧ True) = _) ?_; simp only [and_self]) ?_)
  refine vc_mp (by kernel_rfl : ((Value.bool !decide (x = x)) = Value.bool false ∧ h = h) = _) ?_
  exact ⟨by rw [decide_eq_true rfl]; rfl, rfl⟩
theorem compare_spec (h : AHeap) (x y : Int) : ACall Try.prog 89 [.int .i64 x, .int .i64 y] h (.int .i64 (if x < y then -1 else if y < x then 1 else 0)) h := by
  refine acall_out (acall_vc (fun _ => false) (fun _ => []) (fun _ => .none) mixed Try.func89 rfl rfl rfl (Nat.le_of_ble_eq_true rfl) (by refine vc_mp (by kernel_rfl : (True ∧ True ∧ True ∧ (True ∧ ((True ∧ (True ∧ True) ∧ True) ∧ True ∧ True) ∧ True) ∧ (True ∧ (True ∧ True) ∧ True) ∧ (True ∧ (True ∧ True) ∧ True) ∧ (True ∧ (True ∧ True) ∧ True) ∧ True ∧ True) = _) ?_; simp only [and_self]) ?_)
  refine vc_mp (by kernel_rfl : (∃ (x_1 : Bool), ∃ (h' : AHeap), ACall Try.prog (145 : Nat) [Value.int IntKind.i64 x] h (Value.bool x_1) h' ∧ ∃ (x_2 : Bool), ∃ (h'_1 : AHeap), ACall Try.prog (145 : Nat) [Value.int IntKind.i64 y] h' (Value.bool x_2) h'_1 ∧ bs x_1 (bs x_2 (Value.int IntKind.i64 (0 : Int) = Value.int IntKind.i64 (if x < y then (-1 : Int) else if y < x then (1 : Int) else (0 : Int)) ∧ h'_1 = h) (Value.int IntKind.i64 (-1 : Int) = Value.int IntKind.i64 (if x < y then (-1 : Int) else if y < x then (1 : Int) else (0 : Int)) ∧ h'_1 = h)) (bs x_2 (Value.int IntKind.i64 (1 : Int) = Value.int IntKind.i64 (if x < y then (-1 : Int) else if y < x then (1 : Int) else (0 : Int)) ∧ h'_1 = h) (bs (decide (x < y)) (Value.int IntKind.i64 (-1 : Int) = Value.int IntKind.i64 (if x < y then (-1 : Int) else if y < x then (1 : Int) else (0 : Int)) ∧ h'_1 = h) (bs (decide (x > y)) (Value.int IntKind.i64 (1 : Int) = Value.int IntKind.i64 (if x < y then (-1 : Int) else if y < x then (1 : Int) else (0 : Int)) ∧ h'_1 = h) (Value.int IntKind.i64 (0 : Int) = Value.int IntKind.i64 (if x < y then (-1 : Int) else if y < x then (1 : Int) else (0 : Int)) ∧ h'_1 = h))))) = _) ?_
  refine ⟨_, _, isNaN_spec _ _, _, _, isNaN_spec _ _, bs_b (fun e => by cases e) (fun _ => bs_b (fun e => by cases e) (fun _ => bs_d (fun e => ?_) (fun e => bs_d (fun e2 => ?_) (fun e2 => ?_))))⟩
  · rw [if_pos e]; exact ⟨rfl, rfl⟩
  · rw [if_neg e, if_pos e2]; exact ⟨rfl, rfl⟩
  · rw [if_neg e, if_neg e2]; exact ⟨rfl, rfl⟩
theorem hear1_spec (h : AHeap) (f : Int) (t : ByteArray) (y : Int) : ACall Try.prog 88 [.agg #[.int .i64 f, .string t], .int .i64 y] h (.int .i64 (if f < y then -1 else if y < f then 1 else 0)) h := by
  refine acall_out (acall_vc (fun _ => false) (fun _ => []) (fun _ => .none) mixed Try.func88 rfl rfl rfl (Nat.le_of_ble_eq_true rfl) (by refine vc_mp (by kernel_rfl : (True ∧ True ∧ True) = _) ?_; simp only [and_self]) ?_)
  refine vc_mp (by kernel_rfl : (∃ (x : Int), ∃ (h' : AHeap), ACall Try.prog (89 : Nat) [Value.int IntKind.i64 f, Value.int IntKind.i64 y] h (Value.int IntKind.i64 x) h' ∧ Value.int IntKind.i64 x = Value.int IntKind.i64 (if f < y then (-1 : Int) else if y < f then (1 : Int) else (0 : Int)) ∧ h' = h) = _) ?_
  exact ⟨_, _, compare_spec h f y, rfl, rfl⟩
theorem hear2_spec (h : AHeap) (lo : Nat) (f : Int) (t u : ByteArray) (a b : Value) (hd : h.ld lo 0 0 3 = some [a, b, .string u]) : ACall Try.prog 91 [.agg #[.int .i64 f, .string t], .pointer (some ⟨lo, 0, some 0⟩)] h (.bool (tr (t = u))) h := by
  refine acall_out (acall_vc (fun _ => false) (fun _ => []) (fun _ => .none) mixed Try.func91 rfl rfl rfl (Nat.le_of_ble_eq_true rfl) (by refine vc_mp (by kernel_rfl : (True ∧ True ∧ True) = _) ?_; simp only [and_self]) ?_)
  refine vc_mp (by kernel_rfl : (∃ (x : ByteArray), AHeap.ld h lo (0 : Nat) (2 : Nat) (1 : Nat) = some [Value.string x] ∧ Value.bool (decide (t = x)) = Value.bool (tr (t = u)) ∧ h = h) = _) ?_
  exact ⟨_, ld_cells (k := 2) (m := 1) hd (by simp), congrArg _ tr_dec, rfl⟩
theorem cloneHeard_spec (h : AHeap) (hw : h.wf) (a : Option Addr) (c : Nat) (xs : List heardSh.T) (hx : Sl h heardSh xs (.slice a xs.length c)) (hn : xs.length ≤ 1048576) :
    ∃ v h', ACall Try.prog 86 [.slice a xs.length c] h v h' ∧ ∃ a' c' ids, v = .slice a' xs.length c' ∧ SoB heardSh h h' a' xs.length c' xs ids := by
  refine acall_q fun Q HQ => ?_
  refine acall_vc (fun _ => false) (fun _ => []) (fun _ => .none) mixed Try.func86 rfl rfl rfl (Nat.le_of_ble_eq_true rfl) (by refine vc_mp (by kernel_rfl : (True ∧ (True ∧ (True ∧ True) ∧ True) ∧ True ∧ True) = _) ?_; simp only [and_self]) ?_
  refine vc_mp (by kernel_rfl : (bs (Option.isNone a) (Q (Value.slice none (0 : Nat) (0 : Nat)) h) (∃ (xs_1 : List (List Value)), rowsV (AHeap.push h (AObj.mk [] (2 : Nat) true)) (Value.slice a (List.length xs) c) = some xs_1 ∧ (List.all xs_1 fun (row : List Value) => decide (List.length row = (2 : Nat)) && List.all row fun (v : Value) => match v with | Value.agg cells => false | Value.tuple cells => false | Value.complex k re im => false | Value.chan r => false | x => true) = true ∧ ((0 : Nat) + List.length xs_1) * (24 : Nat) ≤ (140737488355328 : Nat) ∧ ∃ (a : Option Addr), ∃ (n : Nat), ∃ (c : Nat), ∃ (h' : AHeap), AHeap.app (AHeap.push h (AObj.mk [] (2 : Nat) true)) (Value.slice (some (Addr.mk (AHeap.n h) (0 : Nat) (some (2 : Nat)))) (0 : Nat) (1 : Nat)) xs_1 (2 : Nat) = some (Value.slice a n c, h') ∧ Q (Value.slice a n c) h')) = _) ?_
  refine bs_of (fun e => ?_) (fun e => ?_)
  · have ha := hx.row.1
    rcases ha with ⟨rfl, hz, rfl⟩ | ⟨l, r, rfl⟩
    · have hxs : xs = [] := List.eq_nil_of_length_eq_zero hz
      subst hxs
      exact HQ _ _ ⟨none, 0, [], rfl, .nil hw⟩
    · cases e
  · obtain ⟨rows, e1, e2, e3, l, c', h', e4, B⟩ := app_clone (s := heardSh) rfl hw hx
    exact ⟨rows, e1, e2, by rw [e3]; omega, _, _, _, h', e4, HQ _ _ ⟨_, _, _, rfl, B⟩⟩
def HLt (xs : List heardSh.T) (y : Int) (i : Nat) : Prop := ∀ (j : Nat) (x : heardSh.T), xs[j]? = some x → (j < i → (show Int from x.1) < y) ∧ (i ≤ j → y ≤ (show Int from x.1))
def bsL (a : Option Addr) (c : Nat) (h : AHeap) (xs : List heardSh.T) (y : Int) : LSpec where
  ι := Nat × Nat
  κ := Nat
  I := fun i => i.1 ≤ i.2 ∧ i.2 ≤ xs.length ∧ ∀ (j : Nat) (x : heardSh.T), xs[j]? = some x → (j < i.1 → (show Int from x.1) < y) ∧ (i.2 ≤ j → y ≤ (show Int from x.1))
  μ := fun i => i.2 - i.1
  head := fun i => ⟨[(0, .slice a xs.length c), (1, .int .i64 y), (2, .func (.func 88) #[] #[]), (8, .int .i64 xs.length), (9, .int .i64 i.1), (10, .int .i64 i.2)], [], h⟩
  post := fun j => ⟨[(0, .slice a xs.length c), (1, .int .i64 y), (2, .func (.func 88) #[] #[]), (8, .int .i64 xs.length), (9, .int .i64 j)], [], h⟩
  R := fun _ j => j ≤ xs.length ∧ HLt xs y j
  ret := fun _ _ _ => False
theorem searchHeard_spec (h : AHeap) (a : Option Addr) (c : Nat) (xs : List heardSh.T) (y : Int) (hx : Sl h heardSh xs (.slice a xs.length c)) (hn : xs.length ≤ 1048576) (hs : ∀ (i j : Nat) (x x' : heardSh.T), i < j → xs[i]? = some x → xs[j]? = some x' → (show Int from x.1) < x'.1) :
    ∃ v h', ACall Try.prog 87 [.slice a xs.length c, .int .i64 y, .func (.func 88) #[] #[]] h v h' ∧ h' = h ∧ ∃ (k : Nat) (b : Bool), v = .tuple #[.int .i64 k, .bool b] ∧ k ≤ xs.length ∧ HLt xs y k ∧ (b = true ↔ ∃ x : heardSh.T, xs[k]? = some x ∧ (show Int from x.1) = y) := by
  refine acall_q fun Q HQ => ?_
  refine acall_vc (fun _ => false) (fun _ => []) (fun _ => bsL a c h xs y) mixed Try.func87 rfl rfl rfl (Nat.le_of_ble_eq_true rfl) ?_ ?_
  · refine vc_mp (by kernel_rfl : (True ∧ True ∧ True ∧ ((∀ (i : Nat × Nat), (Prod.fst i ≤ Prod.snd i ∧ Prod.snd i ≤ List.length xs ∧ ∀ (j : Nat) (x : Sh.T heardSh), xs[j]? = some x → (j < Prod.fst i → Prod.fst x < y) ∧ (Prod.snd i ≤ j → y ≤ Prod.fst x)) → bs (decide ((↑(Prod.fst i) : Int) < (↑(Prod.snd i) : Int))) ((0 : Int) ≤ (1 : Int) ∧ ∃ (l : Nat), ∃ (r : Nat), a = some (Addr.mk l r (some (2 : Nat))) ∧ (0 : Int) ≤ IntKind.wrap IntKind.i64 (Int.fdiv (IntKind.wrap IntKind.u64 (IntKind.wrap IntKind.i64 ((↑(Prod.fst i) : Int) + (↑(Prod.snd i) : Int)))) ((2 : Int) ^ min (Int.toNat (1 : Int)) (IntKind.bits IntKind.u64))) ∧ IntKind.wrap IntKind.i64 (Int.fdiv (IntKind.wrap IntKind.u64 (IntKind.wrap IntKind.i64 ((↑(Prod.fst i) : Int) + (↑(Prod.snd i) : Int)))) ((2 : Int) ^ min (Int.toNat (1 : Int)) (IntKind.bits IntKind.u64))) < (↑(List.length xs) : Int) ∧ ∃ (x : Int), ∃ (x_1 : ByteArray), AHeap.ld h l (r + Int.toNat (IntKind.wrap IntKind.i64 (Int.fdiv (IntKind.wrap IntKind.u64 (IntKind.wrap IntKind.i64 ((↑(Prod.fst i) : Int) + (↑(Prod.snd i) : Int)))) ((2 : Int) ^ min (Int.toNat (1 : Int)) (IntKind.bits IntKind.u64))))) (0 : Nat) (2 : Nat) = some [Value.int IntKind.i64 x, Value.string x_1] ∧ ∃ (x_2 : Int), ∃ (h' : AHeap), ACall Try.prog (88 : FuncId) [Value.agg (Array.mk [Value.int IntKind.i64 x, Value.string x_1]), Value.int IntKind.i64 y] h (Value.int IntKind.i64 x_2) h' ∧ bs (decide (x_2 < (0 : Int))) (∃ (j : Nat × Nat), Value.slice a (List.length xs) c = Value.slice a (List.length xs) c ∧ Value.int IntKind.i64 y = Value.int IntKind.i64 y ∧ Value.func (Fn.func (88 : FuncId)) (Array.mk []) (Array.mk []) = Value.func (Fn.func (88 : FuncId)) (Array.mk []) (Array.mk []) ∧ Value.int IntKind.i64 (↑(List.length xs) : Int) = Value.int IntKind.i64 (↑(List.length xs) : Int) ∧ Value.int IntKind.i64 (IntKind.wrap IntKind.i64 (IntKind.wrap IntKind.i64 (Int.fdiv (IntKind.wrap IntKind.u64 (IntKind.wrap IntKind.i64 ((↑(Prod.fst i) : Int) + (↑(Prod.snd i) : Int)))) ((2 : Int) ^ min (Int.toNat (1 : Int)) (IntKind.bits IntKind.u64))) + (1 : Int))) = Value.int IntKind.i64 (↑(Prod.fst j) : Int) ∧ Value.int IntKind.i64 (↑(Prod.snd i) : Int) = Value.int IntKind.i64 (↑(Prod.snd j) : Int) ∧ h = h' ∧ (Prod.fst j ≤ Prod.snd j ∧ Prod.snd j ≤ List.length xs ∧ ∀ (j_1 : Nat) (x : Sh.T heardSh), xs[j_1]? = some x → (j_1 < Prod.fst j → Prod.fst x < y) ∧ (Prod.snd j ≤ j_1 → y ≤ Prod.fst x)) ∧ Prod.snd j - Prod.fst j < Prod.snd i - Prod.fst i ∧ (∀ (k : Nat), (k ≤ List.length xs ∧ ∀ (j : Nat) (x : Sh.T heardSh), xs[j]? = some x → (j < k → Prod.fst x < y) ∧ (k ≤ j → y ≤ Prod.fst x)) → k ≤ List.length xs ∧ ∀ (j : Nat) (x : Sh.T heardSh), xs[j]? = some x → (j < k → Prod.fst x < y) ∧ (k ≤ j → y ≤ Prod.fst x)) ∧ ∀ (v : Value) (h : AHeap), False → False) (∃ (j : Nat × Nat), Value.slice a (List.length xs) c = Value.slice a (List.length xs) c ∧ Value.int IntKind.i64 y = Value.int IntKind.i64 y ∧ Value.func (Fn.func (88 : FuncId)) (Array.mk []) (Array.mk []) = Value.func (Fn.func (88 : FuncId)) (Array.mk []) (Array.mk []) ∧ Value.int IntKind.i64 (↑(List.length xs) : Int) = Value.int IntKind.i64 (↑(List.length xs) : Int) ∧ Value.int IntKind.i64 (↑(Prod.fst i) : Int) = Value.int IntKind.i64 (↑(Prod.fst j) : Int) ∧ Value.int IntKind.i64 (IntKind.wrap IntKind.i64 (Int.fdiv (IntKind.wrap IntKind.u64 (IntKind.wrap IntKind.i64 ((↑(Prod.fst i) : Int) + (↑(Prod.snd i) : Int)))) ((2 : Int) ^ min (Int.toNat (1 : Int)) (IntKind.bits IntKind.u64)))) = Value.int IntKind.i64 (↑(Prod.snd j) : Int) ∧ h = h' ∧ (Prod.fst j ≤ Prod.snd j ∧ Prod.snd j ≤ List.length xs ∧ ∀ (j_1 : Nat) (x : Sh.T heardSh), xs[j_1]? = some x → (j_1 < Prod.fst j → Prod.fst x < y) ∧ (Prod.snd j ≤ j_1 → y ≤ Prod.fst x)) ∧ Prod.snd j - Prod.fst j < Prod.snd i - Prod.fst i ∧ (∀ (k : Nat), (k ≤ List.length xs ∧ ∀ (j : Nat) (x : Sh.T heardSh), xs[j]? = some x → (j < k → Prod.fst x < y) ∧ (k ≤ j → y ≤ Prod.fst x)) → k ≤ List.length xs ∧ ∀ (j : Nat) (x : Sh.T heardSh), xs[j]? = some x → (j < k → Prod.fst x < y) ∧ (k ≤ j → y ≤ Prod.fst x)) ∧ ∀ (v : Value) (h : AHeap), False → False)) (∃ (j : Nat), Value.slice a (List.length xs) c = Value.slice a (List.length xs) c ∧ Value.int IntKind.i64 y = Value.int IntKind.i64 y ∧ Value.func (Fn.func (88 : FuncId)) (Array.mk []) (Array.mk []) = Value.func (Fn.func (88 : FuncId)) (Array.mk []) (Array.mk []) ∧ Value.int IntKind.i64 (↑(List.length xs) : Int) = Value.int IntKind.i64 (↑(List.length xs) : Int) ∧ Value.int IntKind.i64 (↑(Prod.fst i) : Int) = Value.int IntKind.i64 (↑j : Int) ∧ h = h ∧ j ≤ List.length xs ∧ ∀ (j_1 : Nat) (x : Sh.T heardSh), xs[j_1]? = some x → (j_1 < j → Prod.fst x < y) ∧ (j ≤ j_1 → y ≤ Prod.fst x))) ∧ (True ∧ True ∧ True) ∧ True ∧ True ∧ True ∧ True) ∧ True ∧ True) = _) ?_
    simp only [true_and, and_true]
    rintro ⟨i, j⟩ ⟨hij, hj, hall⟩
    dsimp only at *
    refine bs_d (fun hlt => ⟨by decide, ?_⟩) (fun hge => ⟨i, rfl, by omega, fun k x hk => ⟨fun h => (hall k x hk).1 h, fun h => (hall k x hk).2 (by omega)⟩⟩)
    rw [mid (by omega) (by omega)]
    obtain ⟨m, hm⟩ : ∃ m, m = (i + j) / 2 := ⟨_, rfl⟩
    rw [← hm]
    obtain ⟨⟨f, t⟩, hat⟩ : ∃ y : Int × ByteArray, xs[m]? = some y := ⟨_, List.getElem?_eq_getElem (by omega)⟩
    obtain ⟨l, r, row, ha, _, hrd, hld⟩ := hx.elem hat
    obtain rfl := rd_heard.1 hrd
    dsimp only at hld
    refine ⟨l, r, ha, Int.natCast_nonneg _, by omega, _, _, hld, _, _, hear1_spec h f t y, bs_d (fun e => ?_) (fun e => ?_)⟩
    · have hf : f < y := by
        by_cases c1 : f < y
        · exact c1
        · rw [if_neg c1] at e; split at e <;> omega
      refine ⟨(m + 1, j), by rw [wrap_i64 (by omega)]; rfl, rfl, rfl, ⟨by dsimp only; omega, hj, fun k x hk => ⟨fun h => ?_, fun h => (hall k x hk).2 h⟩⟩, by dsimp only; omega, fun _ h => h, fun _ _ h => h⟩
      dsimp only at h
      by_cases c2 : k = m
      · subst c2; rw [hat] at hk; cases hk; exact hf
      · exact Int.lt_trans (hs k m x (f, t) (by omega) hk hat) hf
    · have hf : y ≤ f := by
        by_cases c1 : f < y
        · rw [if_pos c1] at e; omega
        · omega
      refine ⟨(i, m), rfl, rfl, rfl, ⟨by dsimp only; omega, by dsimp only; omega, fun k x hk => ⟨fun h => (hall k x hk).1 h, fun h => ?_⟩⟩, by dsimp only; omega, fun _ h => h, fun _ _ h => h⟩
      dsimp only at h
      by_cases c2 : k = m
      · subst c2; rw [hat] at hk; cases hk; exact hf
      · exact Int.le_of_lt (Int.lt_of_le_of_lt hf (hs m k (f, t) x (by omega) hat hk))
  refine vc_mp (by kernel_rfl : (∃ (i : Nat × Nat), Value.slice a (List.length xs) c = Value.slice a (List.length xs) c ∧ Value.int IntKind.i64 y = Value.int IntKind.i64 y ∧ Value.func (Fn.func (88 : FuncId)) (Array.mk []) (Array.mk []) = Value.func (Fn.func (88 : FuncId)) (Array.mk []) (Array.mk []) ∧ Value.int IntKind.i64 (↑(List.length xs) : Int) = Value.int IntKind.i64 (↑(List.length xs) : Int) ∧ Value.int IntKind.i64 (0 : Int) = Value.int IntKind.i64 (↑(Prod.fst i) : Int) ∧ Value.int IntKind.i64 (↑(List.length xs) : Int) = Value.int IntKind.i64 (↑(Prod.snd i) : Int) ∧ h = h ∧ (Prod.fst i ≤ Prod.snd i ∧ Prod.snd i ≤ List.length xs ∧ ∀ (j : Nat) (x : Sh.T heardSh), xs[j]? = some x → (j < Prod.fst i → Prod.fst x < y) ∧ (Prod.snd i ≤ j → y ≤ Prod.fst x)) ∧ (∀ (j : Nat), (j ≤ List.length xs ∧ ∀ (j_1 : Nat) (x : Sh.T heardSh), xs[j_1]? = some x → (j_1 < j → Prod.fst x < y) ∧ (j ≤ j_1 → y ≤ Prod.fst x)) → bs (decide ((↑j : Int) < (↑(List.length xs) : Int))) (∃ (l : Nat), ∃ (r : Nat), a = some (Addr.mk l r (some (2 : Nat))) ∧ (0 : Int) ≤ (↑j : Int) ∧ (↑j : Int) < (↑(List.length xs) : Int) ∧ ∃ (x : Int), ∃ (x_1 : ByteArray), AHeap.ld h l (r + Int.toNat (↑j : Int)) (0 : Nat) (2 : Nat) = some [Value.int IntKind.i64 x, Value.string x_1] ∧ ∃ (x_2 : Int), ∃ (h' : AHeap), ACall Try.prog (88 : FuncId) [Value.agg (Array.mk [Value.int IntKind.i64 x, Value.string x_1]), Value.int IntKind.i64 y] h (Value.int IntKind.i64 x_2) h' ∧ Q (Value.tuple (Array.mk [Value.int IntKind.i64 (↑j : Int), Value.bool (decide (x_2 = (0 : Int)))])) h') (Q (Value.tuple (Array.mk [Value.int IntKind.i64 (↑j : Int), Value.bool false])) h)) ∧ ∀ (v : Value) (h : AHeap), False → Q v h) = _) ?_
  refine ⟨(0, xs.length), rfl, rfl, rfl, rfl, rfl, rfl, rfl, ⟨Nat.zero_le _, Nat.le_refl _, fun k x hk => ⟨fun h => absurd h (Nat.not_lt_zero _), fun h => ?_⟩⟩, fun k ⟨hk, hH⟩ => bs_d (fun hlt => ?_) (fun hge => ?_), fun _ _ h => h.elim⟩
  · have := (List.getElem?_eq_some_iff.1 hk).1
    dsimp only at h
    omega
  · obtain ⟨⟨f, t⟩, hat⟩ : ∃ y : Int × ByteArray, xs[k]? = some y := ⟨_, List.getElem?_eq_getElem (by omega)⟩
    obtain ⟨l, r, row, ha, _, hrd, hld⟩ := hx.elem hat
    obtain rfl := rd_heard.1 hrd
    dsimp only at hld
    refine ⟨l, r, ha, Int.natCast_nonneg _, hlt, _, _, hld, _, _, hear1_spec h f t y, HQ _ _ ⟨rfl, k, _, rfl, hk, hH, ?_⟩⟩
    rw [decide_eq_true_eq]
    constructor
    · intro e
      refine ⟨_, hat, ?_⟩
      show f = y
      split at e
      · omega
      · split at e <;> omega
    · rintro ⟨x, e1, e2⟩
      rw [hat] at e1; cases e1
      have e2' : f = y := e2
      rw [if_neg (by omega), if_neg (by omega)]
  · refine HQ _ _ ⟨rfl, k, false, rfl, hk, hH, ⟨fun e => (by cases e), fun ⟨x, e1, _⟩ => ?_⟩⟩
    have := (List.getElem?_eq_some_iff.1 e1).1
    omega
end Go.Proofs.Ytanienlcebkijaa
