/- Contracts: small tests on numbers. -/
import Derived.Test.YtanienlcebkijaaV11C2
namespace Go.Proofs.Ytanienlcebkijaa
open Go.Abs Go.Dat
set_option maxRecDepth 100000
theorem within_spec (n lo hi : Int) (h : AHeap) : ACall Try.prog 76 [.int .i64 n, .int .i64 lo, .int .i64 hi] h (.bool (decide (lo ≤ n) && decide (n ≤ hi))) h := by
  refine acall_out (acall_by (fun _ => true) (fun _ => []) (fun _ => .none) mixed Try.func76 rfl rfl rfl (Nat.le_of_ble_eq_true rfl) ⟨trivial, trivial, trivial⟩ ?_)
  refine Eq.mp (by kernel_rfl : (bs (decide (n ≥ lo)) (Value.bool (decide (n ≤ hi)) = Value.bool (decide (lo ≤ n) && decide (n ≤ hi)) ∧ h = h) (Value.bool false = Value.bool (decide (lo ≤ n) && decide (n ≤ hi)) ∧ h = h)) = _) ?_
  refine bs_dec (fun e => ?_) (fun e => ?_)
  · simp only [ge_iff_le] at e; simp [e]
  · simp only [ge_iff_le] at e; simp [e]
theorem l03Is_spec (n lo hi : Int) (h : AHeap) : ACall Try.prog 77 [.int .i64 n, .int .i64 lo, .int .i64 hi] h (.bool (decide (lo ≤ n) && decide (n ≤ hi))) h := by
  refine acall_out (acall_by (fun _ => true) (fun _ => []) (fun _ => .none) mixed Try.func77 rfl rfl rfl (Nat.le_of_ble_eq_true rfl) ⟨trivial, trivial, trivial⟩ ?_)
  refine Eq.mp (by kernel_rfl : (bs (decide (n ≥ lo)) (Value.bool (decide (n ≤ hi)) = Value.bool (decide (lo ≤ n) && decide (n ≤ hi)) ∧ h = h) (Value.bool false = Value.bool (decide (lo ≤ n) && decide (n ≤ hi)) ∧ h = h)) = _) ?_
  refine bs_dec (fun e => ?_) (fun e => ?_)
  · simp only [ge_iff_le] at e; simp [e]
  · simp only [ge_iff_le] at e; simp [e]
theorem isReplica_spec (n : Int) (h : AHeap) : ACall Try.prog 70 [.int .i64 n] h (.bool (decide (0 ≤ n) && decide (n ≤ 3))) h := by
  refine acall_out (acall_by (fun _ => true) (fun _ => []) (fun _ => .none) mixed Try.func70 rfl rfl rfl (Nat.le_of_ble_eq_true rfl) ⟨trivial, trivial, trivial⟩ ?_)
  refine Eq.mp (by kernel_rfl : (∃ (x : Bool), ∃ (h' : AHeap), ACall Try.prog (76 : Nat) [Value.int IntKind.i64 n, Value.int IntKind.i64 (0 : Int), Value.int IntKind.i64 (3 : Int)] h (Value.bool x) h' ∧ Value.bool x = Value.bool (decide ((0 : Int) ≤ n) && decide (n ≤ (3 : Int))) ∧ h' = h) = _) ?_
  exact ⟨_, _, within_spec n 0 3 h, rfl, rfl⟩
theorem l09Who_spec (n : Int) (h : AHeap) : ACall Try.prog 73 [.int .i64 n] h (.bool (decide (0 ≤ n) && decide (n ≤ 3))) h := by
  refine acall_out (acall_by (fun _ => true) (fun _ => []) (fun _ => .none) mixed Try.func73 rfl rfl rfl (Nat.le_of_ble_eq_true rfl) ⟨trivial, trivial, trivial⟩ ?_)
  refine Eq.mp (by kernel_rfl : (∃ (x : Bool), ∃ (h' : AHeap), ACall Try.prog (77 : Nat) [Value.int IntKind.i64 n, Value.int IntKind.i64 (0 : Int), Value.int IntKind.i64 (3 : Int)] h (Value.bool x) h' ∧ Value.bool x = Value.bool (decide ((0 : Int) ≤ n) && decide (n ≤ (3 : Int))) ∧ h' = h) = _) ?_
  trace_state
  exact ⟨_, _, l03Is_spec n 0 3 h, rfl, rfl⟩
end Go.Proofs.Ytanienlcebkijaa
