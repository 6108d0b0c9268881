/- Contracts: small tests on numbers. -/
import Derived.Test.YtdcijleeoihlfaaV9C2
namespace Go.Proofs.Ytdcijleeoihlfaa
open Go.Abs Go.Dat
set_option maxRecDepth 100000
theorem within_spec (n lo hi : Int) (h : AHeap) : ACall Try.prog 93 [.int .i64 n, .int .i64 lo, .int .i64 hi] h (.bool (decide (lo ≤ n) && decide (n ≤ hi))) h := by
  refine acall_out (acall_by (fun _ => true) (fun _ => []) (fun _ => .none) mixed Try.func93 rfl rfl rfl (Nat.le_of_ble_eq_true rfl) ⟨trivial, trivial, trivial⟩ ?_)
  refine Eq.mp (by kernel_rfl : (bs (decide (n ≥ lo)) (Value.bool (decide (n ≤ hi)) = Value.bool (decide (lo ≤ n) && decide (n ≤ hi)) ∧ h = h) (Value.bool false = Value.bool (decide (lo ≤ n) && decide (n ≤ hi)) ∧ h = h)) = _) ?_
  refine bs_dec (fun e => ?_) (fun e => ?_)
  · simp only [ge_iff_le] at e; simp [e]
  · simp only [ge_iff_le] at e; simp [e]
theorem l03Is_spec (n lo hi : Int) (h : AHeap) : ACall Try.prog 48 [.int .i64 n, .int .i64 lo, .int .i64 hi] h (.bool (decide (lo ≤ n) && decide (n ≤ hi))) h := by
  refine acall_out (acall_by (fun _ => true) (fun _ => []) (fun _ => .none) mixed Try.func48 rfl rfl rfl (Nat.le_of_ble_eq_true rfl) ⟨trivial, trivial, trivial⟩ ?_)
  refine Eq.mp (by kernel_rfl : (bs (decide (n ≥ lo)) (Value.bool (decide (n ≤ hi)) = Value.bool (decide (lo ≤ n) && decide (n ≤ hi)) ∧ h = h) (Value.bool false = Value.bool (decide (lo ≤ n) && decide (n ≤ hi)) ∧ h = h)) = _) ?_
  refine bs_dec (fun e => ?_) (fun e => ?_)
  · simp only [ge_iff_le] at e; simp [e]
  · simp only [ge_iff_le] at e; simp [e]
theorem isReplica_spec (n : Int) (h : AHeap) : ACall Try.prog 87 [.int .i64 n] h (.bool (decide (0 ≤ n) && decide (n ≤ 3))) h := by
  refine acall_out (acall_by (fun _ => true) (fun _ => []) (fun _ => .none) mixed Try.func87 rfl rfl rfl (Nat.le_of_ble_eq_true rfl) ⟨trivial, trivial, trivial⟩ ?_)
  refine Eq.mp (by kernel_rfl : (∃ (x : Bool), ∃ (h' : AHeap), ACall Try.prog (93 : Nat) [Value.int IntKind.i64 n, Value.int IntKind.i64 (0 : Int), Value.int IntKind.i64 (3 : Int)] h (Value.bool x) h' ∧ Value.bool x = Value.bool (decide ((0 : Int) ≤ n) && decide (n ≤ (3 : Int))) ∧ h' = h) = _) ?_
  exact ⟨_, _, within_spec n 0 3 h, rfl, rfl⟩
theorem l09Who_spec (n : Int) (h : AHeap) : ACall Try.prog 46 [.int .i64 n] h (.bool (decide (0 ≤ n) && decide (n ≤ 3))) h := by
  refine acall_out (acall_by (fun _ => true) (fun _ => []) (fun _ => .none) mixed Try.func46 rfl rfl rfl (Nat.le_of_ble_eq_true rfl) ⟨trivial, trivial, trivial⟩ ?_)
  refine Eq.mp (by kernel_rfl : (∃ (x : Bool), ∃ (h' : AHeap), ACall Try.prog (48 : Nat) [Value.int IntKind.i64 n, Value.int IntKind.i64 (0 : Int), Value.int IntKind.i64 (3 : Int)] h (Value.bool x) h' ∧ Value.bool x = Value.bool (decide ((0 : Int) ≤ n) && decide (n ≤ (3 : Int))) ∧ h' = h) = _) ?_
  trace_state
  exact ⟨_, _, l03Is_spec n 0 3 h, rfl, rfl⟩
end Go.Proofs.Ytdcijleeoihlfaa
