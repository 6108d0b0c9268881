/- Contracts: clients that are right. -/
import Derived.Test.YtdcijleeoihlfaaV8C3
import Derived.Test.YtdcijleeoihlfaaV8G1
namespace Go.Dat
open Go.Abs
open Classical in
noncomputable def tr (p : Prop) : Bool := decide p
theorem tr_true {p : Prop} (h : p) : true = tr p := by unfold tr; simp [h]
theorem tr_false {p : Prop} (h : ¬ p) : false = tr p := by unfold tr; simp [h]
theorem of_tr {p : Prop} (h : tr p = true) : p := by unfold tr at h; simpa using h
theorem of_trn {p : Prop} (h : tr p = false) : ¬ p := by unfold tr at h; simpa using h
end Go.Dat
namespace Go.Proofs.Ytdcijleeoihlfaa
open Go.Abs Go.Dat
set_option maxRecDepth 100000
set_option maxHeartbeats 4000000
theorem isTime_spec (n : Int) (h : AHeap) : ACall Try.prog 76 [.int .i64 n] h (.bool (decide (0 ≤ n) && decide (n ≤ 1000000000))) h := by
  refine acall_out (acall_vc (fun _ => true) (fun _ => []) (fun _ => .none) mixed Try.func76 rfl rfl rfl (Nat.le_of_ble_eq_true rfl) (by refine vc_mp (by kernel_rfl : (True ∧ True ∧ True) = _) ?_; simp only [and_self]) ?_)
  refine vc_mp (by kernel_rfl : (∃ (x : Bool), ∃ (h' : AHeap), ACall Try.prog (93 : Nat) [Value.int IntKind.i64 n, Value.int IntKind.i64 (0 : Int), Value.int IntKind.i64 (1000000000 : Int)] h (Value.bool x) h' ∧ Value.bool x = Value.bool (decide ((0 : Int) ≤ n) && decide (n ≤ (1000000000 : Int))) ∧ h' = h) = _) ?_
  exact ⟨_, _, within_spec _ _ _ _, rfl, rfl⟩
end Go.Proofs.Ytdcijleeoihlfaa
