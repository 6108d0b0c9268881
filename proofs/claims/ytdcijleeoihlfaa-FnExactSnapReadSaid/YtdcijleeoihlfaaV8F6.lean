/- The law FnExactSnapRight tells true. -/
import Derived.Test.YtdcijleeoihlfaaV8F5
namespace Go.Dat
open Go.Abs
def SnapOk (at_ : Int) (ts : List topicSh.T) (rs : List replySh.T) : Prop := (0 ≤ at_ ∧ at_ ≤ 1000000000) ∧ BrokerOk ts rs
end Go.Dat
namespace Go.Proofs.Ytdcijleeoihlfaa
open Go.Abs Go.Dat
set_option maxRecDepth 100000
set_option maxHeartbeats 4000000
theorem specSnapRight (h : AHeap) (at_ : Int) (ts : List topicSh.T) (rs : List replySh.T) (a1 : Option Addr) (c1 : Nat) (a2 : Option Addr) (c2 : Nat)
    (h1 : Sl h topicSh ts (.slice a1 ts.length c1)) (h2 : Sl h replySh rs (.slice a2 rs.length c2)) (ok : brokerSh.ok (ts, rs)) :
    ACall Try.prog 28 [.agg #[.int .i64 at_, .slice a1 ts.length c1, .slice a2 rs.length c2]] h (.bool (tr (SnapOk at_ ts rs))) h := by
  refine acall_out (acall_vc (fun _ => false) (fun _ => []) (fun _ => .none) mixed Try.func28 rfl rfl rfl (Nat.le_of_ble_eq_true rfl) (by refine vc_mp (by kernel_rfl : (True ∧ True ∧ True) = _) ?_; simp only [and_self]) ?_)
  refine vc_mp (by kernel_rfl : (∃ (x : Bool), ∃ (h' : AHeap), ACall Try.prog (48 : Nat) [Value.int IntKind.i64 at_, Value.int IntKind.i64 (0 : Int), Value.int IntKind.i64 (1000000000 : Int)] h (Value.bool x) h' ∧ bs x (∃ (x : Bool), ∃ (h'_1 : AHeap), ACall Try.prog (72 : Nat) [Value.agg (Array.mk [Value.slice a1 (List.length ts) c1, Value.slice a2 (List.length rs) c2])] h' (Value.bool x) h'_1 ∧ Value.bool x = Value.bool (tr (SnapOk at_ ts rs)) ∧ h'_1 = h) (Value.bool false = Value.bool (tr (SnapOk at_ ts rs)) ∧ h' = h)) = _) ?_
  refine ⟨_, _, l03Is_spec _ _ _ _, bs_of (fun e => ⟨_, _, brokerRight_spec h ts rs a1 c1 a2 c2 h1 h2 ok, congrArg _ ?_, rfl⟩) (fun e => ⟨congrArg _ (tr_false fun H => by simp [H.1] at e), rfl⟩)⟩
  by_cases X : BrokerOk ts rs
  · rw [← tr_true X]; exact tr_true ⟨by simpa using e, X⟩
  · rw [← tr_false X]; exact tr_false fun H => X H.2
theorem isSnap_spec (h : AHeap) (hw : h.wf) (at_ : Int) (ts : List topicSh.T) (rs : List replySh.T) (a1 : Option Addr) (c1 : Nat) (a2 : Option Addr) (c2 : Nat)
    (h1 : Sl h topicSh ts (.slice a1 ts.length c1)) (h2 : Sl h replySh rs (.slice a2 rs.length c2)) (ok : brokerSh.ok (ts, rs)) :
    ∃ v h', ACall Try.prog 33 [.agg #[.int .i64 at_, .slice a1 ts.length c1, .slice a2 rs.length c2]] h v h' ∧ h.Le h' ∧ h'.wf ∧ v = .bool (tr (SnapOk at_ ts rs)) := by
  obtain ⟨_, g, hA, le, wg, rfl⟩ := isBroker_spec h hw ts rs a1 c1 a2 c2 h1 h2 ok
  refine acall_q fun Q HQ => ?_
  refine acall_vc (fun _ => false) (fun _ => []) (fun _ => .none) mixed Try.func33 rfl rfl rfl (Nat.le_of_ble_eq_true rfl) (by refine vc_mp (by kernel_rfl : (True ∧ True ∧ True) = _) ?_; simp only [and_self]) ?_
  refine vc_mp (by kernel_rfl : (∃ (x : Bool), ∃ (h' : AHeap), ACall Try.prog (76 : Nat) [Value.int IntKind.i64 at_] h (Value.bool x) h' ∧ bs x (∃ (x : Bool), ∃ (h'_1 : AHeap), ACall Try.prog (77 : Nat) [Value.agg (Array.mk [Value.slice a1 (List.length ts) c1, Value.slice a2 (List.length rs) c2])] h' (Value.bool x) h'_1 ∧ Q (Value.bool x) h'_1) (Q (Value.bool false) h')) = _) ?_
  refine ⟨_, _, isTime_spec _ _, bs_of (fun e => ⟨_, _, hA, HQ _ _ ⟨le, wg, congrArg _ ?_⟩⟩) (fun e => HQ _ _ ⟨.refl _, hw, congrArg _ (tr_false fun H => by simp [H.1] at e)⟩)⟩
  by_cases X : BrokerOk ts rs
  · rw [← tr_true X]; exact tr_true ⟨by simpa using e, X⟩
  · rw [← tr_false X]; exact tr_false fun H => X H.2
end Go.Proofs.Ytdcijleeoihlfaa
