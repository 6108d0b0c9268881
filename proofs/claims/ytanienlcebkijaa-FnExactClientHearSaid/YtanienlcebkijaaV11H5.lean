/- Contracts: a client asks. -/
import Derived.Test.YtanienlcebkijaaV11H4
import Derived.Test.YtanienlcebkijaaV11C9
namespace Go.Dat
open Go.Abs
def outX (t : Int × Int × Bool × ByteArray × Int) : clientOutSh.T := ((t.1, t.2.1, t.2.2.1, [], ⟨#[]⟩), t.2.2.2.1, t.2.2.2.2)
end Go.Dat
namespace Go.Proofs.Ytanienlcebkijaa
open Go.Abs Go.Dat
set_option maxRecDepth 100000
set_option maxHeartbeats 8000000
theorem l15Ill_spec (h : AHeap) (code : Int) : ACall Try.prog 83 [.int .i64 code] h (.agg #[.int .i64 0, .int .i64 0, .bool false, .slice none 0 0, .string ⟨#[]⟩, .string ⟨#[]⟩, .int .i64 code]) h := by
  refine acall_out (acall_vc (fun _ => false) (fun _ => []) (fun _ => .none) mixed Try.func83 rfl rfl rfl (Nat.le_of_ble_eq_true rfl) (by refine vc_mp (by kernel_rfl : (True ∧ True ∧ True) = _) ?_; simp only [and_self]) ?_)
  refine vc_mp (by kernel_rfl : (Value.agg (Array.mk [Value.int IntKind.i64 (Int.ofNat (0 : Nat)), Value.int IntKind.i64 (Int.ofNat (0 : Nat)), Value.bool false, Value.slice none (0 : Nat) (0 : Nat), Value.string (ByteArray.mk (Array.mk [])), Value.string (ByteArray.mk (Array.mk [])), Value.int IntKind.i64 code]) = Value.agg (Array.mk [Value.int IntKind.i64 (0 : Int), Value.int IntKind.i64 (0 : Int), Value.bool false, Value.slice none (0 : Nat) (0 : Nat), Value.string (ByteArray.mk (Array.mk [])), Value.string (ByteArray.mk (Array.mk [])), Value.int IntKind.i64 code]) ∧ h = h) = _) ?_
  exact ⟨rfl, rfl⟩
end Go.Proofs.Ytanienlcebkijaa
