/- The law FnExactReplicaNew tells true. -/
import Derived.Test.YtanienlcebkijaaV11G2
import Derived.Test.YtanienlcebkijaaV11C3
namespace Go.Dat
open Go.Abs
theorem ok_zero : Sh.int.ok (0 : Int) := ⟨by decide, by decide⟩
theorem ok_nil {s : Sh} : (Sh.sl s).ok [] := ⟨Nat.zero_le _, fun x hx => absurd hx List.not_mem_nil⟩
end Go.Dat
namespace Go.Proofs.Ytanienlcebkijaa
open Go.Abs Go.Dat
set_option maxRecDepth 100000
set_option maxHeartbeats 4000000
end Go.Proofs.Ytanienlcebkijaa
