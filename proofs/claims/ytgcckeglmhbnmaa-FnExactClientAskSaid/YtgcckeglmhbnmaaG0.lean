/- The program follows the orders that it leaves open. -/
import Derived.Test.YtgcckeglmhbnmaaProg
import Derived.Test.YtgcckeglmhbnmaaA29
import Derived.KernelRfl
namespace Go.Proofs.Ytgcckeglmhbnmaa
open Go.Abs
theorem mixed : Try.prog.follows .mixedOrders = true := by kernel_rfl
end Go.Proofs.Ytgcckeglmhbnmaa
