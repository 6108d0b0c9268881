/- The program follows the orders that it leaves open. -/
import Derived.Test.YtdcijleeoihlfaaProg
import Derived.Test.YtdcijleeoihlfaaV9A29
import Derived.KernelRfl
namespace Go.Proofs.Ytdcijleeoihlfaa
open Go.Abs
theorem mixed : Try.prog.follows .mixedOrders = true := by kernel_rfl
end Go.Proofs.Ytdcijleeoihlfaa
