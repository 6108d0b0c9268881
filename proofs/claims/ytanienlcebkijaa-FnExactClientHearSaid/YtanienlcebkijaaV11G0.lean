/- The program follows the orders that it leaves open. -/
import Derived.Test.YtanienlcebkijaaProg
import Derived.Test.YtanienlcebkijaaV11A29
import Derived.KernelRfl
namespace Go.Proofs.Ytanienlcebkijaa
open Go.Abs
theorem mixed : Try.prog.follows .mixedOrders = true := by kernel_rfl
end Go.Proofs.Ytanienlcebkijaa
