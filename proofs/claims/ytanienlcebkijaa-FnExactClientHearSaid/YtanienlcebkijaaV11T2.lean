/- Contracts: changes and says that are right. -/
import Derived.Test.YtanienlcebkijaaV11T1
namespace Go.Dat
open Go.Abs
end Go.Dat
namespace Go.Proofs.Ytanienlcebkijaa
open Go.Abs Go.Dat
set_option maxRecDepth 100000
set_option maxHeartbeats 8000000
end Go.Proofs.Ytanienlcebkijaa
