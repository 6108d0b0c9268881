/- Contracts: topics that are right, in the program: the whole. -/
import Derived.Test.YtanienlcebkijaaV11F3
namespace Go.Proofs.Ytanienlcebkijaa
open Go.Abs Go.Dat
set_option maxRecDepth 100000
set_option maxHeartbeats 4000000
end Go.Proofs.Ytanienlcebkijaa
