/- Contracts: marking rows of strings, and looking whether the marks are held. -/
import Derived.Test.YtanienlcebkijaaV11C1
namespace Go.Dat
open Go.Abs
end Go.Dat
namespace Go.Proofs.Ytanienlcebkijaa
open Go.Abs Go.Dat
set_option maxRecDepth 100000
end Go.Proofs.Ytanienlcebkijaa
