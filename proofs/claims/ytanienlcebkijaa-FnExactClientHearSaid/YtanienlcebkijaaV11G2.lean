/- Contracts: marks on what is empty. Written by gen.py. -/
import Derived.Test.YtanienlcebkijaaV11G1
namespace Go.Abs
end Go.Abs
namespace Go.Proofs.Ytanienlcebkijaa
open Go.Abs Go.Dat
set_option maxRecDepth 100000
set_option maxHeartbeats 4000000
end Go.Proofs.Ytanienlcebkijaa
