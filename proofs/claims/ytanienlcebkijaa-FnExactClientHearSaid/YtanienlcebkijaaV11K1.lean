/- Contracts: marks in rows of replies heard. -/
import Derived.Test.YtanienlcebkijaaV11H5
import Derived.Test.YtanienlcebkijaaV11C2
import Derived.Test.YtanienlcebkijaaV11G2
namespace Go.Dat
open Go.Abs
end Go.Dat
namespace Go.Proofs.Ytanienlcebkijaa
open Go.Abs Go.Dat
set_option maxRecDepth 100000
set_option maxHeartbeats 8000000
theorem keepq {a b : AHeap} (le : a.Le b) {l : Nat} {o : AObj} (e : a.get l = some o) : b.get l = a.get l ∧ a.n ≤ b.n := ⟨by rw [e]; exact le.get l o e, le.n⟩
end Go.Proofs.Ytanienlcebkijaa
