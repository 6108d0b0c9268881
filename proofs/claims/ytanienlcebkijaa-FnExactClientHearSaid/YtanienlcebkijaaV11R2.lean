/- Contracts: texts read from bytes; readers. -/
import Derived.Test.YtanienlcebkijaaV11R1
import Derived.Test.YtanienlcebkijaaV11N0
namespace Go.Dat
open Go.Abs
def pNum (t : ByteArray) (a : Nat) : Option (Int × Nat) := (gn t a 0 0).map fun p => (unfoldN p.1, p.2)
def pWord (t : ByteArray) (a : Nat) : Option (ByteArray × Nat) := match pNum t a with
  | none => none
  | some (n, e) => if 0 ≤ n ∧ n ≤ 20000 ∧ n ≤ (t.size : Int) - e then some (t.extract e (e + n.toNat), e + n.toNat) else none
structure Rd {α : Type} (p : Option (α × Nat)) (t : ByteArray) (b : Bool) (x : α) (a' : Nat) (b' : Bool) : Prop where
  bad : b = true → b' = true
  ok : b = false → b' = false → p = some (x, a')
  no : b = false → b' = true → p = none
  le : a' ≤ t.size
end Go.Dat
namespace Go.Proofs.Ytanienlcebkijaa
open Go.Abs Go.Dat
set_option maxRecDepth 100000
set_option maxHeartbeats 8000000
def o3 (a b c : Value) : AObj := ⟨[[a, b, c]], 3, true⟩
end Go.Proofs.Ytanienlcebkijaa
