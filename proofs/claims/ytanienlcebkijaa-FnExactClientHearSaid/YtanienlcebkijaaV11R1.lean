/- Contracts: numbers read from bytes. -/
import Derived.Test.YtanienlcebkijaaV11S1
namespace Go.Dat
open Go.Abs
def bN (t : ByteArray) (k : Nat) : Nat := (t.data.toList.getD k 0).toNat
def gn (t : ByteArray) (a i u : Nat) : Option (Nat × Nat) :=
  if t.size ≤ a + i then none
  else if i = 9 ∧ 1 < bN t (a + i) then none
  else if 127 < bN t (a + i) then gn t a (i + 1) (u + bN t (a + i) % 128 * 128 ^ i)
  else if bN t (a + i) = 0 ∧ 0 < i then none
  else some (u + bN t (a + i) * 128 ^ i, a + i + 1)
termination_by t.size - (a + i)
decreasing_by omega
def unfoldN (u : Nat) : Int := if u % 2 = 1 then -((u / 2 : Nat) : Int) - 1 else ((u / 2 : Nat) : Int)
end Go.Dat
namespace Go.Proofs.Ytanienlcebkijaa
open Go.Abs Go.Dat
set_option maxRecDepth 100000
set_option maxHeartbeats 8000000
end Go.Proofs.Ytanienlcebkijaa
