/- Contracts: texts that mark, equality of rows of strings. -/
import Derived.Test.YtanienlcebkijaaV10G0
namespace Go.Dat
def digB (k : Nat) : ByteArray := ⟨#[UInt8.ofNat (48 + k % 10)]⟩
def mtl (k : Nat) (out : ByteArray) : ByteArray := if k = 0 then out else mtl (k / 10) (digB k ++ out)
termination_by k
decreasing_by omega
def mtext (k : Int) : ByteArray := if k ≤ 0 then ⟨#[109, 48]⟩ else ⟨#[109]⟩ ++ mtl k.toNat ⟨#[]⟩
end Go.Dat
namespace Go.Proofs.Ytanienlcebkijaa
open Go.Abs Go.Dat
set_option maxRecDepth 100000
end Go.Proofs.Ytanienlcebkijaa
