/- Contracts: names, messages, topics that are right. -/
import Derived.Test.YtanienlcebkijaaV11C9
namespace Go.Dat
open Go.Abs
def ChOk (t : ByteArray) (i : Nat) : Prop := (97 ≤ byteAt t i ∧ byteAt t i ≤ 122) ∨ (0 < i ∧ (byteAt t i = 95 ∨ (48 ≤ byteAt t i ∧ byteAt t i ≤ 57)))
def NameOk (t : ByteArray) : Prop := 1 ≤ t.size ∧ t.size ≤ 20 ∧ ∀ i, i < t.size → ChOk t i
def MsgOk (t : ByteArray) : Prop := 1 ≤ t.size ∧ t.size ≤ 40
end Go.Dat
namespace Go.Proofs.Ytanienlcebkijaa
open Go.Abs Go.Dat
set_option maxRecDepth 100000
set_option maxHeartbeats 4000000
end Go.Proofs.Ytanienlcebkijaa
