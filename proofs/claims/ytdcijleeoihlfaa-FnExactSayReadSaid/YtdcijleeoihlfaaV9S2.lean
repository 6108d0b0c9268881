/- Contracts: the bytes of brokers, in the reference. -/
import Derived.Test.YtdcijleeoihlfaaV9S1
namespace Go.Dat
open Go.Abs
theorem a3 (A : List ByteArray) (x y z : ByteArray) : Append.append (Append.append (Append.append (cat A) x) y) z = cat (A ++ [x, y, z]) := by
  rw [app1, app1, app1]; simp only [List.append_assoc]; rfl
theorem a2 (A : List ByteArray) (x y : ByteArray) : Append.append (Append.append (cat A) x) y = cat (A ++ [x, y]) := by
  rw [app1, app1]; simp only [List.append_assoc]; rfl
end Go.Dat
namespace Go.Proofs.Ytdcijleeoihlfaa
open Go.Abs Go.Dat
set_option maxRecDepth 100000
set_option maxHeartbeats 8000000
end Go.Proofs.Ytdcijleeoihlfaa
