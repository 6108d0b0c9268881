/- Contracts: brokers read from bytes, in the reference. -/
import Derived.Test.YtdcijleeoihlfaaV9R4
import Derived.Test.YtdcijleeoihlfaaV9S3
namespace Go.Dat
open Go.Abs
theorem extract_all (t : ByteArray) : t.extract 0 t.size = t := by simp
end Go.Dat
namespace Go.Proofs.Ytdcijleeoihlfaa
open Go.Abs Go.Dat
set_option maxRecDepth 100000
set_option maxHeartbeats 8000000
end Go.Proofs.Ytdcijleeoihlfaa
