/- Contracts: brokers read from bytes, in the program. -/
import Derived.Test.YtdcijleeoihlfaaV9R5
namespace Go.Dat
open Go.Abs
end Go.Dat
namespace Go.Proofs.Ytdcijleeoihlfaa
open Go.Abs Go.Dat
set_option maxRecDepth 100000
set_option maxHeartbeats 8000000
end Go.Proofs.Ytdcijleeoihlfaa
