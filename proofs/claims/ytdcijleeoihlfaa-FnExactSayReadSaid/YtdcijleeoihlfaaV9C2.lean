/- Contracts: marking rows of strings, and looking whether the marks are held. -/
import Derived.Test.YtdcijleeoihlfaaV9C1
namespace Go.Dat
open Go.Abs
end Go.Dat
namespace Go.Proofs.Ytdcijleeoihlfaa
open Go.Abs Go.Dat
set_option maxRecDepth 100000
end Go.Proofs.Ytdcijleeoihlfaa
