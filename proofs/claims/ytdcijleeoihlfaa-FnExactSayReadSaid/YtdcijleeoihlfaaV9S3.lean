/- Contracts: the bytes of snapshots. -/
import Derived.Test.YtdcijleeoihlfaaV9S2
namespace Go.Dat
open Go.Abs
theorem BrkSz.all {ts : List topicSh.T} {rs : List replySh.T} (H : BrkSz ts rs) : (brkB ts rs).size ≤ 14000 := H.pre2 _
end Go.Dat
namespace Go.Proofs.Ytdcijleeoihlfaa
open Go.Abs Go.Dat
set_option maxRecDepth 100000
set_option maxHeartbeats 8000000
end Go.Proofs.Ytdcijleeoihlfaa
