/-
  l14Own, ShiftTrack. Conditions: those typed at each theorem.
-/
import Derived.Test.YtdhflckombkimaaDoorTrJ
namespace Go.Proofs.YtdhflckombkimaaDoor
open Go.RowKit
section
set_option maxHeartbeats 3200000
set_option maxRecDepth 20000
end
end Go.Proofs.YtdhflckombkimaaDoor
