/-
  The law of SlowTrack. Conditions: those typed at each theorem.
-/
import Derived.Test.YtebapdgajjimpaaTrR
namespace Go.Proofs.Ytebapdgajjimpaa
open Go.RowKit
section
set_option maxHeartbeats 3200000
set_option maxRecDepth 20000
end
end Go.Proofs.Ytebapdgajjimpaa
