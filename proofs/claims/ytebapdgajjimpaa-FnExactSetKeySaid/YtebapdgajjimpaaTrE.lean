/-
  Law of SameTrack. Conditions: those typed at each theorem.
-/
import Derived.Test.YtebapdgajjimpaaTrD
namespace Go.Proofs.Ytebapdgajjimpaa
open Go.RowKit
section
set_option maxHeartbeats 3200000
set_option maxRecDepth 20000
end
end Go.Proofs.Ytebapdgajjimpaa
