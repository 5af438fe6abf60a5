/-
  LevelAt: both. Conditions: those typed at each theorem.
  LevelAt of the specification; LevelAt, both. Conditions: those typed at each theorem.
-/
import Derived.Test.YtdhflckombkimaaGreatDoorJ16
import Derived.Laws.Small
import Derived.Deep.Cut
import Derived.Deep.CutRange
import Derived.Deep.CutBlock
namespace Go.Proofs.YtdhflckombkimaaGreatDoor
open Go.RowKit
section
set_option maxHeartbeats 6400000
set_option maxRecDepth 20000
end
end Go.Proofs.YtdhflckombkimaaGreatDoor
namespace Go.Proofs.YtdhflckombkimaaGreatDoor
open Go.RowKit
section
set_option maxHeartbeats 6400000
set_option maxRecDepth 20000
end
end Go.Proofs.YtdhflckombkimaaGreatDoor
