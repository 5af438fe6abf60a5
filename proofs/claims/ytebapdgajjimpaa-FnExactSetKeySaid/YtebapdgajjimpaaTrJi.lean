/-
  JoinTracks of the program. Conditions: those typed at each theorem.
-/
import Derived.Test.YtebapdgajjimpaaTrJn
import Derived.BigQuiet
namespace Go.Proofs.Ytebapdgajjimpaa
open Go.RowKit
theorem joinBy_at {a b : List Ky} {p : Nat} (hp : a.length = p + 1) (gap : Int) : joinBy a b gap = (kyG a p).t + gap - (kyG b 0).t := by unfold joinBy; rw [hp]; rfl
section
set_option maxHeartbeats 6400000
set_option maxRecDepth 20000
end
end Go.Proofs.Ytebapdgajjimpaa
