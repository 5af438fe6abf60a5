/-
  Law of ValidTrack. Conditions: those typed at each theorem.
-/
import Derived.Test.YtonmeffhelaohaaDoorV13
import Derived.Deep.RegionHeld3
import Derived.Deep.DeepCutAuto
namespace Go.Proofs.YtonmeffhelaohaaDoor
open Go.RowKit
section
set_option maxHeartbeats 3200000
set_option maxRecDepth 20000
end
end Go.Proofs.YtonmeffhelaohaaDoor
