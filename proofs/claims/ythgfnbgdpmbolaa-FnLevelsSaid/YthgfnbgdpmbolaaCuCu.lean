/-
  ClashesOf of the specification. Conditions: those typed at each theorem.
-/
import Derived.Test.YthgfnbgdpmbolaaCuCt
namespace Go.Proofs.Ythgfnbgdpmbolaa
open Go.RowKit
section
set_option maxHeartbeats 3200000
set_option maxRecDepth 20000
end
end Go.Proofs.Ythgfnbgdpmbolaa
