/-
  Contracts of ValueAt, and its law. Conditions: those typed at each theorem.
-/
import Derived.Test.YtonmeffhelaohaaDoorV21
import Derived.Test.YtonmeffhelaohaaDoorV6
namespace Go.Proofs.YtonmeffhelaohaaDoor
open Go.RowKit
/-- what ValueAt answers -/
noncomputable def vaR (nm : ByteArray) (l : List Ky) (t : Int) : Int × Int := if vT nm l = true then (if 0 ≤ t ∧ t ≤ 7200000 then (vAt l t, 0) else (0, 2)) else (0, 1)
section
set_option maxHeartbeats 3200000
set_option maxRecDepth 20000
end
end Go.Proofs.YtonmeffhelaohaaDoor
