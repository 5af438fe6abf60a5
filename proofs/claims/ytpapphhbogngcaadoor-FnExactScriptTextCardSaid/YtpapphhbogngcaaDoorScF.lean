/-
  Law of SameScript. Conditions: those typed at each theorem.
-/
import Derived.Test.YtpapphhbogngcaaDoorScE
namespace Go.Proofs.YtpapphhbogngcaaDoor
open Go.RowKit
section
set_option maxHeartbeats 3200000
end
end Go.Proofs.YtpapphhbogngcaaDoor
