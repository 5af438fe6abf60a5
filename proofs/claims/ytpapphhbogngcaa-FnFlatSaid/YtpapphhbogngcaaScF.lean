/-
  Law of SameScript. Conditions: those typed at each theorem.
-/
import Derived.Test.YtpapphhbogngcaaScE
namespace Go.Proofs.Ytpapphhbogngcaa
open Go.RowKit
section
set_option maxHeartbeats 3200000
end
end Go.Proofs.Ytpapphhbogngcaa
