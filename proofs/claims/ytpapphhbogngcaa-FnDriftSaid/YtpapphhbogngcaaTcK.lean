/-
  The laws over codes: each returns true. Conditions: none beside that numbers are numbers.
-/
import Derived.Test.YtpapphhbogngcaaTcJ
namespace Go.Proofs.Ytpapphhbogngcaa
open Go.RowKit Tc
section
set_option maxHeartbeats 1600000
end
end Go.Proofs.Ytpapphhbogngcaa
