/-
  The law of SlowTrack. Conditions: those typed at each theorem.
-/
import Derived.Test.YtpapphhbogngcaaTrR
namespace Go.Proofs.Ytpapphhbogngcaa
open Go.RowKit
section
set_option maxHeartbeats 3200000
set_option maxRecDepth 20000
end
end Go.Proofs.Ytpapphhbogngcaa
