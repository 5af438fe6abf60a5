/-
  Contracts of the reference's AddFrames. Conditions: those typed at each theorem.
-/
import Derived.Test.YtpapphhbogngcaaTcI
import Derived.Deep.RegionWith
import Derived.Deep.DrawnRows
attribute [local go_sem ↓] Go.wp_at_zero Go.wp_at_succ
namespace Go.Proofs.Ytpapphhbogngcaa
open Go.RowKit Tc
section
set_option maxHeartbeats 3200000
end
end Go.Proofs.Ytpapphhbogngcaa
