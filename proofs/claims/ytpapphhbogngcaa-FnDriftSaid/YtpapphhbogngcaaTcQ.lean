/-
  Law of MissingFrames. Conditions: those typed at each theorem.
-/
import Derived.Test.YtpapphhbogngcaaTcO
namespace Go.Proofs.Ytpapphhbogngcaa
open Go.RowKit
theorem missR_len (l : List Int) : (missR l).1.length ≤ 64 := by
  unfold missR
  split
  · split
    · assumption
    · simp
  · simp
section
set_option maxHeartbeats 6400000
end
end Go.Proofs.Ytpapphhbogngcaa
