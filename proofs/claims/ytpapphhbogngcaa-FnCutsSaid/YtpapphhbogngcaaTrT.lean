/-
  Keys without one: l14Without. Conditions: those typed at each theorem.
-/
import Derived.Test.YtpapphhbogngcaaTrS
import Derived.Test.YtpapphhbogngcaaRdT
namespace Go.Proofs.Ytpapphhbogngcaa
open Go.RowKit
/-- the keys without key i -/
def woK (l : List Ky) (i : Nat) : List Ky := l.take i ++ l.drop (i + 1)
theorem woK_len {l : List Ky} {i : Nat} (h : i < l.length) : (woK l i).length = l.length - 1 := by unfold woK; rw [List.length_append, List.length_take, List.length_drop]; omega
section
set_option maxHeartbeats 3200000
set_option maxRecDepth 20000
end
end Go.Proofs.Ytpapphhbogngcaa
