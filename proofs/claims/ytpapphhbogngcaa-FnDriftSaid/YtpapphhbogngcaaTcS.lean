/-
  DriftOf of the reference, where it answers. Conditions: those typed at each theorem.
-/
import Derived.Test.YtpapphhbogngcaaTcR
namespace Go.Proofs.Ytpapphhbogngcaa
open Go.RowKit Tc
theorem pr_lt {V : List (List Int)} (h : okDr V) : ∀ k, 0 < k → k < V.length → pr V 0 0 < pr V k 0
  | 0, h0, _ => absurd h0 (by omega)
  | 1, _, h1 => (h.2 1 h1).2.2.2 (by omega)
  | k + 2, _, h1 => Int.lt_trans (pr_lt h (k + 1) (by omega) (by omega)) ((h.2 (k + 2) h1).2.2.2 (by omega))
section
set_option maxHeartbeats 6400000
set_option maxRecDepth 20000
end
end Go.Proofs.Ytpapphhbogngcaa
