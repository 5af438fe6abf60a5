/-
  Contracts of MissingFrames. Conditions: those typed at each theorem.
-/
import Derived.Test.YtpapphhbogngcaaTcM
namespace Go.Proofs.Ytpapphhbogngcaa
open Go.RowKit
theorem seg_len {a b : Int} (h : a < b) : ((seg a b).length : Int) = b - a - 1 := by simp [seg]; omega
theorem seg_take (a b : Int) (j : Nat) (h : a + 1 + j < b) : (seg a b).take j ++ [a + 1 + j] = (seg a b).take (j + 1) := by
  have hj : j < (seg a b).length := by simp [seg]; omega
  rw [List.take_succ_eq_append_getElem hj]
  simp [seg]
theorem getD_at {l : List Int} {k : Nat} (h : k < l.length) : l.getD k 0 = l[k] := by simp [List.getD, h]
section
set_option maxHeartbeats 6400000
end
end Go.Proofs.Ytpapphhbogngcaa
