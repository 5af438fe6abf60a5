/-
  Contracts of the exported functions on times and codes, and the laws over them. Conditions: those typed at each theorem.
-/
import Derived.Test.YtpapphhbogngcaaTcE
namespace Go.Proofs.Ytpapphhbogngcaa
open Go.RowKit Tc
theorem msAt_day {f r : Int} (hr : okRate r) (h0 : 0 ≤ f) (h1 : f < dayOf r) : 0 ≤ msAt f r ∧ msAt f r ≤ 86400000 := by
  rcases hr with rfl | rfl | rfl <;> simp [msAt, dayOf] at * <;> omega
theorem mul_bd {a b A B : Int} (h0 : 0 ≤ a) (h1 : a ≤ A) (h2 : -B ≤ b) (h3 : b ≤ B) : -(A * B) ≤ a * b ∧ a * b ≤ A * B := by
  have hB : 0 ≤ B := by omega
  have k1 : a * b ≤ a * B := Int.mul_le_mul_of_nonneg_left h3 h0
  have k2 : a * (-B) ≤ a * b := Int.mul_le_mul_of_nonneg_left h2 h0
  have k3 : a * B ≤ A * B := Int.mul_le_mul_of_nonneg_right h1 hB
  rw [Int.mul_neg] at k2
  omega
section
set_option maxHeartbeats 1600000
/-! ### FrameAt -/
def okFA (m r : Int) : Prop := okRate r ∧ 0 ≤ m ∧ m ≤ 86400000
theorem noFA {m r : Int} (h : ¬ okFA m r) : ¬ okRate r ∨ (okRate r ∧ (m < 0 ∨ 86400000 < m)) := by unfold okFA okRate at *; omega
/-! ### CorrectTime -/
def okCT (m o s : Int) : Prop := 0 ≤ m ∧ m ≤ 86400000 ∧ -86400000 ≤ o ∧ o ≤ 86400000 ∧ -2000000 ≤ s ∧ s ≤ 2000000
theorem noCT {m o s : Int} (h : ¬ okCT m o s) : (m < 0 ∨ 86400000 < m) ∨ (0 ≤ m ∧ m ≤ 86400000 ∧ (o < -86400000 ∨ 86400000 < o)) ∨ (0 ≤ m ∧ m ≤ 86400000 ∧ -86400000 ≤ o ∧ o ≤ 86400000 ∧ (s < -2000000 ∨ 2000000 < s)) := by
  unfold okCT at *; omega
end
end Go.Proofs.Ytpapphhbogngcaa
