/-
  Contracts of the exported functions that take or return codes. Conditions: those typed at each theorem.
-/
import Derived.Test.YtpapphhbogngcaaTcG
namespace Go.Proofs.Ytpapphhbogngcaa
open Go.RowKit Tc
section
set_option maxHeartbeats 1600000
/-! ### FrameOf -/
/-! ### CodeAt -/
theorem noCA {f r : Int} (h : ¬ (okRate r ∧ 0 ≤ f ∧ f < dayOf r)) : ¬ okRate r ∨ (okRate r ∧ (f < 0 ∨ 8640000 < f)) ∨ (okRate r ∧ 0 ≤ f ∧ f ≤ 8640000 ∧ dayOf r ≤ f) := by
  by_cases hr : okRate r
  · have : ¬ (0 ≤ f ∧ f < dayOf r) := fun c => h ⟨hr, c⟩
    have : (f < 0 ∨ 8640000 < f) ∨ (0 ≤ f ∧ f ≤ 8640000 ∧ dayOf r ≤ f) := by omega
    rcases this with c | c
    · exact .inr (.inl ⟨hr, c⟩)
    · exact .inr (.inr ⟨hr, c⟩)
  · exact .inl hr
end
end Go.Proofs.Ytpapphhbogngcaa
