/-
  DropKey of the program. Conditions: those typed at each theorem.
-/
import Derived.Test.YtpapphhbogngcaaTrY
namespace Go.Proofs.Ytpapphhbogngcaa
open Go.RowKit
theorem dI_part (l : List Ky) (t : Int) : (∃ q, q < l.length ∧ (kyG l q).t = t ∧ ∀ j, j < q → (kyG l j).t ≠ t) ∨ ∀ j, j < l.length → (kyG l j).t ≠ t := by
  by_cases h : dI l t < l.length
  · refine .inl ⟨dI l t, h, ?_, fun j hj => ?_⟩
    · have := List.findIdx_getElem (p := fun k : Ky => decide (k.t = t)) (xs := l) (w := h)
      rw [kyG_at h]
      exact of_decide_eq_true this
    · have := List.not_of_lt_findIdx (p := fun k : Ky => decide (k.t = t)) (xs := l) hj
      rw [kyG_at (Nat.lt_trans hj h)]
      simpa using this
  · refine .inr fun j hj => ?_
    have hj' : j < List.findIdx (fun k : Ky => decide (k.t = t)) l := by unfold dI at h; omega
    have := List.not_of_lt_findIdx (p := fun k : Ky => decide (k.t = t)) (xs := l) hj'
    rw [kyG_at hj]
    simpa using this
section
set_option maxHeartbeats 3200000
set_option maxRecDepth 20000
end
end Go.Proofs.Ytpapphhbogngcaa
