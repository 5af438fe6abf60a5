/-
  DriftOf of the reference. Conditions: those typed at each theorem.
-/
import Derived.Test.YtpapphhbogngcaaTcN
import Derived.Test.YtpapphhbogngcaaTcL
import Derived.Test.YtpapphhbogngcaaIss
namespace Go.Proofs.Ytpapphhbogngcaa
open Go.RowKit Tc
/-- the number j of pair i -/
def pr (V : List (List Int)) (i j : Nat) : Int := (V.getD i []).getD j 0
/-- is pair i one that DriftOf takes? -/
def drAt (V : List (List Int)) (i : Nat) : Prop := (V.getD i []).length = 2 ∧ (0 ≤ pr V i 0 ∧ pr V i 0 ≤ 86400000) ∧ (0 ≤ pr V i 1 ∧ pr V i 1 ≤ 86400000) ∧ (0 < i → pr V (i - 1) 0 < pr V i 0)
theorem drAt_cases (V : List (List Int)) (i : Nat) :
    (drAt V i ∧ (V.getD i []).length = 2 ∧ (0 ≤ pr V i 0 ∧ pr V i 0 ≤ 86400000) ∧ (0 ≤ pr V i 1 ∧ pr V i 1 ≤ 86400000) ∧ (i = 0 ∨ 0 < i ∧ pr V (i - 1) 0 < pr V i 0)) ∨
    (¬ drAt V i ∧ (V.getD i []).length ≠ 2) ∨ (¬ drAt V i ∧ (V.getD i []).length = 2 ∧ (pr V i 0 < 0 ∨ 86400000 < pr V i 0)) ∨
    (¬ drAt V i ∧ (V.getD i []).length = 2 ∧ (0 ≤ pr V i 0 ∧ pr V i 0 ≤ 86400000) ∧ (pr V i 1 < 0 ∨ 86400000 < pr V i 1)) ∨
    (¬ drAt V i ∧ (V.getD i []).length = 2 ∧ (0 ≤ pr V i 0 ∧ pr V i 0 ≤ 86400000) ∧ (0 ≤ pr V i 1 ∧ pr V i 1 ≤ 86400000) ∧ 0 < i ∧ pr V i 0 ≤ pr V (i - 1) 0) := by
  unfold drAt
  by_cases h1 : (V.getD i []).length = 2 <;> by_cases h2 : 0 ≤ pr V i 0 ∧ pr V i 0 ≤ 86400000 <;> by_cases h3 : 0 ≤ pr V i 1 ∧ pr V i 1 ≤ 86400000 <;> by_cases h4 : 0 < i → pr V (i - 1) 0 < pr V i 0
  all_goals simp only [h1, h2, h3, h4, true_and, and_true, false_and, and_false, not_true, not_false_iff, true_or, or_true, false_or, or_false, ne_eq]
  all_goals omega
/-- does DriftOf take it? -/
def okDr (V : List (List Int)) : Prop := (2 ≤ V.length ∧ V.length ≤ 64) ∧ ∀ i, i < V.length → drAt V i
/-- the offset at the first pair -/
def drOff (V : List (List Int)) : Int := pr V 0 1 - pr V 0 0
def drRate (V : List (List Int)) : Int := near ((pr V (V.length - 1) 1 - pr V (V.length - 1) 0 - drOff V) * 1000000) (pr V (V.length - 1) 0 - pr V 0 0)
theorem getV {V : List (List Int)} {k : Nat} (h : k < V.length) : V.getD k [] = V[k] := by simp [List.getD, h]
/-- the two cells of a pair -/
theorem pair_at {w : World} {B : Option Addr} {V : List (List Int)} {i : Nat} (h : i < V.length) (hB : Rd 1 iC w B V[i]) (h2 : (V.getD i []).length = 2) :
    ∃ b o, B = some ⟨b, o, none⟩ ∧ LtW b w ∧ w.cell? ⟨b, o, none⟩ = some (.int .i64 (pr V i 0)) ∧ w.cell? ⟨b, o + 1, none⟩ = some (.int .i64 (pr V i 1)) := by
  rw [getV h] at h2
  obtain ⟨b, o, e, hb, hc⟩ := hB.i (by omega)
  refine ⟨b, o, e, hb, ?_, ?_⟩
  · have := hc 0 (by omega)
    simpa [pr, List.getD, h, h2] using this
  · have := hc 1 (by omega)
    simpa [pr, List.getD, h, h2] using this
section
set_option maxHeartbeats 6400000
set_option maxRecDepth 20000
end
end Go.Proofs.Ytpapphhbogngcaa
