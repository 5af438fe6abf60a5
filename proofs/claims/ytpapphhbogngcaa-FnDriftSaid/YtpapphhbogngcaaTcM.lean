/-
  MissingFrames: which frames are missing; whether a list rises. Conditions: those typed at each theorem.
-/
import Derived.Test.YtpapphhbogngcaaInts
import Derived.Test.YtpapphhbogngcaaApp
namespace Go.Proofs.Ytpapphhbogngcaa
open Go.RowKit
/-- does element i rise, and lie in the bounds? -/
def riseAt (l : List Int) (lo hi : Int) (i : Nat) (h : i < l.length) : Prop := lo ≤ l[i] ∧ l[i] ≤ hi ∧ ∀ _ : 0 < i, l[i - 1] < l[i]
def rises (l : List Int) (lo hi : Int) : Prop := ∀ i (h : i < l.length), riseAt l lo hi i h
theorem riseAt_cases (l : List Int) (lo hi : Int) (i : Nat) (h : i < l.length) :
    (riseAt l lo hi i h ∧ lo ≤ l[i] ∧ l[i] ≤ hi ∧ ((i : Int) = 0 ∨ 0 < i ∧ l[i - 1] < l[i])) ∨ (¬ riseAt l lo hi i h ∧ (l[i] < lo ∨ hi < l[i])) ∨ (¬ riseAt l lo hi i h ∧ lo ≤ l[i] ∧ l[i] ≤ hi ∧ 0 < i ∧ l[i] ≤ l[i - 1]) := by
  unfold riseAt
  by_cases h1 : lo ≤ l[i] ∧ l[i] ≤ hi
  · obtain ⟨h1, h2⟩ := h1
    by_cases h0 : 0 < i
    · by_cases h3 : l[i - 1] < l[i]
      · exact .inl ⟨⟨h1, h2, fun _ => h3⟩, h1, h2, .inr ⟨h0, h3⟩⟩
      · exact .inr (.inr ⟨fun h => h3 (h.2.2 h0), h1, h2, h0, by omega⟩)
    · exact .inl ⟨⟨h1, h2, fun h => absurd h h0⟩, h1, h2, .inl (by omega)⟩
  · exact .inr (.inl ⟨fun h => h1 ⟨h.1, h.2.1⟩, by omega⟩)
/-- the numbers between a and b -/
def seg (a b : Int) : List Int := (List.range (b - a - 1).toNat).map fun (j : Nat) => a + 1 + (j : Int)
/-- the numbers that are missing among the first k + 1 -/
def gp (l : List Int) : Nat → List Int
  | 0 => []
  | k + 1 => gp l k ++ seg (l.getD k 0) (l.getD (k + 1) 0)
theorem gp_mono (l : List Int) {j k : Nat} (h : j ≤ k) : (gp l j).length ≤ (gp l k).length := by
  induction k with
  | zero => exact (by omega : j = 0) ▸ Nat.le_refl _
  | succ k ih =>
    rcases Nat.lt_or_ge j (k + 1) with h1 | h1
    · have := ih (by omega)
      simp only [gp, List.length_append]
      omega
    · obtain rfl : j = k + 1 := by omega
      exact Nat.le_refl _
open Classical in
/-- what MissingFrames answers -/
noncomputable def missR (l : List Int) : List Int × Int :=
  if rises l 0 8640000 then (if (gp l (l.length - 1)).length ≤ 64 then (gp l (l.length - 1), 0) else ([], 5)) else ([], 2)
theorem missR_2 {l : List Int} (h : ¬ rises l 0 8640000) : missR l = ([], 2) := by unfold missR; rw [if_neg h]
theorem missR_5 {l : List Int} (h : rises l 0 8640000) (h2 : 64 < (gp l (l.length - 1)).length) : missR l = ([], 5) := by unfold missR; rw [if_pos h, if_neg (by omega)]
theorem missR_0 {l : List Int} (h : rises l 0 8640000) (h2 : (gp l (l.length - 1)).length ≤ 64) : missR l = (gp l (l.length - 1), 0) := by unfold missR; rw [if_pos h, if_pos h2]
section
set_option maxHeartbeats 3200000
end
end Go.Proofs.Ytpapphhbogngcaa
