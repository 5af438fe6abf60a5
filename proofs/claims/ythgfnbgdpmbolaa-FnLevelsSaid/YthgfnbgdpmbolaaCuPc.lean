/-
  A cue put to its place by slices.Insert: placeCue. Conditions: those typed at each theorem.
-/
import Derived.Test.YthgfnbgdpmbolaaCuIns
namespace Go.Proofs.Ythgfnbgdpmbolaa
open Go.RowKit
/-- the place of c among the cues of l, sought from the front -/
def plI (l : List Cu) (c : Cu) : Nat := l.findIdx fun y => !befB y c
theorem plI_hit {l : List Cu} {c : Cu} {q : Nat} (h : q < l.length) (he : befB (cuG l q) c = false) (hb : ∀ j, j < q → befB (cuG l j) c = true) : plI l c = q := by
  unfold plI
  rw [List.findIdx_eq h]
  refine ⟨by rw [cuG_at h] at he; simp [he], fun j hj => ?_⟩
  have := hb j hj
  rw [cuG_at (by omega)] at this
  simp [this]
theorem plI_end {l : List Cu} {c : Cu} (hb : ∀ j, j < l.length → befB (cuG l j) c = true) : plI l c = l.length := by
  unfold plI
  rw [List.findIdx_eq_length]
  intro x hx
  obtain ⟨j, hj, rfl⟩ := List.getElem_of_mem hx
  have := hb j hj
  rw [cuG_at hj] at this
  simp [this]
section
set_option maxHeartbeats 3200000
set_option maxRecDepth 20000
end
end Go.Proofs.Ythgfnbgdpmbolaa
