/-
  DropKey of the specification. Conditions: those typed at each theorem.
-/
import Derived.Test.YtpapphhbogngcaaTrT
namespace Go.Proofs.Ytpapphhbogngcaa
open Go.RowKit
/-- where the key of a time stands, or the length -/
def dI (l : List Ky) (t : Int) : Nat := l.findIdx fun k => decide (k.t = t)
theorem dI_hit {l : List Ky} {t : Int} {q : Nat} (h : q < l.length) (he : (kyG l q).t = t) (hb : ∀ j, j < q → (kyG l j).t ≠ t) : dI l t = q := by
  unfold dI
  rw [List.findIdx_eq h]
  refine ⟨by rw [kyG_at h] at he; simpa using he, fun j hj => ?_⟩
  have := hb j hj
  rw [kyG_at (by omega)] at this
  simpa using this
theorem dI_miss {l : List Ky} {t : Int} (hb : ∀ j, j < l.length → (kyG l j).t ≠ t) : dI l t = l.length := by
  unfold dI
  rw [List.findIdx_eq_length]
  intro x hx
  obtain ⟨j, hj, rfl⟩ := List.getElem_of_mem hx
  have := hb j hj
  rw [kyG_at hj] at this
  simpa using this
/-- what DropKey answers -/
noncomputable def drR (nm : ByteArray) (l : List Ky) (t : Int) : TR3 := if vT nm l = true then (if dI l t < l.length then (if l.length = 1 then trErr 6 else ⟨nm, woK l (dI l t), 0⟩) else trErr 3) else trErr 1
theorem drR_inv {nm : ByteArray} {l : List Ky} {t : Int} (h : vT nm l = false) : drR nm l t = trErr 1 := by unfold drR; rw [h]; rfl
theorem drR_miss {nm : ByteArray} {l : List Ky} {t : Int} (h : vT nm l = true) (hb : ∀ j, j < l.length → (kyG l j).t ≠ t) : drR nm l t = trErr 3 := by unfold drR; rw [if_pos h, dI_miss hb, if_neg (by omega)]
theorem drR_one {nm : ByteArray} {l : List Ky} {t : Int} {q : Nat} (h : vT nm l = true) (hq : q < l.length) (he : (kyG l q).t = t) (hb : ∀ j, j < q → (kyG l j).t ≠ t) (h1 : l.length = 1) : drR nm l t = trErr 6 := by unfold drR; rw [if_pos h, dI_hit hq he hb, if_pos hq, if_pos h1]
theorem drR_go {nm : ByteArray} {l : List Ky} {t : Int} {q : Nat} (h : vT nm l = true) (hq : q < l.length) (he : (kyG l q).t = t) (hb : ∀ j, j < q → (kyG l j).t ≠ t) (h1 : l.length ≠ 1) : drR nm l t = ⟨nm, woK l q, 0⟩ := by unfold drR; rw [if_pos h, dI_hit hq he hb, if_pos hq, if_neg h1]
theorem drR_len (nm : ByteArray) (l : List Ky) (t : Int) : (drR nm l t).l.length ≤ 24 := by
  unfold drR
  split
  · rename_i h
    have := (vT_of h).2.1.2
    split
    · rename_i h2
      split
      · simp [trErr]
      · show (woK l (dI l t)).length ≤ 24
        rw [woK_len h2]; omega
    · simp [trErr]
  · simp [trErr]
section
set_option maxHeartbeats 3200000
set_option maxRecDepth 20000
end
end Go.Proofs.Ytpapphhbogngcaa
