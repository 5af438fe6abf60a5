/-
  The value of keys at a time, in plain words. Conditions: those typed at each theorem.
-/
import Derived.Test.YtdhflckombkimaaDoorTrPlain
namespace Go.Proofs.YtdhflckombkimaaDoor
open Go.RowKit
theorem near_zero {b : Int} (h : 0 < b) : near 0 b = 0 := by
  unfold near; rw [if_neg (by omega)]; exact Int.ediv_eq_zero_of_lt (by omega) (by omega)
theorem near_mul (a : Int) {b : Int} (h : 0 < b) : near (a * b) b = a := by
  unfold near
  split
  · rename_i h1
    have : a < 0 := by
      rcases Int.lt_or_le a 0 with h2 | h2
      · exact h2
      · have := Int.mul_nonneg h2 (Int.le_of_lt h); omega
    rw [show b - 2 * (a * b) = b + (2 * b) * (-a) by rw [Int.mul_neg, Int.mul_assoc, Int.mul_comm b a]; omega, Int.add_mul_ediv_left _ _ (by omega), Int.ediv_eq_zero_of_lt (by omega) (by omega)]
    omega
  · rw [show 2 * (a * b) + b = b + (2 * b) * a by rw [Int.mul_assoc, Int.mul_comm b a]; omega, Int.add_mul_ediv_left _ _ (by omega), Int.ediv_eq_zero_of_lt (by omega) (by omega)]
    omega
/-- the value between two keys -/
def segv (a b : Ky) (t : Int) : Int := a.v + near ((b.v - a.v) * (t - a.t)) (b.t - a.t)
theorem segv_lo (a b : Ky) (h : a.t < b.t) : segv a b a.t = a.v := by
  unfold segv; rw [Int.sub_self, Int.mul_zero, near_zero (by omega)]; omega
theorem segv_hi (a b : Ky) (h : a.t < b.t) : segv a b b.t = b.v := by
  unfold segv; rw [near_mul _ (by omega)]; omega
/-- the value of keys at a time -/
def vAt (l : List Ky) (t : Int) : Int := match l.findIdx? (fun k => decide (t ≤ k.t)) with
  | none => (l.getD (l.length - 1) default).v
  | some 0 => (l.getD 0 default).v
  | some (i + 1) => segv (l.getD i default) (l.getD (i + 1) default) t
theorem ky_getD {l : List Ky} {i : Nat} (h : i < l.length) : l.getD i default = l[i] := by simp [List.getD, h]
theorem vAt_first {l : List Ky} {t : Int} (h0 : 0 < l.length) (h : t ≤ l[0].t) : vAt l t = l[0].v := by
  have : l.findIdx? (fun k => decide (t ≤ k.t)) = some 0 := by
    rw [List.findIdx?_eq_some_iff_getElem]
    exact ⟨h0, by simpa using h, fun j hj => absurd hj (by omega)⟩
  unfold vAt; rw [this]; simp only; rw [ky_getD h0]
theorem vAt_mid {l : List Ky} {t : Int} {i : Nat} (hi : i + 1 < l.length) (hb : ∀ j (hj : j < l.length), j ≤ i → l[j].t < t) (h : t ≤ l[i + 1].t) : vAt l t = segv l[i] l[i + 1] t := by
  have : l.findIdx? (fun k => decide (t ≤ k.t)) = some (i + 1) := by
    rw [List.findIdx?_eq_some_iff_getElem]
    exact ⟨hi, by simpa using h, fun j hj => by have := hb j (by omega) (by omega); simp; omega⟩
  unfold vAt; rw [this]; simp only; rw [ky_getD hi, ky_getD (by omega)]
theorem vAt_last {l : List Ky} {t : Int} (h0 : 0 < l.length) (hb : ∀ j (hj : j < l.length), l[j].t < t) : vAt l t = l[l.length - 1].v := by
  have : l.findIdx? (fun k => decide (t ≤ k.t)) = none := by
    rw [List.findIdx?_eq_none_iff]
    intro x hx
    obtain ⟨j, hj, rfl⟩ := List.getElem_of_mem hx
    have := hb j hj
    simp; omega
  unfold vAt; rw [this]; simp only; rw [ky_getD (by omega)]
/-- a list of rising keys -/
def risK (l : List Ky) : Prop := ∀ (i j : Nat) (hj : j < l.length) (h : i < j), (l[i]'(by omega)).t < l[j].t
theorem okK.ris {l : List Ky} (h : okK l) : risK l := fun i j hj hi => okK_mono h j i hj hi
theorem vAt_key {l : List Ky} (h : risK l) {i : Nat} (hi : i < l.length) : vAt l l[i].t = l[i].v := by
  cases i with
  | zero => exact vAt_first hi (Int.le_refl _)
  | succ i =>
    rw [vAt_mid hi (fun j hj h1 => h j (i + 1) hi (by omega)) (Int.le_refl _)]
    exact segv_hi _ _ (h i (i + 1) hi (by omega))
/-- as the program finds it: behind all keys up to i -/
theorem vAt_prog {l : List Ky} (h : risK l) {t : Int} {i : Nat} (hi : i + 1 < l.length) (h1 : l[i].t ≤ t) (h2 : t < l[i + 1].t) : vAt l t = segv l[i] l[i + 1] t := by
  by_cases he : l[i].t = t
  · rw [← he, vAt_key h, segv_lo _ _ (by omega)]
  · refine vAt_mid hi (fun j hj hji => ?_) (by omega)
    rcases Nat.lt_or_ge j i with h3 | h3
    · have := h j i (by omega) h3
      omega
    · obtain rfl : j = i := by omega
      omega
theorem vAt_prog_end {l : List Ky} (h : risK l) (h0 : 0 < l.length) {t : Int} (h1 : l[l.length - 1].t ≤ t) : vAt l t = l[l.length - 1].v := by
  by_cases he : l[l.length - 1].t = t
  · rw [← he, vAt_key h]
  · refine vAt_last h0 fun j hj => ?_
    rcases Nat.lt_or_ge j (l.length - 1) with h3 | h3
    · have := h j (l.length - 1) (by omega) h3
      omega
    · obtain rfl : j = l.length - 1 := by omega
      omega
end Go.Proofs.YtdhflckombkimaaDoor
