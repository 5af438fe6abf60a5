/-
  Plain arithmetic for the law of drift: codes and numbers lead to each other; how many frames are missing; how near a rate is. Conditions: those typed at each theorem.
-/
import Derived.Test.YtpapphhbogngcaaTcT
import Derived.Test.YtpapphhbogngcaaTcQ
namespace Go.Proofs.Ytpapphhbogngcaa
open Go.RowKit Tc
theorem min_of (C : Int) : C / 30 / 3600 * 60 + C / 30 / 60 % 60 = C / 1800 := by omega
theorem all_of (C : Int) : (C / 1800 * 60 + C / 30 % 60) * 30 + C % 30 = C := by omega
theorem num_code {f r : Int} (hr : okRate r) (h0 : 0 ≤ f) (h1 : f < dayOf r) : num (cH f r) (cM f r) (cS f r) (cF f r) r = f := by
  rcases hr with rfl | rfl | rfl
  · simp [num, cH, cM, cS, cF, cnt]; omega
  · simp [num, cH, cM, cS, cF, cnt]; omega
  · unfold num
    rw [if_pos rfl]
    unfold cH cM cS cF
    rw [min_of, all_of]
    unfold cnt
    rw [if_pos rfl]
    have h2 := Int.emod_nonneg f (by omega : (17982 : Int) ≠ 0)
    have h3 := Int.emod_lt_of_pos f (by omega : (0 : Int) < 17982)
    have h4 := Int.mul_ediv_add_emod f 17982
    generalize f / 17982 = t at *
    generalize f % 17982 = s at *
    split <;> omega
theorem code_num {h m s f r : Int} (hk : okCode h m s f r) :
    cH (num h m s f r) r = h ∧ cM (num h m s f r) r = m ∧ cS (num h m s f r) r = s ∧ cF (num h m s f r) r = f := by
  obtain ⟨hr, h1, h2, h3, h4, h5, h6, h7, h8, h9⟩ := hk
  rcases hr with rfl | rfl | rfl
  · simp [num, cH, cM, cS, cF, cnt]; omega
  · simp [num, cH, cM, cS, cF, cnt]; omega
  · have hM : (h * 60 + m) / 10 = h * 6 + m / 10 := by omega
    have hN : num h m s f 30 = 17982 * (h * 6 + m / 10) + (1798 * (m % 10) + 30 * s + f) := by simp only [num]; simp; omega
    have h9 : m % 10 = 0 ∨ 2 ≤ 30 * s + f := by omega
    have hc : cnt (num h m s f 30) 30 = 1800 * (h * 60 + m) + 30 * s + f := by
      rw [hN]
      unfold cnt
      rw [if_pos rfl]
      have e1 : (17982 * (h * 6 + m / 10) + (1798 * (m % 10) + 30 * s + f)) % 17982 = 1798 * (m % 10) + 30 * s + f := by omega
      have e2 : (17982 * (h * 6 + m / 10) + (1798 * (m % 10) + 30 * s + f)) / 17982 = h * 6 + m / 10 := by omega
      rw [e1, e2]
      split <;> omega
    simp only [cH, cM, cS, cF, hc]
    omega
theorem gp_len {l : List Int} {lo hi : Int} (h : rises l lo hi) : ∀ k, k < l.length → ((gp l k).length : Int) + k = l.getD k 0 - l.getD 0 0
  | 0, _ => by simp [gp]
  | k + 1, hk => by
    have ih := gp_len h k (by omega)
    have h1 := (h (k + 1) hk).2.2 (by omega)
    simp only [Nat.add_sub_cancel] at h1
    have h2 : l.getD k 0 = l[k] := getD_at (by omega)
    have h3 : l.getD (k + 1) 0 = l[k + 1] := getD_at hk
    unfold gp
    rw [List.length_append]
    have h4 := seg_len (a := l.getD k 0) (b := l.getD (k + 1) 0) (by rw [h2, h3]; exact h1)
    push_cast
    omega
theorem near_close (a : Int) {b : Int} (h : 0 < b) : -b ≤ 2 * (a - near a b * b) ∧ 2 * (a - near a b * b) ≤ b := by
  unfold near
  split
  · have e := Int.mul_ediv_add_emod (b - 2 * a) (2 * b)
    have r0 := Int.emod_nonneg (b - 2 * a) (show 2 * b ≠ 0 by omega)
    have r1 := Int.emod_lt_of_pos (b - 2 * a) (show 0 < 2 * b by omega)
    generalize (b - 2 * a) / (2 * b) = q at *
    generalize (b - 2 * a) % (2 * b) = r at *
    rw [Int.neg_mul]
    rw [show 2 * b * q = 2 * (q * b) by rw [Int.mul_assoc, Int.mul_comm b q]] at e
    generalize q * b = p at *
    omega
  · have e := Int.mul_ediv_add_emod (2 * a + b) (2 * b)
    have r0 := Int.emod_nonneg (2 * a + b) (show 2 * b ≠ 0 by omega)
    have r1 := Int.emod_lt_of_pos (2 * a + b) (show 0 < 2 * b by omega)
    generalize (2 * a + b) / (2 * b) = q at *
    generalize (2 * a + b) % (2 * b) = r at *
    rw [show 2 * b * q = 2 * (q * b) by rw [Int.mul_assoc, Int.mul_comm b q]] at e
    generalize q * b = p at *
    omega
end Go.Proofs.Ytpapphhbogngcaa
