/-
  The level of a target at a time, in plain words. Conditions: those typed at each theorem.
-/
import Derived.Test.YthgfnbgdpmbolaaCuF
namespace Go.Proofs.Ythgfnbgdpmbolaa
open Go.RowKit
theorem near_up {a b c : Int} (ha : 0 ≤ a) (hb : 0 ≤ b) (hbc : b ≤ c) (hc : 0 < c) : 0 ≤ near (a * b) c ∧ near (a * b) c ≤ a := by
  have h1 : 0 ≤ a * b := Int.mul_nonneg ha hb
  have h2 : a * b ≤ a * c := Int.mul_le_mul_of_nonneg_left hbc ha
  have h3 : (a + 1) * (2 * c) = 2 * (a * c) + 2 * c := by rw [Int.add_mul, Int.one_mul, Int.mul_left_comm]
  unfold near
  rw [if_neg (by omega)]
  refine ⟨Int.ediv_nonneg (by omega) (by omega), ?_⟩
  have : (2 * (a * b) + c) / (2 * c) < a + 1 := Int.ediv_lt_of_lt_mul (by omega) (by rw [h3]; omega)
  omega
theorem near_sym (y c : Int) (hy : 0 < y) : near (-y) c = -near y c := by
  unfold near
  rw [if_pos (by omega), if_neg (by omega)]
  congr 2
  omega
theorem near_dn {a b c : Int} (ha : a ≤ 0) (hb : 0 ≤ b) (hbc : b ≤ c) (hc : 0 < c) : a ≤ near (a * b) c ∧ near (a * b) c ≤ 0 := by
  have h0 := near_up (a := -a) (by omega) hb hbc hc
  have he : -a * b = -(a * b) := Int.neg_mul ..
  rw [he] at h0
  have h1 : 0 ≤ -a * b := Int.mul_nonneg (by omega) hb
  rw [he] at h1
  by_cases hz : a * b = 0
  · have hz2 : near 0 c = 0 := by unfold near; rw [if_neg (by omega)]; exact Int.ediv_eq_zero_of_lt (by omega) (by omega)
    rw [hz, hz2]
    omega
  · have := near_sym (-(a * b)) c (by omega)
    rw [Int.neg_neg] at this
    omega
/-- the time at which what follows begins, from cue j on -/
def endG (l : List Cu) (nm : ByteArray) (time : Int) : Nat → Nat → Int
  | 0, _ => time
  | n + 1, j => if (cuG l j).tg.toList == nm.toList then min time (cuG l j).t else endG l nm time n (j + 1)
def endE (l : List Cu) (nm : ByteArray) (time : Int) (k : Nat) : Int := endG l nm time (l.length - (k + 1)) (k + 1)
theorem endG_hit {l : List Cu} {nm : ByteArray} {time : Int} {j : Nat} (hj : j < l.length) (h : ((cuG l j).tg.toList == nm.toList) = true) : endG l nm time (l.length - j) j = min time (cuG l j).t := by
  obtain ⟨n, hn⟩ : ∃ n, l.length - j = n + 1 := ⟨l.length - j - 1, by omega⟩
  rw [hn]; unfold endG; rw [if_pos h]
theorem endG_miss {l : List Cu} {nm : ByteArray} {time : Int} {j : Nat} (hj : j < l.length) (h : ((cuG l j).tg.toList == nm.toList) = false) : endG l nm time (l.length - j) j = endG l nm time (l.length - (j + 1)) (j + 1) := by
  obtain ⟨n, hn⟩ : ∃ n, l.length - j = n + 1 := ⟨l.length - j - 1, by omega⟩
  rw [hn, show l.length - (j + 1) = n by omega]; conv => lhs; unfold endG
  rw [if_neg (by rw [h]; simp)]
theorem endG_end {l : List Cu} {nm : ByteArray} {time : Int} {j : Nat} (hj : l.length ≤ j) : endG l nm time (l.length - j) j = time := by
  rw [show l.length - j = 0 by omega]; rfl
theorem endG_bd {l : List Cu} {nm : ByteArray} {time lo : Int} (h : lo ≤ time) : ∀ (n j : Nat), (∀ i, j ≤ i → i < j + n → lo ≤ (cuG l i).t) → lo ≤ endG l nm time n j ∧ endG l nm time n j ≤ time
  | 0, _, _ => ⟨h, Int.le_refl _⟩
  | n + 1, j, hs => by
    unfold endG
    split
    · have := hs j (Nat.le_refl _) (by omega); omega
    · exact endG_bd h n (j + 1) fun i h1 h2 => hs i (by omega) (by omega)
theorem befB_t {x y : Cu} (h : befB x y = true) : x.t ≤ y.t := by
  rcases befB_cases x y with ⟨-, h1⟩ | ⟨-, -, h2, -⟩ | ⟨h0, -⟩ | ⟨h0, -⟩
  · omega
  · rw [beq_iff_eq] at h2; omega
  · rw [h] at h0; cases h0
  · rw [h] at h0; cases h0
/-- times do not fall -/
theorem vCs_sort {l : List Cu} (h : vCs l = true) : ∀ j i, i ≤ j → j < l.length → (cuG l i).t ≤ (cuG l j).t
  | 0, i, hi, _ => by
    obtain rfl : i = 0 := by omega
    exact Int.le_refl _
  | j + 1, i, hi, hj => by
    rcases Nat.lt_or_ge j i with h1 | h1
    · obtain rfl : i = j + 1 := by omega
      exact Int.le_refl _
    · have h2 := vCs_sort h j i h1 (by omega)
      have h3 := befB_t (((vCs_of h).2 (j + 1) hj).2.1 (by omega))
      simp only [Nat.add_sub_cancel] at h3
      omega
theorem endE_bd {l : List Cu} (h : vCs l = true) (nm : ByteArray) {time : Int} {k : Nat} (hk : k < l.length) (ht : (cuG l k).t ≤ time) : (cuG l k).t ≤ endE l nm time k ∧ endE l nm time k ≤ time :=
  endG_bd ht _ _ fun i h1 h2 => vCs_sort h i k (by omega) (by omega)
/-- the level behind the first k cues -/
def lvP (l : List Cu) (nm : ByteArray) (time : Int) : Nat → Int
  | 0 => 0
  | k + 1 => if ((cuG l k).tg.toList == nm.toList) = true ∧ (cuG l k).t ≤ time then
      (if (cuG l k).act = 2 ∧ endE l nm time k < (cuG l k).t + (cuG l k).ln then lvP l nm time k + near (((cuG l k).v - lvP l nm time k) * (endE l nm time k - (cuG l k).t)) (cuG l k).ln else (cuG l k).v)
    else lvP l nm time k
theorem lvP_skip {l : List Cu} {nm : ByteArray} {time : Int} {k : Nat} (h : ¬ (((cuG l k).tg.toList == nm.toList) = true ∧ (cuG l k).t ≤ time)) : lvP l nm time (k + 1) = lvP l nm time k := by conv => lhs; unfold lvP; rw [if_neg h]
theorem lvP_fade {l : List Cu} {nm : ByteArray} {time : Int} {k : Nat} (h : ((cuG l k).tg.toList == nm.toList) = true) (h2 : (cuG l k).t ≤ time) (h3 : (cuG l k).act = 2) (h4 : endE l nm time k < (cuG l k).t + (cuG l k).ln) :
    lvP l nm time (k + 1) = lvP l nm time k + near (((cuG l k).v - lvP l nm time k) * (endE l nm time k - (cuG l k).t)) (cuG l k).ln := by conv => lhs; unfold lvP; rw [if_pos ⟨h, h2⟩, if_pos ⟨h3, h4⟩]
theorem lvP_set {l : List Cu} {nm : ByteArray} {time : Int} {k : Nat} (h : ((cuG l k).tg.toList == nm.toList) = true) (h2 : (cuG l k).t ≤ time) (h3 : ¬ ((cuG l k).act = 2 ∧ endE l nm time k < (cuG l k).t + (cuG l k).ln)) : lvP l nm time (k + 1) = (cuG l k).v := by conv => lhs; unfold lvP; rw [if_pos ⟨h, h2⟩, if_neg h3]
theorem lvP_bd {l : List Cu} (h : vCs l = true) (nm : ByteArray) (time : Int) : ∀ k, k ≤ l.length → 0 ≤ lvP l nm time k ∧ lvP l nm time k ≤ 1000
  | 0, _ => by simp [lvP]
  | k + 1, hk => by
    have h1 := lvP_bd h nm time k (by omega)
    obtain ⟨h2, h3, h4⟩ := vC_num ((vCs_of h).2 k (by omega)).1
    unfold lvP
    split
    · rename_i hc
      obtain ⟨hc1, hc2⟩ := hc
      have h5 := endE_bd h nm (k := k) (by omega) hc2
      split
      · rename_i hd
        obtain ⟨hd1, hd2⟩ := hd
        generalize lvP l nm time k = a at *
        generalize endE l nm time k = e at *
        generalize cuG l k = x at *
        rcases Int.le_total 0 (x.v - a) with hs | hs
        · have := near_up hs (b := e - x.t) (c := x.ln) (by omega) (by omega) (by omega)
          omega
        · have := near_dn hs (b := e - x.t) (c := x.ln) (by omega) (by omega) (by omega)
          omega
      · exact h3
    · exact h1
/-- the product that a fade needs -/
theorem lv_prod {a e t v : Int} (h1 : 0 ≤ a ∧ a ≤ 1000) (h2 : 0 ≤ v ∧ v ≤ 1000) (h3 : 0 ≤ t) (h4 : t ≤ e) (h5 : e ≤ 7200000) : -7200000000 ≤ (v - a) * (e - t) ∧ (v - a) * (e - t) ≤ 7200000000 := by
  have hb : 0 ≤ e - t := by omega
  have hb2 : e - t ≤ 7200000 := by omega
  generalize e - t = b at *
  have h6 : -1000 ≤ v - a := by omega
  have h7 : v - a ≤ 1000 := by omega
  generalize v - a = d at *
  have k1 : d * b ≤ 1000 * b := Int.mul_le_mul_of_nonneg_right h7 hb
  have k2 : -1000 * b ≤ d * b := Int.mul_le_mul_of_nonneg_right h6 hb
  omega
noncomputable def laV (l : List Cu) (nm : ByteArray) (time : Int) : Int := if vCs l = true then (if 0 ≤ time ∧ time ≤ 7200000 then lvP l nm time l.length else 0) else 0
noncomputable def laE (l : List Cu) (time : Int) : Int := if vCs l = true then (if 0 ≤ time ∧ time ≤ 7200000 then 0 else 2) else 1
theorem la_inv {l : List Cu} {nm : ByteArray} {time : Int} (h : vCs l = false) : laV l nm time = 0 ∧ laE l time = 1 := by unfold laV laE; rw [h]; exact ⟨rfl, rfl⟩
theorem la_rng {l : List Cu} {nm : ByteArray} {time : Int} (h : vCs l = true) (h2 : ¬ (0 ≤ time ∧ time ≤ 7200000)) : laV l nm time = 0 ∧ laE l time = 2 := by unfold laV laE; rw [if_pos h, if_pos h, if_neg h2, if_neg h2]; exact ⟨rfl, rfl⟩
theorem la_go {l : List Cu} {nm : ByteArray} {time : Int} (h : vCs l = true) (h2 : 0 ≤ time ∧ time ≤ 7200000) : laV l nm time = lvP l nm time l.length ∧ laE l time = 0 := by unfold laV laE; rw [if_pos h, if_pos h, if_pos h2, if_pos h2]; exact ⟨rfl, rfl⟩
end Go.Proofs.Ythgfnbgdpmbolaa
