/-
  Contracts of the small shared functions (bounds, absolute value, nearest quotient): each returns what its plain function says. Conditions: those typed at each theorem.
-/
import Derived.Test.YtonmeffhelaohaaDoorProg
import Derived.Test.YtonmeffhelaohaaDoorBase
namespace Go.Proofs.YtonmeffhelaohaaDoor
open Go.RowKit

theorem hid {p : Prop} (h : p) : Hid p := h
/-! ### plain -/
/-- nearest quotient, halves away from 0 -/
def near (a b : Int) : Int := if a < 0 then -((b - 2 * a) / (2 * b)) else (2 * a + b) / (2 * b)
theorem half_core (a b : Int) (ha : 0 ≤ a) (hb : 0 < b) :
    (2 * a + b) / (2 * b) = if a % b < b - a % b then a / b else a / b + 1 := by
  have h := Int.mul_ediv_add_emod a b
  have h0 := Int.emod_nonneg a (by omega : b ≠ 0)
  have h1 := Int.emod_lt_of_pos a hb
  generalize a / b = q at *
  generalize a % b = r at *
  subst h
  have e : 2 * (b * q + r) + b = (2 * r + b) + (2 * b) * q := by rw [Int.mul_assoc]; omega
  rw [e, Int.add_mul_ediv_left _ _ (by omega)]
  split
  · rw [Int.ediv_eq_zero_of_lt (by omega) (by omega)]; omega
  · have : (2 * r + b) / (2 * b) = 1 := by
      rw [show 2 * r + b = (2 * r - b) + (2 * b) * 1 by omega, Int.add_mul_ediv_left _ _ (by omega), Int.ediv_eq_zero_of_lt (by omega) (by omega)]; rfl
    omega
theorem near_pos {a b : Int} (ha : 0 ≤ a) (hb : 0 < b) : near a b = if a % b < b - a % b then a / b else a / b + 1 := by
  unfold near; rw [if_neg (by omega)]; exact half_core a b ha hb
theorem near_neg {a b : Int} (ha : a < 0) (hb : 0 < b) : near a b = if (-a) % b < b - (-a) % b then -((-a) / b) else -((-a) / b) - 1 := by
  unfold near; rw [if_pos ha, show b - 2 * a = 2 * (-a) + b by omega, half_core (-a) b (by omega) hb]
  split <;> omega
theorem tdiv_neg' {a b : Int} (ha : a < 0) : a.tdiv b = -((-a) / b) := by
  have := Int.tdiv_eq_ediv_of_nonneg (a := -a) (b := b) (by omega)
  rw [← this, Int.neg_tdiv, Int.neg_neg]
theorem tmod_neg' {a b : Int} (ha : a < 0) : a.tmod b = -((-a) % b) := by
  have := Int.tmod_eq_emod_of_nonneg (a := -a) (b := b) (by omega)
  rw [← this, Int.neg_tmod, Int.neg_neg]
theorem near_bd {a b : Int} (M : Int) (hb : 0 < b) (h1 : -M ≤ a) (h2 : a ≤ M) : -(M + 1) ≤ near a b ∧ near a b ≤ M + 1 := by
  have key : ∀ c : Int, 0 ≤ c → c ≤ M → 0 ≤ (2 * c + b) / (2 * b) ∧ (2 * c + b) / (2 * b) ≤ M + 1 := fun c h0 hM =>
    ⟨Int.ediv_nonneg (by omega) (by omega), by
      refine Int.le_of_lt_add_one (Int.ediv_lt_of_lt_mul (by omega) ?_)
      have : (M + 1 + 1) * (2 * b) = (M + 1) * (2 * b) + 2 * b := by rw [Int.add_mul, Int.one_mul]
      have : (M + 1) * 1 ≤ (M + 1) * b := Int.mul_le_mul_of_nonneg_left (by omega) (by omega)
      have : (M + 1) * (2 * b) = 2 * ((M + 1) * b) := by rw [← Int.mul_assoc, Int.mul_comm (M + 1) 2, Int.mul_assoc]
      omega⟩
  unfold near
  split
  · have := key (-a) (by omega) (by omega)
    rw [show b - 2 * a = 2 * (-a) + b by omega]
    omega
  · have := key a (by omega) (by omega)
    omega

section
set_option maxHeartbeats 400000
theorem in_yes (n lo hi : Int) (w : World) (h1 : lo ≤ n) (h2 : n ≤ hi) :
    Calls Tryd.prog 41 #[.int .i64 n, .int .i64 lo, .int .i64 hi] w fun e w' => e = .returned (.bool true) ∧ w = w' := by
  go_enter Tryd.func41, Tryd.ntmps41
  go_wp2
  go_ret
  exact ⟨rfl, rfl⟩
theorem in_no (n lo hi : Int) (w : World) (h : n < lo ∨ hi < n) :
    Calls Tryd.prog 41 #[.int .i64 n, .int .i64 lo, .int .i64 hi] w fun e w' => e = .returned (.bool false) ∧ w = w' := by
  by_cases h1 : n < lo
  · clear h
    go_enter Tryd.func41, Tryd.ntmps41
    go_wp2
    go_ret
    exact ⟨rfl, rfl⟩
  · have h2 : hi < n := by omega
    have h1 : lo ≤ n := by omega
    clear h
    go_enter Tryd.func41, Tryd.ntmps41
    go_wp2
    go_ret
    exact ⟨by simp; omega, rfl⟩
theorem wi_yes (n lo hi : Int) (w : World) (h1 : lo ≤ n) (h2 : n ≤ hi) :
    Calls Tryd.prog 47 #[.int .i64 n, .int .i64 lo, .int .i64 hi] w fun e w' => e = .returned (.bool true) ∧ w = w' := by
  go_enter Tryd.func47, Tryd.ntmps47
  go_wp2
  go_ret
  exact ⟨rfl, rfl⟩
theorem wi_no (n lo hi : Int) (w : World) (h : n < lo ∨ hi < n) :
    Calls Tryd.prog 47 #[.int .i64 n, .int .i64 lo, .int .i64 hi] w fun e w' => e = .returned (.bool false) ∧ w = w' := by
  by_cases h1 : n < lo
  · clear h
    go_enter Tryd.func47, Tryd.ntmps47
    go_wp2
    go_ret
    exact ⟨rfl, rfl⟩
  · have h2 : hi < n := by omega
    have h1 : lo ≤ n := by omega
    clear h
    go_enter Tryd.func47, Tryd.ntmps47
    go_wp2
    go_ret
    exact ⟨by simp; omega, rfl⟩
end
end Go.Proofs.YtonmeffhelaohaaDoor
