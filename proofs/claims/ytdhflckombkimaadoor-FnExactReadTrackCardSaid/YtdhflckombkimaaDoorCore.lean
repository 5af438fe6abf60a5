/-
  Contracts of the small shared functions (bounds, absolute value, nearest quotient): each returns what its plain function says. Conditions: those typed at each theorem.
-/
import Derived.Test.YtdhflckombkimaaDoorProg
import Derived.Test.YtdhflckombkimaaDoorBase
namespace Go.Proofs.YtdhflckombkimaaDoor
open Go.RowKit

theorem hid {p : Prop} (h : p) : Hid p := h
/-! ### plain -/
/-- nearest quotient, halves away from 0 -/
def near (a b : Int) : Int := if a < 0 then -((b - 2 * a) / (2 * b)) else (2 * a + b) / (2 * b)
theorem half_core (a b : Int) (ha : 0 ≤ a) (hb : 0 < b) :
    (2 * a + b) / (2 * b) = if a % b < b - a % b then a / b else a / b + 1 := by
  have h := Int.mul_ediv_add_emod a b
  have h0 := Int.emod_nonneg a (by omega : b ≠ 0)
  have h1 := Int.emod_lt_of_pos a hb
  generalize a / b = q at *
  generalize a % b = r at *
  subst h
  have e : 2 * (b * q + r) + b = (2 * r + b) + (2 * b) * q := by rw [Int.mul_assoc]; omega
  rw [e, Int.add_mul_ediv_left _ _ (by omega)]
  split
  · rw [Int.ediv_eq_zero_of_lt (by omega) (by omega)]; omega
  · have : (2 * r + b) / (2 * b) = 1 := by
      rw [show 2 * r + b = (2 * r - b) + (2 * b) * 1 by omega, Int.add_mul_ediv_left _ _ (by omega), Int.ediv_eq_zero_of_lt (by omega) (by omega)]; rfl
    omega
theorem near_pos {a b : Int} (ha : 0 ≤ a) (hb : 0 < b) : near a b = if a % b < b - a % b then a / b else a / b + 1 := by
  unfold near; rw [if_neg (by omega)]; exact half_core a b ha hb
theorem near_neg {a b : Int} (ha : a < 0) (hb : 0 < b) : near a b = if (-a) % b < b - (-a) % b then -((-a) / b) else -((-a) / b) - 1 := by
  unfold near; rw [if_pos ha, show b - 2 * a = 2 * (-a) + b by omega, half_core (-a) b (by omega) hb]
  split <;> omega
theorem tdiv_neg' {a b : Int} (ha : a < 0) : a.tdiv b = -((-a) / b) := by
  have := Int.tdiv_eq_ediv_of_nonneg (a := -a) (b := b) (by omega)
  rw [← this, Int.neg_tdiv, Int.neg_neg]
theorem tmod_neg' {a b : Int} (ha : a < 0) : a.tmod b = -((-a) % b) := by
  have := Int.tmod_eq_emod_of_nonneg (a := -a) (b := b) (by omega)
  rw [← this, Int.neg_tmod, Int.neg_neg]
theorem near_bd {a b : Int} (M : Int) (hb : 0 < b) (h1 : -M ≤ a) (h2 : a ≤ M) : -(M + 1) ≤ near a b ∧ near a b ≤ M + 1 := by
  have key : ∀ c : Int, 0 ≤ c → c ≤ M → 0 ≤ (2 * c + b) / (2 * b) ∧ (2 * c + b) / (2 * b) ≤ M + 1 := fun c h0 hM =>
    ⟨Int.ediv_nonneg (by omega) (by omega), by
      refine Int.le_of_lt_add_one (Int.ediv_lt_of_lt_mul (by omega) ?_)
      have : (M + 1 + 1) * (2 * b) = (M + 1) * (2 * b) + 2 * b := by rw [Int.add_mul, Int.one_mul]
      have : (M + 1) * 1 ≤ (M + 1) * b := Int.mul_le_mul_of_nonneg_left (by omega) (by omega)
      have : (M + 1) * (2 * b) = 2 * ((M + 1) * b) := by rw [← Int.mul_assoc, Int.mul_comm (M + 1) 2, Int.mul_assoc]
      omega⟩
  unfold near
  split
  · have := key (-a) (by omega) (by omega)
    rw [show b - 2 * a = 2 * (-a) + b by omega]
    omega
  · have := key a (by omega) (by omega)
    omega

section
set_option maxHeartbeats 400000
theorem in_yes (n lo hi : Int) (w : World) (h1 : lo ≤ n) (h2 : n ≤ hi) :
    Calls Tryd.prog 101 #[.int .i64 n, .int .i64 lo, .int .i64 hi] w fun e w' => e = .returned (.bool true) ∧ w = w' := by
  go_enter Tryd.func101, Tryd.ntmps101
  go_wp2
  go_ret
  exact ⟨rfl, rfl⟩
theorem in_no (n lo hi : Int) (w : World) (h : n < lo ∨ hi < n) :
    Calls Tryd.prog 101 #[.int .i64 n, .int .i64 lo, .int .i64 hi] w fun e w' => e = .returned (.bool false) ∧ w = w' := by
  by_cases h1 : n < lo
  · clear h
    go_enter Tryd.func101, Tryd.ntmps101
    go_wp2
    go_ret
    exact ⟨rfl, rfl⟩
  · have h2 : hi < n := by omega
    have h1 : lo ≤ n := by omega
    clear h
    go_enter Tryd.func101, Tryd.ntmps101
    go_wp2
    go_ret
    exact ⟨by simp; omega, rfl⟩
theorem wi_yes (n lo hi : Int) (w : World) (h1 : lo ≤ n) (h2 : n ≤ hi) :
    Calls Tryd.prog 63 #[.int .i64 n, .int .i64 lo, .int .i64 hi] w fun e w' => e = .returned (.bool true) ∧ w = w' := by
  go_enter Tryd.func63, Tryd.ntmps63
  go_wp2
  go_ret
  exact ⟨rfl, rfl⟩
theorem wi_no (n lo hi : Int) (w : World) (h : n < lo ∨ hi < n) :
    Calls Tryd.prog 63 #[.int .i64 n, .int .i64 lo, .int .i64 hi] w fun e w' => e = .returned (.bool false) ∧ w = w' := by
  by_cases h1 : n < lo
  · clear h
    go_enter Tryd.func63, Tryd.ntmps63
    go_wp2
    go_ret
    exact ⟨rfl, rfl⟩
  · have h2 : hi < n := by omega
    have h1 : lo ≤ n := by omega
    clear h
    go_enter Tryd.func63, Tryd.ntmps63
    go_wp2
    go_ret
    exact ⟨by simp; omega, rfl⟩
theorem abs_pos (n : Int) (w : World) (h : 0 ≤ n) :
    Calls Tryd.prog 132 #[.int .i64 n] w fun e w' => e = .returned (.int .i64 n) ∧ w = w' := by
  go_enter Tryd.func132, Tryd.ntmps132
  go_wp2
  go_ret
  exact ⟨rfl, rfl⟩
theorem abs_neg (n : Int) (w : World) (h : n < 0) (h2 : -9223372036854775807 ≤ n) :
    Calls Tryd.prog 132 #[.int .i64 n] w fun e w' => e = .returned (.int .i64 (-n)) ∧ w = w' := by
  go_enter Tryd.func132, Tryd.ntmps132
  go_wp2
  go_ret
  exact ⟨by simp, rfl⟩
theorem nearest_any (a b : Int) (w : World) (h1 : -1000000000000000 ≤ a) (h2 : a ≤ 1000000000000000) (h3 : 0 < b) (h4 : b ≤ 1000000000000000) :
    Calls Tryd.prog 115 #[.int .i64 a, .int .i64 b] w fun e w' => e = .returned (.int .i64 (near a b)) ∧ ∃ k : Ex w, w' = k.v := by
  by_cases ha : a < 0
  · have e := near_neg (b := b) ha h3
    have q1 := tdiv_neg' (b := b) ha
    have r1 := tmod_neg' (b := b) ha
    have q2 : 0 ≤ (-a) / b := Int.ediv_nonneg (by omega) (by omega)
    have q3 : (-a) / b ≤ -a := Int.ediv_le_self _ (by omega)
    have r2 := Int.emod_nonneg (-a) (by omega : b ≠ 0)
    have r3 := Int.emod_lt_of_pos (-a) h3
    rw [show -((-a) / b) = a.tdiv b from q1.symm, show (-a) % b = -(a.tmod b) by omega] at e
    have t1 : -1000000000000000 ≤ a.tdiv b := by omega
    have t2 : a.tdiv b ≤ 0 := by omega
    have t3 : -b < a.tmod b := by omega
    have t4 : a.tmod b ≤ 0 := by omega
    clear q1 r1 q2 q3 r2 r3
    have hb0 : b ≠ 0 := by omega
    have hd : (decide (a < 0) == decide (b < 0)) = false := by rw [decide_eq_true ha, decide_eq_false (by omega)]; rfl
    by_cases hz : a.tmod b < 0
    · by_cases hc : -(a.tmod b) < b - -(a.tmod b)
      all_goals
        first | rw [if_pos hc] at e | rw [if_neg hc] at e
        have E := hid e
        clear e
        go_enter Tryd.func115, Tryd.ntmps115
        go_wp2
        (refine wp_region_ex (by kernel_rfl) (by kernel_rfl) ?_; (repeat (go_big_quiet_step (((go_at_call 132; exact calls_ex_same (abs_neg _ _ (by omega) (by omega))))))); refine wpQuiet_nil ?_; rintro _ ⟨k, rfl⟩)
        go_wp2_with ((go_at_call 132; refine (abs_pos _ _ (by omega)).mono ?_; rintro e w' ⟨rfl, rfl⟩))
        go_ret
        exact ⟨by rw [E.out]; rfl, k, rfl⟩
    · have hc : -(a.tmod b) < b - -(a.tmod b) := by omega
      rw [if_pos hc] at e
      have E := hid e
      clear e
      have hz : 0 ≤ a.tmod b := by omega
      go_enter Tryd.func115, Tryd.ntmps115
      go_wp2
      (refine wp_region_ex (by kernel_rfl) (by kernel_rfl) ?_; (repeat (go_big_quiet_step (((go_at_call 132; exact calls_ex_same (abs_pos _ _ (by omega))))))); refine wpQuiet_nil ?_; rintro _ ⟨k, rfl⟩)
      go_wp2_with ((go_at_call 132; refine (abs_pos _ _ (by omega)).mono ?_; rintro e w' ⟨rfl, rfl⟩))
      go_ret
      exact ⟨by rw [E.out]; rfl, k, rfl⟩
  · have ha : 0 ≤ a := by omega
    have e := near_pos ha h3
    have q2 : 0 ≤ a / b := Int.ediv_nonneg (by omega) (by omega)
    have q3 : a / b ≤ a := Int.ediv_le_self _ (by omega)
    have r2 := Int.emod_nonneg a (by omega : b ≠ 0)
    have r3 := Int.emod_lt_of_pos a h3
    have hd : (decide (a < 0) == decide (b < 0)) = true := by rw [decide_eq_false (by omega), decide_eq_false (by omega)]; rfl
    by_cases hc : a % b < b - a % b
    all_goals
      first | rw [if_pos hc] at e | rw [if_neg hc] at e
      have E := hid e
      clear e
      go_enter Tryd.func115, Tryd.ntmps115
      go_wp2
      (refine wp_region_ex (by kernel_rfl) (by kernel_rfl) ?_; (repeat (go_big_quiet_step (((go_at_call 132; exact calls_ex_same (abs_pos _ _ (by omega))))))); refine wpQuiet_nil ?_; rintro _ ⟨k, rfl⟩)
      go_wp2_with ((go_at_call 132; refine (abs_pos _ _ (by omega)).mono ?_; rintro e w' ⟨rfl, rfl⟩))
      go_ret
      exact ⟨by rw [E.out]; rfl, k, rfl⟩
end
end Go.Proofs.YtdhflckombkimaaDoor
