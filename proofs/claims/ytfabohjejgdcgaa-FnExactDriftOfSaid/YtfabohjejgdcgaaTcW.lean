/-
  Contracts of the functions of time codes: each returns what its plain function says. Conditions: those typed at each theorem.
-/
import Derived.Test.YtfabohjejgdcgaaCore
import Derived.Test.YtfabohjejgdcgaaTcPlain
namespace Go.Proofs.Ytfabohjejgdcgaa
open Go.RowKit Tc

section
set_option maxHeartbeats 400000
theorem rt_yes (r : Int) (w : World) (h : okRate r) :
    Calls Try.prog 54 #[.int .i64 r] w fun e w' => e = .returned (.bool true) ∧ w = w' := by
  rcases h with rfl | rfl | rfl
  all_goals
    go_enter Try.func54, Try.ntmps54
    go_wp2
    go_ret
    exact ⟨rfl, rfl⟩
theorem rt_no (r : Int) (w : World) (h : ¬ okRate r) :
    Calls Try.prog 54 #[.int .i64 r] w fun e w' => e = .returned (.bool false) ∧ w = w' := by
  obtain ⟨h1, h2, h3⟩ : r ≠ 24 ∧ r ≠ 25 ∧ r ≠ 30 := by unfold okRate at h; omega
  clear h
  go_enter Try.func54, Try.ntmps54
  go_wp2
  go_ret
  exact ⟨by simp [h1, h2, h3], rfl⟩
theorem isr_yes (r : Int) (w : World) (h : okRate r) :
    Calls Try.prog 52 #[.int .i64 r] w fun e w' => e = .returned (.bool true) ∧ w = w' := by
  rcases h with rfl | rfl | rfl
  all_goals
    go_enter Try.func52, Try.ntmps52
    go_wp2
    go_ret
    exact ⟨rfl, rfl⟩
theorem isr_no (r : Int) (w : World) (h : ¬ okRate r) :
    Calls Try.prog 52 #[.int .i64 r] w fun e w' => e = .returned (.bool false) ∧ w = w' := by
  obtain ⟨h1, h2, h3⟩ : r ≠ 24 ∧ r ≠ 25 ∧ r ≠ 30 := by unfold okRate at h; omega
  clear h
  go_enter Try.func52, Try.ntmps52
  go_wp2
  go_ret
  exact ⟨by simp [h1, h2, h3], rfl⟩
theorem day_yes (n : Int) (w : World) (h1 : 0 ≤ n) (h2 : n ≤ 86400000) :
    Calls Try.prog 58 #[.int .i64 n] w fun e w' => e = .returned (.bool true) ∧ w = w' := by
  go_enter Try.func58, Try.ntmps58
  go_wp2_with ((go_at_call 55; first | (refine (in_yes _ _ _ _ (by omega) (by omega)).mono ?_; rintro e w' ⟨rfl, rfl⟩) | (refine (in_no _ _ _ _ (by omega)).mono ?_; rintro e w' ⟨rfl, rfl⟩)))
  go_ret
  exact ⟨rfl, rfl⟩
theorem day_no (n : Int) (w : World) (h : n < 0 ∨ 86400000 < n) :
    Calls Try.prog 58 #[.int .i64 n] w fun e w' => e = .returned (.bool false) ∧ w = w' := by
  go_enter Try.func58, Try.ntmps58
  go_wp2_with ((go_at_call 55; first | (refine (in_yes _ _ _ _ (by omega) (by omega)).mono ?_; rintro e w' ⟨rfl, rfl⟩) | (refine (in_no _ _ _ _ (by omega)).mono ?_; rintro e w' ⟨rfl, rfl⟩)))
  go_ret
  exact ⟨rfl, rfl⟩
theorem milliAt_any (f r : Int) (w : World) (hr : okRate r) (h0 : 0 ≤ f) (h1 : f ≤ 100000000) :
    Calls Try.prog 57 #[.int .i64 f, .int .i64 r] w fun e w' => e = .returned (.int .i64 (msAt f r)) ∧ w = w' := by
  rcases hr with rfl | rfl | rfl
  all_goals
    go_enter Try.func57, Try.ntmps57
    go_wp2
    go_ret
    exact ⟨rfl, rfl⟩
theorem l16Milli_any (f r : Int) (w : World) (hr : okRate r) (h0 : 0 ≤ f) (h1 : f ≤ 100000000) :
    Calls Try.prog 56 #[.int .i64 f, .int .i64 r] w fun e w' => e = .returned (.int .i64 (msAt f r)) ∧ w = w' := by
  rcases hr with rfl | rfl | rfl
  all_goals
    go_enter Try.func56, Try.ntmps56
    go_wp2
    go_ret
    exact ⟨rfl, rfl⟩
theorem frameAt_any (m r : Int) (w : World) (hr : okRate r) (h0 : 0 ≤ m) (h1 : m ≤ 10000000000) :
    Calls Try.prog 62 #[.int .i64 m, .int .i64 r] w fun e w' => e = .returned (.int .i64 (frAt m r)) ∧ w = w' := by
  rcases hr with rfl | rfl | rfl
  all_goals
    go_enter Try.func62, Try.ntmps62
    go_wp2
    go_ret
    exact ⟨rfl, rfl⟩
theorem l16At_any (m r : Int) (w : World) (hr : okRate r) (h0 : 0 ≤ m) (h1 : m ≤ 86400000) :
    Calls Try.prog 61 #[.int .i64 m, .int .i64 r] w fun e w' => e = .returned (.int .i64 (frAt m r)) ∧ w = w' := by
  have hb := frAt_bd hr h0 (by omega)
  have hle : r = 30 ∧ 0 ≤ m * 30 / 1001 ∧ m * 30 / 1001 ≤ frAt m r ∨ (r = 24 ∨ r = 25) ∧ 0 ≤ m * r / 1000 ∧ m * r / 1000 ≤ frAt m r := by
    rcases hr with rfl | rfl | rfl <;> simp [frAt] <;> omega
  have hfb : frAt m r ≤ 2600000 := by rcases hr with rfl | rfl | rfl <;> simp [frAt] <;> omega
  have hlp : ∀ F, msAt F r ≤ m ↔ F ≤ frAt m r := fun F => fr_ms hr
  rcases hr with rfl | rfl | rfl
  all_goals
    generalize frAt m _ = T at *
    have HL := hid hlp
    clear hlp
    go_enter Try.func61, Try.ntmps61
    go_wp2
    go_loop [5] (fun t => ∃ F : Int, 0 ≤ F ∧ F ≤ T ∧ t = .int .i64 F) (fun t => (T - intOf t).toNat)
    case atStart => exact ⟨_, by omega, by omega, rfl⟩
    case round =>
      obtain ⟨F, hF0, hF1, rfl⟩ := hrel
      have hq := HL.out (F + 1)
      by_cases hc : F + 1 ≤ T
      · have hm := hq.2 hc
        clear hq HL
        go_wp2_with ((go_at_call 56; refine (l16Milli_any _ _ _ (by simp [okRate]) (by omega) (by omega)).mono ?_; rintro e w' ⟨rfl, rfl⟩))
        go_round
        case rel => exact ⟨F + 1, by omega, by omega, rfl⟩
        case measure => simp [intOf]; omega
      · have hm := Int.not_le.1 (mt hq.1 hc)
        clear hq HL
        have hFT : F = T := by omega
        subst hFT
        go_wp2_with ((go_at_call 56; refine (l16Milli_any _ _ _ (by simp [okRate]) (by omega) (by omega)).mono ?_; rintro e w' ⟨rfl, rfl⟩))
        go_ret
        exact ⟨rfl, rfl⟩
theorem framesOfDay_any (r : Int) (w : World) (hr : okRate r) :
    Calls Try.prog 67 #[.int .i64 r] w fun e w' => e = .returned (.int .i64 (dayOf r)) ∧ w = w' := by
  rcases hr with rfl | rfl | rfl
  all_goals
    go_enter Try.func67, Try.ntmps67
    go_wp2
    go_ret
    exact ⟨rfl, rfl⟩
end
end Go.Proofs.Ytfabohjejgdcgaa
