/-
  Contracts of the functions of time codes: each returns what its plain function says. Conditions: those typed at each theorem.
-/
import Derived.Test.YtpapphhbogngcaaCore
import Derived.Test.YtpapphhbogngcaaTcPlain
namespace Go.Proofs.Ytpapphhbogngcaa
open Go.RowKit Tc

section
set_option maxHeartbeats 400000
theorem rt_yes (r : Int) (w : World) (h : okRate r) :
    Calls Try.prog 109 #[.int .i64 r] w fun e w' => e = .returned (.bool true) ∧ w = w' := by
  rcases h with rfl | rfl | rfl
  all_goals
    go_enter Try.func109, Try.ntmps109
    go_wp2
    go_ret
    exact ⟨rfl, rfl⟩
theorem rt_no (r : Int) (w : World) (h : ¬ okRate r) :
    Calls Try.prog 109 #[.int .i64 r] w fun e w' => e = .returned (.bool false) ∧ w = w' := by
  obtain ⟨h1, h2, h3⟩ : r ≠ 24 ∧ r ≠ 25 ∧ r ≠ 30 := by unfold okRate at h; omega
  clear h
  go_enter Try.func109, Try.ntmps109
  go_wp2
  go_ret
  exact ⟨by simp [h1, h2, h3], rfl⟩
theorem isr_yes (r : Int) (w : World) (h : okRate r) :
    Calls Try.prog 74 #[.int .i64 r] w fun e w' => e = .returned (.bool true) ∧ w = w' := by
  rcases h with rfl | rfl | rfl
  all_goals
    go_enter Try.func74, Try.ntmps74
    go_wp2
    go_ret
    exact ⟨rfl, rfl⟩
theorem isr_no (r : Int) (w : World) (h : ¬ okRate r) :
    Calls Try.prog 74 #[.int .i64 r] w fun e w' => e = .returned (.bool false) ∧ w = w' := by
  obtain ⟨h1, h2, h3⟩ : r ≠ 24 ∧ r ≠ 25 ∧ r ≠ 30 := by unfold okRate at h; omega
  clear h
  go_enter Try.func74, Try.ntmps74
  go_wp2
  go_ret
  exact ⟨by simp [h1, h2, h3], rfl⟩
theorem framesOfDay_any (r : Int) (w : World) (hr : okRate r) :
    Calls Try.prog 45 #[.int .i64 r] w fun e w' => e = .returned (.int .i64 (dayOf r)) ∧ w = w' := by
  rcases hr with rfl | rfl | rfl
  all_goals
    go_enter Try.func45, Try.ntmps45
    go_wp2
    go_ret
    exact ⟨rfl, rfl⟩
end
end Go.Proofs.Ytpapphhbogngcaa
