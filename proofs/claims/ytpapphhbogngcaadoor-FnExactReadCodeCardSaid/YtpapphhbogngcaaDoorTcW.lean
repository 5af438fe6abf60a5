/-
  Contracts of the functions of time codes: each returns what its plain function says. Conditions: those typed at each theorem.
-/
import Derived.Test.YtpapphhbogngcaaDoorCore
import Derived.Test.YtpapphhbogngcaaDoorTcPlain
namespace Go.Proofs.YtpapphhbogngcaaDoor
open Go.RowKit Tc

section
set_option maxHeartbeats 400000
theorem rt_yes (r : Int) (w : World) (h : okRate r) :
    Calls Tryd.prog 95 #[.int .i64 r] w fun e w' => e = .returned (.bool true) ∧ w = w' := by
  rcases h with rfl | rfl | rfl
  all_goals
    go_enter Tryd.func95, Tryd.ntmps95
    go_wp2
    go_ret
    exact ⟨rfl, rfl⟩
theorem rt_no (r : Int) (w : World) (h : ¬ okRate r) :
    Calls Tryd.prog 95 #[.int .i64 r] w fun e w' => e = .returned (.bool false) ∧ w = w' := by
  obtain ⟨h1, h2, h3⟩ : r ≠ 24 ∧ r ≠ 25 ∧ r ≠ 30 := by unfold okRate at h; omega
  clear h
  go_enter Tryd.func95, Tryd.ntmps95
  go_wp2
  go_ret
  exact ⟨by simp [h1, h2, h3], rfl⟩
theorem isr_yes (r : Int) (w : World) (h : okRate r) :
    Calls Tryd.prog 100 #[.int .i64 r] w fun e w' => e = .returned (.bool true) ∧ w = w' := by
  rcases h with rfl | rfl | rfl
  all_goals
    go_enter Tryd.func100, Tryd.ntmps100
    go_wp2
    go_ret
    exact ⟨rfl, rfl⟩
theorem isr_no (r : Int) (w : World) (h : ¬ okRate r) :
    Calls Tryd.prog 100 #[.int .i64 r] w fun e w' => e = .returned (.bool false) ∧ w = w' := by
  obtain ⟨h1, h2, h3⟩ : r ≠ 24 ∧ r ≠ 25 ∧ r ≠ 30 := by unfold okRate at h; omega
  clear h
  go_enter Tryd.func100, Tryd.ntmps100
  go_wp2
  go_ret
  exact ⟨by simp [h1, h2, h3], rfl⟩
end
end Go.Proofs.YtpapphhbogngcaaDoor
