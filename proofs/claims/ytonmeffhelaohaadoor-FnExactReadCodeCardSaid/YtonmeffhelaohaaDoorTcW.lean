/-
  Contracts of the functions of time codes: each returns what its plain function says. Conditions: those typed at each theorem.
-/
import Derived.Test.YtonmeffhelaohaaDoorCore
import Derived.Test.YtonmeffhelaohaaDoorTcPlain
namespace Go.Proofs.YtonmeffhelaohaaDoor
open Go.RowKit Tc

section
set_option maxHeartbeats 400000
theorem rt_yes (r : Int) (w : World) (h : okRate r) :
    Calls Tryd.prog 40 #[.int .i64 r] w fun e w' => e = .returned (.bool true) ∧ w = w' := by
  rcases h with rfl | rfl | rfl
  all_goals
    go_enter Tryd.func40, Tryd.ntmps40
    go_wp2
    go_ret
    exact ⟨rfl, rfl⟩
theorem rt_no (r : Int) (w : World) (h : ¬ okRate r) :
    Calls Tryd.prog 40 #[.int .i64 r] w fun e w' => e = .returned (.bool false) ∧ w = w' := by
  obtain ⟨h1, h2, h3⟩ : r ≠ 24 ∧ r ≠ 25 ∧ r ≠ 30 := by unfold okRate at h; omega
  clear h
  go_enter Tryd.func40, Tryd.ntmps40
  go_wp2
  go_ret
  exact ⟨by simp [h1, h2, h3], rfl⟩
theorem isr_yes (r : Int) (w : World) (h : okRate r) :
    Calls Tryd.prog 46 #[.int .i64 r] w fun e w' => e = .returned (.bool true) ∧ w = w' := by
  rcases h with rfl | rfl | rfl
  all_goals
    go_enter Tryd.func46, Tryd.ntmps46
    go_wp2
    go_ret
    exact ⟨rfl, rfl⟩
theorem isr_no (r : Int) (w : World) (h : ¬ okRate r) :
    Calls Tryd.prog 46 #[.int .i64 r] w fun e w' => e = .returned (.bool false) ∧ w = w' := by
  obtain ⟨h1, h2, h3⟩ : r ≠ 24 ∧ r ≠ 25 ∧ r ≠ 30 := by unfold okRate at h; omega
  clear h
  go_enter Tryd.func46, Tryd.ntmps46
  go_wp2
  go_ret
  exact ⟨by simp [h1, h2, h3], rfl⟩
end
end Go.Proofs.YtonmeffhelaohaaDoor
