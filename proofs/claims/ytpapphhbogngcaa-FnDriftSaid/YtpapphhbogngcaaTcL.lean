/-
  Contracts of ConvertCode, and its law. Conditions: those typed at each theorem.
-/
import Derived.Test.YtpapphhbogngcaaTcK
import Derived.Deep.RegionWith
import Derived.Deep.DrawnRows
attribute [local go_sem ↓] Go.wp_at_zero Go.wp_at_succ
namespace Go.Proofs.Ytpapphhbogngcaa
open Go.RowKit Tc
section
set_option maxHeartbeats 6400000
theorem conv_bd {h m s f r q : Int} (hk : okCode h m s f r) (hq : okRate q) : 0 ≤ num h m s f r ∧ num h m s f r < 3000000 ∧ 0 ≤ msAt (num h m s f r) r ∧ msAt (num h m s f r) r ≤ 86400000 ∧ 0 ≤ (frAt (msAt (num h m s f r) r) q) ∧ (frAt (msAt (num h m s f r) r) q) ≤ 300000001 := by
  obtain ⟨b1, b2⟩ := num_rng hk
  obtain ⟨d0, d1⟩ := dayOf_bd hk.1
  obtain ⟨m1, m2⟩ := msAt_day hk.1 b1 b2
  obtain ⟨f1, f2⟩ := frAt_bd hq m1 (by omega)
  exact ⟨b1, by omega, m1, m2, f1, f2⟩
theorem conv_bd2 {h m s f r q : Int} (hk : okCode h m s f r) (hq : okRate q) : (frAt (msAt (num h m s f r) r) q) ≤ 100000000 := by
  obtain ⟨_, _, b1, b2, _, _⟩ := conv_bd hk hq
  generalize msAt (num h m s f r) r = M at *
  rcases hq with rfl | rfl | rfl <;> simp [frAt] <;> omega
end
end Go.Proofs.Ytpapphhbogngcaa
