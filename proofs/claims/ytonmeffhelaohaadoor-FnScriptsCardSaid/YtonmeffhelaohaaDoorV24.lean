/-
  Contracts of ScriptTime and StepsOf, and their laws. Conditions: those typed at each theorem.
-/
import Derived.Test.YtonmeffhelaohaaDoorV16
import Derived.Test.YtonmeffhelaohaaDoorV6
namespace Go.Proofs.YtonmeffhelaohaaDoor
open Go.RowKit
theorem ansL_inv {l : List Ln} {b : Int} (h : vL l = false) : ansL l b = (1, RS.zero) := by unfold ansL; rw [if_neg (by rw [h]; simp)]
theorem ansL_rng {l : List Ln} {b : Int} (h : vL l = true) (hb : ¬ (1 ≤ b ∧ b ≤ 20000)) : ansL l b = (2, RS.zero) := by unfold ansL; rw [if_pos h, if_neg hb]
theorem ansL_go {l : List Ln} {b : Int} (h : vL l = true) (hb : 1 ≤ b ∧ b ≤ 20000) : ansL l b = runL l b.toNat RS.zero := by unfold ansL; rw [if_pos h, if_pos hb]
theorem runL_err {l : List Ln} : ∀ (f : Nat) (s : RS), (runL l f s).1 ≠ 0 → (runL l f s).2 = RS.zero
  | 0, s, h => by
    by_cases hp : s.pos < l.length
    · rw [runL_full hp]
    · rw [runL_end hp] at h; exact absurd rfl h
  | f + 1, s, h => by
    by_cases hp : s.pos < l.length
    · cases he : stepL l s l[s.pos] with
      | go s' => rw [runL_go hp he] at h ⊢; exact runL_err f s' h
      | stop c => rw [runL_stop hp he]
    · rw [runL_end hp] at h; exact absurd rfl h
/-- what an answer can be -/
theorem ansL_facts (l : List Ln) (b : Int) : ∃ c s, ansL l b = (c, s) ∧ s.ok l ∧ s.n ≤ 20000 ∧ ((c = 0 ∧ okL l ∧ (1 ≤ b ∧ b ≤ 20000)) ∨ (c ≠ 0 ∧ (c = 1 ∨ c = 2 ∨ c = 5 ∨ c = 6) ∧ s = RS.zero)) := by
  cases hv : vL l
  · exact ⟨1, RS.zero, ansL_inv hv, RS.zero_ok l, by simp [RS.zero], .inr ⟨by decide, .inl rfl, rfl⟩⟩
  · by_cases hb : 1 ≤ b ∧ b ≤ 20000
    · obtain ⟨h1, h2, h3⟩ := runL_ok (vL_of hv) b.toNat RS.zero (RS.zero_ok l)
      have h4 := runL_err (l := l) b.toNat RS.zero
      have h3' : (runL l b.toNat RS.zero).2.n ≤ 20000 := by simp [RS.zero] at h3; simp [RS.zero]; omega
      refine ⟨(runL l b.toNat RS.zero).1, (runL l b.toNat RS.zero).2, ansL_go hv hb, h1, h3', ?_⟩
      by_cases hc : (runL l b.toNat RS.zero).1 = 0
      · exact .inl ⟨hc, vL_of hv, hb⟩
      · exact .inr ⟨hc, by omega, h4 hc⟩
    · exact ⟨2, RS.zero, ansL_rng hv hb, RS.zero_ok l, by simp [RS.zero], .inr ⟨by decide, .inr (.inl rfl), rfl⟩⟩
section
set_option maxHeartbeats 3200000
theorem iRun_any (A : Option Addr) (c : Nat) (l : List Ln) (budget : Int) (w : World) [hl : Lns w A l] (hcap : l.length ≤ c) (hn : l.length ≤ 1048576) :
    Calls Tryd.prog 35 #[.slice A l.length c, .int .i64 budget] w (RunPost l (ansL l budget) w) := by
  cases hv : vL l
  · rw [ansL_inv hv]; exact iRun_inv A c l budget w hcap hn hv
  · by_cases hb : 1 ≤ budget ∧ budget ≤ 20000
    · rw [ansL_go hv hb]; exact iRun_go A c l budget w hcap hn hv hb.1 hb.2
    · rw [ansL_rng hv hb]; exact iRun_rng A c l budget w hcap hn hv (by omega)
theorem iTime_any (A : Option Addr) (c : Nat) (l : List Ln) (budget : Int) (w : World) [hl : Lns w A l] (hcap : l.length ≤ c) (hn : l.length ≤ 1048576) {co : Int} {s : RS} (ha : ansL l budget = (co, s)) :
    Calls Tryd.prog 16 #[.slice A l.length c, .int .i64 budget] w fun e w' => e = .returned (.tuple #[.int .i64 s.tm, .int .i64 co]) ∧ ∃ k : Ex w, w' = k.v := by
  have HA := hid ha
  clear ha
  go_enter Tryd.func16, Tryd.ntmps16
  go_wp2_with (have ha := HA.out; (go_at_call 35; (refine (iRun_any _ _ l _ _ (by omega) (by omega)).mono ?_); rw [ha]; rintro e w' ⟨B, D, p, q, rfl, hBn, k, rfl, hO, hF, hR⟩); clear ha)
  (go_ret2; refine ⟨by first | rfl | (simp; done), ?_⟩; (refine Ok.toEx ?_; (repeat (first | (with_reducible exact Ok.rf _) | (with_reducible refine Ok.alloc ?_ _) | (with_reducible refine Ok.ex ?_ _) | (with_reducible refine Ok.drew ?_) | (with_reducible refine Ok.setCellI ?_ _ _ _) | (with_reducible refine Ok.exb ?_ _)))))
theorem iSteps_any (A : Option Addr) (c : Nat) (l : List Ln) (budget : Int) (w : World) [hl : Lns w A l] (hcap : l.length ≤ c) (hn : l.length ≤ 1048576) {co : Int} {s : RS} (ha : ansL l budget = (co, s)) :
    Calls Tryd.prog 17 #[.slice A l.length c, .int .i64 budget] w fun e w' => e = .returned (.tuple #[.int .i64 s.n, .int .i64 co]) ∧ ∃ k : Ex w, w' = k.v := by
  have HA := hid ha
  clear ha
  go_enter Tryd.func17, Tryd.ntmps17
  go_wp2_with (have ha := HA.out; (go_at_call 35; (refine (iRun_any _ _ l _ _ (by omega) (by omega)).mono ?_); rw [ha]; rintro e w' ⟨B, D, p, q, rfl, hBn, k, rfl, hO, hF, hR⟩); clear ha)
  (go_ret2; refine ⟨by first | rfl | (simp; done), ?_⟩; (refine Ok.toEx ?_; (repeat (first | (with_reducible exact Ok.rf _) | (with_reducible refine Ok.alloc ?_ _) | (with_reducible refine Ok.ex ?_ _) | (with_reducible refine Ok.drew ?_) | (with_reducible refine Ok.setCellI ?_ _ _ _) | (with_reducible refine Ok.exb ?_ _)))))
end
end Go.Proofs.YtonmeffhelaohaaDoor
