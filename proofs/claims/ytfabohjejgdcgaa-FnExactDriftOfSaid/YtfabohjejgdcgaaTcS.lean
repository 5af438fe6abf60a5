/-
  DriftOf of the reference, where it answers. Conditions: those typed at each theorem.
-/
import Derived.Test.YtfabohjejgdcgaaTcR
namespace Go.Proofs.Ytfabohjejgdcgaa
open Go.RowKit Tc
theorem pr_lt {V : List (List Int)} (h : okDr V) : ∀ k, 0 < k → k < V.length → pr V 0 0 < pr V k 0
  | 0, h0, _ => absurd h0 (by omega)
  | 1, _, h1 => (h.2 1 h1).2.2.2 (by omega)
  | k + 2, _, h1 => Int.lt_trans (pr_lt h (k + 1) (by omega) (by omega)) ((h.2 (k + 2) h1).2.2.2 (by omega))
section
set_option maxHeartbeats 6400000
set_option maxRecDepth 20000
theorem sDrift_yes (A : Option Addr) (c : Nat) (V : List (List Int)) (w : World) [hl : Iss w A V] (hr : okDr V) :
    Calls Try.prog 38 #[.slice A V.length c] w fun e w' => e = .returned (.tuple #[.int .i64 (drOff V), .int .i64 (drRate V), .int .i64 0]) ∧ ∃ k : Ex w, w' = k.v := by
  have hv := hr.1.1
  have hv2 := hr.1.2
  have hlast := pr_lt hr (V.length - 1) (by omega) (by omega)
  have HA := hid hl.at_
  have HR := hid hr.2
  clear hr
  go_enter Try.func38, Try.ntmps38
  go_wp2
  go_loopw [5] (fun t wr => ∃ q : Nat, q ≤ V.length ∧ t = .int .i64 q ∧ ∃ j : Ex w, wr = j.v) (fun t _ => V.length - (intOf t).toNat)
  case atStart => exact ⟨0, Nat.zero_le _, rfl, Ex.rf w, rfl⟩
  case round =>
    obtain ⟨q, hq, rfl, j0, rfl⟩ := hrel
    obtain ⟨b, o, rfl, hbw, hc⟩ := HA.out (by omega)
    by_cases hlt : q < V.length
    · obtain ⟨h1, ⟨h2, h3⟩, ⟨h4, h5⟩, h7⟩ := HR.out q hlt
      obtain ⟨B, c1, c0, hB⟩ := hc q hlt
      obtain ⟨b1, o1, rfl, hb1, d0, d1⟩ := pair_at hlt hB h1
      rw [← getV hlt, h1] at c0
      by_cases h6 : q = 0
      · subst h6
        have c0 : w.cell? ⟨b, o, none⟩ = _ := c0
        clear hc hB h7
        go_wp2
        (refine wp_region_ex (by kernel_rfl) (by kernel_rfl) ?_; (repeat (go_big_quiet_step (((first | (go_at_call 58; first | exact calls_ex_same (day_yes _ _ (by omega) (by omega)) | exact calls_ex_same (day_no _ _ (by omega)))))))); refine wpQuiet_nil ?_; rintro _ ⟨k, rfl⟩)
        go_wp2
        go_roundw
        case rel => exact ⟨1, by omega, by go_num, j0.tr k, rfl⟩
        case measure => simp [intOf]; omega
      · have h7 := h7 (by omega)
        obtain ⟨p, rfl⟩ : ∃ p, q = p + 1 := ⟨q - 1, by omega⟩
        simp only [Nat.add_sub_cancel] at h7
        obtain ⟨B', c1', c0', hB'⟩ := hc p (by omega)
        have hp' := pair_at (by omega) hB' (HR.out p (by omega)).1
        rw [← getV (by omega), (HR.out p (by omega)).1] at c0'
        obtain ⟨b2, o2, rfl, hb2, e0, e1⟩ := hp'
        clear hc hB hB'
        go_wp2
        (refine wp_region_ex (by kernel_rfl) (by kernel_rfl) ?_; (repeat (go_big_quiet_step (((first | (go_at_call 58; first | exact calls_ex_same (day_yes _ _ (by omega) (by omega)) | exact calls_ex_same (day_no _ _ (by omega)))))))); refine wpQuiet_nil ?_; rintro _ ⟨k, rfl⟩)
        go_wp2
        go_roundw
        case rel => exact ⟨p + 1 + 1, by omega, by go_num, j0.tr k, rfl⟩
        case measure => simp [intOf]; omega
    · obtain ⟨h1, ⟨h2, h3⟩, ⟨h4, h5⟩, -⟩ := HR.out 0 (by omega)
      obtain ⟨B, c1, c0, hB⟩ := hc 0 (by omega)
      obtain ⟨b1, o1, rfl, hb1, d0, d1⟩ := pair_at (by omega) hB h1
      rw [← getV (by omega), h1] at c0
      have c0 : w.cell? ⟨b, o, none⟩ = _ := c0
      obtain ⟨p, hp⟩ : ∃ p, V.length = p + 1 := ⟨V.length - 1, by omega⟩
      have hpe : V.length - 1 = p := by omega
      have hDR : drRate V = near ((pr V p 1 - pr V p 0 - drOff V) * 1000000) (pr V p 0 - pr V 0 0) := by unfold drRate; rw [hpe]
      rw [hpe] at hlast
      obtain ⟨g1, ⟨g2, g3⟩, ⟨g4, g5⟩, -⟩ := HR.out p (by omega)
      obtain ⟨B', c1', e0, hB'⟩ := hc p (by omega)
      obtain ⟨b2, o2, rfl, hb2, f0, f1⟩ := pair_at (by omega) hB' g1
      rw [← getV (by omega), g1] at e0
      have hDO : drOff V = pr V 0 1 - pr V 0 0 := rfl
      rw [hDO] at hDR
      have HDR := hid hDR
      have HDO := hid hDO
      obtain rfl : q = V.length := by omega
      clear hc hB hB' hDR hDO
      generalize pr V 0 0 = x0 at *
      generalize pr V 0 1 = x1 at *
      generalize pr V p 0 = y0 at *
      generalize pr V p 1 = y1 at *
      go_wp2
      (refine wp_region_ex (by kernel_rfl) (by kernel_rfl) ?_; (repeat (go_big_quiet_step ((fail)))); refine wpQuiet_nil ?_; rintro _ ⟨k, rfl⟩)
      go_wp2
      (refine wp_region_ex (by kernel_rfl) (by kernel_rfl) ?_; (repeat (go_big_quiet_step ((((go_at_call 59; exact calls_ex_same (div_any _ _ _ (by omega) (by omega) (by omega) (by omega)))))))); refine wpQuiet_nil ?_; rintro _ ⟨k, rfl⟩)
      go_wp2
      go_ret3
      refine ⟨by rw [HDR.out, HDO.out]; rfl, ?_⟩
      (refine Ok.toEx ?_; (repeat (first | (with_reducible exact Ok.rf _) | (with_reducible refine Ok.alloc ?_ _) | (with_reducible refine Ok.ex ?_ _) | (with_reducible refine Ok.drew ?_) | (with_reducible refine Ok.setCellI ?_ _ _ _))))
end
end Go.Proofs.Ytfabohjejgdcgaa
