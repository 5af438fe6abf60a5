/-
  DriftOf of the program, and its law. Conditions: those typed at each theorem.
-/
import Derived.Test.YtpapphhbogngcaaTcS
namespace Go.Proofs.Ytpapphhbogngcaa
open Go.RowKit Tc
section
set_option maxHeartbeats 6400000
set_option maxRecDepth 20000
theorem iDrift_no (A : Option Addr) (c : Nat) (V : List (List Int)) (w : World) [hl : Iss w A V] (hn : V.length ≤ 1048576) (hr : ¬ okDr V) :
    Calls Try.prog 12 #[.slice A V.length c] w fun e w' => e = .returned (.tuple #[.int .i64 0, .int .i64 0, .int .i64 2]) ∧ ∃ k : Ex w, w' = k.v := by
  by_cases hv : V.length < 2
  · go_enter Try.func12, Try.ntmps12
    go_wp2
    (go_ret3; refine ⟨by first | rfl | (simp; done), ?_⟩; (refine Ok.toEx ?_; (repeat (first | (with_reducible exact Ok.rf _) | (with_reducible refine Ok.alloc ?_ _) | (with_reducible refine Ok.ex ?_ _) | (with_reducible refine Ok.drew ?_) | (with_reducible refine Ok.setCellI ?_ _ _ _) | (with_reducible refine Ok.exb ?_ _)))))
  by_cases hv2 : 64 < V.length
  · have hv : 2 ≤ V.length := by omega
    go_enter Try.func12, Try.ntmps12
    go_wp2_with ((go_at_call 43; first | (refine (wi_yes _ _ _ _ (by omega) (by omega)).mono ?_; rintro e w' ⟨rfl, rfl⟩) | (refine (wi_no _ _ _ _ (by omega)).mono ?_; rintro e w' ⟨rfl, rfl⟩)))
    (go_ret3; refine ⟨by first | rfl | (simp; done), ?_⟩; (refine Ok.toEx ?_; (repeat (first | (with_reducible exact Ok.rf _) | (with_reducible refine Ok.alloc ?_ _) | (with_reducible refine Ok.ex ?_ _) | (with_reducible refine Ok.drew ?_) | (with_reducible refine Ok.setCellI ?_ _ _ _) | (with_reducible refine Ok.exb ?_ _)))))
  have hv : 2 ≤ V.length := by omega
  have hv2 : V.length ≤ 64 := by omega
  have HA := hid hl.at_
  have HR : Hid (¬ ∀ i, i < V.length → drAt V i) := hid fun h => hr ⟨⟨hv, hv2⟩, h⟩
  clear hr
  go_enter Try.func12, Try.ntmps12
  go_wp2_with ((go_at_call 43; first | (refine (wi_yes _ _ _ _ (by omega) (by omega)).mono ?_; rintro e w' ⟨rfl, rfl⟩) | (refine (wi_no _ _ _ _ (by omega)).mono ?_; rintro e w' ⟨rfl, rfl⟩)))
  go_loopw [16] (fun t wr => ∃ q : Nat, q ≤ V.length ∧ t = .int .i64 q ∧ (∀ i, i < q → drAt V i) ∧ ∃ j : Ex w, wr = j.v) (fun t _ => V.length - (intOf t).toNat)
  case atStart => exact ⟨0, Nat.zero_le _, rfl, fun i h => absurd h (by omega), Ex.rf w, rfl⟩
  case round =>
    obtain ⟨q, hq, rfl, hs, j0, rfl⟩ := hrel
    have HS := hid hs
    clear hs
    by_cases hlt : q < V.length
    · obtain ⟨b, o, rfl, hbw, hc⟩ := HA.out (by omega)
      have HN : Hid (drAt V q → ∀ i, i < q + 1 → drAt V i) := hid fun h i hiq => by
        rcases Nat.lt_or_ge i q with h1 | h1
        · exact HS.out i h1
        · obtain rfl : i = q := by omega
          exact h
      obtain ⟨B, c1, c0, hB⟩ := hc q hlt
      have hp := pair_at hlt hB
      rw [← getV hlt] at c0
      have hB := hid hB
      rcases drAt_cases V q with ⟨h0, h1, ⟨h2, h3⟩, ⟨h4, h5⟩, h6 | ⟨h6, h7⟩⟩ | ⟨h0, h1⟩ | ⟨h0, h1, h2 | h2⟩ | ⟨h0, h1, ⟨h2, h3⟩, h4 | h4⟩ | ⟨h0, h1, ⟨h2, h3⟩, ⟨h4, h5⟩, h6, h7⟩
      · subst h6
        obtain ⟨b1, o1, rfl, hb1, d0, d1⟩ := hp h1
        rw [h1] at c0
        have c0 : w.cell? ⟨b, o, none⟩ = _ := c0
        have H0 := hid h0
        clear hc h0
        go_wp2
        (refine wp_region_ex (by kernel_rfl) (by kernel_rfl) ?_; (repeat (go_big_quiet_step (((go_at_call 43; first | exact calls_ex_same (wi_yes _ _ _ _ (by omega) (by omega)) | exact calls_ex_same (wi_no _ _ _ _ (by omega))))))); refine wpQuiet_nil ?_; rintro _ ⟨k, rfl⟩)
        go_wp2
        go_roundw
        case rel => exact ⟨1, by omega, by go_num, HN.out H0.out, j0.tr k, rfl⟩
        case measure => simp [intOf]; omega
      · obtain ⟨b1, o1, rfl, hb1, d0, d1⟩ := hp h1
        rw [h1] at c0
        obtain ⟨p, rfl⟩ : ∃ p, q = p + 1 := ⟨q - 1, by omega⟩
        simp only [Nat.add_sub_cancel] at h7
        obtain ⟨B', c1', c0', hB'⟩ := hc p (by omega)
        have hp' := pair_at (by omega) hB' (HS.out p (by omega)).1
        rw [← getV (by omega), (HS.out p (by omega)).1] at c0'
        obtain ⟨b2, o2, rfl, hb2, e0, e1⟩ := hp'
        have H0 := hid h0
        clear hc h0 hp hB'
        go_wp2
        (refine wp_region_ex (by kernel_rfl) (by kernel_rfl) ?_; (repeat (go_big_quiet_step (((go_at_call 43; first | exact calls_ex_same (wi_yes _ _ _ _ (by omega) (by omega)) | exact calls_ex_same (wi_no _ _ _ _ (by omega))))))); refine wpQuiet_nil ?_; rintro _ ⟨k, rfl⟩)
        go_wp2
        go_roundw
        case rel => exact ⟨p + 1 + 1, by omega, by go_num, HN.out H0.out, j0.tr k, rfl⟩
        case measure => simp [intOf]; omega
      · clear hc hp
        have h1' : ((V.getD q []).length : Int) ≠ 2 := by omega
        generalize (V.getD q []).length = n at *
        have hb1 : ((n : Int) == 2) = false := by rw [beq_eq_false_iff_ne]; exact h1'
        have hb2 : ((n : Int) != 2) = true := by rw [bne, hb1]; rfl
        go_wp2
        (refine wp_region_ex (by kernel_rfl) (by kernel_rfl) ?_; (repeat (go_big_quiet_step (((go_at_call 43; first | exact calls_ex_same (wi_yes _ _ _ _ (by omega) (by omega)) | exact calls_ex_same (wi_no _ _ _ _ (by omega))))))); refine wpQuiet_nil ?_; rintro _ ⟨k, rfl⟩)
        go_wp2
        (go_ret3; refine ⟨by first | rfl | (simp; done), ?_⟩; (refine Ok.toEx ?_; (repeat (first | (with_reducible exact Ok.rf _) | (with_reducible refine Ok.alloc ?_ _) | (with_reducible refine Ok.ex ?_ _) | (with_reducible refine Ok.drew ?_) | (with_reducible refine Ok.setCellI ?_ _ _ _) | (with_reducible refine Ok.exb ?_ _)))))
      · obtain ⟨b1, o1, rfl, hb1, d0, d1⟩ := hp h1
        rw [h1] at c0
        clear hc
        go_wp2
        (refine wp_region_ex (by kernel_rfl) (by kernel_rfl) ?_; (repeat (go_big_quiet_step (((go_at_call 43; first | exact calls_ex_same (wi_yes _ _ _ _ (by omega) (by omega)) | exact calls_ex_same (wi_no _ _ _ _ (by omega))))))); refine wpQuiet_nil ?_; rintro _ ⟨k, rfl⟩)
        go_wp2
        (go_ret3; refine ⟨by first | rfl | (simp; done), ?_⟩; (refine Ok.toEx ?_; (repeat (first | (with_reducible exact Ok.rf _) | (with_reducible refine Ok.alloc ?_ _) | (with_reducible refine Ok.ex ?_ _) | (with_reducible refine Ok.drew ?_) | (with_reducible refine Ok.setCellI ?_ _ _ _) | (with_reducible refine Ok.exb ?_ _)))))
      · obtain ⟨b1, o1, rfl, hb1, d0, d1⟩ := hp h1
        rw [h1] at c0
        clear hc
        go_wp2
        (refine wp_region_ex (by kernel_rfl) (by kernel_rfl) ?_; (repeat (go_big_quiet_step (((go_at_call 43; first | exact calls_ex_same (wi_yes _ _ _ _ (by omega) (by omega)) | exact calls_ex_same (wi_no _ _ _ _ (by omega))))))); refine wpQuiet_nil ?_; rintro _ ⟨k, rfl⟩)
        go_wp2
        (go_ret3; refine ⟨by first | rfl | (simp; done), ?_⟩; (refine Ok.toEx ?_; (repeat (first | (with_reducible exact Ok.rf _) | (with_reducible refine Ok.alloc ?_ _) | (with_reducible refine Ok.ex ?_ _) | (with_reducible refine Ok.drew ?_) | (with_reducible refine Ok.setCellI ?_ _ _ _) | (with_reducible refine Ok.exb ?_ _)))))
      · obtain ⟨b1, o1, rfl, hb1, d0, d1⟩ := hp h1
        rw [h1] at c0
        clear hc
        go_wp2
        (refine wp_region_ex (by kernel_rfl) (by kernel_rfl) ?_; (repeat (go_big_quiet_step (((go_at_call 43; first | exact calls_ex_same (wi_yes _ _ _ _ (by omega) (by omega)) | exact calls_ex_same (wi_no _ _ _ _ (by omega))))))); refine wpQuiet_nil ?_; rintro _ ⟨k, rfl⟩)
        go_wp2
        (go_ret3; refine ⟨by first | rfl | (simp; done), ?_⟩; (refine Ok.toEx ?_; (repeat (first | (with_reducible exact Ok.rf _) | (with_reducible refine Ok.alloc ?_ _) | (with_reducible refine Ok.ex ?_ _) | (with_reducible refine Ok.drew ?_) | (with_reducible refine Ok.setCellI ?_ _ _ _) | (with_reducible refine Ok.exb ?_ _)))))
      · obtain ⟨b1, o1, rfl, hb1, d0, d1⟩ := hp h1
        rw [h1] at c0
        clear hc
        go_wp2
        (refine wp_region_ex (by kernel_rfl) (by kernel_rfl) ?_; (repeat (go_big_quiet_step (((go_at_call 43; first | exact calls_ex_same (wi_yes _ _ _ _ (by omega) (by omega)) | exact calls_ex_same (wi_no _ _ _ _ (by omega))))))); refine wpQuiet_nil ?_; rintro _ ⟨k, rfl⟩)
        go_wp2
        (go_ret3; refine ⟨by first | rfl | (simp; done), ?_⟩; (refine Ok.toEx ?_; (repeat (first | (with_reducible exact Ok.rf _) | (with_reducible refine Ok.alloc ?_ _) | (with_reducible refine Ok.ex ?_ _) | (with_reducible refine Ok.drew ?_) | (with_reducible refine Ok.setCellI ?_ _ _ _) | (with_reducible refine Ok.exb ?_ _)))))
      · obtain ⟨b1, o1, rfl, hb1, d0, d1⟩ := hp h1
        rw [h1] at c0
        obtain ⟨p, rfl⟩ : ∃ p, q = p + 1 := ⟨q - 1, by omega⟩
        simp only [Nat.add_sub_cancel] at h7
        obtain ⟨B', c1', c0', hB'⟩ := hc p (by omega)
        have hp' := pair_at (by omega) hB' (HS.out p (by omega)).1
        rw [← getV (by omega), (HS.out p (by omega)).1] at c0'
        obtain ⟨b2, o2, rfl, hb2, e0, e1⟩ := hp'
        clear hc hp hB'
        go_wp2
        (refine wp_region_ex (by kernel_rfl) (by kernel_rfl) ?_; (repeat (go_big_quiet_step (((go_at_call 43; first | exact calls_ex_same (wi_yes _ _ _ _ (by omega) (by omega)) | exact calls_ex_same (wi_no _ _ _ _ (by omega))))))); refine wpQuiet_nil ?_; rintro _ ⟨k, rfl⟩)
        go_wp2
        (go_ret3; refine ⟨by first | rfl | (simp; done), ?_⟩; (refine Ok.toEx ?_; (repeat (first | (with_reducible exact Ok.rf _) | (with_reducible refine Ok.alloc ?_ _) | (with_reducible refine Ok.ex ?_ _) | (with_reducible refine Ok.drew ?_) | (with_reducible refine Ok.setCellI ?_ _ _ _) | (with_reducible refine Ok.exb ?_ _)))))
    · exact absurd (fun i hi => HS.out i (by omega)) HR.out
theorem iDrift_yes (A : Option Addr) (c : Nat) (V : List (List Int)) (w : World) [hl : Iss w A V] (hr : okDr V) :
    Calls Try.prog 12 #[.slice A V.length c] w fun e w' => e = .returned (.tuple #[.int .i64 (drOff V), .int .i64 (drRate V), .int .i64 0]) ∧ ∃ k : Ex w, w' = k.v := by
  have hv := hr.1.1
  have hv2 := hr.1.2
  have hlast := pr_lt hr (V.length - 1) (by omega) (by omega)
  have HA := hid hl.at_
  have HR := hid hr.2
  clear hr
  go_enter Try.func12, Try.ntmps12
  go_wp2_with ((go_at_call 43; first | (refine (wi_yes _ _ _ _ (by omega) (by omega)).mono ?_; rintro e w' ⟨rfl, rfl⟩) | (refine (wi_no _ _ _ _ (by omega)).mono ?_; rintro e w' ⟨rfl, rfl⟩)))
  go_loopw [16] (fun t wr => ∃ q : Nat, q ≤ V.length ∧ t = .int .i64 q ∧ ∃ j : Ex w, wr = j.v) (fun t _ => V.length - (intOf t).toNat)
  case atStart => exact ⟨0, Nat.zero_le _, rfl, Ex.rf w, rfl⟩
  case round =>
    obtain ⟨q, hq, rfl, j0, rfl⟩ := hrel
    obtain ⟨b, o, rfl, hbw, hc⟩ := HA.out (by omega)
    by_cases hlt : q < V.length
    · obtain ⟨h1, ⟨h2, h3⟩, ⟨h4, h5⟩, h7⟩ := HR.out q hlt
      obtain ⟨B, c1, c0, hB⟩ := hc q hlt
      obtain ⟨b1, o1, rfl, hb1, d0, d1⟩ := pair_at hlt hB h1
      rw [← getV hlt, h1] at c0
      by_cases h6 : q = 0
      · subst h6
        have c0 : w.cell? ⟨b, o, none⟩ = _ := c0
        clear hc hB h7
        go_wp2
        (refine wp_region_ex (by kernel_rfl) (by kernel_rfl) ?_; (repeat (go_big_quiet_step (((go_at_call 43; first | exact calls_ex_same (wi_yes _ _ _ _ (by omega) (by omega)) | exact calls_ex_same (wi_no _ _ _ _ (by omega))))))); refine wpQuiet_nil ?_; rintro _ ⟨k, rfl⟩)
        go_wp2
        go_roundw
        case rel => exact ⟨1, by omega, by go_num, j0.tr k, rfl⟩
        case measure => simp [intOf]; omega
      · have h7 := h7 (by omega)
        obtain ⟨p, rfl⟩ : ∃ p, q = p + 1 := ⟨q - 1, by omega⟩
        simp only [Nat.add_sub_cancel] at h7
        obtain ⟨B', c1', c0', hB'⟩ := hc p (by omega)
        have hp' := pair_at (by omega) hB' (HR.out p (by omega)).1
        rw [← getV (by omega), (HR.out p (by omega)).1] at c0'
        obtain ⟨b2, o2, rfl, hb2, e0, e1⟩ := hp'
        clear hc hB hB'
        go_wp2
        (refine wp_region_ex (by kernel_rfl) (by kernel_rfl) ?_; (repeat (go_big_quiet_step (((go_at_call 43; first | exact calls_ex_same (wi_yes _ _ _ _ (by omega) (by omega)) | exact calls_ex_same (wi_no _ _ _ _ (by omega))))))); refine wpQuiet_nil ?_; rintro _ ⟨k, rfl⟩)
        go_wp2
        go_roundw
        case rel => exact ⟨p + 1 + 1, by omega, by go_num, j0.tr k, rfl⟩
        case measure => simp [intOf]; omega
    · obtain ⟨h1, ⟨h2, h3⟩, ⟨h4, h5⟩, -⟩ := HR.out 0 (by omega)
      obtain ⟨B, c1, c0, hB⟩ := hc 0 (by omega)
      obtain ⟨b1, o1, rfl, hb1, d0, d1⟩ := pair_at (by omega) hB h1
      rw [← getV (by omega), h1] at c0
      have c0 : w.cell? ⟨b, o, none⟩ = _ := c0
      obtain ⟨p, hp⟩ : ∃ p, V.length = p + 1 := ⟨V.length - 1, by omega⟩
      have hpe : V.length - 1 = p := by omega
      have hDR : drRate V = near ((pr V p 1 - pr V p 0 - drOff V) * 1000000) (pr V p 0 - pr V 0 0) := by unfold drRate; rw [hpe]
      rw [hpe] at hlast
      obtain ⟨g1, ⟨g2, g3⟩, ⟨g4, g5⟩, -⟩ := HR.out p (by omega)
      obtain ⟨B', c1', e0, hB'⟩ := hc p (by omega)
      obtain ⟨b2, o2, rfl, hb2, f0, f1⟩ := pair_at (by omega) hB' g1
      rw [← getV (by omega), g1] at e0
      have hDO : drOff V = pr V 0 1 - pr V 0 0 := rfl
      rw [hDO] at hDR
      have HDR := hid hDR
      have HDO := hid hDO
      obtain rfl : q = V.length := by omega
      clear hc hB hB' hDR hDO
      generalize pr V 0 0 = x0 at *
      generalize pr V 0 1 = x1 at *
      generalize pr V p 0 = y0 at *
      generalize pr V p 1 = y1 at *
      go_wp2
      (refine wp_region_ex (by kernel_rfl) (by kernel_rfl) ?_; (repeat (go_big_quiet_step ((fail)))); refine wpQuiet_nil ?_; rintro _ ⟨k, rfl⟩)
      go_wp2
      (refine wp_region_ex (by kernel_rfl) (by kernel_rfl) ?_; (repeat (go_big_quiet_step ((fail)))); refine wpQuiet_nil ?_; rintro _ ⟨k, rfl⟩)
      go_wp2
      (refine wp_region_ex (by kernel_rfl) (by kernel_rfl) ?_; (repeat (go_big_quiet_step ((((go_at_call 48; exact calls_ex (nearest_any _ _ _ (by omega) (by omega) (by omega) (by omega)))))))); refine wpQuiet_nil ?_; rintro _ ⟨k, rfl⟩)
      go_wp2
      go_ret3
      refine ⟨by rw [HDR.out, HDO.out]; rfl, ?_⟩
      (refine Ok.toEx ?_; (repeat (first | (with_reducible exact Ok.rf _) | (with_reducible refine Ok.alloc ?_ _) | (with_reducible refine Ok.ex ?_ _) | (with_reducible refine Ok.drew ?_) | (with_reducible refine Ok.setCellI ?_ _ _ _) | (with_reducible refine Ok.exb ?_ _))))
end
end Go.Proofs.Ytpapphhbogngcaa
