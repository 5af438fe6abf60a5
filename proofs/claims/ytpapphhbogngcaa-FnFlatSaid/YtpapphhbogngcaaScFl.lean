/-
  The law of flat scripts. Conditions: those typed at each theorem.
-/
import Derived.Test.YtpapphhbogngcaaScFp
import Derived.Test.YtpapphhbogngcaaScDr
import Derived.Test.YtpapphhbogngcaaScEv
import Derived.Test.YtpapphhbogngcaaScTime
import Derived.Test.YtpapphhbogngcaaOpenB
import Derived.Laws.StructEq
import Derived.BigQuiet
namespace Go.Proofs.Ytpapphhbogngcaa
open Go.RowKit
section
set_option maxHeartbeats 3200000
set_option maxRecDepth 20000
theorem lFnFlat (A : Option Addr) (l : List Int) (c : Nat) (w : World) (hl : Rd 1 byC w A l) (hb : By l) :
    Calls Try.prog 4 #[.slice A l.length c] w fun e w' => e = .returned (.bool true) ∧ ∃ k : Ex w, w' = k.v := by
  by_cases h1 : 1048576 < l.length
  · have h1i : (1048576 : Int) < (l.length : Int) := by omega
    clear h1
    go_enter Try.func4, Try.ntmps4
    go_wp2_with (fail)
    (go_ret; refine ⟨by first | rfl | (simp; done), ?_⟩; (refine Ok.toEx ?_; (repeat (first | (with_reducible exact Ok.rf _) | (with_reducible refine Ok.alloc ?_ _) | (with_reducible refine Ok.ex ?_ _) | (with_reducible refine Ok.drew ?_) | (with_reducible refine Ok.setCellI ?_ _ _ _) | (with_reducible refine Ok.exb ?_ _)))))
  have h1i : ¬ (1048576 : Int) < (l.length : Int) := by omega
  clear h1
  go_enter Try.func4, Try.ntmps4
  go_wp2_with (go_at_call 16; go_loud (refine (r8sc_any _ _ l _ hb.h).mono ?_; rintro e w' ⟨A', c', u, hv, hk, hcap, rfl, k, rfl, hr⟩))
  haveI hk' := hk
  haveI hr' := hr
  haveI hL : Lns k.v A' u := inferInstance
  have hkL := vL_of hv
  have h40 := hkL.1
  obtain ⟨co, s, ha, hs, hsn, hcase⟩ := ansL_facts u 2000
  have hco : co = 0 ∨ co = 5 ∨ co = 6 := by
    have h2 := ansL_go hv (b := 2000) (by omega)
    rw [ha] at h2
    have h3 := (runL_ok hkL (2000 : Int).toNat RS.zero (RS.zero_ok u)).2.1
    rw [← h2] at h3
    exact h3
  have HA := hid ha
  have HS := hid hs
  have HK := hid hkL
  clear ha hkL hcase
  by_cases hc0 : co = 0
  rotate_left
  · have HN := hid (flatR_err (s := s) hc0)
    rcases hco with rfl | rfl | rfl
    · exact absurd rfl hc0
    all_goals
      clear hc0
      go_wp2_with (go_at_call 17; go_loud ((with_reducible refine (iFlatC_any _ _ u 2000 _ hcap ?_ HA.out HS.out).mono ?_); (· omega); rw [HN.out]; rintro e w' ⟨Af, cf, rfl, -, k2, rfl, hof, hff⟩))
      (go_ret; refine ⟨by first | rfl | (simp; done), ?_⟩; (refine Ok.toEx ?_; (repeat (first | (with_reducible exact Ok.rf _) | (with_reducible refine Ok.alloc ?_ _) | (with_reducible refine Ok.ex ?_ _) | (with_reducible refine Ok.drew ?_) | (with_reducible refine Ok.setCellI ?_ _ _ _) | (with_reducible refine Ok.exb ?_ _)))))
  subst hc0
  clear hco
  by_cases hf : 40 < (flF s).length
  · have HN := hid (flatR_full hf)
    clear hf
    go_wp2_with (go_at_call 17; go_loud ((with_reducible refine (iFlatC_any _ _ u 2000 _ hcap ?_ HA.out HS.out).mono ?_); (· omega); rw [HN.out]; rintro e w' ⟨Af, cf, rfl, -, k2, rfl, hof, hff⟩))
    (go_ret; refine ⟨by first | rfl | (simp; done), ?_⟩; (refine Ok.toEx ?_; (repeat (first | (with_reducible exact Ok.rf _) | (with_reducible refine Ok.alloc ?_ _) | (with_reducible refine Ok.ex ?_ _) | (with_reducible refine Ok.drew ?_) | (with_reducible refine Ok.setCellI ?_ _ _ _) | (with_reducible refine Ok.exb ?_ _)))))
  obtain ⟨F, hF⟩ : ∃ F, F = flF s := ⟨_, rfl⟩
  have hN := flatR_ok hf
  have hoks := flatR_oks HS.out 0
  have hvF := flat_ok HS.out (show (flF s).length ≤ 40 by omega)
  obtain ⟨s', hrun, hev, htm⟩ := flat_run HS.out (show (flF s).length ≤ 40 by omega)
  have hcs := flat_cs (s := s)
  rw [hN] at hoks
  rw [← hF] at hN hoks hvF hrun hcs hf
  haveI hoksF : Oks F := hoks
  have hF40 : F.length ≤ 40 := by omega
  have haF : ansL F 2000 = (0, s') := by rw [ansL_go hvF (by omega)]; exact hrun
  have hsF : s'.ok F := by
    have h3 := (runL_ok (vL_of hvF) 2000 RS.zero (RS.zero_ok F)).1
    rw [hrun] at h3
    exact h3
  obtain ⟨rv, hrv⟩ : ∃ rv, csRV F = rv := ⟨_, rfl⟩
  have hre : csRE F = 0 := (csRV_yes hvF).2
  have HN := hid hN
  have HAF := hid haF
  have HSF := hid hsF
  have HEV := hid hev
  have HTM := hid htm
  have HRV := hid hrv
  have HRE := hid hre
  have hcl : rv.length ≤ s.ev.length := by rw [← hrv]; exact hcs
  have hev64 := HS.out.evn
  have htm1 := HS.out.tm
  obtain ⟨htm2, htm3⟩ := htm1
  clear hF hN hvF hrun hev htm haF hsF hrv hre hcs hf
  go_wp2_with (first | (go_at_call 17; go_loud ((with_reducible refine (iFlatC_any _ _ u 2000 _ hcap ?_ HA.out HS.out).mono ?_); (· omega); rw [HN.out]; rintro e w' ⟨Af, cf, rfl, hcf, k2, rfl, hof, hff⟩; haveI hof' := hof; have hcf' : F.length ≤ cf := hcf)) | (go_at_call 18; go_loud ((with_reducible refine (sRunScript_any _ _ u 2000 _ ?_ HA.out HS.out (.inl rfl)).mono ?_); (· omega); rintro e w' ⟨Ax, cx, rfl, k3, rfl, hox, hfx⟩; haveI hox' := hox)) | (go_at_call 18; go_loud ((with_reducible refine (sRunScript_any _ _ F 2000 _ ?_ HAF.out HSF.out (.inl rfl)).mono ?_); (· omega); rw [HEV.out]; rintro e w' ⟨Ay, cy, rfl, k4, rfl, hoy, hfy⟩; haveI hoy' := hoy)) | (go_at_call 19; go_loud ((with_reducible refine (sTime_ok _ _ u 2000 _ ?_ HA.out).mono ?_); (· omega); rintro e w' ⟨rfl, k5, rfl⟩)) | (go_at_call 19; go_loud ((with_reducible refine (sTime_ok _ _ F 2000 _ ?_ HAF.out).mono ?_); (· omega); rw [HTM.out]; rintro e w' ⟨rfl, k6, rfl⟩)))
  have HX := hid (evAt (w := k6.v) (A := Ax) (l := s.ev) inferInstance)
  have HY := hid (evAt (w := k6.v) (A := Ay) (l := s.ev) inferInstance)
  go_loopw [14] (fun t wr => ∃ q : Nat, q ≤ s.ev.length ∧ t = .int .i64 q ∧ ∃ j : Ex k6.v, wr = j.v) (fun t _ => s.ev.length - (intOf t).toNat)
  case atStart => exact ⟨0, Nat.zero_le _, rfl, Ex.rf _, rfl⟩
  case round =>
    obtain ⟨q, hq, rfl, j0, rfl⟩ := hrel
    by_cases hlt : q < s.ev.length
    · obtain ⟨bx, ox, rfl, hbx, hcx⟩ := HX.out (by omega)
      obtain ⟨by', oy, rfl, hby, hcy⟩ := HY.out (by omega)
      obtain ⟨c0, c1⟩ := hcx q hlt
      obtain ⟨d0, d1⟩ := hcy q hlt
      clear hcx hcy hox hoy hox' hoy'
      generalize evG s.ev q = x at *
      have hqi : (q : Int) < (s.ev.length : Int) := by omega
      go_wp2_with (fail)
      (refine wp_region_ex (by kernel_rfl) (by kernel_rfl) ?_; (repeat (go_big_quiet_step ((fail)))); refine wpQuiet_nil ?_; rintro _ ⟨k, rfl⟩)
      go_wp2_with (fail)
      go_roundw
      case rel => exact ⟨q + 1, by omega, by go_num, j0.tr k, rfl⟩
      case measure => simp [intOf]; omega
    · obtain rfl : q = s.ev.length := by omega
      have hcli : (rv.length : Int) ≤ (s.ev.length : Int) := by omega
      go_wp2_with (go_at_call 20; go_loud ((with_reducible refine (iCs_any _ _ F _ hcf' ?_ HRV.out HRE.out).mono ?_); (· omega); rintro e w' ⟨Az, cz, rfl, k7, rfl, hoz, hfz⟩))
      (go_ret; refine ⟨by first | rfl | (simp; done), ?_⟩; (refine Ok.toEx ?_; (repeat (first | (with_reducible exact Ok.rf _) | (with_reducible refine Ok.alloc ?_ _) | (with_reducible refine Ok.ex ?_ _) | (with_reducible refine Ok.drew ?_) | (with_reducible refine Ok.setCellI ?_ _ _ _) | (with_reducible refine Ok.exb ?_ _)))))
end
end Go.Proofs.Ytpapphhbogngcaa
