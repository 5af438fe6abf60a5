/-
  The law of scripts. Conditions: those typed at each theorem.
-/
import Derived.Test.YtonmeffhelaohaaDoorV38
import Derived.Test.YtonmeffhelaohaaDoorV25
import Derived.Test.YtonmeffhelaohaaDoorV23
import Derived.Test.YtonmeffhelaohaaDoorV24
import Derived.Test.YtonmeffhelaohaaDoorV8
import Derived.Test.YtonmeffhelaohaaDoorV22
namespace Go.Proofs.YtonmeffhelaohaaDoor
open Go.RowKit
theorem rs_back {u : List Ln} (hv : vL u = true) : rsL (scXR u) = u ∧ rsB (scXR u) = true :=
  rs_yes ⟨hv, by unfold scXR; rw [if_pos hv]⟩
section
set_option maxHeartbeats 3200000
set_option maxRecDepth 20000
theorem lFnScripts (A : Option Addr) (l : List Int) (c : Nat) (w : World) [Tb w] [Es w] [Er w] [Ml w] (hl : Rd 1 byC w A l) (hb : By l) :
    Calls Tryd.prog 5 #[.slice A l.length c] w fun e w' => e = .returned (.bool true) ∧ ∃ k : Ex w, w' = k.v := by
  by_cases h1 : 1048576 < l.length
  · have h1i : (1048576 : Int) < (l.length : Int) := by omega
    clear h1
    go_enter Tryd.func5, Tryd.ntmps5
    go_wp2_with (fail)
    (go_ret; refine ⟨by first | rfl | (simp; done), ?_⟩; (refine Ok.toEx ?_; (repeat (first | (with_reducible exact Ok.rf _) | (with_reducible refine Ok.alloc ?_ _) | (with_reducible refine Ok.ex ?_ _) | (with_reducible refine Ok.drew ?_) | (with_reducible refine Ok.setCellI ?_ _ _ _) | (with_reducible refine Ok.exb ?_ _)))))
  have h1i : ¬ (1048576 : Int) < (l.length : Int) := by omega
  clear h1
  go_enter Tryd.func5, Tryd.ntmps5
  go_wp2_with (go_at_call 14; go_loud (refine (r8sc_any _ _ l _ hb.h).mono ?_; rintro e w' ⟨A', c', u, hv, hk, hcap, rfl, k, rfl, hr⟩))
  haveI hk' := hk
  haveI hr' := hr
  haveI hL : Lns k.v A' u := inferInstance
  have hkL := vL_of hv
  have h40 := hkL.1
  obtain ⟨co, s, ha, hs, hsn, hcase⟩ := ansL_facts u 2000
  have hco : co = 0 ∨ co = 5 ∨ co = 6 := by
    have h2 := ansL_go hv (b := 2000) (by omega)
    rw [ha] at h2
    have h3 := (runL_ok hkL (2000 : Int).toNat RS.zero (RS.zero_ok u)).2.1
    rw [← h2] at h3
    exact h3
  have HST := hid (fun (h0 : co = 0) => ans_steps (s := s) hv (by rw [← h0]; exact ha))
  have HA := hid ha
  have HS := hid hs
  have HK := hid hkL
  have HV := hid hv
  obtain ⟨R, hR⟩ : ∃ R, scXR u = R := ⟨_, rfl⟩
  have HR := hid hR
  have hRs : R.size ≤ 1048576 := by
    have h2 := scX_size hkL u.length (Nat.le_refl _)
    rw [← hR]
    unfold scXR
    rw [if_pos hv]
    omega
  have HRD := hid (fun (W : World) (i1 : Tb W) (i2 : Es W) (i3 : Er W) (i4 : Ml W) => iReadS_any R W hRs)
  have hbk := rs_back hv
  rw [hR] at hbk
  unfold RsPost at HRD
  rw [hbk.1, hbk.2] at HRD
  have HSM : Hid (sameL u u = true) := hid (sameL_yes rfl fun k h _ => by simp [eqLn])
  clear ha hs hkL hcase hv hbk hR
  by_cases hc0 : co = 0
  rotate_left
  · rcases hco with rfl | rfl | rfl
    · exact absurd rfl hc0
    all_goals
      clear hc0
      go_wp2_with (first | (go_at_call 15; go_loud ((refine (iRunScript_any _ _ u 2000 _ hcap ?_ HA.out).mono ?_); (· omega); rintro e w' ⟨Ae, ce, rfl, ke, rfl, hoe, hfe⟩)) | (go_at_call 16; go_loud ((refine (iTime_any _ _ u 2000 _ hcap ?_ HA.out).mono ?_); (· omega); rintro e w' ⟨rfl, kt, rfl⟩)) | (go_at_call 17; go_loud ((refine (iSteps_any _ _ u 2000 _ hcap ?_ HA.out).mono ?_); (· omega); rintro e w' ⟨rfl, ks, rfl⟩)) | (go_at_call 18; go_loud ((refine (iscx_any _ _ u _ hcap ?_ HR.out).mono ?_); (· omega); rintro e w' ⟨rfl, kx, rfl⟩)) | (go_at_call 10; go_loud ((refine (HRD.out _ inferInstance inferInstance inferInstance inferInstance).mono ?_); rintro e w' ⟨Ar, cr, rfl, kr, rfl, hor, hfr, hir⟩)) | (go_at_call 19; go_loud ((refine (sSame_any _ _ _ _ u u _).mono ?_); rw [HSM.out]; rintro e w' ⟨rfl, km, rfl⟩)))
      (go_ret; refine ⟨by first | rfl | (simp; done), ?_⟩; (refine Ok.toEx ?_; (repeat (first | (with_reducible exact Ok.rf _) | (with_reducible refine Ok.alloc ?_ _) | (with_reducible refine Ok.ex ?_ _) | (with_reducible refine Ok.drew ?_) | (with_reducible refine Ok.setCellI ?_ _ _ _) | (with_reducible refine Ok.exb ?_ _)))))
  subst hc0
  obtain ⟨st1, st2, st3, st4, st5⟩ := HST.out rfl
  have HST3 := hid st3
  have HST4 := hid st4
  clear hco HST st3 st4
  go_wp2_with (first | (go_at_call 15; go_loud ((refine (iRunScript_any _ _ u 2000 _ hcap ?_ HA.out).mono ?_); (· omega); rintro e w' ⟨Ae, ce, rfl, ke, rfl, hoe, hfe⟩)) | (go_at_call 16; go_loud ((refine (iTime_any _ _ u 2000 _ hcap ?_ HA.out).mono ?_); (· omega); rintro e w' ⟨rfl, kt, rfl⟩)) | (go_at_call 17; go_loud ((refine (iSteps_any _ _ u 2000 _ hcap ?_ HA.out).mono ?_); (· omega); rintro e w' ⟨rfl, ks, rfl⟩)) | (go_at_call 18; go_loud ((refine (iscx_any _ _ u _ hcap ?_ HR.out).mono ?_); (· omega); rintro e w' ⟨rfl, kx, rfl⟩)) | (go_at_call 10; go_loud ((refine (HRD.out _ inferInstance inferInstance inferInstance inferInstance).mono ?_); rintro e w' ⟨Ar, cr, rfl, kr, rfl, hor, hfr, hir⟩)) | (go_at_call 19; go_loud ((refine (sSame_any _ _ _ _ u u _).mono ?_); rw [HSM.out]; rintro e w' ⟨rfl, km, rfl⟩)))
  have hevn := HS.out.evn
  have HEV : Hid (∀ k (h : k < s.ev.length), 0 ≤ (s.ev[k]).t ∧ (s.ev[k]).t ≤ s.tm) := hid fun k h => (HS.out.evs _ (List.getElem_mem h)).1
  have HMO : Hid (∀ k k' (h : k < s.ev.length) (h' : k' < s.ev.length), k < k' → (s.ev[k]).t ≤ (s.ev[k']).t) := hid fun k k' h h' hk => List.pairwise_iff_getElem.1 HS.out.mono k k' h h' hk
  have HRDE := hid ((inferInstance : Rd 2 evC km.v Ae s.ev).at_)
  go_loopw [12, 13] (fun p i wr => ∃ (q : Nat) (P : Int), q ≤ s.ev.length ∧ i = .int .i64 (q : Int) ∧ p = .int .i64 P ∧ Hid (∀ k (h : k < s.ev.length), q ≤ k → P ≤ (s.ev[k]).t) ∧ ∃ j : Ex km.v, wr = j.v) (fun _ i _ => s.ev.length - (intOf i).toNat)
  case atStart => exact ⟨0, 0, Nat.zero_le _, rfl, rfl, hid (fun k h _ => (HEV.out k h).1), Ex.rf _, rfl⟩
  case round =>
    obtain ⟨q, P, hq, rfl, rfl, HP, j0, rfl⟩ := hrel
    by_cases hlt : q < s.ev.length
    · have h1 := HEV.out q hlt
      have h2 := HP.out q hlt (Nat.le_refl _)
      obtain ⟨b, o, rfl, hbw, hc⟩ := HRDE.out (by omega)
      have c0 : km.v.cell? ⟨b, o + q * 2, none⟩ = some (.int .i64 (s.ev[q]).t) := by have := hc q hlt 0 _ rfl; simpa using this
      have e0 : o + q * 2 + 0 = o + q * 2 := rfl
      have HM2 : Hid (∀ k (h : k < s.ev.length), q + 1 ≤ k → (s.ev[q]).t ≤ (s.ev[k]).t) := hid fun k h hk => HMO.out q k hlt h (by omega)
      have hqi : (q : Int) < (s.ev.length : Int) := by omega
      clear hc
      go_wp2_with (fail)
      go_roundw
      case rel => exact ⟨q + 1, (s.ev[q]).t, by omega, by go_num, rfl, HM2, by (refine Ok.toEx ?_; (repeat (first | (with_reducible exact Ok.rf _) | (with_reducible refine Ok.alloc ?_ _) | (with_reducible refine Ok.ex ?_ _) | (with_reducible refine Ok.drew ?_) | (with_reducible refine Ok.setCellI ?_ _ _ _) | (with_reducible refine Ok.exb ?_ _))))⟩
      case measure => simp [intOf]; omega
    · have hqi : ¬ (q : Int) < (s.ev.length : Int) := by omega
      by_cases hn0 : s.n = 0
      · have hu0 := st2 hn0
        have hn0i : (s.n : Int) = 0 := by omega
        have hu0i : (u.length : Int) = 0 := by omega
        go_wp2_with (fail)
        all_goals (go_ret; refine ⟨by first | rfl | (simp; done), ?_⟩; (refine Ok.toEx ?_; (repeat (first | (with_reducible exact Ok.rf _) | (with_reducible refine Ok.alloc ?_ _) | (with_reducible refine Ok.ex ?_ _) | (with_reducible refine Ok.drew ?_) | (with_reducible refine Ok.setCellI ?_ _ _ _) | (with_reducible refine Ok.exb ?_ _)))))
      · have hn1 : (1 : Int) ≤ (s.n : Int) := by omega
        have hn2 : (s.n : Int) ≤ 2000 := by omega
        have HA1 := hid (HST3.out (by omega))
        go_wp2_with (go_at_call 17; go_loud ((refine (iSteps_any _ _ u (s.n : Int) _ hcap ?_ HA1.out).mono ?_); (· omega); rintro e w' ⟨rfl, ks2, rfl⟩))
        have hunr : (unrR u 0 s).length = (unrF s.seen u.length).length := by unfold unrR; rw [if_pos rfl]
        have hule : (unrR u 0 s).length ≤ u.length := unrR_len u 0 s
        have hun : ¬ ((u.length : Int) - ((unrR u 0 s).length : Int)) > (s.n : Int) := by omega
        have hww : IntKind.i64.wrap ((u.length : Int) - ((unrR u 0 s).length : Int)) = (u.length : Int) - ((unrR u 0 s).length : Int) := IntWalk.i64_in _ (by omega)
        have hw1 : IntKind.i64.wrap ((s.n : Int) - 1) = (s.n : Int) - 1 := IntWalk.i64_in _ (by omega)
        by_cases hs1 : s.n = 1
        · have hs1i : (s.n : Int) = 1 := by omega
          go_wp2_with (go_at_call 20; go_loud ((refine (iUnr_any _ _ u 2000 _ hcap ?_ HA.out).mono ?_); (· omega); rintro e w' ⟨Au, cu, rfl, ku, rfl, hou, hfu⟩))
          all_goals (go_ret; refine ⟨by first | rfl | (simp; done), ?_⟩; (refine Ok.toEx ?_; (repeat (first | (with_reducible exact Ok.rf _) | (with_reducible refine Ok.alloc ?_ _) | (with_reducible refine Ok.ex ?_ _) | (with_reducible refine Ok.drew ?_) | (with_reducible refine Ok.setCellI ?_ _ _ _) | (with_reducible refine Ok.exb ?_ _)))))
        · have hs1i : ¬ (s.n : Int) = 1 := by omega
          have HA4 := hid (HST4.out (by omega))
          go_wp2_with (first | (go_at_call 20; go_loud ((refine (iUnr_any _ _ u 2000 _ hcap ?_ HA.out).mono ?_); (· omega); rintro e w' ⟨Au, cu, rfl, ku, rfl, hou, hfu⟩)) | (go_at_call 17; go_loud ((refine (iSteps_any _ _ u ((s.n : Int) - 1) _ hcap ?_ HA4.out).mono ?_); (· omega); rintro e w' ⟨rfl, ks3, rfl⟩)))
          all_goals (go_ret; refine ⟨by first | rfl | (simp; done), ?_⟩; (refine Ok.toEx ?_; (repeat (first | (with_reducible exact Ok.rf _) | (with_reducible refine Ok.alloc ?_ _) | (with_reducible refine Ok.ex ?_ _) | (with_reducible refine Ok.drew ?_) | (with_reducible refine Ok.setCellI ?_ _ _ _) | (with_reducible refine Ok.exb ?_ _)))))
end
end Go.Proofs.YtonmeffhelaohaaDoor
