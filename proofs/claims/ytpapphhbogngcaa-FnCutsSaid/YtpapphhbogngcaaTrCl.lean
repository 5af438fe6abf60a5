/-
  The law of cuts. Conditions: those typed at each theorem.
-/
import Derived.Test.YtpapphhbogngcaaTrFp
import Derived.Test.YtpapphhbogngcaaTrDs
import Derived.Test.YtpapphhbogngcaaTrG
import Derived.Test.YtpapphhbogngcaaTrH
import Derived.Test.YtpapphhbogngcaaTrL
import Derived.Test.YtpapphhbogngcaaOpenB
import Derived.Laws.StructEq
import Derived.BigQuiet
namespace Go.Proofs.Ytpapphhbogngcaa
open Go.RowKit
section
set_option maxHeartbeats 6400000
set_option maxRecDepth 20000
theorem b10_no (A : Option Addr) (n c : Nat) (w : World) (h : n ≤ 1048576) : Calls Try.prog 7 #[.slice A n c] w fun e w' => e = .returned (.bool false) ∧ w = w' := by
  have hi : ¬ (1048576 : Int) < (n : Int) := by omega
  go_enter Try.func7, Try.ntmps7
  go_wp2
  go_ret
  exact ⟨by first | rfl | simp, rfl⟩
theorem b10_yes (A : Option Addr) (n c : Nat) (w : World) (h : 1048576 < n) : Calls Try.prog 7 #[.slice A n c] w fun e w' => e = .returned (.bool true) ∧ w = w' := by
  have hi : (1048576 : Int) < (n : Int) := by omega
  go_enter Try.func7, Try.ntmps7
  go_wp2
  go_ret
  exact ⟨by first | rfl | simp, rfl⟩
theorem vt_sz {nm : ByteArray} {l : List Ky} (h : vT nm l = true) : nm.size ≤ 10 ∧ 1 ≤ l.length ∧ l.length ≤ 24 := ⟨(vT_of h).1.1, (vT_of h).2.1.1, (vT_of h).2.1.2⟩
theorem shift_law2 {nm : ByteArray} {l : List Ky} {d : Int} {r : TR3} (h : shiftR nm l d = r) (h0 : r.co = 0) : shiftR r.nm r.l (-d) = ⟨nm, l, 0⟩ ∧ (-7200000 ≤ d ∧ d ≤ 7200000) ∧ r.nm.size ≤ 10 ∧ r.l.length ≤ 24 := by
  refine ⟨shift_law h h0, ?_⟩
  subst h
  by_cases hv : vT nm l = true
  · by_cases hd : -7200000 ≤ d ∧ d ≤ 7200000
    · have e1 : shiftR nm l d = trChk nm (shiftK l d) := by unfold shiftR; rw [if_pos hv, if_pos hd]
      rw [e1] at h0 ⊢
      obtain ⟨h1, h2⟩ := trChk_ok h0
      rw [h2]
      exact ⟨hd, (vt_sz h1).1, (vt_sz h1).2.2⟩
    · have e1 : shiftR nm l d = trErr 2 := by unfold shiftR; rw [if_pos hv, if_neg hd]
      rw [e1] at h0
      simp [trErr] at h0
  · have e1 : shiftR nm l d = trErr 1 := by unfold shiftR; rw [if_neg hv]
    rw [e1] at h0
    simp [trErr] at h0
theorem lFnCuts (A : Option Addr) (l : List Int) (c : Nat) (B : Option Addr) (m : List Int) (d : Nat) (w : World) (hl : Rd 1 byC w A l) (hb : By l) (hl2 : Rd 1 byC w B m) (hb2 : By m) :
    Calls Try.prog 5 #[.slice A l.length c, .slice B m.length d] w fun e w' => e = .returned (.bool true) ∧ ∃ k : Ex w, w' = k.v := by
  by_cases h1 : 1048576 < l.length
  · go_enter Try.func5, Try.ntmps5
    go_wp2_with ((go_at_call 7; go_loud ((with_reducible refine (b10_yes _ _ _ _ ?_).mono ?_); (· omega); rintro e w' ⟨rfl, rfl⟩)))
    (go_ret; refine ⟨by first | rfl | (simp; done), ?_⟩; (refine Ok.toEx ?_; (repeat (first | (with_reducible exact Ok.rf _) | (with_reducible refine Ok.alloc ?_ _) | (with_reducible refine Ok.ex ?_ _) | (with_reducible refine Ok.drew ?_) | (with_reducible refine Ok.setCellI ?_ _ _ _) | (with_reducible refine Ok.exb ?_ _)))))
  by_cases h2 : 1048576 < m.length
  · have h1 : l.length ≤ 1048576 := by omega
    go_enter Try.func5, Try.ntmps5
    go_wp2_with (first | (go_at_call 7; go_loud ((with_reducible refine (b10_no _ _ _ _ ?_).mono ?_); (· omega); rintro e w' ⟨rfl, rfl⟩)) | (go_at_call 7; go_loud ((with_reducible refine (b10_yes _ _ _ _ ?_).mono ?_); (· omega); rintro e w' ⟨rfl, rfl⟩)))
    (go_ret; refine ⟨by first | rfl | (simp; done), ?_⟩; (refine Ok.toEx ?_; (repeat (first | (with_reducible exact Ok.rf _) | (with_reducible refine Ok.alloc ?_ _) | (with_reducible refine Ok.ex ?_ _) | (with_reducible refine Ok.drew ?_) | (with_reducible refine Ok.setCellI ?_ _ _ _) | (with_reducible refine Ok.exb ?_ _)))))
  have h1 : l.length ≤ 1048576 := by omega
  have h2 : m.length ≤ 1048576 := by omega
  have hml : (maxLen : Nat) = 9223372036854775807 := rfl
  go_enter Try.func5, Try.ntmps5
  go_upto_if 46 with (first | (go_at_call 7; go_loud ((with_reducible refine (b10_no _ _ _ _ ?_).mono ?_); (· omega); rintro e w' ⟨rfl, rfl⟩)) | (go_at_call 21; go_loud (refine (drawCut_any _ _ l _ hb.h).mono ?_; rintro e w' ⟨n1, A1, c1, l1, f, u, hs1, hn1, rfl, k1, rfl, hr1⟩; haveI hr1 := hr1)) | (go_at_call 22; go_loud ((with_reducible refine (iCut_any n1 A1 c1 l1 f u _ ?_ ?_).mono ?_); (· omega); (· omega); rintro e w' ⟨A2, c2, rfl, k2, rfl, ho2, hf2, hi2⟩; haveI ho2 := ho2)))
  have HC := hid (cut_law (nm := n1) (l := l1) (f := f) (u := u) rfl)
  generalize cutR n1 l1 f u = R at *
  obtain ⟨rn, rl, rc⟩ := R
  dsimp only at *
  go_cut [10, 11, 12] from 47 to 102 (fun _ _ _ wx => ∃ j : Ex w, wx = j.v)
  case first =>
    by_cases hc : rc = 0
    rotate_left
    · have hcb : (rc == 0) = false := by rw [beq_eq_false_iff_ne]; exact hc
      go_wp2_with (fail)
      go_meet
      case rel => (refine Ok.toEx ?_; (repeat (first | (with_reducible exact Ok.rf _) | (with_reducible refine Ok.alloc ?_ _) | (with_reducible refine Ok.ex ?_ _) | (with_reducible refine Ok.drew ?_) | (with_reducible refine Ok.setCellI ?_ _ _ _) | (with_reducible refine Ok.exb ?_ _))))
    · subst hc
      obtain ⟨hv, rfl, hvt, ⟨hf0, hfu, hu⟩, hl2', hl24, hlast, hall⟩ := HC.out rfl
      have HALL := hid hall
      have HV := hid hv
      have HVT := hid hvt
      have HK := hid (Rd.k (w := k2.v) (A := A2) (l := rl) inferInstance)
      clear HC hall hv hvt
      obtain ⟨b2, o2, rfl, hb2', hc2⟩ := HK.out (by omega)
      have HC2 := hid hc2
      have hkl := hc2 (rl.length - 1) (by omega)
      rw [← kyG_at (by omega)] at hkl
      generalize kyG rl (rl.length - 1) = x at *
      obtain ⟨hk0, -⟩ := hkl
      rw [hlast] at hk0
      have q0 : ¬ (rl.length : Int) < 2 := by omega
      have q1 : (0 : Int) ≤ (rl.length : Int) - 1 := by omega
      have q2 : (rl.length : Int) - 1 < rl.length := by omega
      have q3 : ((rl.length : Int) - 1).toNat = rl.length - 1 := by omega
      clear hc2 hlast
      go_wp2_with (go_at_call 23; go_loud ((with_reducible refine (sVT_any rn _ c2 rl _ ?_ ?_).mono ?_); (· omega); (· omega); rw [HV.out]; rintro e w' ⟨rfl, k3, rfl⟩))
      clear hk0 q0 q1 q2 q3
      go_loopw [10, 11, 12] (fun i _ _ wr => ∃ q : Nat, q ≤ rl.length ∧ i = .int .i64 q ∧ ∃ j : Ex k3.v, wr = j.v) (fun i _ _ _ => rl.length - (intOf i).toNat)
      case atStart => exact ⟨0, Nat.zero_le _, rfl, Ex.rf _, rfl⟩
      case round =>
        obtain ⟨q, hq, rfl, j0, rfl⟩ := hrel
        by_cases hlt : q < rl.length
        · obtain ⟨a0, a1, a2⟩ := HALL.out q hlt
          have hky := HC2.out q hlt
          rw [← kyG_at hlt] at hky
          generalize kyG rl q = x at *
          obtain ⟨d0, d1⟩ := hky
          have HVA : Hid (vaR rn l1 (IntKind.i64.wrap (f + x.t)) = (x.v, 0)) := hid (by rw [IntWalk.i64_in _ (by omega), vaR_ok HVT.out (by omega) (by omega), a2])
          have hqi : (q : Int) < (rl.length : Int) := by omega
          have hq0 : (0 : Int) ≤ (q : Int) := by omega
          clear a2
          go_wp2_with (fail)
          go_region_with (go_at_call 24; go_loud ((with_reducible refine (iVA_any rn A1 c1 l1 _ _ ?_ ?_).mono ?_); (· omega); (· omega); rw [HVA.out]; rintro e w' ⟨rfl, k5, rfl⟩))
          all_goals
            go_wp2
            go_roundw
            case rel => exact ⟨q + 1, by omega, by go_num, by (refine Ok.toEx ?_; (repeat (first | (with_reducible exact Ok.rf _) | (with_reducible refine Ok.alloc ?_ _) | (with_reducible refine Ok.ex ?_ _) | (with_reducible refine Ok.drew ?_) | (with_reducible refine Ok.setCellI ?_ _ _ _) | (with_reducible refine Ok.exb ?_ _))))⟩
            case measure => simp [intOf]; omega
        · obtain rfl : q = rl.length := by omega
          go_wp2_with (fail)
          go_meet
          case rel => (refine Ok.toEx ?_; (repeat (first | (with_reducible exact Ok.rf _) | (with_reducible refine Ok.alloc ?_ _) | (with_reducible refine Ok.ex ?_ _) | (with_reducible refine Ok.drew ?_) | (with_reducible refine Ok.setCellI ?_ _ _ _) | (with_reducible refine Ok.exb ?_ _))))
  case rest =>
    obtain ⟨j0, rfl⟩ := hcut
    clear HC
    go_upto_if 115 with (first | (go_at_call 25; go_loud (refine (drawShift_any _ _ m _ hb2.h).mono ?_; rintro e w' ⟨n3, A3, c3, l3, by', hs3, hn3, rfl, k3, rfl, hr3⟩; haveI hr3 := hr3)) | (go_at_call 26; go_loud ((with_reducible refine (iShift_any n3 A3 c3 l3 by' _ ?_ ?_).mono ?_); (· omega); (· omega); rintro e w' ⟨A4, c4, rfl, k4, rfl, ho4, hf4, hi4⟩; haveI ho4 := ho4)))
    have HC := hid (shift_law2 (nm := n3) (l := l3) (d := by') rfl)
    generalize shiftR n3 l3 by' = R at *
    obtain ⟨sn, sl, sc⟩ := R
    dsimp only at *
    go_cut [17, 18] from 116 to 130 (fun _ _ wx => ∃ j : Ex w, wx = j.v)
    case first =>
      by_cases hc : sc = 0
      rotate_left
      · have hcb : (sc == 0) = false := by rw [beq_eq_false_iff_ne]; exact hc
        go_wp2_with (fail)
        go_meet
        case rel => (refine Ok.toEx ?_; (repeat (first | (with_reducible exact Ok.rf _) | (with_reducible refine Ok.alloc ?_ _) | (with_reducible refine Ok.ex ?_ _) | (with_reducible refine Ok.drew ?_) | (with_reducible refine Ok.setCellI ?_ _ _ _) | (with_reducible refine Ok.exb ?_ _))))
      · subst hc
        obtain ⟨hb', ⟨hby1, hby2⟩, hsn, hsl⟩ := HC.out rfl
        have HB' := hid hb'
        clear HC hb'
        go_wp2_with (first | (go_at_call 26; go_loud ((with_reducible refine (iShift_any sn A4 c4 sl (-by') _ ?_ ?_).mono ?_); (· omega); (· omega); rw [HB'.out]; rintro e w' ⟨A5, c5, rfl, k5, rfl, ho5, hf5, hi5⟩; haveI ho5 := ho5)) | (go_at_call 27; go_loud ((with_reducible refine (iSameT_any n3 A5 c5 l3 n3 A3 c3 l3 _).mono ?_); rw [sameT_self]; rintro e w' ⟨rfl, k6, rfl⟩)))
        go_meet
        case rel => (refine Ok.toEx ?_; (repeat (first | (with_reducible exact Ok.rf _) | (with_reducible refine Ok.alloc ?_ _) | (with_reducible refine Ok.ex ?_ _) | (with_reducible refine Ok.drew ?_) | (with_reducible refine Ok.setCellI ?_ _ _ _) | (with_reducible refine Ok.exb ?_ _))))
    case rest =>
      obtain ⟨j1, rfl⟩ := hcut
      clear HC
      go_upto_if 143 with (first | (go_at_call 28; go_loud (refine (drawSlow_any _ _ l _ hb.h).mono ?_; rintro e w' ⟨n6, A6, c6, l6, sp, hs6, hn6, rfl, k6, rfl, hr6⟩; haveI hr6 := hr6)) | (go_at_call 29; go_loud ((with_reducible refine (iSlow_any n6 A6 c6 l6 sp _ ?_ ?_).mono ?_); (· omega); (· omega); rintro e w' ⟨A7, c7, rfl, k7, rfl, ho7, hf7, hi7⟩; haveI ho7 := ho7)))
      have HC := hid (slow_law (nm := n6) (l := l6) (s := sp) rfl)
      generalize slR n6 l6 sp = R at *
      obtain ⟨yn, yl, yc⟩ := R
      dsimp only at *
      by_cases hc : yc = 0
      rotate_left
      · have hcb : (yc != 0) = true := by rw [bne_iff_ne]; exact hc
        obtain rfl : yl = [] := List.eq_nil_of_length_eq_zero (HC.out.1 hc)
        clear HC
        go_wp2_with (fail)
        (go_ret; refine ⟨by first | rfl | (simp; done), ?_⟩; (refine Ok.toEx ?_; (repeat (first | (with_reducible exact Ok.rf _) | (with_reducible refine Ok.alloc ?_ _) | (with_reducible refine Ok.ex ?_ _) | (with_reducible refine Ok.drew ?_) | (with_reducible refine Ok.setCellI ?_ _ _ _) | (with_reducible refine Ok.exb ?_ _)))))
      · subst hc
        obtain ⟨hv, hlen, hl24, hfs⟩ := HC.out.2 rfl
        obtain ⟨z1, z2, z3⟩ := vt_sz hv
        have HV := hid hv
        have HFS := hid hfs
        have hleni : ((yl.length : Int) == (l6.length : Int)) = true := by rw [beq_iff_eq]; omega
        have HLEN := hid hlen
        clear HC hv hfs hlen
        obtain ⟨⟨F1, F2, F3⟩, hF⟩ : ∃ F, fsR yn yl = F := ⟨_, rfl⟩
        rw [hF] at HFS
        have HF := hid hF
        clear hF
        dsimp only at HFS
        have hwl : (0 : Int) ≤ (yl.length : Int) := by omega
        go_upto_region 25 with (go_at_call 30; go_loud ((with_reducible refine (iFs_any yn A7 c7 yl _ ?_ ?_).mono ?_); (· omega); (· omega); rw [HF.out]; rintro e w' ⟨rfl, k8, rfl⟩))
        by_cases h3 : F3 = 0
        · have hF2 : F2 ≤ sp := HFS.out h3
          subst h3
          go_wp2_with (go_at_call 23; go_loud ((with_reducible refine (sVT_any yn A7 c7 yl _ ?_ ?_).mono ?_); (· omega); (· omega); rw [HV.out]; rintro e w' ⟨rfl, k9, rfl⟩))
          all_goals
            go_ret
            refine ⟨by first | rfl | (simp [hF2]; done), by (refine Ok.toEx ?_; (repeat (first | (with_reducible exact Ok.rf _) | (with_reducible refine Ok.alloc ?_ _) | (with_reducible refine Ok.ex ?_ _) | (with_reducible refine Ok.drew ?_) | (with_reducible refine Ok.setCellI ?_ _ _ _) | (with_reducible refine Ok.exb ?_ _))))⟩
        · have h3b : (F3 != 0) = true := by rw [bne_iff_ne]; exact h3
          go_wp2_with (go_at_call 23; go_loud ((with_reducible refine (sVT_any yn A7 c7 yl _ ?_ ?_).mono ?_); (· omega); (· omega); rw [HV.out]; rintro e w' ⟨rfl, k9, rfl⟩))
          all_goals
            go_ret
            refine ⟨by first | rfl | (simp; done), by (refine Ok.toEx ?_; (repeat (first | (with_reducible exact Ok.rf _) | (with_reducible refine Ok.alloc ?_ _) | (with_reducible refine Ok.ex ?_ _) | (with_reducible refine Ok.drew ?_) | (with_reducible refine Ok.setCellI ?_ _ _ _) | (with_reducible refine Ok.exb ?_ _))))⟩
end
end Go.Proofs.Ytpapphhbogngcaa
