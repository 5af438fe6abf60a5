/-
  LevelAt of the specification; LevelAt, both. Conditions: those typed at each theorem.
-/
import Derived.Test.YtpodgojijkficaaCuLi
namespace Go.Proofs.Ytpodgojijkficaa
open Go.RowKit
section
set_option maxHeartbeats 6400000
set_option maxRecDepth 20000
theorem sLv_any (A : Option Addr) (c : Nat) (l : List Cu) (nm : ByteArray) (time : Int) (w : World) [hl : Rd 6 cC w A l] (hn : l.length ≤ 1048576) (hv : vCs l = true) (htm1 : 0 ≤ time) (htm2 : time ≤ 7200000) {m : Int} (hm : lvP l nm time l.length = m) :
    Calls Try.prog 70 #[.slice A l.length c, .string nm, .int .i64 time] w fun e w' => e = .returned (.int .i64 m) ∧ ∃ k : Ex w, w' = k.v := by
  subst hm
  have hlen := hl.len
  have HA := hid hl.cu
  have HV := hid hv
  clear hv
  go_enter Try.func70, Try.ntmps70
  go_wp2
  go_loopw [7, 8] (fun v t wr => ∃ q : Nat, q ≤ l.length ∧ t = .int .i64 q ∧ v = .int .i64 (lvP l nm time q) ∧ ∃ j : Ex w, wr = j.v) (fun _ t _ => l.length - (intOf t).toNat)
  case atStart => exact ⟨0, Nat.zero_le _, rfl, rfl, Ex.rf w, rfl⟩
  case round =>
    obtain ⟨q, hq, rfl, rfl, j0, rfl⟩ := hrel
    have hlv := lvP_bd HV.out nm time q hq
    by_cases hlt : q < l.length
    · obtain ⟨b, o, rfl, hbw, hc⟩ := HA.out (by omega)
      have HC := hid hc
      obtain ⟨c0, c1, c2, c3, c4, c5⟩ := hc q hlt
      clear hc
      obtain ⟨⟨ht1, ht2⟩, ⟨hv1, hv2⟩, ⟨hl1, hl2⟩⟩ := vC_num ((vCs_of HV.out).2 q hlt).1
      have HSkip := hid (lvP_skip (l := l) (nm := nm) (time := time) (k := q))
      cases htg : ((cuG l q).tg.toList == nm.toList)
      · have HN := hid (HSkip.out fun h => by rw [htg] at h; cases h.1)
        generalize lvP l nm time q = V at *
        generalize cuG l q = x at *
        go_wp2
        go_roundw
        case rel => exact ⟨q + 1, by omega, by go_num, by rw [HN.out], j0, rfl⟩
        case measure => simp [intOf]; omega
      · by_cases htt : (cuG l q).t ≤ time
        rotate_left
        · have HN := hid (HSkip.out fun h => htt h.2)
          have htt : time < (cuG l q).t := by omega
          generalize lvP l nm time q = V at *
          generalize cuG l q = x at *
          go_wp2
          go_roundw
          case rel => exact ⟨q + 1, by omega, by go_num, by rw [HN.out], j0, rfl⟩
          case measure => simp [intOf]; omega
        · have HFade := hid (lvP_fade htg htt)
          have HSet := hid (lvP_set htg htt)
          have hE := endE_bd HV.out nm hlt htt
          have HE : Hid (endG l nm time (l.length - (q + 1)) (q + 1) = endE l nm time q) := hid rfl
          have hlv2 := lvP_bd HV.out nm time (q + 1) hlt
          have HL2 := hid hlv2
          clear hlv2
          generalize lvP l nm time q = V at *
          generalize endE l nm time q = E at *
          generalize cuG l q = x at *
          go_upto_block 2 with fail
          go_cut [10] from 38 to 57 (fun u10 wx => u10 = .int .i64 E ∧ wx = j0.v)
          case first =>
            go_wp2_with fail
            go_loopw [10, 11] (fun e t wr => ∃ m : Nat, q + 1 + m ≤ l.length ∧ t = .int .i64 ((q + 1 + m : Nat) : Int) ∧ e = .int .i64 time ∧ endG l nm time (l.length - (q + 1 + m)) (q + 1 + m) = E ∧ wr = j0.v) (fun _ t _ => l.length - (intOf t).toNat)
            case atStart => exact ⟨0, by omega, by go_num, rfl, HE.out, rfl⟩
            case round =>
              obtain ⟨m, hm, rfl, rfl, hG, rfl⟩ := hrel
              have HG := hid hG
              clear hG
              generalize hi : q + 1 + m = i at *
              have hi1 : q + 1 ≤ i := by omega
              clear hi
              by_cases hml : i < l.length
              · obtain ⟨d0, d1, d2, d3, d4, d5⟩ := HC.out i hml
                have hyt := (vC_num ((vCs_of HV.out).2 _ hml).1).1
                cases hty : ((cuG l i).tg.toList == nm.toList)
                · have HN := hid ((endG_miss (time := time) hml hty).symm.trans HG.out)
                  generalize cuG l i = y at *
                  go_wp2
                  go_roundw
                  case rel => exact ⟨i - q, by omega, by rw [show q + 1 + (i - q) = i + 1 by omega]; go_num, rfl, by rw [show q + 1 + (i - q) = i + 1 by omega]; exact HN.out, by first | rfl | trivial⟩
                  case measure => simp [intOf]; omega
                · have HN := hid ((endG_hit (time := time) hml hty).symm.trans HG.out)
                  generalize cuG l i = y at *
                  go_wp2_with (go_at_call 90; (with_reducible refine (mn_any _ _ _ HN.out).mono ?_); rintro e w' ⟨rfl, rfl⟩)
                  go_meet
                  exact ⟨rfl, rfl⟩
              · have HN : Hid (time = E) := hid (by rw [← HG.out, endG_end (by omega)])
                go_wp2
                go_meet
                exact ⟨by rw [HN.out], rfl⟩
          case rest =>
            obtain ⟨rfl, rfl⟩ := hcut
            have hz8 : IntKind.i64.wrap (x.t + x.ln) = x.t + x.ln := IntWalk.i64_in _ (by omega)
            by_cases ha : x.act = 2
            · have hab := ebT ha
              by_cases hen : E < x.t + x.ln
              · have HN := hid (HFade.out ha hen)
                have hpr := lv_prod hlv ⟨hv1, hv2⟩ ht1 hE.1 (Int.le_trans hE.2 htm2)
                have hln0 : 0 < x.ln := by omega
                have hlv3 := HL2.out
                rw [HN.out] at hlv3
                have hend : decide (E < x.t + x.ln) = true := decide_eq_true hen
                have hz1 : IntKind.i64.wrap (x.v - V) = x.v - V := IntWalk.i64_in _ (by omega)
                have hz2 : IntKind.i64.wrap (E - x.t) = E - x.t := IntWalk.i64_in _ (by omega)
                have hz3 : IntKind.i64.wrap ((x.v - V) * (E - x.t)) = (x.v - V) * (E - x.t) := IntWalk.i64_in _ (by omega)
                have hz4 : IntKind.i64.wrap (V + near ((x.v - V) * (E - x.t)) x.ln) = V + near ((x.v - V) * (E - x.t)) x.ln := IntWalk.i64_in _ (by omega)
                clear ha
                go_wp2
                (refine wp_region_ex (by kernel_rfl) (by kernel_rfl) ?_; (repeat (go_big_quiet_step ((fail)))); refine wpQuiet_nil ?_; rintro _ ⟨k, rfl⟩)
                go_wp2
                (refine wp_region_ex (by kernel_rfl) (by kernel_rfl) ?_; (repeat (go_big_quiet_step (((go_at_call 91; exact calls_ex_same (div_any _ _ _ (by omega) (by omega) (by omega) (by omega))))))); refine wpQuiet_nil ?_; rintro _ ⟨k, rfl⟩)
                go_wp2
                go_roundw
                case rel => exact ⟨q + 1, by omega, by go_num, by rw [HN.out], (by (refine Ok.toEx ?_; (repeat (first | (with_reducible exact Ok.rf _) | (with_reducible refine Ok.alloc ?_ _) | (with_reducible refine Ok.ex ?_ _) | (with_reducible refine Ok.drew ?_) | (with_reducible refine Ok.setCellI ?_ _ _ _) | (with_reducible refine Ok.exb ?_ _)))))⟩
                case measure => simp [intOf]; omega
              · have HN := hid (HSet.out fun h => hen h.2)
                have hend : decide (E < x.t + x.ln) = false := decide_eq_false hen
                clear ha
                go_wp2
                (refine wp_region_ex (by kernel_rfl) (by kernel_rfl) ?_; (repeat (go_big_quiet_step ((fail)))); refine wpQuiet_nil ?_; rintro _ ⟨k, rfl⟩)
                go_wp2
                go_roundw
                case rel => exact ⟨q + 1, by omega, by go_num, by rw [HN.out], (by (refine Ok.toEx ?_; (repeat (first | (with_reducible exact Ok.rf _) | (with_reducible refine Ok.alloc ?_ _) | (with_reducible refine Ok.ex ?_ _) | (with_reducible refine Ok.drew ?_) | (with_reducible refine Ok.setCellI ?_ _ _ _) | (with_reducible refine Ok.exb ?_ _)))))⟩
                case measure => simp [intOf]; omega
            · have hab := ebF ha
              have HN := hid (HSet.out fun h => ha h.1)
              clear ha
              go_wp2
              (refine wp_region_ex (by kernel_rfl) (by kernel_rfl) ?_; (repeat (go_big_quiet_step ((fail)))); refine wpQuiet_nil ?_; rintro _ ⟨k, rfl⟩)
              go_wp2
              go_roundw
              case rel => exact ⟨q + 1, by omega, by go_num, by rw [HN.out], (by (refine Ok.toEx ?_; (repeat (first | (with_reducible exact Ok.rf _) | (with_reducible refine Ok.alloc ?_ _) | (with_reducible refine Ok.ex ?_ _) | (with_reducible refine Ok.drew ?_) | (with_reducible refine Ok.setCellI ?_ _ _ _) | (with_reducible refine Ok.exb ?_ _)))))⟩
              case measure => simp [intOf]; omega
    · obtain rfl : q = l.length := by omega
      go_wp2
      go_ret
      exact ⟨by rfl, j0, rfl⟩
theorem iLevelAt_any (A : Option Addr) (c : Nat) (l : List Cu) (nm : ByteArray) (time : Int) (w : World) [hk : COks l] [hl : Rd 6 cC w A l] (hcap : l.length ≤ c) (hn : l.length ≤ 1048576) {rv re : Int} (hrv : laV l nm time = rv) (hre : laE l time = re) :
    Calls Try.prog 27 #[.slice A l.length c, .string nm, .int .i64 time] w fun e w' => e = .returned (.tuple #[.int .i64 rv, .int .i64 re]) ∧ ∃ k : Ex w, w' = k.v := by
  subst hrv; subst hre
  have hlen := hl.len
  cases hv : vCs l
  · have HR := hid (la_inv (nm := nm) (time := time) hv)
    have HV := hid hv
    clear hv
    go_enter Try.func27, Try.ntmps27
    go_wp2_with ((go_at_call 58; (with_reducible refine (iCs_any _ _ l _ ?_ ?_ (HV.out)).mono ?_); (· omega); (· omega); rintro e w' ⟨rfl, k, rfl⟩))
    go_ret2
    rw [HR.out.1, HR.out.2]
    refine ⟨by rfl, ?_⟩
    (refine Ok.toEx ?_; (repeat (first | (with_reducible exact Ok.rf _) | (with_reducible refine Ok.alloc ?_ _) | (with_reducible refine Ok.ex ?_ _) | (with_reducible refine Ok.drew ?_) | (with_reducible refine Ok.setCellI ?_ _ _ _) | (with_reducible refine Ok.exb ?_ _))))
  · have HV := hid hv
    by_cases ht : 0 ≤ time ∧ time ≤ 7200000
    · have HR := hid (la_go (nm := nm) hv ht)
      obtain ⟨ht1, ht2⟩ := ht
      clear hv
      go_enter Try.func27, Try.ntmps27
      go_wp2_with (first | (go_at_call 58; (with_reducible refine (iCs_any _ _ l _ ?_ ?_ (HV.out)).mono ?_); (· omega); (· omega); rintro e w' ⟨rfl, k, rfl⟩) | (go_at_call 64; first | (refine (wi_yes _ _ _ _ (by omega) (by omega)).mono ?_; rintro e w' ⟨rfl, rfl⟩) | (refine (wi_no _ _ _ _ (by omega)).mono ?_; rintro e w' ⟨rfl, rfl⟩)) | (go_at_call 65; (with_reducible refine (iLv_any _ _ l nm time _ ?_ ?_ HV.out ht1 ht2 rfl).mono ?_); (· omega); (· omega); rintro e w' ⟨rfl, k2, rfl⟩))
      go_ret2
      rw [HR.out.1, HR.out.2]
      refine ⟨by rfl, ?_⟩
      (refine Ok.toEx ?_; (repeat (first | (with_reducible exact Ok.rf _) | (with_reducible refine Ok.alloc ?_ _) | (with_reducible refine Ok.ex ?_ _) | (with_reducible refine Ok.drew ?_) | (with_reducible refine Ok.setCellI ?_ _ _ _) | (with_reducible refine Ok.exb ?_ _))))
    · have HR := hid (la_rng (nm := nm) hv ht)
      have ht : time < 0 ∨ 7200000 < time := by omega
      clear hv
      go_enter Try.func27, Try.ntmps27
      go_wp2_with (first | (go_at_call 58; (with_reducible refine (iCs_any _ _ l _ ?_ ?_ (HV.out)).mono ?_); (· omega); (· omega); rintro e w' ⟨rfl, k, rfl⟩) | (go_at_call 64; first | (refine (wi_yes _ _ _ _ (by omega) (by omega)).mono ?_; rintro e w' ⟨rfl, rfl⟩) | (refine (wi_no _ _ _ _ (by omega)).mono ?_; rintro e w' ⟨rfl, rfl⟩)))
      go_ret2
      rw [HR.out.1, HR.out.2]
      refine ⟨by rfl, ?_⟩
      (refine Ok.toEx ?_; (repeat (first | (with_reducible exact Ok.rf _) | (with_reducible refine Ok.alloc ?_ _) | (with_reducible refine Ok.ex ?_ _) | (with_reducible refine Ok.drew ?_) | (with_reducible refine Ok.setCellI ?_ _ _ _) | (with_reducible refine Ok.exb ?_ _))))
theorem sLevelAt_any (A : Option Addr) (c : Nat) (l : List Cu) (nm : ByteArray) (time : Int) (w : World) [hk : COks l] [hl : Rd 6 cC w A l] (hn : l.length ≤ 1048576) {rv re : Int} (hrv : laV l nm time = rv) (hre : laE l time = re) :
    Calls Try.prog 35 #[.slice A l.length c, .string nm, .int .i64 time] w fun e w' => e = .returned (.tuple #[.int .i64 rv, .int .i64 re]) ∧ ∃ k : Ex w, w' = k.v := by
  subst hrv; subst hre
  have hlen := hl.len
  cases hv : vCs l
  · have HR := hid (la_inv (nm := nm) (time := time) hv)
    have HV := hid hv
    clear hv
    go_enter Try.func35, Try.ntmps35
    go_wp2_with ((go_at_call 56; (with_reducible refine (sCs_any _ _ l _ ?_ (HV.out)).mono ?_); (· omega); rintro e w' ⟨rfl, k, rfl⟩))
    go_ret2
    rw [HR.out.1, HR.out.2]
    refine ⟨by rfl, ?_⟩
    (refine Ok.toEx ?_; (repeat (first | (with_reducible exact Ok.rf _) | (with_reducible refine Ok.alloc ?_ _) | (with_reducible refine Ok.ex ?_ _) | (with_reducible refine Ok.drew ?_) | (with_reducible refine Ok.setCellI ?_ _ _ _) | (with_reducible refine Ok.exb ?_ _))))
  · have HV := hid hv
    by_cases ht : 0 ≤ time ∧ time ≤ 7200000
    · have HR := hid (la_go (nm := nm) hv ht)
      obtain ⟨ht1, ht2⟩ := ht
      clear hv
      go_enter Try.func35, Try.ntmps35
      go_wp2_with (first | (go_at_call 56; (with_reducible refine (sCs_any _ _ l _ ?_ (HV.out)).mono ?_); (· omega); rintro e w' ⟨rfl, k, rfl⟩) | (go_at_call 66; first | (refine (ct_yes _ _ (by omega) (by omega)).mono ?_; rintro e w' ⟨rfl, rfl⟩) | (refine (ct_no _ _ (by omega)).mono ?_; rintro e w' ⟨rfl, rfl⟩)) | (go_at_call 70; (with_reducible refine (sLv_any _ _ l nm time _ ?_ HV.out ht1 ht2 rfl).mono ?_); (· omega); rintro e w' ⟨rfl, k2, rfl⟩))
      go_ret2
      rw [HR.out.1, HR.out.2]
      refine ⟨by rfl, ?_⟩
      (refine Ok.toEx ?_; (repeat (first | (with_reducible exact Ok.rf _) | (with_reducible refine Ok.alloc ?_ _) | (with_reducible refine Ok.ex ?_ _) | (with_reducible refine Ok.drew ?_) | (with_reducible refine Ok.setCellI ?_ _ _ _) | (with_reducible refine Ok.exb ?_ _))))
    · have HR := hid (la_rng (nm := nm) hv ht)
      have ht : time < 0 ∨ 7200000 < time := by omega
      clear hv
      go_enter Try.func35, Try.ntmps35
      go_wp2_with (first | (go_at_call 56; (with_reducible refine (sCs_any _ _ l _ ?_ (HV.out)).mono ?_); (· omega); rintro e w' ⟨rfl, k, rfl⟩) | (go_at_call 66; first | (refine (ct_yes _ _ (by omega) (by omega)).mono ?_; rintro e w' ⟨rfl, rfl⟩) | (refine (ct_no _ _ (by omega)).mono ?_; rintro e w' ⟨rfl, rfl⟩)))
      go_ret2
      rw [HR.out.1, HR.out.2]
      refine ⟨by rfl, ?_⟩
      (refine Ok.toEx ?_; (repeat (first | (with_reducible exact Ok.rf _) | (with_reducible refine Ok.alloc ?_ _) | (with_reducible refine Ok.ex ?_ _) | (with_reducible refine Ok.drew ?_) | (with_reducible refine Ok.setCellI ?_ _ _ _) | (with_reducible refine Ok.exb ?_ _))))
end
end Go.Proofs.Ytpodgojijkficaa
