/-
  LevelAt: both. Conditions: those typed at each theorem.
-/
import Derived.Test.YthgfnbgdpmbolaaCuLv
import Derived.Laws.Small
import Derived.Deep.Cut
import Derived.Deep.CutRange
import Derived.Deep.CutBlock
namespace Go.Proofs.Ythgfnbgdpmbolaa
open Go.RowKit
section
set_option maxHeartbeats 6400000
set_option maxRecDepth 20000
theorem iLv_any (A : Option Addr) (c : Nat) (l : List Cu) (nm : ByteArray) (time : Int) (w : World) [hl : Rd 6 cC w A l] (hcap : l.length ≤ c) (hn : l.length ≤ 1048576) (hv : vCs l = true) (htm1 : 0 ≤ time) (htm2 : time ≤ 7200000) {m : Int} (hm : lvP l nm time l.length = m) :
    Calls Try.prog 23 #[.slice A l.length c, .string nm, .int .i64 time] w fun e w' => e = .returned (.int .i64 m) ∧ ∃ k : Ex w, w' = k.v := by
  subst hm
  have hlen := hl.len
  have HA := hid hl.cu
  have HV := hid hv
  clear hv
  go_enter Try.func23, Try.ntmps23
  go_wp2
  go_loopw [7, 15] (fun v t wr => ∃ q : Nat, q ≤ l.length ∧ t = .int .i64 q ∧ v = .int .i64 (lvP l nm time q) ∧ ∃ j : Ex w, wr = j.v) (fun _ t _ => l.length - (intOf t).toNat)
  case atStart => exact ⟨0, Nat.zero_le _, rfl, rfl, Ex.rf w, rfl⟩
  case round =>
    obtain ⟨q, hq, rfl, rfl, j0, rfl⟩ := hrel
    have hlv := lvP_bd HV.out nm time q hq
    by_cases hlt : q < l.length
    · obtain ⟨b, o, rfl, hbw, hc⟩ := HA.out (by omega)
      have HC := hid hc
      obtain ⟨c0, c1, c2, c3, c4, c5⟩ := hc q hlt
      clear hc
      obtain ⟨⟨ht1, ht2⟩, ⟨hv1, hv2⟩, ⟨hl1, hl2⟩⟩ := vC_num ((vCs_of HV.out).2 q hlt).1
      have HSkip := hid (lvP_skip (l := l) (nm := nm) (time := time) (k := q))
      cases htg : ((cuG l q).tg.toList == nm.toList)
      · have HN := hid (HSkip.out fun h => by rw [htg] at h; cases h.1)
        generalize lvP l nm time q = V at *
        generalize cuG l q = x at *
        go_wp2
        go_roundw
        case rel => exact ⟨q + 1, by omega, by go_num, by rw [HN.out], (by refine ex_up (w := w) (W1 := j0.v) ?_; (refine Ok.toEx ?_; (repeat (first | (with_reducible exact Ok.rf _) | (with_reducible refine Ok.alloc ?_ _) | (with_reducible refine Ok.ex ?_ _) | (with_reducible refine Ok.drew ?_) | (with_reducible refine Ok.setCellI ?_ _ _ _) | (with_reducible refine Ok.exb ?_ _)))))⟩
        case measure => simp [intOf]; omega
      · by_cases htt : (cuG l q).t ≤ time
        rotate_left
        · have HN := hid (HSkip.out fun h => htt h.2)
          have htt : time < (cuG l q).t := by omega
          generalize lvP l nm time q = V at *
          generalize cuG l q = x at *
          go_wp2
          go_roundw
          case rel => exact ⟨q + 1, by omega, by go_num, by rw [HN.out], (by refine ex_up (w := w) (W1 := j0.v) ?_; (refine Ok.toEx ?_; (repeat (first | (with_reducible exact Ok.rf _) | (with_reducible refine Ok.alloc ?_ _) | (with_reducible refine Ok.ex ?_ _) | (with_reducible refine Ok.drew ?_) | (with_reducible refine Ok.setCellI ?_ _ _ _) | (with_reducible refine Ok.exb ?_ _)))))⟩
          case measure => simp [intOf]; omega
        · have HFade := hid (lvP_fade htg htt)
          have HSet := hid (lvP_set htg htt)
          have hE := endE_bd HV.out nm hlt htt
          have HE : Hid (endG l nm time (l.length - (q + 1)) (q + 1) = endE l nm time q) := hid rfl
          have hqc : q + 1 ≤ c := by omega
          have hlv2 := lvP_bd HV.out nm time (q + 1) hlt
          have HL2 := hid hlv2
          clear hlv2
          generalize lvP l nm time q = V at *
          generalize endE l nm time q = E at *
          generalize cuG l q = x at *
          obtain ⟨W1, hW1⟩ : ∃ W1, W1 = j0.v.alloc (.cells #[.string x.id, .int .i64 x.t, .int .i64 x.ln, .string x.tg, .int .i64 x.act, .int .i64 x.v] 31) := ⟨_, rfl⟩
          have e0 : W1.cell? ⟨j0.v.heap.size, 1, none⟩ = some (.int .i64 x.t) := by rw [hW1]; simp [go_sem]
          have e1 : W1.cell? ⟨j0.v.heap.size, 2, none⟩ = some (.int .i64 x.ln) := by rw [hW1]; simp [go_sem]
          have e2 : W1.cell? ⟨j0.v.heap.size, 4, none⟩ = some (.int .i64 x.act) := by rw [hW1]; simp [go_sem]
          have e3 : W1.cell? ⟨j0.v.heap.size, 5, none⟩ = some (.int .i64 x.v) := by rw [hW1]; simp [go_sem]
          haveI l1 : LtW j0.v.heap.size W1 := by rw [hW1]; infer_instance
          haveI l2 : LtW b W1 := by rw [hW1]; infer_instance
          have hEx : ∃ j : Ex w, W1 = j.v := by rw [hW1]; (refine Ok.toEx ?_; (repeat (first | (with_reducible exact Ok.rf _) | (with_reducible refine Ok.alloc ?_ _) | (with_reducible refine Ok.ex ?_ _) | (with_reducible refine Ok.drew ?_) | (with_reducible refine Ok.setCellI ?_ _ _ _) | (with_reducible refine Ok.exb ?_ _))))
          have HCW : ∀ k, k < l.length → CuAt W1 b (o + k * 6) (cuG l k) := fun k hk => by rw [hW1]; exact CuAt.up (HC.out k hk)
          have HCW := hid HCW
          have HX := hid hEx
          go_upto_region 7 with fail
          rw [← hW1]
          clear hW1 hEx
          by_cases hcq : c = q + 1
          · subst hcq
            have HE2 : Hid (time = E) := hid (by rw [← HE.out, endG_end (by omega)])
            have hz0 : l.length - (q + 1) = 0 := by omega
            go_upto_block 2 with fail
            go_cut [10] from 36 to 48 (fun u10 wx => u10 = .int .i64 E ∧ ∃ j : Ex W1, wx = j.v)
            case first =>
              go_wp2_with fail
              go_loopw [10, 36] (fun e t wr => t = .int .i64 0 ∧ e = .int .i64 time ∧ ∃ j : Ex W1, wr = j.v) (fun _ _ _ => 0)
              case atStart => exact ⟨rfl, rfl, Ex.rf W1, rfl⟩
              case round =>
                obtain ⟨rfl, rfl, j1, rfl⟩ := hrel
                go_wp2
                go_meet
                exact ⟨by rw [HE2.out], j1, rfl⟩
            case rest =>
              obtain ⟨rfl, j1, rfl⟩ := hcut
              clear hz0
              by_cases ha : x.act = 2
              · have hab := ebT ha
                by_cases hen : E < x.t + x.ln
                · have HN := hid (HFade.out ha hen)
                  have hpr := lv_prod hlv ⟨hv1, hv2⟩ ht1 hE.1 (Int.le_trans hE.2 htm2)
                  have hln0 : 0 < x.ln := by omega
                  have hlv3 := HL2.out
                  rw [HN.out] at hlv3
                  clear ha
                  go_wp2_with (go_at_call 38; (with_reducible refine (nearest_any _ _ _ ?_ ?_ ?_ ?_).mono ?_); (· omega); (· omega); (· omega); (· omega); rintro e w' ⟨rfl, k3, rfl⟩)
                  go_roundw
                  case rel => exact ⟨q + 1, by omega, by go_num, by rw [HN.out], (by obtain ⟨jx, rfl⟩ := HX.out; (refine Ok.toEx ?_; (repeat (first | (with_reducible exact Ok.rf _) | (with_reducible refine Ok.alloc ?_ _) | (with_reducible refine Ok.ex ?_ _) | (with_reducible refine Ok.drew ?_) | (with_reducible refine Ok.setCellI ?_ _ _ _) | (with_reducible refine Ok.exb ?_ _)))))⟩
                  case measure => simp [intOf]; omega
                · have HN := hid (HSet.out fun h => hen h.2)
                  clear ha
                  go_wp2
                  go_roundw
                  case rel => exact ⟨q + 1, by omega, by go_num, by rw [HN.out], (by obtain ⟨jx, rfl⟩ := HX.out; (refine Ok.toEx ?_; (repeat (first | (with_reducible exact Ok.rf _) | (with_reducible refine Ok.alloc ?_ _) | (with_reducible refine Ok.ex ?_ _) | (with_reducible refine Ok.drew ?_) | (with_reducible refine Ok.setCellI ?_ _ _ _) | (with_reducible refine Ok.exb ?_ _)))))⟩
                  case measure => simp [intOf]; omega
              · have hab := ebF ha
                have HN := hid (HSet.out fun h => ha h.1)
                clear ha
                go_wp2
                go_roundw
                case rel => exact ⟨q + 1, by omega, by go_num, by rw [HN.out], (by obtain ⟨jx, rfl⟩ := HX.out; (refine Ok.toEx ?_; (repeat (first | (with_reducible exact Ok.rf _) | (with_reducible refine Ok.alloc ?_ _) | (with_reducible refine Ok.ex ?_ _) | (with_reducible refine Ok.drew ?_) | (with_reducible refine Ok.setCellI ?_ _ _ _) | (with_reducible refine Ok.exb ?_ _)))))⟩
                case measure => simp [intOf]; omega
          · have hlen2 : ((l.length - (q + 1) : Nat) : Int) = (l.length : Int) - ((q : Int) + 1) := by omega
            go_upto_block 2 with fail
            go_cut [10] from 36 to 48 (fun u10 wx => u10 = .int .i64 E ∧ ∃ j : Ex W1, wx = j.v)
            case first =>
              go_wp2_with fail
              go_loopw [10, 36] (fun e t wr => ∃ m : Nat, q + 1 + m ≤ l.length ∧ t = .int .i64 m ∧ e = .int .i64 time ∧ endG l nm time (l.length - (q + 1 + m)) (q + 1 + m) = E ∧ ∃ j : Ex W1, wr = j.v) (fun _ t _ => l.length - (intOf t).toNat)
              case atStart => exact ⟨0, by omega, rfl, rfl, HE.out, Ex.rf W1, rfl⟩
              case round =>
                obtain ⟨m, hm, rfl, rfl, hG, j1, rfl⟩ := hrel
                have HG := hid hG
                clear hG
                by_cases hml : q + 1 + m < l.length
                · have hc2 := HCW.out (q + 1 + m) hml
                  have hoff : o + (q + 1 + m) * 6 = o + (q + 1) * 6 + m * 6 := by omega
                  rw [hoff] at hc2
                  clear hoff
                  obtain ⟨d0, d1, d2, d3, d4, d5⟩ := hc2
                  have hyt := (vC_num ((vCs_of HV.out).2 _ hml).1).1
                  have hml2 : m < l.length - (q + 1) := by omega
                  cases hty : ((cuG l (q + 1 + m)).tg.toList == nm.toList)
                  · have HN := hid ((endG_miss (time := time) hml hty).symm.trans HG.out)
                    generalize cuG l (q + 1 + m) = y at *
                    go_wp2
                    go_roundw
                    case rel => exact ⟨m + 1, by omega, by go_num, rfl, HN.out, (by refine ex_up (w := W1) (W1 := j1.v) ?_; (refine Ok.toEx ?_; (repeat (first | (with_reducible exact Ok.rf _) | (with_reducible refine Ok.alloc ?_ _) | (with_reducible refine Ok.ex ?_ _) | (with_reducible refine Ok.drew ?_) | (with_reducible refine Ok.setCellI ?_ _ _ _) | (with_reducible refine Ok.exb ?_ _)))))⟩
                    case measure => simp [intOf]; omega
                  · have HN := hid ((endG_hit (time := time) hml hty).symm.trans HG.out)
                    generalize cuG l (q + 1 + m) = y at *
                    go_wp2
                    all_goals
                      go_meet
                      exact ⟨by rw [← HN.out]; exact congrArg (Value.int .i64) (by first | omega | (split <;> omega)), (by refine ex_up (w := W1) (W1 := j1.v) ?_; (refine Ok.toEx ?_; (repeat (first | (with_reducible exact Ok.rf _) | (with_reducible refine Ok.alloc ?_ _) | (with_reducible refine Ok.ex ?_ _) | (with_reducible refine Ok.drew ?_) | (with_reducible refine Ok.setCellI ?_ _ _ _) | (with_reducible refine Ok.exb ?_ _)))))⟩
                · have HN : Hid (time = E) := hid (by rw [← HG.out, endG_end (by omega)])
                  have hml2 : ¬ m < l.length - (q + 1) := by omega
                  go_wp2
                  go_meet
                  exact ⟨by rw [HN.out], j1, rfl⟩
            case rest =>
              obtain ⟨rfl, j1, rfl⟩ := hcut
              by_cases ha : x.act = 2
              · have hab := ebT ha
                by_cases hen : E < x.t + x.ln
                · have HN := hid (HFade.out ha hen)
                  have hpr := lv_prod hlv ⟨hv1, hv2⟩ ht1 hE.1 (Int.le_trans hE.2 htm2)
                  have hln0 : 0 < x.ln := by omega
                  have hlv3 := HL2.out
                  rw [HN.out] at hlv3
                  clear ha
                  go_wp2_with (go_at_call 38; (with_reducible refine (nearest_any _ _ _ ?_ ?_ ?_ ?_).mono ?_); (· omega); (· omega); (· omega); (· omega); rintro e w' ⟨rfl, k3, rfl⟩)
                  go_roundw
                  case rel => exact ⟨q + 1, by omega, by go_num, by rw [HN.out], (by obtain ⟨jx, rfl⟩ := HX.out; (refine Ok.toEx ?_; (repeat (first | (with_reducible exact Ok.rf _) | (with_reducible refine Ok.alloc ?_ _) | (with_reducible refine Ok.ex ?_ _) | (with_reducible refine Ok.drew ?_) | (with_reducible refine Ok.setCellI ?_ _ _ _) | (with_reducible refine Ok.exb ?_ _)))))⟩
                  case measure => simp [intOf]; omega
                · have HN := hid (HSet.out fun h => hen h.2)
                  clear ha
                  go_wp2
                  go_roundw
                  case rel => exact ⟨q + 1, by omega, by go_num, by rw [HN.out], (by obtain ⟨jx, rfl⟩ := HX.out; (refine Ok.toEx ?_; (repeat (first | (with_reducible exact Ok.rf _) | (with_reducible refine Ok.alloc ?_ _) | (with_reducible refine Ok.ex ?_ _) | (with_reducible refine Ok.drew ?_) | (with_reducible refine Ok.setCellI ?_ _ _ _) | (with_reducible refine Ok.exb ?_ _)))))⟩
                  case measure => simp [intOf]; omega
              · have hab := ebF ha
                have HN := hid (HSet.out fun h => ha h.1)
                clear ha
                go_wp2
                go_roundw
                case rel => exact ⟨q + 1, by omega, by go_num, by rw [HN.out], (by obtain ⟨jx, rfl⟩ := HX.out; (refine Ok.toEx ?_; (repeat (first | (with_reducible exact Ok.rf _) | (with_reducible refine Ok.alloc ?_ _) | (with_reducible refine Ok.ex ?_ _) | (with_reducible refine Ok.drew ?_) | (with_reducible refine Ok.setCellI ?_ _ _ _) | (with_reducible refine Ok.exb ?_ _)))))⟩
                case measure => simp [intOf]; omega
    · obtain rfl : q = l.length := by omega
      go_wp2
      go_ret
      exact ⟨by rfl, j0, rfl⟩
end
end Go.Proofs.Ythgfnbgdpmbolaa
