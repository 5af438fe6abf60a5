/-
  The law of tracks: values lie between those of the keys, a key that is set is met, tracks are read back. Conditions: those typed at each theorem.
-/
import Derived.Test.YtdhflckombkimaaDoorT25
import Derived.Test.YtdhflckombkimaaDoorT26
import Derived.Test.YtdhflckombkimaaDoorT20
import Derived.Test.YtdhflckombkimaaDoorT27
import Derived.Test.YtdhflckombkimaaDoorT34
import Derived.Test.YtdhflckombkimaaDoorT19
import Derived.Laws.StructEq
import Derived.Laws.Small
import Derived.BigQuiet
namespace Go.Proofs.YtdhflckombkimaaDoor
open Go.RowKit
section
set_option maxHeartbeats 6400000
set_option maxRecDepth 20000
theorem b10T_no (A : Option Addr) (n c : Nat) (w : World) (h : n ≤ 1048576) : Calls Tryd.prog 28 #[.slice A n c] w fun e w' => e = .returned (.bool false) ∧ w = w' := by
  have hi : ¬ (1048576 : Int) < (n : Int) := by omega
  go_enter Tryd.func28, Tryd.ntmps28
  go_wp2
  go_ret
  exact ⟨by first | rfl | simp, rfl⟩
theorem b10T_yes (A : Option Addr) (n c : Nat) (w : World) (h : 1048576 < n) : Calls Tryd.prog 28 #[.slice A n c] w fun e w' => e = .returned (.bool true) ∧ w = w' := by
  have hi : (1048576 : Int) < (n : Int) := by omega
  go_enter Tryd.func28, Tryd.ntmps28
  go_wp2
  go_ret
  exact ⟨by first | rfl | simp, rfl⟩
theorem lFnTracks (A : Option Addr) (l : List Int) (c : Nat) (B : Option Addr) (m : List Int) (d : Nat) (w : World) [Tb w] [Es w] [Er w] [Ml w] (hl : Rd 1 byC w A l) (hb : By l) (hl2 : Rd 1 byC w B m) (hb2 : By m) :
    Calls Tryd.prog 7 #[.slice A l.length c, .slice B m.length d] w fun e w' => e = .returned (.bool true) ∧ ∃ k : Ex w, w' = k.v := by
  by_cases h1 : 1048576 < l.length
  · go_enter Tryd.func7, Tryd.ntmps7
    go_wp2_with ((go_at_call 28; go_loud ((with_reducible refine (b10T_yes _ _ _ _ ?_).mono ?_); (· omega); rintro e w' ⟨rfl, rfl⟩)))
    (go_ret; refine ⟨by first | rfl | (simp; done), ?_⟩; (refine Ok.toEx ?_; (repeat (first | (with_reducible exact Ok.rf _) | (with_reducible refine Ok.alloc ?_ _) | (with_reducible refine Ok.ex ?_ _) | (with_reducible refine Ok.drew ?_) | (with_reducible refine Ok.setCellI ?_ _ _ _) | (with_reducible refine Ok.exb ?_ _)))))
  by_cases h2 : 1048576 < m.length
  · have h1 : l.length ≤ 1048576 := by omega
    go_enter Tryd.func7, Tryd.ntmps7
    go_wp2_with (first | (go_at_call 28; go_loud ((with_reducible refine (b10T_no _ _ _ _ ?_).mono ?_); (· omega); rintro e w' ⟨rfl, rfl⟩)) | (go_at_call 28; go_loud ((with_reducible refine (b10T_yes _ _ _ _ ?_).mono ?_); (· omega); rintro e w' ⟨rfl, rfl⟩)))
    (go_ret; refine ⟨by first | rfl | (simp; done), ?_⟩; (refine Ok.toEx ?_; (repeat (first | (with_reducible exact Ok.rf _) | (with_reducible refine Ok.alloc ?_ _) | (with_reducible refine Ok.ex ?_ _) | (with_reducible refine Ok.drew ?_) | (with_reducible refine Ok.setCellI ?_ _ _ _) | (with_reducible refine Ok.exb ?_ _)))))
  have h1 : l.length ≤ 1048576 := by omega
  have h2 : m.length ≤ 1048576 := by omega
  have hml : (maxLen : Nat) = 9223372036854775807 := rfl
  go_enter Tryd.func7, Tryd.ntmps7
  go_upto_if 40 with (first | (go_at_call 28; go_loud ((with_reducible refine (b10T_no _ _ _ _ ?_).mono ?_); (· omega); rintro e w' ⟨rfl, rfl⟩)) | (go_at_call 29; go_loud (refine (drawVA_any _ _ l _ hb.h).mono ?_; rintro e w' ⟨n1, A1, c1, l1, t, hs1, hn1, rfl, k1, rfl, hr1⟩; haveI hr1 := hr1)) | (go_at_call 30; go_loud ((with_reducible refine (iVA_any n1 A1 c1 l1 t _ ?_ ?_).mono ?_); (· omega); (· omega); rintro e w' ⟨rfl, k2, rfl⟩)))
  obtain ⟨v0, co, hR⟩ : ∃ v co, vaR n1 l1 t = (v, co) := ⟨_, _, rfl⟩
  have HR := hid hR
  rw [hR]
  clear hR
  dsimp only at *
  go_cut [9, 10, 11, 12, 13, 14, 15] from 41 to 120 (fun _ _ _ _ _ _ _ wx => ∃ j : Ex w, wx = j.v)
  case first =>
    by_cases hc : co = 0
    rotate_left
    · have hcb : (co == 0) = false := by rw [beq_eq_false_iff_ne]; exact hc
      go_wp2_with (fail)
      go_meet
      case rel => (refine Ok.toEx ?_; (repeat (first | (with_reducible exact Ok.rf _) | (with_reducible refine Ok.alloc ?_ _) | (with_reducible refine Ok.ex ?_ _) | (with_reducible refine Ok.drew ?_) | (with_reducible refine Ok.setCellI ?_ _ _ _) | (with_reducible refine Ok.exb ?_ _))))
    · subst hc
      rw [show ((0 : Int) == 0) = true from rfl]
      obtain ⟨hv, hv0⟩ := va_inv HR.out
      have hbt := val_btw hv t
      rw [← hv0] at hbt
      obtain ⟨hbt1, hbt2⟩ := hbt
      have hk := (vT_of hv).2
      have hn10 := (vT_of hv).1.1
      obtain ⟨hk1, hk2⟩ := hk.1
      have HV := hid hv
      have HTX : Hid (trXR n1 l1 = trX n1 l1 l1.length) := hid (by unfold trXR; rw [if_pos hv])
      have hTz : (trX n1 l1 l1.length).size ≤ 1048576 := by
        have h := trX_size (nm := n1) (l := l1) (fun q hq => by
          have h := hk.vk.kg q hq
          exact kyS_size ⟨by omega, by omega⟩ ⟨by omega, by omega⟩) l1.length (Nat.le_refl _)
        omega
      obtain ⟨hrq1, hrq2, hrq3⟩ := rk_yes (s := trX n1 l1 l1.length) (nm := n1) (l := l1) ⟨hv, rfl⟩
      have HRD := hid (fun (W : World) (h1 : Tb W) (h2 : Es W) (h3 : Er W) (h4 : Ml W) => iReadT_any (trX n1 l1 l1.length) W hTz)
      unfold RkPost at HRD
      rw [hrq1, hrq2, hrq3] at HRD
      have HVK : Hid (∀ q, q < l1.length → vaR n1 l1 (kyG l1 q).t = ((kyG l1 q).v, 0)) := hid fun q hq => va_key hv hq
      have HKK := hid (Rd.kg (w := k2.v) (A := A1) (l := l1) inferInstance)
      clear hv hv0 hk hTz hrq1 hrq2 hrq3 HR
      generalize trX n1 l1 l1.length = TX at *
      obtain ⟨b2, o2, rfl, hb2', hc2⟩ := HKK.out (by omega)
      have HC2 := hid hc2
      obtain ⟨-, hk0⟩ := hc2 0 (by omega)
      simp only [Nat.zero_mul, Nat.add_zero] at hk0
      have HLO0 : Hid (loP l1 0 = (kyG l1 0).v ∧ hiP l1 0 = (kyG l1 0).v) := hid ⟨rfl, rfl⟩
      have q0 : ¬ (l1.length : Int) = 0 := by omega
      have q1 : (0 : Int) < (l1.length : Int) := by omega
      have qN : 0 < l1.length := by omega
      have qE : l1 ≠ [] := List.length_pos_iff.1 qN
      have qB : ((l1.length : Int) == 0) = false := by rw [beq_eq_false_iff_ne]; exact q0
      clear hc2
      go_wp2_with (fail)
      rw [← HLO0.out.1]
      clear hk0 q0 q1 qN qE qB
      go_loopw [9, 10, 11, 12, 13] (fun lo hi i _ _ wr => ∃ q : Nat, q ≤ l1.length ∧ lo = .int .i64 (loP l1 q) ∧ hi = .int .i64 (hiP l1 q) ∧ i = .int .i64 q ∧ ∃ j : Ex k2.v, wr = j.v) (fun _ _ i _ _ _ => l1.length - (intOf i).toNat)
      case atStart => exact ⟨0, Nat.zero_le _, rfl, by rw [HLO0.out.2, HLO0.out.1], rfl, Ex.rf _, rfl⟩
      case round =>
        obtain ⟨q, hq, rfl, rfl, rfl, j0, rfl⟩ := hrel
        by_cases hlt : q < l1.length
        · have HVA0 := HVK.out q hlt
          obtain ⟨d0, d1⟩ := HC2.out q hlt
          have HLO : Hid (loP l1 (q + 1) = min (loP l1 q) (kyG l1 q).v ∧ hiP l1 (q + 1) = max (hiP l1 q) (kyG l1 q).v) := hid ⟨rfl, rfl⟩
          generalize kyG l1 q = x at *
          have HVA := hid HVA0
          clear HVA0
          have hqi : (q : Int) < (l1.length : Int) := by omega
          have hq0 : (0 : Int) ≤ (q : Int) := by omega
          go_wp2_with (fail)
          go_region_with ((go_at_call 30; go_loud ((with_reducible refine (iVA_any n1 (some ⟨b2, o2, none⟩) c1 l1 x.t _ ?_ ?_).mono ?_); (· omega); (· omega); rw [HVA.out]; rintro e w' ⟨rfl, k5, rfl⟩)))
          all_goals
            go_wp2
            go_roundw
            case rel => exact ⟨q + 1, by omega, by rw [HLO.out.1], by rw [HLO.out.2], by go_num, by (refine Ok.toEx ?_; (repeat (first | (with_reducible exact Ok.rf _) | (with_reducible refine Ok.alloc ?_ _) | (with_reducible refine Ok.ex ?_ _) | (with_reducible refine Ok.drew ?_) | (with_reducible refine Ok.setCellI ?_ _ _ _) | (with_reducible refine Ok.exb ?_ _))))⟩
            case measure => simp [intOf]; omega
        · obtain rfl : q = l1.length := by omega
          have hb3 : ¬ v0 < loP l1 l1.length := by omega
          have hb4 : ¬ hiP l1 l1.length < v0 := by omega
          go_wp2_with (first | (go_at_call 31; go_loud ((with_reducible refine (itrx_any n1 (some ⟨b2, o2, none⟩) c1 l1 _ ?_ ?_ HTX.out).mono ?_); (· omega); (· omega); rintro e w' ⟨rfl, k6, rfl⟩)) | (go_at_call 12; go_loud ((refine (HRD.out _ inferInstance inferInstance inferInstance inferInstance).mono ?_); rintro e w' ⟨Ar, cr, rfl, k7, rfl, hor, hfr, hir⟩; haveI hor' := hor)) | (go_at_call 32; go_loud ((with_reducible refine (iSameT_any n1 Ar cr l1 n1 (some ⟨b2, o2, none⟩) c1 l1 _).mono ?_); rw [sameT_self]; rintro e w' ⟨rfl, k8, rfl⟩)))
          go_meet
          case rel => (refine Ok.toEx ?_; (repeat (first | (with_reducible exact Ok.rf _) | (with_reducible refine Ok.alloc ?_ _) | (with_reducible refine Ok.ex ?_ _) | (with_reducible refine Ok.drew ?_) | (with_reducible refine Ok.setCellI ?_ _ _ _) | (with_reducible refine Ok.exb ?_ _))))
  case rest =>
    obtain ⟨j0, rfl⟩ := hcut
    go_upto_if 133 with (first | (go_at_call 33; go_loud (refine (drawSK_any _ _ m _ hb2.h).mono ?_; rintro e w' ⟨n3, A3, c3, l3, x, hs3, hn3, rfl, k3, rfl, hr3⟩; haveI hr3 := hr3)) | (go_at_call 34; go_loud ((with_reducible refine (iSet_any n3 A3 c3 l3 x _ ?_ ?_).mono ?_); (· omega); (· omega); rintro e w' ⟨A4, c4, rfl, k4, rfl, ho4, hf4, hi4⟩; haveI ho4 := ho4)))
    have HC := hid (set_law (nm := n3) (l := l3) (x := x) rfl)
    generalize stR n3 l3 x = R at *
    obtain ⟨sn, sl, sc⟩ := R
    dsimp only at *
    by_cases hc : sc = 0
    rotate_left
    · have hcb : (sc != 0) = true := by rw [bne_iff_ne]; exact hc
      obtain rfl : sl = [] := List.eq_nil_of_length_eq_zero (HC.out.1 hc)
      clear HC
      go_wp2_with (fail)
      (go_ret; refine ⟨by first | rfl | (simp; done), ?_⟩; (refine Ok.toEx ?_; (repeat (first | (with_reducible exact Ok.rf _) | (with_reducible refine Ok.alloc ?_ _) | (with_reducible refine Ok.ex ?_ _) | (with_reducible refine Ok.drew ?_) | (with_reducible refine Ok.setCellI ?_ _ _ _) | (with_reducible refine Ok.exb ?_ _)))))
    · subst hc
      obtain ⟨hv, hva, hlen⟩ := HC.out.2 rfl
      obtain ⟨⟨z1, -⟩, ⟨⟨z2, z3⟩, -⟩⟩ := vT_of hv
      have HV := hid hv
      have HVA := hid hva
      have HLEN := hid hlen
      clear HC hv hva hlen
      have hw : IntKind.i64.wrap ((l3.length : Int) + 1) = (l3.length : Int) + 1 := IntWalk.i64_in _ (by omega)
      rcases HLEN.out with hlen | hlen
      · have hli : ((sl.length : Int) == (l3.length : Int)) = true := by rw [beq_iff_eq]; omega
        clear hlen
        go_wp2_with (first | (go_at_call 30; go_loud ((with_reducible refine (iVA_any sn A4 c4 sl x.t _ ?_ ?_).mono ?_); (· omega); (· omega); rw [HVA.out]; rintro e w' ⟨rfl, k5, rfl⟩)) | (go_at_call 35; go_loud ((with_reducible refine (sVT_any sn A4 c4 sl _ ?_ ?_).mono ?_); (· omega); (· omega); rw [HV.out]; rintro e w' ⟨rfl, k6, rfl⟩)))
        all_goals
          go_ret
          refine ⟨by first | rfl | (simp; done), by (refine Ok.toEx ?_; (repeat (first | (with_reducible exact Ok.rf _) | (with_reducible refine Ok.alloc ?_ _) | (with_reducible refine Ok.ex ?_ _) | (with_reducible refine Ok.drew ?_) | (with_reducible refine Ok.setCellI ?_ _ _ _) | (with_reducible refine Ok.exb ?_ _))))⟩
      · have hli : ((sl.length : Int) == (l3.length : Int)) = false := by rw [beq_eq_false_iff_ne]; omega
        have hlj : ((sl.length : Int) == (l3.length : Int) + 1) = true := by rw [beq_iff_eq]; omega
        clear hlen
        go_wp2_with (first | (go_at_call 30; go_loud ((with_reducible refine (iVA_any sn A4 c4 sl x.t _ ?_ ?_).mono ?_); (· omega); (· omega); rw [HVA.out]; rintro e w' ⟨rfl, k5, rfl⟩)) | (go_at_call 35; go_loud ((with_reducible refine (sVT_any sn A4 c4 sl _ ?_ ?_).mono ?_); (· omega); (· omega); rw [HV.out]; rintro e w' ⟨rfl, k6, rfl⟩)))
        all_goals
          go_ret
          refine ⟨by first | rfl | (simp; done), by (refine Ok.toEx ?_; (repeat (first | (with_reducible exact Ok.rf _) | (with_reducible refine Ok.alloc ?_ _) | (with_reducible refine Ok.ex ?_ _) | (with_reducible refine Ok.drew ?_) | (with_reducible refine Ok.setCellI ?_ _ _ _) | (with_reducible refine Ok.exb ?_ _))))⟩
end
end Go.Proofs.YtdhflckombkimaaDoor
