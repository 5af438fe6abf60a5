/-
  InsertTime of the specification. Conditions: those typed at each theorem.
-/
import Derived.Test.YtpodgojijkficaaCuJ
namespace Go.Proofs.Ytpodgojijkficaa
open Go.RowKit
section
set_option maxHeartbeats 3200000
set_option maxRecDepth 20000
theorem sInsertTime_any (A : Option Addr) (c : Nat) (l : List Cu) (f b : Int) (w : World) [hk : COks l] [hl : Rd 6 cC w A l] [hp : PlA A c] (hcap : l.length ≤ c) (hn : l.length ≤ 1048576) {rv : List Cu} {re : Int} (hrv : itV l f b = rv) (hre : itE l f b = re) :
    Calls Try.prog 36 #[.slice A l.length c, .int .i64 f, .int .i64 b] w fun e w' => ∃ A' c', e = .returned (.tuple #[.slice A' rv.length c', .int .i64 re]) ∧ ∃ k : Ex w, w' = k.v ∧ Ow 6 cC k.v A' rv ∧ Fr w A' := by
  subst hrv; subst hre
  have hlen := hl.len
  have HPC : Hid (A = none → c = 0) := hid fun h => by rcases hp.h with ⟨_, h2⟩ | ⟨b, o, h2⟩; (· exact h2); (· rw [h] at h2; cases h2)
  cases hv : vCs l
  · have HR := hid (it_inv (f := f) (b := b) hv)
    have HV := hid hv
    clear hv
    go_enter Try.func36, Try.ntmps36
    go_wp2_with ((go_at_call 56; (with_reducible refine (sCs_any _ _ l _ ?_ (HV.out)).mono ?_); (· omega); rintro e w' ⟨rfl, k, rfl⟩))
    go_ret2
    rw [HR.out.1, HR.out.2]
    exact ⟨none, 0, by rfl, k, rfl, Ow.nil, inferInstance⟩
  · have HV := hid hv
    by_cases hb : itOk f b
    rotate_left
    · have HR := hid (it_rng hv hb)
      rcases itOk_not hb with h | ⟨h1, h⟩
      all_goals
        clear hv hb
        go_enter Try.func36, Try.ntmps36
        go_wp2_with (first | (go_at_call 56; (with_reducible refine (sCs_any _ _ l _ ?_ (HV.out)).mono ?_); (· omega); rintro e w' ⟨rfl, k, rfl⟩) | (go_at_call 66; first | (refine (ct_yes _ _ (by omega) (by omega)).mono ?_; rintro e w' ⟨rfl, rfl⟩) | (refine (ct_no _ _ (by omega)).mono ?_; rintro e w' ⟨rfl, rfl⟩)))
        go_ret2
        rw [HR.out.1, HR.out.2]
        exact ⟨none, 0, by rfl, k, rfl, Ow.nil, inferInstance⟩
    · have HB := hid (it_bad hv hb)
      have HG := hid (it_go hv hb)
      obtain ⟨⟨hf1, hf2⟩, ⟨hb1, hb2⟩⟩ := hb
      haveI hok2 : COks (itK l f b) := itK_oks hv ⟨hb1, hb2⟩
      have hlk := hid (itK_len l f b)
      clear hv
      go_enter Try.func36, Try.ntmps36
      go_wp2_with (first | (go_at_call 56; (with_reducible refine (sCs_any _ _ l _ ?_ (HV.out)).mono ?_); (· omega); rintro e w' ⟨rfl, k, rfl⟩) | (go_at_call 66; first | (refine (ct_yes _ _ (by omega) (by omega)).mono ?_; rintro e w' ⟨rfl, rfl⟩) | (refine (ct_no _ _ (by omega)).mono ?_; rintro e w' ⟨rfl, rfl⟩)) | (at_builtin; refine wpList_appN cC _ rfl _ _ _ rfl k.v.heap.size ?_ _ _ _ _ Try.underlying26 infoCue rfl (by omega) (fun _ => ⟨rfl, by simp [cC, Value.oneCell']⟩) (.slice (some ⟨k.v.heap.size, 0, none⟩) 0 0) [] rfl ?_ A l c rfl ?_ ?_ ?_ ?_ ?_; (· simp); (· exact World.ownsRow_made _ #[] 0 (Nat.le_refl _) (by simp [maxLen]) (by simp)); (· infer_instance); (· exact HPC.out); (· simp; omega); (· simp; omega); intro v9 k9 hrow9; obtain ⟨A9, c9, rfl, -, -⟩ := own_of_row (w0 := k.v) (f := cC) (fun _ => rfl) hrow9))
      rw [List.nil_append] at hrow9
      obtain ⟨A2, c2, he, hO2, hF2⟩ := own_of_row (w0 := k.v) (f := cC) (fun _ => rfl) hrow9
      cases he
      clear hrow9
      by_cases hl0 : 0 < l.length
      · obtain ⟨g, rfl, hw9⟩ := hO2.own hl0
        have hkc := hid (KC.of_wr hw9)
        haveI hgk : LeB k.v.heap.size g := ⟨hF2.h _ _ _ rfl⟩
        haveI hgw : LeB w.heap.size g := ⟨Nat.le_trans (inferInstance : LeB w.heap.size k.v.heap.size).h hgk.h⟩
        clear hw9 hO2
        go_loopw [9] (fun t wr => ∃ q : Nat, q ≤ l.length ∧ t = .int .i64 q ∧ ∃ j : Ex w, wr = j.v ∧ KC j.v g (itF l f b q) l.length) (fun t _ => l.length - (intOf t).toNat)
        case atStart => exact ⟨0, Nat.zero_le _, rfl, ex_and (fun W => KC W g (itF l f b 0) l.length) (by (refine Ok.toEx ?_; (repeat (first | (with_reducible exact Ok.rf _) | (with_reducible refine Ok.alloc ?_ _) | (with_reducible refine Ok.ex ?_ _) | (with_reducible refine Ok.drew ?_) | (with_reducible refine Ok.setCellI ?_ _ _ _) | (with_reducible refine Ok.exb ?_ _))))) (by rw [itF_zero]; exact hkc.out)⟩
        case round =>
          obtain ⟨q, hq, rfl, j0, rfl, hR⟩ := hrel
          by_cases hlt : q < l.length
          · have hb9 := hR.lt
            obtain ⟨c0, f0⟩ := hR.c1 hlt
            rw [itF_at] at c0
            have hnum := (vC_num ((vCs_of HV.out).2 q hlt).1).1
            have HR := hid hR
            clear hR
            by_cases hfx : f ≤ (cuG l q).t
            · have HS := hid (itF_on (b := b) hfx)
              generalize cuG l q = x at *
              go_wp2
              go_roundw
              case rel => exact ⟨q + 1, by omega, by go_num, ex_and (fun W => KC W g (itF l f b (q + 1)) l.length) (by (refine Ok.toEx ?_; (repeat (first | (with_reducible exact Ok.rf _) | (with_reducible refine Ok.alloc ?_ _) | (with_reducible refine Ok.ex ?_ _) | (with_reducible refine Ok.drew ?_) | (with_reducible refine Ok.setCellI ?_ _ _ _) | (with_reducible refine Ok.exb ?_ _))))) (by rw [← HS.out]; exact HR.out.set q _)⟩
              case measure => simp [intOf]; omega
            · have HS := hid (itF_off (b := b) hfx)
              generalize cuG l q = x at *
              go_wp2
              go_roundw
              case rel => exact ⟨q + 1, by omega, by go_num, ex_and (fun W => KC W g (itF l f b (q + 1)) l.length) (by (refine Ok.toEx ?_; (repeat (first | (with_reducible exact Ok.rf _) | (with_reducible refine Ok.alloc ?_ _) | (with_reducible refine Ok.ex ?_ _) | (with_reducible refine Ok.drew ?_) | (with_reducible refine Ok.setCellI ?_ _ _ _) | (with_reducible refine Ok.exb ?_ _))))) (by rw [← HS.out]; exact HR.out)⟩
              case measure => simp [intOf]; omega
          · obtain rfl : q = l.length := by omega
            haveI hwr := hR.wr (by omega) (itK_len l f b) (fun k hk => itF_end hk)
            clear hR
            cases hv2 : vCs (itK l f b)
            · have HR := hid (HB.out hv2)
              have HV2 := hid hv2
              clear hv2
              go_wp2_with (go_at_call 56; (with_reducible refine (sCsN_any _ _ _ (itK l f b) _ hok2 ?_ hlk.out ?_ HV2.out).mono ?_); (· infer_instance); (· omega); rintro e w' ⟨rfl, k3, rfl⟩)
              go_ret2
              rw [HR.out.1, HR.out.2]
              exact ⟨none, 0, by rfl, j0.tr k3, rfl, Ow.nil, inferInstance⟩
            · have HR := hid (HG.out hv2)
              have HV2 := hid hv2
              clear hv2
              go_wp2_with (go_at_call 56; (with_reducible refine (sCsN_any _ _ _ (itK l f b) _ hok2 ?_ hlk.out ?_ HV2.out).mono ?_); (· infer_instance); (· omega); rintro e w' ⟨rfl, k3, rfl⟩)
              go_ret2
              rw [HR.out.1, HR.out.2]
              refine ⟨some ⟨g, 0, none⟩, _, by rw [hlk.out]; rfl, j0.tr k3, rfl, inferInstanceAs (Ow 6 cC k3.v _ _), inferInstance⟩
      · have hz : l = [] := List.eq_nil_of_length_eq_zero (by omega)
        subst hz
        have HR := hid (HG.out vCs_nil)
        clear hl0
        go_loopw [9] (fun t wr => t = .int .i64 0 ∧ ∃ j : Ex w, wr = j.v) (fun _ _ => 0)
        case atStart => exact ⟨rfl, (by (refine Ok.toEx ?_; (repeat (first | (with_reducible exact Ok.rf _) | (with_reducible refine Ok.alloc ?_ _) | (with_reducible refine Ok.ex ?_ _) | (with_reducible refine Ok.drew ?_) | (with_reducible refine Ok.setCellI ?_ _ _ _) | (with_reducible refine Ok.exb ?_ _)))))⟩
        case round =>
          obtain ⟨rfl, j0, rfl⟩ := hrel
          go_wp2_with (go_at_call 56; (with_reducible refine (sCsN_any _ 0 _ ([] : List Cu) _ hk ?_ rfl ?_ HV.out).mono ?_); (· infer_instance); (· omega); rintro e w' ⟨rfl, k3, rfl⟩)
          go_ret2
          rw [HR.out.1, HR.out.2]
          exact ⟨A9, c9, by rfl, j0.tr k3, rfl, Ow.nil, hF2.mono⟩
end
end Go.Proofs.Ytpodgojijkficaa
