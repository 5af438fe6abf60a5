/-
  CuesBetween: both. Conditions: those typed at each theorem.
-/
import Derived.Test.YtpodgojijkficaaCuG
import Derived.Test.YtpodgojijkficaaAppB
namespace Go.Proofs.Ytpodgojijkficaa
open Go.RowKit
theorem isBt_cases (l : List Cu) (f u : Int) (i : Nat) : (isBt l f u i ∧ f ≤ (cuG l i).t ∧ (cuG l i).t < u) ∨ (¬ isBt l f u i ∧ (cuG l i).t < f) ∨ (¬ isBt l f u i ∧ f ≤ (cuG l i).t ∧ u ≤ (cuG l i).t) := by unfold isBt; omega
section
set_option maxHeartbeats 3200000
set_option maxRecDepth 20000
theorem iCuesBetween_any (A : Option Addr) (c : Nat) (l : List Cu) (f u : Int) (w : World) [hk : COks l] [hl : Rd 6 cC w A l] (hcap : l.length ≤ c) (hn : l.length ≤ 1048576) {rv : List Int} {re : Int} (hrv : btV l f u = rv) (hre : btE l f u = re) :
    Calls Try.prog 30 #[.slice A l.length c, .int .i64 f, .int .i64 u] w fun e w' => ∃ A' c', e = .returned (.tuple #[.slice A' rv.length c', .int .i64 re]) ∧ ∃ k : Ex w, w' = k.v ∧ Ow 1 iC k.v A' rv ∧ Fr w A' := by
  subst hrv; subst hre
  have hlen := hl.len
  have HA := hid hl.cu
  cases hv : vCs l
  · have HR := hid (bt_inv (f := f) (u := u) hv)
    have HV := hid hv
    clear hv
    go_enter Try.func30, Try.ntmps30
    go_wp2_with ((go_at_call 58; (with_reducible refine (iCs_any _ _ l _ ?_ ?_ (HV.out)).mono ?_); (· omega); (· omega); rintro e w' ⟨rfl, k, rfl⟩))
    go_ret2
    rw [HR.out.1, HR.out.2]
    exact ⟨none, 0, by rfl, k, rfl, Ow.nil, inferInstance⟩
  · have HV := hid hv
    by_cases hb : btOk f u
    rotate_left
    · have HR := hid (bt_rng hv hb)
      rcases btOk_not hb with h | ⟨h1, h⟩
      all_goals
        clear hv hb
        go_enter Try.func30, Try.ntmps30
        go_wp2_with (first | (go_at_call 58; (with_reducible refine (iCs_any _ _ l _ ?_ ?_ (HV.out)).mono ?_); (· omega); (· omega); rintro e w' ⟨rfl, k, rfl⟩) | (go_at_call 64; first | (refine (wi_yes _ _ _ _ (by omega) (by omega)).mono ?_; rintro e w' ⟨rfl, rfl⟩) | (refine (wi_no _ _ _ _ (by omega)).mono ?_; rintro e w' ⟨rfl, rfl⟩)))
        go_ret2
        rw [HR.out.1, HR.out.2]
        exact ⟨none, 0, by rfl, k, rfl, Ow.nil, inferInstance⟩
    · have HR := hid (bt_go hv hb)
      obtain ⟨⟨hf1, hf2⟩, ⟨hu1, hu2⟩⟩ := hb
      clear hv
      go_enter Try.func30, Try.ntmps30
      go_wp2_with (first | (go_at_call 58; (with_reducible refine (iCs_any _ _ l _ ?_ ?_ (HV.out)).mono ?_); (· omega); (· omega); rintro e w' ⟨rfl, k, rfl⟩) | (go_at_call 64; first | (refine (wi_yes _ _ _ _ (by omega) (by omega)).mono ?_; rintro e w' ⟨rfl, rfl⟩) | (refine (wi_no _ _ _ _ (by omega)).mono ?_; rintro e w' ⟨rfl, rfl⟩)))
      have hrow0 := hid (row_nil k.v k.v.heap.size 2 1 iC)
      go_loopw [8, 25] (fun v t wr => ∃ q : Nat, q ≤ l.length ∧ t = .int .i64 q ∧ ∃ j : Ex k.v, wr = j.v ∧ j.v.ownsRow k.v.heap.size 2 1 v (btF l f u q).length ((btF l f u q).flatMap iC)) (fun _ t _ => l.length - (intOf t).toNat)
      case atStart => exact ⟨0, Nat.zero_le _, rfl, Ex.rf _, rfl, hrow0.out⟩
      case round =>
        (obtain ⟨qq, hq, rfl, j0, rfl, hrow⟩ := hrel; have hln := btF_len l f u qq; obtain ⟨A1, c1, rfl, -, -⟩ := own_of_row (w0 := k.v) (f := iC) (fun _ => rfl) hrow; haveI hro : OwR (k.v).heap.size 2 1 (.slice A1 (btF l f u qq).length c1) (btF l f u qq).length ((btF l f u qq).flatMap iC) j0.v := ⟨hrow⟩; clear hrow)
        by_cases hlt : qq < l.length
        · (obtain ⟨b, o, rfl, hbw, hc⟩ := HA.out (by omega)); obtain ⟨d0, d1, d2, d3, d4, d5⟩ := hc qq hlt; clear hc
          rcases isBt_cases l f u qq with ⟨hi, h1, h2⟩ | ⟨hi, h1⟩ | ⟨hi, h1, h2⟩
          · have HU := hid (btF_on hi)
            clear hi
            generalize cuG l qq = x at *
            go_wp2_with ((at_builtin; refine wpList_app iC _ rfl _ _ _ rfl k.v _ _ _ _ Try.underlying39 infoI64 rfl (by omega) (fun _ => ⟨rfl, by simp [iC, Value.oneCell']⟩) (.slice A1 (btF l f u qq).length c1) (btF l f u qq) rfl owR_h (qq : Int) _ _ rfl (cellsB (by simp)) (by omega) (by omega) ?_; intro v1 k1 h1'))
            go_roundw
            case rel => exact ⟨qq + 1, by omega, by go_num, k1, rfl, by rw [HU.out]; exact h1'⟩
            case measure => simp [intOf]; omega
          all_goals
            have HU := hid (btF_off hi)
            clear hi
            generalize cuG l qq = x at *
            go_wp2
            go_roundw
            case rel => exact ⟨qq + 1, by omega, by go_num, ex_and (fun W => W.ownsRow k.v.heap.size 2 1 _ (btF l f u (qq + 1)).length ((btF l f u (qq + 1)).flatMap iC)) (by (refine Ok.toEx ?_; (repeat (first | (with_reducible exact Ok.rf _) | (with_reducible refine Ok.alloc ?_ _) | (with_reducible refine Ok.ex ?_ _) | (with_reducible refine Ok.drew ?_) | (with_reducible refine Ok.setCellI ?_ _ _ _) | (with_reducible refine Ok.exb ?_ _))))) (by rw [HU.out]; exact owR_h)⟩
            case measure => simp [intOf]; omega
        · obtain rfl : qq = l.length := by omega
          go_wp2
          go_ret2
          obtain ⟨A2, c2, he, hO2, hF2⟩ := own_of_row (w0 := k.v) (f := iC) (fun _ => rfl) hro.h
          cases he
          rw [HR.out.1, HR.out.2]
          exact ⟨A1, c1, by rfl, k.tr j0, rfl, hO2, hF2.mono⟩
theorem between_any (A : Option Addr) (c : Nat) (l : List Cu) (f u : Int) (w : World) [hl : Rd 6 cC w A l] (hn : l.length ≤ 1048576) {rv : List Int} (hrv : btF l f u l.length = rv) :
    Calls Try.prog 68 #[.slice A l.length c, .int .i64 f, .int .i64 u] w fun e w' => ∃ A' c', e = .returned (.slice A' rv.length c') ∧ ∃ k : Ex w, w' = k.v ∧ Ow 1 iC k.v A' rv ∧ Fr w A' := by
  subst hrv
  have hlen := hl.len
  have HA := hid hl.cu
  have hrow0 := hid (row_made w w.heap.size (Nat.le_refl _) 2 1 iC)
  go_enter Try.func68, Try.ntmps68
  go_wp2
  go_loopw [7, 8] (fun v t wr => ∃ q : Nat, q ≤ l.length ∧ t = .int .i64 q ∧ ∃ j : Ex w, wr = j.v ∧ j.v.ownsRow w.heap.size 2 1 v (btF l f u q).length ((btF l f u q).flatMap iC)) (fun _ t _ => l.length - (intOf t).toNat)
  case atStart => exact ⟨0, Nat.zero_le _, rfl, ⟨_, (Below.refl _ _).alloc (Nat.le_refl _) _⟩, rfl, hrow0.out⟩
  case round =>
    (obtain ⟨qq, hq, rfl, j0, rfl, hrow⟩ := hrel; have hln := btF_len l f u qq; obtain ⟨A1, c1, rfl, -, -⟩ := own_of_row (w0 := w) (f := iC) (fun _ => rfl) hrow; haveI hro : OwR (w).heap.size 2 1 (.slice A1 (btF l f u qq).length c1) (btF l f u qq).length ((btF l f u qq).flatMap iC) j0.v := ⟨hrow⟩; clear hrow)
    by_cases hlt : qq < l.length
    · (obtain ⟨b, o, rfl, hbw, hc⟩ := HA.out (by omega)); obtain ⟨d0, d1, d2, d3, d4, d5⟩ := hc qq hlt; clear hc
      rcases isBt_cases l f u qq with ⟨hi, h1, h2⟩ | ⟨hi, h1⟩ | ⟨hi, h1, h2⟩
      · have HU := hid (btF_on hi)
        clear hi
        generalize cuG l qq = x at *
        go_wp2_with ((at_builtin; refine wpList_app iC _ rfl _ _ _ rfl w _ _ _ _ Try.underlying39 infoI64 rfl (by omega) (fun _ => ⟨rfl, by simp [iC, Value.oneCell']⟩) (.slice A1 (btF l f u qq).length c1) (btF l f u qq) rfl owR_h (qq : Int) _ _ rfl (cellsB (by simp)) (by omega) (by omega) ?_; intro v1 k1 h1'))
        go_roundw
        case rel => exact ⟨qq + 1, by omega, by go_num, k1, rfl, by rw [HU.out]; exact h1'⟩
        case measure => simp [intOf]; omega
      all_goals
        have HU := hid (btF_off hi)
        clear hi
        generalize cuG l qq = x at *
        go_wp2
        go_roundw
        case rel => exact ⟨qq + 1, by omega, by go_num, ex_and (fun W => W.ownsRow w.heap.size 2 1 _ (btF l f u (qq + 1)).length ((btF l f u (qq + 1)).flatMap iC)) (by (refine Ok.toEx ?_; (repeat (first | (with_reducible exact Ok.rf _) | (with_reducible refine Ok.alloc ?_ _) | (with_reducible refine Ok.ex ?_ _) | (with_reducible refine Ok.drew ?_) | (with_reducible refine Ok.setCellI ?_ _ _ _) | (with_reducible refine Ok.exb ?_ _))))) (by rw [HU.out]; exact owR_h)⟩
        case measure => simp [intOf]; omega
    · obtain rfl : qq = l.length := by omega
      go_wp2
      go_ret
      obtain ⟨A2, c2, he, hO2, hF2⟩ := own_of_row (w0 := w) (f := iC) (fun _ => rfl) hro.h
      cases he
      exact ⟨A1, c1, by rfl, j0, rfl, hO2, hF2⟩
theorem sCuesBetween_any (A : Option Addr) (c : Nat) (l : List Cu) (f u : Int) (w : World) [hk : COks l] [hl : Rd 6 cC w A l] (hn : l.length ≤ 1048576) {rv : List Int} {re : Int} (hrv : btV l f u = rv) (hre : btE l f u = re) :
    Calls Try.prog 29 #[.slice A l.length c, .int .i64 f, .int .i64 u] w fun e w' => ∃ A' c', e = .returned (.tuple #[.slice A' rv.length c', .int .i64 re]) ∧ ∃ k : Ex w, w' = k.v ∧ Ow 1 iC k.v A' rv ∧ Fr w A' := by
  subst hrv; subst hre
  have hlen := hl.len
  cases hv : vCs l
  · have HR := hid (bt_inv (f := f) (u := u) hv)
    have HV := hid hv
    clear hv
    go_enter Try.func29, Try.ntmps29
    go_wp2_with ((go_at_call 56; (with_reducible refine (sCs_any _ _ l _ ?_ (HV.out)).mono ?_); (· omega); rintro e w' ⟨rfl, k, rfl⟩))
    go_ret2
    rw [HR.out.1, HR.out.2]
    exact ⟨none, 0, by rfl, k, rfl, Ow.nil, inferInstance⟩
  · have HV := hid hv
    by_cases hb : btOk f u
    rotate_left
    · have HR := hid (bt_rng hv hb)
      rcases btOk_not hb with h | ⟨h1, h⟩
      all_goals
        clear hv hb
        go_enter Try.func29, Try.ntmps29
        go_wp2_with (first | (go_at_call 56; (with_reducible refine (sCs_any _ _ l _ ?_ (HV.out)).mono ?_); (· omega); rintro e w' ⟨rfl, k, rfl⟩) | (go_at_call 66; first | (refine (ct_yes _ _ (by omega) (by omega)).mono ?_; rintro e w' ⟨rfl, rfl⟩) | (refine (ct_no _ _ (by omega)).mono ?_; rintro e w' ⟨rfl, rfl⟩)) | (go_at_call 67; first | (refine (in_yes _ _ _ _ (by omega) (by omega)).mono ?_; rintro e w' ⟨rfl, rfl⟩) | (refine (in_no _ _ _ _ (by omega)).mono ?_; rintro e w' ⟨rfl, rfl⟩)))
        go_ret2
        rw [HR.out.1, HR.out.2]
        exact ⟨none, 0, by rfl, k, rfl, Ow.nil, inferInstance⟩
    · have HR := hid (bt_go hv hb)
      obtain ⟨⟨hf1, hf2⟩, ⟨hu1, hu2⟩⟩ := hb
      clear hv
      go_enter Try.func29, Try.ntmps29
      go_wp2_with (first | (go_at_call 56; (with_reducible refine (sCs_any _ _ l _ ?_ (HV.out)).mono ?_); (· omega); rintro e w' ⟨rfl, k, rfl⟩) | (go_at_call 66; first | (refine (ct_yes _ _ (by omega) (by omega)).mono ?_; rintro e w' ⟨rfl, rfl⟩) | (refine (ct_no _ _ (by omega)).mono ?_; rintro e w' ⟨rfl, rfl⟩)) | (go_at_call 67; first | (refine (in_yes _ _ _ _ (by omega) (by omega)).mono ?_; rintro e w' ⟨rfl, rfl⟩) | (refine (in_no _ _ _ _ (by omega)).mono ?_; rintro e w' ⟨rfl, rfl⟩)) | (go_at_call 68; (with_reducible refine (between_any _ _ l f u _ hn rfl).mono ?_); rintro e w' ⟨A1, c1, rfl, k2, rfl, hO, hF⟩))
      go_ret2
      rw [HR.out.1, HR.out.2]
      exact ⟨A1, c1, by rfl, k.tr k2, rfl, hO, hF.mono⟩
end
end Go.Proofs.Ytpodgojijkficaa
