/-
  ShowEnd, CuesBetween: both. Conditions: those typed at each theorem.
  CuesBetween: both. Conditions: those typed at each theorem.
-/
import Derived.Test.YtdhflckombkimaaGreatDoorJ16
import Derived.Test.YtdhflckombkimaaGreatDoorJ8
import Derived.Laws.Small
import Derived.Test.YtdhflckombkimaaGreatDoorJ11
namespace Go.Proofs.YtdhflckombkimaaGreatDoor
open Go.RowKit
/-- does cue i begin between the two times? -/
def isBt (l : List Cu) (f u : Int) (i : Nat) : Prop := f ≤ (cuG l i).t ∧ (cuG l i).t < u
instance (l : List Cu) (f u : Int) (i : Nat) : Decidable (isBt l f u i) := by unfold isBt; infer_instance
def btF (l : List Cu) (f u : Int) : Nat → List Int
  | 0 => []
  | k + 1 => btF l f u k ++ (if isBt l f u k then [(k : Int)] else [])
theorem btF_on {l : List Cu} {f u : Int} {k : Nat} (h : isBt l f u k) : btF l f u (k + 1) = btF l f u k ++ [(k : Int)] := by simp [btF, h]
theorem btF_off {l : List Cu} {f u : Int} {k : Nat} (h : ¬ isBt l f u k) : btF l f u (k + 1) = btF l f u k := by simp [btF, h]
theorem btF_len (l : List Cu) (f u : Int) : ∀ k, (btF l f u k).length ≤ k
  | 0 => by simp [btF]
  | k + 1 => by
    have := btF_len l f u k
    unfold btF
    split <;> simp <;> omega
def btOk (f u : Int) : Prop := (0 ≤ f ∧ f ≤ 7200000) ∧ (f ≤ u ∧ u ≤ 7200001)
instance (f u : Int) : Decidable (btOk f u) := by unfold btOk; infer_instance
theorem btOk_not {f u : Int} (h : ¬ btOk f u) : (f < 0 ∨ 7200000 < f) ∨ ((0 ≤ f ∧ f ≤ 7200000) ∧ (u < f ∨ 7200001 < u)) := by unfold btOk at h; omega
noncomputable def btV (l : List Cu) (f u : Int) : List Int := if vCs l = true then (if btOk f u then btF l f u l.length else []) else []
noncomputable def btE (l : List Cu) (f u : Int) : Int := if vCs l = true then (if btOk f u then 0 else 2) else 1
theorem bt_inv {l : List Cu} {f u : Int} (h : vCs l = false) : btV l f u = [] ∧ btE l f u = 1 := by unfold btV btE; rw [h]; exact ⟨rfl, rfl⟩
theorem bt_rng {l : List Cu} {f u : Int} (h : vCs l = true) (h2 : ¬ btOk f u) : btV l f u = [] ∧ btE l f u = 2 := by unfold btV btE; rw [if_pos h, if_pos h, if_neg h2, if_neg h2]; exact ⟨rfl, rfl⟩
theorem bt_go {l : List Cu} {f u : Int} (h : vCs l = true) (h2 : btOk f u) : btV l f u = btF l f u l.length ∧ btE l f u = 0 := by unfold btV btE; rw [if_pos h, if_pos h, if_pos h2, if_pos h2]; exact ⟨rfl, rfl⟩
theorem btV_len (l : List Cu) (f u : Int) : (btV l f u).length ≤ 64 := by
  have := btF_len l f u l.length
  unfold btV
  split
  · rename_i h
    have := (vCs_of h).1
    split
    · omega
    · simp
  · simp
section
set_option maxHeartbeats 3200000
set_option maxRecDepth 20000
theorem iShowEnd_any (A : Option Addr) (c : Nat) (l : List Cu) (w : World) [hk : COks l] [hl : Rd 6 cC w A l] (hcap : l.length ≤ c) (hn : l.length ≤ 1048576) {rv re : Int} (hrv : seV l = rv) (hre : seE l = re) :
    Calls Tryz.prog 16 #[.slice A l.length c] w fun e w' => e = .returned (.tuple #[.int .i64 rv, .int .i64 re]) ∧ ∃ k : Ex w, w' = k.v := by
  subst hrv; subst hre
  have hlen := hl.len
  have HA := hid hl.cu
  cases hv : vCs l
  · have HR := hid (se_inv hv)
    have HV := hid hv
    clear hv
    go_enter Tryz.func16, Tryz.ntmps16
    go_wp2_with ((go_at_call 21; (with_reducible refine (iCs_any _ _ l _ ?_ ?_ (HV.out)).mono ?_); (· omega); (· omega); rintro e w' ⟨rfl, k, rfl⟩))
    go_ret2
    rw [HR.out.1, HR.out.2]
    refine ⟨by rfl, ?_⟩
    (refine Ok.toEx ?_; (repeat (first | (with_reducible exact Ok.rf _) | (with_reducible refine Ok.alloc ?_ _) | (with_reducible refine Ok.ex ?_ _) | (with_reducible refine Ok.drew ?_) | (with_reducible refine Ok.setCellI ?_ _ _ _) | (with_reducible refine Ok.exb ?_ _))))
  · have HV := hid hv
    have HR := hid (se_go hv)
    clear hv
    go_enter Tryz.func16, Tryz.ntmps16
    go_wp2_with ((go_at_call 21; (with_reducible refine (iCs_any _ _ l _ ?_ ?_ (HV.out)).mono ?_); (· omega); (· omega); rintro e w' ⟨rfl, k, rfl⟩))
    go_loopw [4, 12] (fun v t wr => ∃ q : Nat, q ≤ l.length ∧ t = .int .i64 q ∧ v = .int .i64 (seP l q) ∧ ∃ j : Ex w, wr = j.v) (fun _ t _ => l.length - (intOf t).toNat)
    case atStart => exact ⟨0, Nat.zero_le _, rfl, rfl, k, rfl⟩
    case round =>
      obtain ⟨qq, hq, rfl, rfl, j0, rfl⟩ := hrel
      have hsb := seP_bd HV.out qq hq
      by_cases hlt : qq < l.length
      · (obtain ⟨b, o, rfl, hbw, hc⟩ := HA.out (by omega)); obtain ⟨c0, c1, c2, c3, c4, c5⟩ := hc qq hlt; clear hc; obtain ⟨⟨ht1, ht2⟩, -, ⟨ht3, ht4⟩⟩ := vC_num ((vCs_of HV.out).2 qq hlt).1
        have HS : Hid (max (seP l qq) ((cuG l qq).t + (cuG l qq).ln) = seP l (qq + 1)) := hid rfl
        generalize cuG l qq = x at *
        generalize seP l qq = m at *
        go_wp2
        go_roundw
        case rel => exact ⟨qq + 1, by omega, by go_num, by rw [← HS.out]; exact congrArg (Value.int .i64) (by split <;> omega), (by refine ex_up (w := w) (W1 := j0.v) ?_; (refine Ok.toEx ?_; (repeat (first | (with_reducible exact Ok.rf _) | (with_reducible refine Ok.alloc ?_ _) | (with_reducible refine Ok.ex ?_ _) | (with_reducible refine Ok.drew ?_) | (with_reducible refine Ok.setCellI ?_ _ _ _) | (with_reducible refine Ok.exb ?_ _)))))⟩
        case measure => simp [intOf]; omega
      · obtain rfl : qq = l.length := by omega
        go_wp2
        go_ret2
        rw [HR.out.1, HR.out.2]
        exact ⟨by rfl, j0, rfl⟩
end
end Go.Proofs.YtdhflckombkimaaGreatDoor
namespace Go.Proofs.YtdhflckombkimaaGreatDoor
open Go.RowKit
theorem isBt_cases (l : List Cu) (f u : Int) (i : Nat) : (isBt l f u i ∧ f ≤ (cuG l i).t ∧ (cuG l i).t < u) ∨ (¬ isBt l f u i ∧ (cuG l i).t < f) ∨ (¬ isBt l f u i ∧ f ≤ (cuG l i).t ∧ u ≤ (cuG l i).t) := by unfold isBt; omega
section
set_option maxHeartbeats 3200000
set_option maxRecDepth 20000
theorem iCuesBetween_any (A : Option Addr) (c : Nat) (l : List Cu) (f u : Int) (w : World) [hk : COks l] [hl : Rd 6 cC w A l] (hcap : l.length ≤ c) (hn : l.length ≤ 1048576) {rv : List Int} {re : Int} (hrv : btV l f u = rv) (hre : btE l f u = re) :
    Calls Tryz.prog 18 #[.slice A l.length c, .int .i64 f, .int .i64 u] w fun e w' => ∃ A' c', e = .returned (.tuple #[.slice A' rv.length c', .int .i64 re]) ∧ ∃ k : Ex w, w' = k.v ∧ Ow 1 iC k.v A' rv ∧ Fr w A' := by
  subst hrv; subst hre
  have hlen := hl.len
  have HA := hid hl.cu
  cases hv : vCs l
  · have HR := hid (bt_inv (f := f) (u := u) hv)
    have HV := hid hv
    clear hv
    go_enter Tryz.func18, Tryz.ntmps18
    go_wp2_with ((go_at_call 21; (with_reducible refine (iCs_any _ _ l _ ?_ ?_ (HV.out)).mono ?_); (· omega); (· omega); rintro e w' ⟨rfl, k, rfl⟩))
    go_ret2
    rw [HR.out.1, HR.out.2]
    exact ⟨none, 0, by rfl, k, rfl, Ow.nil, inferInstance⟩
  · have HV := hid hv
    by_cases hb : btOk f u
    rotate_left
    · have HR := hid (bt_rng hv hb)
      rcases btOk_not hb with h | ⟨h1, h⟩
      all_goals
        clear hv hb
        go_enter Tryz.func18, Tryz.ntmps18
        go_wp2_with (first | (go_at_call 21; (with_reducible refine (iCs_any _ _ l _ ?_ ?_ (HV.out)).mono ?_); (· omega); (· omega); rintro e w' ⟨rfl, k, rfl⟩) | (go_at_call 27; first | (refine (wi_yes _ _ _ _ (by omega) (by omega)).mono ?_; rintro e w' ⟨rfl, rfl⟩) | (refine (wi_no _ _ _ _ (by omega)).mono ?_; rintro e w' ⟨rfl, rfl⟩)))
        go_ret2
        rw [HR.out.1, HR.out.2]
        exact ⟨none, 0, by rfl, k, rfl, Ow.nil, inferInstance⟩
    · have HR := hid (bt_go hv hb)
      obtain ⟨⟨hf1, hf2⟩, ⟨hu1, hu2⟩⟩ := hb
      clear hv
      go_enter Tryz.func18, Tryz.ntmps18
      go_wp2_with (first | (go_at_call 21; (with_reducible refine (iCs_any _ _ l _ ?_ ?_ (HV.out)).mono ?_); (· omega); (· omega); rintro e w' ⟨rfl, k, rfl⟩) | (go_at_call 27; first | (refine (wi_yes _ _ _ _ (by omega) (by omega)).mono ?_; rintro e w' ⟨rfl, rfl⟩) | (refine (wi_no _ _ _ _ (by omega)).mono ?_; rintro e w' ⟨rfl, rfl⟩)))
      have hrow0 := hid (row_nil k.v k.v.heap.size 2 1 iC)
      go_loopw [8, 25] (fun v t wr => ∃ q : Nat, q ≤ l.length ∧ t = .int .i64 q ∧ ∃ j : Ex k.v, wr = j.v ∧ j.v.ownsRow k.v.heap.size 2 1 v (btF l f u q).length ((btF l f u q).flatMap iC)) (fun _ t _ => l.length - (intOf t).toNat)
      case atStart => exact ⟨0, Nat.zero_le _, rfl, Ex.rf _, rfl, hrow0.out⟩
      case round =>
        (obtain ⟨qq, hq, rfl, j0, rfl, hrow⟩ := hrel; have hln := btF_len l f u qq; obtain ⟨A1, c1, rfl, -, -⟩ := own_of_row (w0 := k.v) (f := iC) (fun _ => rfl) hrow; haveI hro : OwR (k.v).heap.size 2 1 (.slice A1 (btF l f u qq).length c1) (btF l f u qq).length ((btF l f u qq).flatMap iC) j0.v := ⟨hrow⟩; clear hrow)
        by_cases hlt : qq < l.length
        · (obtain ⟨b, o, rfl, hbw, hc⟩ := HA.out (by omega)); obtain ⟨d0, d1, d2, d3, d4, d5⟩ := hc qq hlt; clear hc
          rcases isBt_cases l f u qq with ⟨hi, h1, h2⟩ | ⟨hi, h1⟩ | ⟨hi, h1, h2⟩
          · have HU := hid (btF_on hi)
            clear hi
            generalize cuG l qq = x at *
            go_wp2_with ((at_builtin; refine wpList_app iC _ rfl _ _ _ rfl k.v _ _ _ _ Tryz.underlying44 infoI64 rfl (by omega) (fun _ => ⟨rfl, by simp [iC, Value.oneCell']⟩) (.slice A1 (btF l f u qq).length c1) (btF l f u qq) rfl owR_h (qq : Int) _ _ rfl (cellsB (by simp)) (by omega) (by omega) ?_; intro v1 k1 h1'))
            go_roundw
            case rel => exact ⟨qq + 1, by omega, by go_num, k1, rfl, by rw [HU.out]; exact h1'⟩
            case measure => simp [intOf]; omega
          all_goals
            have HU := hid (btF_off hi)
            clear hi
            generalize cuG l qq = x at *
            go_wp2
            go_roundw
            case rel => exact ⟨qq + 1, by omega, by go_num, ex_and (fun W => W.ownsRow k.v.heap.size 2 1 _ (btF l f u (qq + 1)).length ((btF l f u (qq + 1)).flatMap iC)) (by (refine Ok.toEx ?_; (repeat (first | (with_reducible exact Ok.rf _) | (with_reducible refine Ok.alloc ?_ _) | (with_reducible refine Ok.ex ?_ _) | (with_reducible refine Ok.drew ?_) | (with_reducible refine Ok.setCellI ?_ _ _ _) | (with_reducible refine Ok.exb ?_ _))))) (by rw [HU.out]; exact owR_h)⟩
            case measure => simp [intOf]; omega
        · obtain rfl : qq = l.length := by omega
          go_wp2
          go_ret2
          obtain ⟨A2, c2, he, hO2, hF2⟩ := own_of_row (w0 := k.v) (f := iC) (fun _ => rfl) hro.h
          cases he
          rw [HR.out.1, HR.out.2]
          exact ⟨A1, c1, by rfl, k.tr j0, rfl, hO2, hF2.mono⟩
end
end Go.Proofs.YtdhflckombkimaaGreatDoor
