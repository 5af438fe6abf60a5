/-
  ShowEnd, CuesBetween: both. Conditions: those typed at each theorem.
-/
import Derived.Test.YtpodgojijkficaaCuF
import Derived.Test.YtpodgojijkficaaInts
import Derived.Laws.Small
namespace Go.Proofs.Ytpodgojijkficaa
open Go.RowKit
/-- does cue i begin between the two times? -/
def isBt (l : List Cu) (f u : Int) (i : Nat) : Prop := f ≤ (cuG l i).t ∧ (cuG l i).t < u
instance (l : List Cu) (f u : Int) (i : Nat) : Decidable (isBt l f u i) := by unfold isBt; infer_instance
def btF (l : List Cu) (f u : Int) : Nat → List Int
  | 0 => []
  | k + 1 => btF l f u k ++ (if isBt l f u k then [(k : Int)] else [])
theorem btF_on {l : List Cu} {f u : Int} {k : Nat} (h : isBt l f u k) : btF l f u (k + 1) = btF l f u k ++ [(k : Int)] := by simp [btF, h]
theorem btF_off {l : List Cu} {f u : Int} {k : Nat} (h : ¬ isBt l f u k) : btF l f u (k + 1) = btF l f u k := by simp [btF, h]
theorem btF_len (l : List Cu) (f u : Int) : ∀ k, (btF l f u k).length ≤ k
  | 0 => by simp [btF]
  | k + 1 => by
    have := btF_len l f u k
    unfold btF
    split <;> simp <;> omega
def btOk (f u : Int) : Prop := (0 ≤ f ∧ f ≤ 7200000) ∧ (f ≤ u ∧ u ≤ 7200001)
instance (f u : Int) : Decidable (btOk f u) := by unfold btOk; infer_instance
theorem btOk_not {f u : Int} (h : ¬ btOk f u) : (f < 0 ∨ 7200000 < f) ∨ ((0 ≤ f ∧ f ≤ 7200000) ∧ (u < f ∨ 7200001 < u)) := by unfold btOk at h; omega
noncomputable def btV (l : List Cu) (f u : Int) : List Int := if vCs l = true then (if btOk f u then btF l f u l.length else []) else []
noncomputable def btE (l : List Cu) (f u : Int) : Int := if vCs l = true then (if btOk f u then 0 else 2) else 1
theorem bt_inv {l : List Cu} {f u : Int} (h : vCs l = false) : btV l f u = [] ∧ btE l f u = 1 := by unfold btV btE; rw [h]; exact ⟨rfl, rfl⟩
theorem bt_rng {l : List Cu} {f u : Int} (h : vCs l = true) (h2 : ¬ btOk f u) : btV l f u = [] ∧ btE l f u = 2 := by unfold btV btE; rw [if_pos h, if_pos h, if_neg h2, if_neg h2]; exact ⟨rfl, rfl⟩
theorem bt_go {l : List Cu} {f u : Int} (h : vCs l = true) (h2 : btOk f u) : btV l f u = btF l f u l.length ∧ btE l f u = 0 := by unfold btV btE; rw [if_pos h, if_pos h, if_pos h2, if_pos h2]; exact ⟨rfl, rfl⟩
theorem btV_len (l : List Cu) (f u : Int) : (btV l f u).length ≤ 64 := by
  have := btF_len l f u l.length
  unfold btV
  split
  · rename_i h
    have := (vCs_of h).1
    split
    · omega
    · simp
  · simp
section
set_option maxHeartbeats 3200000
set_option maxRecDepth 20000
theorem mx_any (a b : Int) (w : World) {m : Int} (h : max a b = m) : Calls Try.prog 88 #[.int .i64 a, .int .i64 b] w fun e w' => e = .returned (.int .i64 m) ∧ w = w' := by
  subst h
  by_cases h : b < a
  · have HM : Hid (max a b = a) := hid (by omega)
    go_enter Try.func88, Try.ntmps88
    go_wp2
    go_ret
    exact ⟨by rw [HM.out]; rfl, rfl⟩
  · have HM : Hid (max a b = b) := hid (by omega)
    go_enter Try.func88, Try.ntmps88
    go_wp2
    go_ret
    exact ⟨by rw [HM.out]; rfl, rfl⟩
theorem iShowEnd_any (A : Option Addr) (c : Nat) (l : List Cu) (w : World) [hk : COks l] [hl : Rd 6 cC w A l] (hcap : l.length ≤ c) (hn : l.length ≤ 1048576) {rv re : Int} (hrv : seV l = rv) (hre : seE l = re) :
    Calls Try.prog 25 #[.slice A l.length c] w fun e w' => e = .returned (.tuple #[.int .i64 rv, .int .i64 re]) ∧ ∃ k : Ex w, w' = k.v := by
  subst hrv; subst hre
  have hlen := hl.len
  have HA := hid hl.cu
  cases hv : vCs l
  · have HR := hid (se_inv hv)
    have HV := hid hv
    clear hv
    go_enter Try.func25, Try.ntmps25
    go_wp2_with ((go_at_call 58; (with_reducible refine (iCs_any _ _ l _ ?_ ?_ (HV.out)).mono ?_); (· omega); (· omega); rintro e w' ⟨rfl, k, rfl⟩))
    go_ret2
    rw [HR.out.1, HR.out.2]
    refine ⟨by rfl, ?_⟩
    (refine Ok.toEx ?_; (repeat (first | (with_reducible exact Ok.rf _) | (with_reducible refine Ok.alloc ?_ _) | (with_reducible refine Ok.ex ?_ _) | (with_reducible refine Ok.drew ?_) | (with_reducible refine Ok.setCellI ?_ _ _ _) | (with_reducible refine Ok.exb ?_ _))))
  · have HV := hid hv
    have HR := hid (se_go hv)
    clear hv
    go_enter Try.func25, Try.ntmps25
    go_wp2_with ((go_at_call 58; (with_reducible refine (iCs_any _ _ l _ ?_ ?_ (HV.out)).mono ?_); (· omega); (· omega); rintro e w' ⟨rfl, k, rfl⟩))
    go_loopw [4, 12] (fun v t wr => ∃ q : Nat, q ≤ l.length ∧ t = .int .i64 q ∧ v = .int .i64 (seP l q) ∧ ∃ j : Ex w, wr = j.v) (fun _ t _ => l.length - (intOf t).toNat)
    case atStart => exact ⟨0, Nat.zero_le _, rfl, rfl, k, rfl⟩
    case round =>
      obtain ⟨qq, hq, rfl, rfl, j0, rfl⟩ := hrel
      have hsb := seP_bd HV.out qq hq
      by_cases hlt : qq < l.length
      · (obtain ⟨b, o, rfl, hbw, hc⟩ := HA.out (by omega)); obtain ⟨c0, c1, c2, c3, c4, c5⟩ := hc qq hlt; clear hc; obtain ⟨⟨ht1, ht2⟩, -, ⟨ht3, ht4⟩⟩ := vC_num ((vCs_of HV.out).2 qq hlt).1
        have HS : Hid (max (seP l qq) ((cuG l qq).t + (cuG l qq).ln) = seP l (qq + 1)) := hid rfl
        generalize cuG l qq = x at *
        generalize seP l qq = m at *
        go_wp2
        go_roundw
        case rel => exact ⟨qq + 1, by omega, by go_num, by rw [← HS.out]; exact congrArg (Value.int .i64) (by split <;> omega), (by refine ex_up (w := w) (W1 := j0.v) ?_; (refine Ok.toEx ?_; (repeat (first | (with_reducible exact Ok.rf _) | (with_reducible refine Ok.alloc ?_ _) | (with_reducible refine Ok.ex ?_ _) | (with_reducible refine Ok.drew ?_) | (with_reducible refine Ok.setCellI ?_ _ _ _) | (with_reducible refine Ok.exb ?_ _)))))⟩
        case measure => simp [intOf]; omega
      · obtain rfl : qq = l.length := by omega
        go_wp2
        go_ret2
        rw [HR.out.1, HR.out.2]
        exact ⟨by rfl, j0, rfl⟩
theorem end_any (A : Option Addr) (c : Nat) (l : List Cu) (w : World) [hl : Rd 6 cC w A l] (hv : vCs l = true) {m : Int} (hm : seP l l.length = m) :
    Calls Try.prog 63 #[.slice A l.length c] w fun e w' => e = .returned (.int .i64 m) ∧ ∃ k : Ex w, w' = k.v := by
  subst hm
  have hlen := hl.len
  have HA := hid hl.cu
  have HV := hid hv
  clear hv
  go_enter Try.func63, Try.ntmps63
  go_wp2
  go_loopw [3, 4] (fun v t wr => ∃ q : Nat, q ≤ l.length ∧ t = .int .i64 q ∧ v = .int .i64 (seP l q) ∧ ∃ j : Ex w, wr = j.v) (fun _ t _ => l.length - (intOf t).toNat)
  case atStart => exact ⟨0, Nat.zero_le _, rfl, rfl, Ex.rf w, rfl⟩
  case round =>
    obtain ⟨qq, hq, rfl, rfl, j0, rfl⟩ := hrel
    have hsb := seP_bd HV.out qq hq
    by_cases hlt : qq < l.length
    · (obtain ⟨b, o, rfl, hbw, hc⟩ := HA.out (by omega)); obtain ⟨c0, c1, c2, c3, c4, c5⟩ := hc qq hlt; clear hc; obtain ⟨⟨ht1, ht2⟩, -, ⟨ht3, ht4⟩⟩ := vC_num ((vCs_of HV.out).2 qq hlt).1
      have HS : Hid (max (seP l qq) ((cuG l qq).t + (cuG l qq).ln) = seP l (qq + 1)) := hid rfl
      generalize cuG l qq = x at *
      generalize seP l qq = m at *
      have hz : IntKind.i64.wrap (x.t + x.ln) = x.t + x.ln := IntWalk.i64_in _ (by omega)
      go_wp2
      (refine wp_region_ex (by kernel_rfl) (by kernel_rfl) ?_; (repeat (go_big_quiet_step (((go_at_call 88; exact calls_ex_same (mx_any _ _ _ HS.out)))))); refine wpQuiet_nil ?_; rintro _ ⟨k, rfl⟩)
      go_wp2
      go_roundw
      case rel => exact ⟨qq + 1, by omega, by go_num, rfl, j0.tr k, rfl⟩
      case measure => simp [intOf]; omega
    · obtain rfl : qq = l.length := by omega
      go_wp2
      go_ret
      exact ⟨by rfl, j0, rfl⟩
theorem sShowEnd_any (A : Option Addr) (c : Nat) (l : List Cu) (w : World) [hk : COks l] [hl : Rd 6 cC w A l] (hn : l.length ≤ 1048576) {rv re : Int} (hrv : seV l = rv) (hre : seE l = re) :
    Calls Try.prog 24 #[.slice A l.length c] w fun e w' => e = .returned (.tuple #[.int .i64 rv, .int .i64 re]) ∧ ∃ k : Ex w, w' = k.v := by
  subst hrv; subst hre
  have hlen := hl.len
  cases hv : vCs l
  · have HR := hid (se_inv hv)
    have HV := hid hv
    clear hv
    go_enter Try.func24, Try.ntmps24
    go_wp2_with ((go_at_call 56; (with_reducible refine (sCs_any _ _ l _ ?_ (HV.out)).mono ?_); (· omega); rintro e w' ⟨rfl, k, rfl⟩))
    go_ret2
    rw [HR.out.1, HR.out.2]
    refine ⟨by rfl, ?_⟩
    (refine Ok.toEx ?_; (repeat (first | (with_reducible exact Ok.rf _) | (with_reducible refine Ok.alloc ?_ _) | (with_reducible refine Ok.ex ?_ _) | (with_reducible refine Ok.drew ?_) | (with_reducible refine Ok.setCellI ?_ _ _ _) | (with_reducible refine Ok.exb ?_ _))))
  · have HV := hid hv
    have HR := hid (se_go hv)
    clear hv
    go_enter Try.func24, Try.ntmps24
    go_wp2_with (first | (go_at_call 56; (with_reducible refine (sCs_any _ _ l _ ?_ (HV.out)).mono ?_); (· omega); rintro e w' ⟨rfl, k, rfl⟩) | (go_at_call 63; (with_reducible refine (end_any _ _ l _ HV.out rfl).mono ?_); rintro e w' ⟨rfl, k2, rfl⟩))
    go_ret2
    rw [HR.out.1, HR.out.2]
    refine ⟨by rfl, ?_⟩
    (refine Ok.toEx ?_; (repeat (first | (with_reducible exact Ok.rf _) | (with_reducible refine Ok.alloc ?_ _) | (with_reducible refine Ok.ex ?_ _) | (with_reducible refine Ok.drew ?_) | (with_reducible refine Ok.setCellI ?_ _ _ _) | (with_reducible refine Ok.exb ?_ _))))
end
end Go.Proofs.Ytpodgojijkficaa
