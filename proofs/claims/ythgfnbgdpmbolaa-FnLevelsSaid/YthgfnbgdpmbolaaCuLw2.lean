/-
  The law of levels. Conditions: those typed at each theorem.
-/
import Derived.Test.YthgfnbgdpmbolaaCuLaw
import Derived.Test.YthgfnbgdpmbolaaCuLs
import Derived.Laws.Small
namespace Go.Proofs.Ythgfnbgdpmbolaa
open Go.RowKit
/-- does cue k drive nm? -/
def mtB (l : List Cu) (nm : ByteArray) (k : Nat) : Bool := (cuG l k).tg.toList == nm.toList
/-- the value of the last cue of nm among the first k -/
def lsV (l : List Cu) (nm : ByteArray) : Nat → Int
  | 0 => 0
  | k + 1 => if mtB l nm k = true then (cuG l k).v else lsV l nm k
/-- the time of the first -/
def frT (l : List Cu) (nm : ByteArray) : Nat → Int
  | 0 => 7200000
  | k + 1 => if mtB l nm k = true then min (frT l nm k) (cuG l k).t else frT l nm k
theorem endG_none {l : List Cu} {nm : ByteArray} {time : Int} : ∀ (n j : Nat), (∀ i, j ≤ i → i < j + n → mtB l nm i = false) → endG l nm time n j = time
  | 0, _, _ => rfl
  | n + 1, j, h => by
    have h1 := h j (Nat.le_refl _) (by omega)
    unfold mtB at h1
    unfold endG
    rw [if_neg (by rw [h1]; simp)]
    exact endG_none n (j + 1) fun i h2 h3 => h i (by omega) (by omega)
theorem lv_last {l : List Cu} (hv : vCs l = true) (nm : ByteArray) : ∀ k, k ≤ l.length → (∀ i, k ≤ i → i < l.length → mtB l nm i = false) → lvP l nm 7200000 k = lsV l nm k
  | 0, _, _ => rfl
  | k + 1, hk, h => by
    obtain ⟨h1, h2, h3⟩ := vC_num ((vCs_of hv).2 k (by omega)).1
    cases hm : mtB l nm k
    · rw [lvP_skip (fun hc => by have := hc.1; unfold mtB at hm; rw [hm] at this; cases this)]
      rw [lv_last hv nm k (by omega) fun i h4 h5 => by
        rcases Nat.lt_or_ge k i with h6 | h6
        · exact h i (by omega) h5
        · obtain rfl : i = k := by omega
          exact hm]
      show _ = if _ then _ else _
      rw [if_neg (by rw [hm]; simp)]
    · have he : endE l nm 7200000 k = 7200000 := endG_none _ _ fun i h4 h5 => h i (by omega) (by omega)
      rw [lvP_set hm (by omega) (fun hc => by have := hc.2; rw [he] at this; omega)]
      show _ = if _ then _ else _
      rw [if_pos hm]
theorem lv_zero {l : List Cu} {nm : ByteArray} {time : Int} : ∀ k, (∀ i, i < k → mtB l nm i = true → time < (cuG l i).t) → lvP l nm time k = 0
  | 0, _ => rfl
  | k + 1, h => by
    rw [lvP_skip (fun hc => by have := h k (by omega) hc.1; omega)]
    exact lv_zero k fun i hi hm => h i (by omega) hm
theorem frT_le {l : List Cu} {nm : ByteArray} : ∀ k i, i < k → mtB l nm i = true → frT l nm k ≤ (cuG l i).t
  | 0, i, h, _ => absurd h (by omega)
  | k + 1, i, h, hm => by
    unfold frT
    rcases Nat.lt_or_ge i k with h1 | h1
    · have := frT_le k i h1 hm
      split
      · exact Int.le_trans (Int.min_le_left _ _) this
      · exact this
    · obtain rfl : i = k := by omega
      rw [if_pos hm]
      exact Int.min_le_right _ _
theorem frT_bd {l : List Cu} (hv : vCs l = true) (nm : ByteArray) : ∀ k, k ≤ l.length → 0 ≤ frT l nm k ∧ frT l nm k ≤ 7200000
  | 0, _ => by simp [frT]
  | k + 1, hk => by
    have h1 := frT_bd hv nm k (by omega)
    have h2 := (vC_num ((vCs_of hv).2 k (by omega)).1).1
    unfold frT
    split <;> omega
theorem la_in {l : List Cu} (hv : vCs l = true) (nm : ByteArray) {t : Int} (h0 : 0 ≤ t) (h1 : t ≤ 7200000) : laV l nm t = lvP l nm t l.length ∧ laE l t = 0 := by
  unfold laV laE
  rw [if_pos hv, if_pos ⟨h0, h1⟩, if_pos hv, if_pos ⟨h0, h1⟩]
  exact ⟨rfl, rfl⟩
/-- a number below n -/
def RInt (n : Int) (w : World) (e : Ending) (w' : World) : Prop := ∃ x : Int, (0 ≤ x ∧ x < n) ∧ e = .returned (.int .i64 x) ∧ w = w'
section
set_option maxHeartbeats 3200000
set_option maxRecDepth 20000
theorem at8_any (A : Option Addr) (c : Nat) (l : List Int) (k n : Int) (w : World) [hl : Rd 1 byC w A l] [hb : By l] (h0 : 0 ≤ k) (h1 : 1 < n) (h2 : n ≤ 1000) (hn : l.length ≤ 1048576) :
    Calls Try.prog 7 #[.slice A l.length c, .int .i64 k, .int .i64 n] w (RInt n w) := by
  by_cases hk : k < (l.length : Int)
  · obtain ⟨i, rfl⟩ := Int.eq_ofNat_of_zero_le h0
    have hi : i < l.length := by omega
    obtain ⟨b, o, rfl, hbw, hc⟩ := hl.at_ (by omega)
    have c0 := hc i hi 0 _ rfl
    rw [Nat.mul_one, Nat.add_zero] at c0
    have hx := hb.h _ (List.getElem_mem hi)
    clear hc
    generalize l[i] = x at *
    obtain ⟨hx1, hx2⟩ := hx
    have e1 : ¬ n ≤ 1 := by omega
    have e2 : ¬ (l.length : Int) ≤ (i : Int) := by omega
    go_enter Try.func7, Try.ntmps7
    go_wp2
    go_ret
    exact ⟨x % n, ⟨Int.emod_nonneg _ (by omega), Int.emod_lt_of_pos _ (by omega)⟩, by first | rfl | (simp; done), rfl⟩
  · have e1 : ¬ n ≤ 1 := by omega
    have e2 : (l.length : Int) ≤ k := by omega
    go_enter Try.func7, Try.ntmps7
    go_wp2
    go_ret
    exact ⟨0, ⟨by omega, by omega⟩, by first | rfl | (simp; done), rfl⟩
theorem wide8_any (A : Option Addr) (c : Nat) (l : List Int) (k n : Int) (w : World) [hl : Rd 1 byC w A l] [hb : By l] (h0 : 0 ≤ k) (hk2 : k ≤ 1000) (h1 : 1 < n) (h2 : n ≤ 1000) (hn : l.length ≤ 1048576) :
    Calls Try.prog 9 #[.slice A l.length c, .int .i64 k, .int .i64 n] w (RInt n w) := by
  go_enter Try.func9, Try.ntmps9
  go_wp2_with ((go_at_call 7; go_loud (refine (at8_any _ _ l _ _ _ ?_ ?_ ?_ ?_).mono ?_; (· omega); (· omega); (· omega); (· omega); rintro e w' ⟨x, ⟨hx1, hx2⟩, rfl, rfl⟩)))
  go_ret
  exact ⟨_, ⟨Int.emod_nonneg _ (by omega), Int.emod_lt_of_pos _ (by omega)⟩, rfl, rfl⟩
theorem lFnLevels (A : Option Addr) (l : List Int) (c : Nat) (B : Option Addr) (m : List Int) (d : Nat) (w : World) (hl : Rd 1 byC w A l) (hb : By l) (hm : Rd 1 byC w B m) (hbm : By m) :
    Calls Try.prog 3 #[.slice A l.length c, .slice B m.length d] w fun e w' => e = .returned (.bool true) ∧ ∃ k : Ex w, w' = k.v := by
  by_cases hbig : l.length ≤ 1048576 ∧ m.length ≤ 1048576
  rotate_left
  · go_enter Try.func3, Try.ntmps3
    go_wp2_with ((go_at_call 5; refine (long_yes _ _ _ _ _ _ _ hbig).mono ?_; rintro e w' ⟨rfl, rfl⟩))
    (go_ret; refine ⟨by first | rfl | (simp; done), ?_⟩; (refine Ok.toEx ?_; (repeat (first | (with_reducible exact Ok.rf _) | (with_reducible refine Ok.alloc ?_ _) | (with_reducible refine Ok.ex ?_ _) | (with_reducible refine Ok.drew ?_) | (with_reducible refine Ok.setCellI ?_ _ _ _) | (with_reducible refine Ok.exb ?_ _)))))
  · obtain ⟨hb1, hb2⟩ := hbig
    go_enter Try.func3, Try.ntmps3
    go_wp2_with (first | (go_at_call 5; refine (long_no _ _ _ _ _ _ _ hb1 hb2).mono ?_; rintro e w' ⟨rfl, rfl⟩) | (go_at_call 6; go_loud (refine (r8cues_any _ _ l _).mono ?_; rintro e w' ⟨A', c', u, hv, hk, hcap, hp, rfl, k, rfl, hr⟩)))
    have h32 := (vCs_of hv).1
    have HV := hid hv
    have HCU := hid hr.cu
    go_wp2_with (go_at_call 7; go_loud (refine (at8_any _ _ m _ _ _ ?_ ?_ ?_ ?_).mono ?_; (· omega); (· omega); (· omega); (· omega); rintro e w' ⟨z, ⟨hz1, hz2⟩, rfl, rfl⟩; obtain ⟨i, rfl⟩ := Int.eq_ofNat_of_zero_le hz1; obtain ⟨s, hcell⟩ : ∃ s : ByteArray, (k.v.alloc (.cells #[.string ⟨#[115, 116, 97, 114, 115]⟩, .string ⟨#[115, 117, 110]⟩, .string ⟨#[104, 97, 108, 108]⟩] 9)).cell? ⟨k.v.heap.size, i, none⟩ = some (.string s) := (by rcases i with _ | _ | _ | i; (· exact ⟨⟨#[115, 116, 97, 114, 115]⟩, by simp [go_sem]⟩); (· exact ⟨⟨#[115, 117, 110]⟩, by simp [go_sem]⟩); (· exact ⟨⟨#[104, 97, 108, 108]⟩, by simp [go_sem]⟩); (· exfalso; omega)); have hi3 : (i : Int) < 3 := hz2; have hi0 : (0 : Int) ≤ (i : Int) := hz1; clear hv))
    go_wp2_with ((go_at_call 9; go_loud (refine (wide8_any _ _ m _ _ _ ?_ ?_ ?_ ?_ ?_).mono ?_; (· omega); (· omega); (· omega); (· omega); (· omega); rintro e w' ⟨x, ⟨hx1, hx2⟩, rfl, rfl⟩; have hbd := lvP_bd HV.out s (10 * x) u.length (Nat.le_refl _); obtain ⟨hbd1, hbd2⟩ := hbd)))
    obtain ⟨hB, hA⟩ := la_in HV.out s (t := 10 * x) (by omega) (by omega)
    have HA1 := hid hA
    have HB1 := hid hB
    clear hA hB
    obtain ⟨hB, hA⟩ := la_in HV.out s (t := 7200000) (by omega) (by omega)
    have HA2 := hid hA
    have HB2 := hid (hB.trans (lv_last HV.out s u.length (Nat.le_refl _) (fun i h1 h2 => absurd h2 (by omega))))
    clear hA hB
    go_wp2_with ((go_at_call 8; go_loud ((with_reducible refine (iLevelAt_any A' c' u s (10 * x) _ ?_ ?_ HB1.out HA1.out).mono ?_); (· exact hcap); (· omega); rintro e w' ⟨rfl, k1, rfl⟩)))
    go_wp2_with ((go_at_call 8; go_loud ((with_reducible refine (iLevelAt_any A' c' u s (7200000) _ ?_ ?_ HB2.out HA2.out).mono ?_); (· exact hcap); (· omega); rintro e w' ⟨rfl, k2, rfl⟩)))
    go_loopw [12, 13, 14] (fun la fi i wr => ∃ q : Nat, q ≤ u.length ∧ i = .int .i64 q ∧ la = .int .i64 (lsV u s q) ∧ fi = .int .i64 (frT u s q) ∧ ∃ j : Ex k2.v, wr = j.v) (fun _ _ i _ => u.length - (intOf i).toNat)
    case atStart => exact ⟨0, Nat.zero_le _, rfl, rfl, rfl, Ex.rf _, rfl⟩
    case round =>
      obtain ⟨q, hq, rfl, rfl, rfl, j0, rfl⟩ := hrel
      by_cases hlt : q < u.length
      · obtain ⟨b, o, rfl, hbw, hc⟩ := HCU.out (by omega)
        obtain ⟨c0, c1, c2, c3, c4, c5⟩ := hc q hlt
        clear hc
        have hqi : (q : Int) < (u.length : Int) := by omega
        obtain ⟨L, hL⟩ : ∃ L, lsV u s q = L := ⟨_, rfl⟩
        obtain ⟨F, hF⟩ : ∃ F, frT u s q = F := ⟨_, rfl⟩
        cases hm : mtB u s q
        · have HS : Hid (lsV u s (q + 1) = L) := hid (by rw [← hL]; show (if _ then _ else _) = _; rw [if_neg (by rw [hm]; simp)])
          have HF : Hid (frT u s (q + 1) = F) := hid (by rw [← hF]; show (if _ then _ else _) = _; rw [if_neg (by rw [hm]; simp)])
          unfold mtB at hm
          rw [hL, hF]
          clear hL hF
          obtain ⟨x, hx⟩ : ∃ x, x = cuG u q := ⟨_, rfl⟩
          rw [← hx] at c0 c1 c2 c3 c4 c5 hm
          clear hx
          go_wp2
          go_roundw
          case rel => exact ⟨q + 1, by omega, by go_num, by rw [HS.out], by rw [HF.out], j0, rfl⟩
          case measure => simp [intOf]; omega
        · obtain ⟨x, hx⟩ : ∃ x, x = cuG u q := ⟨_, rfl⟩
          have HS : Hid (lsV u s (q + 1) = x.v) := hid (by rw [hx]; show (if _ then _ else _) = _; rw [if_pos hm])
          have HF : Hid (frT u s (q + 1) = min F x.t) := hid (by rw [← hF, hx]; show (if _ then _ else _) = _; rw [if_pos hm])
          unfold mtB at hm
          rw [hL, hF]
          clear hL hF
          rw [← hx] at c0 c1 c2 c3 c4 c5 hm
          clear hx
          by_cases hmin : x.t < F
          · have HM : Hid (min F x.t = x.t) := hid (by omega)
            go_wp2
            go_roundw
            case rel => exact ⟨q + 1, by omega, by go_num, by rw [HS.out], by rw [HF.out, HM.out], j0, rfl⟩
            case measure => simp [intOf]; omega
          · have HM : Hid (min F x.t = F) := hid (by omega)
            go_wp2
            go_roundw
            case rel => exact ⟨q + 1, by omega, by go_num, by rw [HS.out], by rw [HF.out, HM.out], j0, rfl⟩
            case measure => simp [intOf]; omega
      · obtain rfl : q = u.length := by omega
        obtain ⟨F, hF⟩ : ∃ F, frT u s u.length = F := ⟨_, rfl⟩
        obtain ⟨L, hL⟩ : ∃ L, lsV u s u.length = L := ⟨_, rfl⟩
        obtain ⟨f1, f2⟩ := frT_bd HV.out s u.length (Nat.le_refl _)
        rw [hF] at f1 f2
        have HF := hid hF
        rw [hL, hF]
        clear hL hF
        have hfle : ∀ i, i < u.length → mtB u s i = true → F ≤ (cuG u i).t := fun i hi hm => by rw [← HF.out]; exact frT_le _ i hi hm
        by_cases hF0 : F = 0
        · subst hF0
          obtain ⟨hB, hA⟩ := la_in HV.out s (t := 0) (by omega) (by omega)
          have HA3 := hid hA
          have HB3 := hid hB
          clear hA hB hfle
          obtain ⟨V, hV⟩ : ∃ V, lvP u s 0 u.length = V := ⟨_, rfl⟩
          rw [hV] at HB3
          clear hV
          go_wp2_with ((go_at_call 8; go_loud ((with_reducible refine (iLevelAt_any A' c' u s (0) _ ?_ ?_ HB3.out HA3.out).mono ?_); (· exact hcap); (· omega); rintro e w' ⟨rfl, k3, rfl⟩)))
          (go_ret; refine ⟨by first | rfl | (simp; done), ?_⟩; (refine Ok.toEx ?_; (repeat (first | (with_reducible exact Ok.rf _) | (with_reducible refine Ok.alloc ?_ _) | (with_reducible refine Ok.ex ?_ _) | (with_reducible refine Ok.drew ?_) | (with_reducible refine Ok.setCellI ?_ _ _ _) | (with_reducible refine Ok.exb ?_ _)))))
        · have hz : lvP u s (F - 1) u.length = 0 := lv_zero _ fun i hi hm => by have := hfle i hi hm; omega
          obtain ⟨hB, hA⟩ := la_in HV.out s (t := F - 1) (by omega) (by omega)
          have HA3 := hid hA
          have HB3 := hid (hB.trans hz)
          clear hA hB hfle hz
          have hF0b : (F == 0) = false := by rw [beq_eq_false_iff_ne]; exact hF0
          by_cases hF1 : F = 1
          · subst hF1
            simp only [show (1 : Int) - 1 = 0 by rfl] at HA3 HB3
            go_wp2_with ((go_at_call 8; go_loud ((with_reducible refine (iLevelAt_any A' c' u s (0) _ ?_ ?_ HB3.out HA3.out).mono ?_); (· exact hcap); (· omega); rintro e w' ⟨rfl, k3, rfl⟩)))
            (go_ret; refine ⟨by first | rfl | (simp; done), ?_⟩; (refine Ok.toEx ?_; (repeat (first | (with_reducible exact Ok.rf _) | (with_reducible refine Ok.alloc ?_ _) | (with_reducible refine Ok.ex ?_ _) | (with_reducible refine Ok.drew ?_) | (with_reducible refine Ok.setCellI ?_ _ _ _) | (with_reducible refine Ok.exb ?_ _)))))
          · have hF2 : 0 < F - 1 := by omega
            have hF3 : ¬ F - 1 < 0 := by omega
            go_wp2_with ((go_at_call 8; go_loud ((with_reducible refine (iLevelAt_any A' c' u s (F - 1) _ ?_ ?_ HB3.out HA3.out).mono ?_); (· exact hcap); (· omega); rintro e w' ⟨rfl, k3, rfl⟩)))
            (go_ret; refine ⟨by first | rfl | (simp; done), ?_⟩; (refine Ok.toEx ?_; (repeat (first | (with_reducible exact Ok.rf _) | (with_reducible refine Ok.alloc ?_ _) | (with_reducible refine Ok.ex ?_ _) | (with_reducible refine Ok.drew ?_) | (with_reducible refine Ok.setCellI ?_ _ _ _) | (with_reducible refine Ok.exb ?_ _)))))
end
end Go.Proofs.Ythgfnbgdpmbolaa
