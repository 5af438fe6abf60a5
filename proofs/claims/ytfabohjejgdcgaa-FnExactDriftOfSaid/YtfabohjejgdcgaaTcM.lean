/-
  MissingFrames: which frames are missing; whether a list rises. Conditions: those typed at each theorem.
-/
import Derived.Test.YtfabohjejgdcgaaInts
import Derived.Test.YtfabohjejgdcgaaApp
namespace Go.Proofs.Ytfabohjejgdcgaa
open Go.RowKit
/-- does element i rise, and lie in the bounds? -/
def riseAt (l : List Int) (lo hi : Int) (i : Nat) (h : i < l.length) : Prop := lo ≤ l[i] ∧ l[i] ≤ hi ∧ ∀ _ : 0 < i, l[i - 1] < l[i]
def rises (l : List Int) (lo hi : Int) : Prop := ∀ i (h : i < l.length), riseAt l lo hi i h
theorem riseAt_cases (l : List Int) (lo hi : Int) (i : Nat) (h : i < l.length) :
    (riseAt l lo hi i h ∧ lo ≤ l[i] ∧ l[i] ≤ hi ∧ ((i : Int) = 0 ∨ 0 < i ∧ l[i - 1] < l[i])) ∨ (¬ riseAt l lo hi i h ∧ (l[i] < lo ∨ hi < l[i])) ∨ (¬ riseAt l lo hi i h ∧ lo ≤ l[i] ∧ l[i] ≤ hi ∧ 0 < i ∧ l[i] ≤ l[i - 1]) := by
  unfold riseAt
  by_cases h1 : lo ≤ l[i] ∧ l[i] ≤ hi
  · obtain ⟨h1, h2⟩ := h1
    by_cases h0 : 0 < i
    · by_cases h3 : l[i - 1] < l[i]
      · exact .inl ⟨⟨h1, h2, fun _ => h3⟩, h1, h2, .inr ⟨h0, h3⟩⟩
      · exact .inr (.inr ⟨fun h => h3 (h.2.2 h0), h1, h2, h0, by omega⟩)
    · exact .inl ⟨⟨h1, h2, fun h => absurd h h0⟩, h1, h2, .inl (by omega)⟩
  · exact .inr (.inl ⟨fun h => h1 ⟨h.1, h.2.1⟩, by omega⟩)
/-- the numbers between a and b -/
def seg (a b : Int) : List Int := (List.range (b - a - 1).toNat).map fun (j : Nat) => a + 1 + (j : Int)
/-- the numbers that are missing among the first k + 1 -/
def gp (l : List Int) : Nat → List Int
  | 0 => []
  | k + 1 => gp l k ++ seg (l.getD k 0) (l.getD (k + 1) 0)
theorem gp_mono (l : List Int) {j k : Nat} (h : j ≤ k) : (gp l j).length ≤ (gp l k).length := by
  induction k with
  | zero => exact (by omega : j = 0) ▸ Nat.le_refl _
  | succ k ih =>
    rcases Nat.lt_or_ge j (k + 1) with h1 | h1
    · have := ih (by omega)
      simp only [gp, List.length_append]
      omega
    · obtain rfl : j = k + 1 := by omega
      exact Nat.le_refl _
open Classical in
/-- what MissingFrames answers -/
noncomputable def missR (l : List Int) : List Int × Int :=
  if rises l 0 8640000 then (if (gp l (l.length - 1)).length ≤ 64 then (gp l (l.length - 1), 0) else ([], 5)) else ([], 2)
theorem missR_2 {l : List Int} (h : ¬ rises l 0 8640000) : missR l = ([], 2) := by unfold missR; rw [if_neg h]
theorem missR_5 {l : List Int} (h : rises l 0 8640000) (h2 : 64 < (gp l (l.length - 1)).length) : missR l = ([], 5) := by unfold missR; rw [if_pos h, if_neg (by omega)]
theorem missR_0 {l : List Int} (h : rises l 0 8640000) (h2 : (gp l (l.length - 1)).length ≤ 64) : missR l = (gp l (l.length - 1), 0) := by unfold missR; rw [if_pos h, if_pos h2]
section
set_option maxHeartbeats 3200000
theorem rises_yes (A : Option Addr) (c : Nat) (l : List Int) (lo hi : Int) (w : World) [hl : Rd 1 iC w A l] (hn : l.length ≤ 1048576) (hr : rises l lo hi) :
    Calls Try.prog 65 #[.slice A l.length c, .int .i64 lo, .int .i64 hi] w fun e w' => e = .returned (.bool true) ∧ ∃ k : Ex w, w' = k.v := by
  have HA := hid hl.i
  have HR := hid hr
  clear hr
  go_enter Try.func65, Try.ntmps65
  go_wp2
  go_loopw [7] (fun t wr => ∃ q : Nat, q ≤ l.length ∧ t = .int .i64 q ∧ ∃ j : Ex w, wr = j.v) (fun t _ => l.length - (intOf t).toNat)
  case atStart => exact ⟨0, Nat.zero_le _, rfl, Ex.rf w, rfl⟩
  case round =>
    obtain ⟨q, hq, rfl, j0, rfl⟩ := hrel
    by_cases hlt : q < l.length
    · obtain ⟨b, o, rfl, hbw, hc⟩ := HA.out (by omega)
      obtain ⟨h1, h2, h3⟩ := HR.out q hlt
      have c0 := hc q hlt
      by_cases hq0 : 0 < q
      · have h3 := h3 hq0
        have c1 := hc (q - 1) (by omega)
        obtain ⟨p, rfl⟩ : ∃ p, q = p + 1 := ⟨q - 1, by omega⟩
        simp only [Nat.add_sub_cancel] at h3 c1
        clear hc
        go_wp2
        (refine wp_region_ex (by kernel_rfl) (by kernel_rfl) ?_; (repeat (go_big_quiet_step (((go_at_call 55; first | exact calls_ex_same (in_yes _ _ _ _ (by omega) (by omega)) | exact calls_ex_same (in_no _ _ _ _ (by omega))))))); refine wpQuiet_nil ?_; rintro _ ⟨k, rfl⟩)
        go_wp2
        go_roundw
        case rel => exact ⟨p + 1 + 1, by omega, by go_num, j0.tr k, rfl⟩
        case measure => simp [intOf]; omega
      · obtain rfl : q = 0 := by omega
        have c0 : w.cell? ⟨b, o, none⟩ = _ := c0
        clear hc h3
        go_wp2
        (refine wp_region_ex (by kernel_rfl) (by kernel_rfl) ?_; (repeat (go_big_quiet_step (((go_at_call 55; first | exact calls_ex_same (in_yes _ _ _ _ (by omega) (by omega)) | exact calls_ex_same (in_no _ _ _ _ (by omega))))))); refine wpQuiet_nil ?_; rintro _ ⟨k, rfl⟩)
        go_wp2
        go_roundw
        case rel => exact ⟨1, by omega, by go_num, j0.tr k, rfl⟩
        case measure => simp [intOf]; omega
    · go_wp2
      go_ret
      exact ⟨rfl, j0, rfl⟩
theorem rises_no (A : Option Addr) (c : Nat) (l : List Int) (lo hi : Int) (w : World) [hl : Rd 1 iC w A l] (hn : l.length ≤ 1048576) (hr : ¬ rises l lo hi) :
    Calls Try.prog 65 #[.slice A l.length c, .int .i64 lo, .int .i64 hi] w fun e w' => e = .returned (.bool false) ∧ ∃ k : Ex w, w' = k.v := by
  have HA := hid hl.i
  have HR := hid hr
  clear hr
  go_enter Try.func65, Try.ntmps65
  go_wp2
  go_loopw [7] (fun t wr => ∃ q : Nat, q ≤ l.length ∧ t = .int .i64 q ∧ (∀ i (h : i < l.length), i < q → riseAt l lo hi i h) ∧ ∃ j : Ex w, wr = j.v) (fun t _ => l.length - (intOf t).toNat)
  case atStart => exact ⟨0, Nat.zero_le _, rfl, fun i _ h => absurd h (by omega), Ex.rf w, rfl⟩
  case round =>
    obtain ⟨q, hq, rfl, hs, j0, rfl⟩ := hrel
    have HS := hid hs
    clear hs
    by_cases hlt : q < l.length
    · obtain ⟨b, o, rfl, hbw, hc⟩ := HA.out (by omega)
      have HN : Hid (riseAt l lo hi q hlt → ∀ i (h : i < l.length), i < q + 1 → riseAt l lo hi i h) := hid fun h i hi hiq => by
        rcases Nat.lt_or_ge i q with h1 | h1
        · exact HS.out i hi h1
        · obtain rfl : i = q := by omega
          exact h
      have c0 := hc q hlt
      rcases riseAt_cases l lo hi q hlt with ⟨h0, h1, h2, h3 | ⟨h3, h4⟩⟩ | ⟨h0, h1 | h1⟩ | ⟨h0, h1, h2, h3, h4⟩
      · have hq0 : q = 0 := by omega
        subst hq0
        have c0 : w.cell? ⟨b, o, none⟩ = _ := c0
        have H0 := hid h0
        clear hc h0 h3
        go_wp2
        (refine wp_region_ex (by kernel_rfl) (by kernel_rfl) ?_; (repeat (go_big_quiet_step (((go_at_call 55; first | exact calls_ex_same (in_yes _ _ _ _ (by omega) (by omega)) | exact calls_ex_same (in_no _ _ _ _ (by omega))))))); refine wpQuiet_nil ?_; rintro _ ⟨k, rfl⟩)
        go_wp2
        go_roundw
        case rel => exact ⟨1, by omega, by go_num, HN.out H0.out, j0.tr k, rfl⟩
        case measure => simp [intOf]; omega
      · have H0 := hid h0
        have c1 := hc (q - 1) (by omega)
        obtain ⟨p, rfl⟩ : ∃ p, q = p + 1 := ⟨q - 1, by omega⟩
        simp only [Nat.add_sub_cancel] at h4 c1
        clear hc h0
        go_wp2
        (refine wp_region_ex (by kernel_rfl) (by kernel_rfl) ?_; (repeat (go_big_quiet_step (((go_at_call 55; first | exact calls_ex_same (in_yes _ _ _ _ (by omega) (by omega)) | exact calls_ex_same (in_no _ _ _ _ (by omega))))))); refine wpQuiet_nil ?_; rintro _ ⟨k, rfl⟩)
        go_wp2
        go_roundw
        case rel => exact ⟨p + 1 + 1, by omega, by go_num, HN.out H0.out, j0.tr k, rfl⟩
        case measure => simp [intOf]; omega
      · clear hc
        go_wp2
        (refine wp_region_ex (by kernel_rfl) (by kernel_rfl) ?_; (repeat (go_big_quiet_step (((go_at_call 55; first | exact calls_ex_same (in_yes _ _ _ _ (by omega) (by omega)) | exact calls_ex_same (in_no _ _ _ _ (by omega))))))); refine wpQuiet_nil ?_; rintro _ ⟨k, rfl⟩)
        go_wp2
        (go_ret; refine ⟨by first | rfl | (simp; done), ?_⟩; (refine Ok.toEx ?_; (repeat (first | (with_reducible exact Ok.rf _) | (with_reducible refine Ok.alloc ?_ _) | (with_reducible refine Ok.ex ?_ _) | (with_reducible refine Ok.drew ?_) | (with_reducible refine Ok.setCellI ?_ _ _ _)))))
      · clear hc
        go_wp2
        (refine wp_region_ex (by kernel_rfl) (by kernel_rfl) ?_; (repeat (go_big_quiet_step (((go_at_call 55; first | exact calls_ex_same (in_yes _ _ _ _ (by omega) (by omega)) | exact calls_ex_same (in_no _ _ _ _ (by omega))))))); refine wpQuiet_nil ?_; rintro _ ⟨k, rfl⟩)
        go_wp2
        (go_ret; refine ⟨by first | rfl | (simp; done), ?_⟩; (refine Ok.toEx ?_; (repeat (first | (with_reducible exact Ok.rf _) | (with_reducible refine Ok.alloc ?_ _) | (with_reducible refine Ok.ex ?_ _) | (with_reducible refine Ok.drew ?_) | (with_reducible refine Ok.setCellI ?_ _ _ _)))))
      · have c1 := hc (q - 1) (by omega)
        obtain ⟨p, rfl⟩ : ∃ p, q = p + 1 := ⟨q - 1, by omega⟩
        simp only [Nat.add_sub_cancel] at h4 c1
        clear hc
        go_wp2
        (refine wp_region_ex (by kernel_rfl) (by kernel_rfl) ?_; (repeat (go_big_quiet_step (((go_at_call 55; first | exact calls_ex_same (in_yes _ _ _ _ (by omega) (by omega)) | exact calls_ex_same (in_no _ _ _ _ (by omega))))))); refine wpQuiet_nil ?_; rintro _ ⟨k, rfl⟩)
        go_wp2
        (go_ret; refine ⟨by first | rfl | (simp; done), ?_⟩; (refine Ok.toEx ?_; (repeat (first | (with_reducible exact Ok.rf _) | (with_reducible refine Ok.alloc ?_ _) | (with_reducible refine Ok.ex ?_ _) | (with_reducible refine Ok.drew ?_) | (with_reducible refine Ok.setCellI ?_ _ _ _)))))
    · exact absurd (fun i hi => HS.out i hi (by omega)) HR.out
end
end Go.Proofs.Ytfabohjejgdcgaa
