/-
  DriftOf of the reference. Conditions: those typed at each theorem.
-/
import Derived.Test.YtfabohjejgdcgaaTcN
import Derived.Test.YtfabohjejgdcgaaTcL
import Derived.Test.YtfabohjejgdcgaaIss
namespace Go.Proofs.Ytfabohjejgdcgaa
open Go.RowKit Tc
/-- the number j of pair i -/
def pr (V : List (List Int)) (i j : Nat) : Int := (V.getD i []).getD j 0
/-- is pair i one that DriftOf takes? -/
def drAt (V : List (List Int)) (i : Nat) : Prop := (V.getD i []).length = 2 ∧ (0 ≤ pr V i 0 ∧ pr V i 0 ≤ 86400000) ∧ (0 ≤ pr V i 1 ∧ pr V i 1 ≤ 86400000) ∧ (0 < i → pr V (i - 1) 0 < pr V i 0)
theorem drAt_cases (V : List (List Int)) (i : Nat) :
    (drAt V i ∧ (V.getD i []).length = 2 ∧ (0 ≤ pr V i 0 ∧ pr V i 0 ≤ 86400000) ∧ (0 ≤ pr V i 1 ∧ pr V i 1 ≤ 86400000) ∧ (i = 0 ∨ 0 < i ∧ pr V (i - 1) 0 < pr V i 0)) ∨
    (¬ drAt V i ∧ (V.getD i []).length ≠ 2) ∨ (¬ drAt V i ∧ (V.getD i []).length = 2 ∧ (pr V i 0 < 0 ∨ 86400000 < pr V i 0)) ∨
    (¬ drAt V i ∧ (V.getD i []).length = 2 ∧ (0 ≤ pr V i 0 ∧ pr V i 0 ≤ 86400000) ∧ (pr V i 1 < 0 ∨ 86400000 < pr V i 1)) ∨
    (¬ drAt V i ∧ (V.getD i []).length = 2 ∧ (0 ≤ pr V i 0 ∧ pr V i 0 ≤ 86400000) ∧ (0 ≤ pr V i 1 ∧ pr V i 1 ≤ 86400000) ∧ 0 < i ∧ pr V i 0 ≤ pr V (i - 1) 0) := by
  unfold drAt
  by_cases h1 : (V.getD i []).length = 2 <;> by_cases h2 : 0 ≤ pr V i 0 ∧ pr V i 0 ≤ 86400000 <;> by_cases h3 : 0 ≤ pr V i 1 ∧ pr V i 1 ≤ 86400000 <;> by_cases h4 : 0 < i → pr V (i - 1) 0 < pr V i 0
  all_goals simp only [h1, h2, h3, h4, true_and, and_true, false_and, and_false, not_true, not_false_iff, true_or, or_true, false_or, or_false, ne_eq]
  all_goals omega
/-- does DriftOf take it? -/
def okDr (V : List (List Int)) : Prop := (2 ≤ V.length ∧ V.length ≤ 64) ∧ ∀ i, i < V.length → drAt V i
/-- the offset at the first pair -/
def drOff (V : List (List Int)) : Int := pr V 0 1 - pr V 0 0
def drRate (V : List (List Int)) : Int := near ((pr V (V.length - 1) 1 - pr V (V.length - 1) 0 - drOff V) * 1000000) (pr V (V.length - 1) 0 - pr V 0 0)
theorem getV {V : List (List Int)} {k : Nat} (h : k < V.length) : V.getD k [] = V[k] := by simp [List.getD, h]
/-- the two cells of a pair -/
theorem pair_at {w : World} {B : Option Addr} {V : List (List Int)} {i : Nat} (h : i < V.length) (hB : Rd 1 iC w B V[i]) (h2 : (V.getD i []).length = 2) :
    ∃ b o, B = some ⟨b, o, none⟩ ∧ LtW b w ∧ w.cell? ⟨b, o, none⟩ = some (.int .i64 (pr V i 0)) ∧ w.cell? ⟨b, o + 1, none⟩ = some (.int .i64 (pr V i 1)) := by
  rw [getV h] at h2
  obtain ⟨b, o, e, hb, hc⟩ := hB.i (by omega)
  refine ⟨b, o, e, hb, ?_, ?_⟩
  · have := hc 0 (by omega)
    simpa [pr, List.getD, h, h2] using this
  · have := hc 1 (by omega)
    simpa [pr, List.getD, h, h2] using this
section
set_option maxHeartbeats 6400000
set_option maxRecDepth 20000
theorem sDrift_no (A : Option Addr) (c : Nat) (V : List (List Int)) (w : World) [hl : Iss w A V] (hn : V.length ≤ 1048576) (hr : ¬ okDr V) :
    Calls Try.prog 38 #[.slice A V.length c] w fun e w' => e = .returned (.tuple #[.int .i64 0, .int .i64 0, .int .i64 2]) ∧ ∃ k : Ex w, w' = k.v := by
  by_cases hv : V.length < 2
  · go_enter Try.func38, Try.ntmps38
    go_wp2
    (go_ret3; refine ⟨by first | rfl | (simp; done), ?_⟩; (refine Ok.toEx ?_; (repeat (first | (with_reducible exact Ok.rf _) | (with_reducible refine Ok.alloc ?_ _) | (with_reducible refine Ok.ex ?_ _) | (with_reducible refine Ok.drew ?_) | (with_reducible refine Ok.setCellI ?_ _ _ _)))))
  by_cases hv2 : 64 < V.length
  · have hv : 2 ≤ V.length := by omega
    go_enter Try.func38, Try.ntmps38
    go_wp2
    (go_ret3; refine ⟨by first | rfl | (simp; done), ?_⟩; (refine Ok.toEx ?_; (repeat (first | (with_reducible exact Ok.rf _) | (with_reducible refine Ok.alloc ?_ _) | (with_reducible refine Ok.ex ?_ _) | (with_reducible refine Ok.drew ?_) | (with_reducible refine Ok.setCellI ?_ _ _ _)))))
  have hv : 2 ≤ V.length := by omega
  have hv2 : V.length ≤ 64 := by omega
  have HA := hid hl.at_
  have HR : Hid (¬ ∀ i, i < V.length → drAt V i) := hid fun h => hr ⟨⟨hv, hv2⟩, h⟩
  clear hr
  go_enter Try.func38, Try.ntmps38
  go_wp2
  go_loopw [5] (fun t wr => ∃ q : Nat, q ≤ V.length ∧ t = .int .i64 q ∧ (∀ i, i < q → drAt V i) ∧ ∃ j : Ex w, wr = j.v) (fun t _ => V.length - (intOf t).toNat)
  case atStart => exact ⟨0, Nat.zero_le _, rfl, fun i h => absurd h (by omega), Ex.rf w, rfl⟩
  case round =>
    obtain ⟨q, hq, rfl, hs, j0, rfl⟩ := hrel
    have HS := hid hs
    clear hs
    by_cases hlt : q < V.length
    · obtain ⟨b, o, rfl, hbw, hc⟩ := HA.out (by omega)
      have HN : Hid (drAt V q → ∀ i, i < q + 1 → drAt V i) := hid fun h i hiq => by
        rcases Nat.lt_or_ge i q with h1 | h1
        · exact HS.out i h1
        · obtain rfl : i = q := by omega
          exact h
      obtain ⟨B, c1, c0, hB⟩ := hc q hlt
      have hp := pair_at hlt hB
      rw [← getV hlt] at c0
      have hB := hid hB
      rcases drAt_cases V q with ⟨h0, h1, ⟨h2, h3⟩, ⟨h4, h5⟩, h6 | ⟨h6, h7⟩⟩ | ⟨h0, h1⟩ | ⟨h0, h1, h2 | h2⟩ | ⟨h0, h1, ⟨h2, h3⟩, h4 | h4⟩ | ⟨h0, h1, ⟨h2, h3⟩, ⟨h4, h5⟩, h6, h7⟩
      · subst h6
        obtain ⟨b1, o1, rfl, hb1, d0, d1⟩ := hp h1
        rw [h1] at c0
        have c0 : w.cell? ⟨b, o, none⟩ = _ := c0
        have H0 := hid h0
        clear hc h0
        go_wp2
        (refine wp_region_ex (by kernel_rfl) (by kernel_rfl) ?_; (repeat (go_big_quiet_step (((first | (go_at_call 58; first | exact calls_ex_same (day_yes _ _ (by omega) (by omega)) | exact calls_ex_same (day_no _ _ (by omega)))))))); refine wpQuiet_nil ?_; rintro _ ⟨k, rfl⟩)
        go_wp2
        go_roundw
        case rel => exact ⟨1, by omega, by go_num, HN.out H0.out, j0.tr k, rfl⟩
        case measure => simp [intOf]; omega
      · obtain ⟨b1, o1, rfl, hb1, d0, d1⟩ := hp h1
        rw [h1] at c0
        obtain ⟨p, rfl⟩ : ∃ p, q = p + 1 := ⟨q - 1, by omega⟩
        simp only [Nat.add_sub_cancel] at h7
        obtain ⟨B', c1', c0', hB'⟩ := hc p (by omega)
        have hp' := pair_at (by omega) hB' (HS.out p (by omega)).1
        rw [← getV (by omega), (HS.out p (by omega)).1] at c0'
        obtain ⟨b2, o2, rfl, hb2, e0, e1⟩ := hp'
        have H0 := hid h0
        clear hc h0 hp hB'
        go_wp2
        (refine wp_region_ex (by kernel_rfl) (by kernel_rfl) ?_; (repeat (go_big_quiet_step (((first | (go_at_call 58; first | exact calls_ex_same (day_yes _ _ (by omega) (by omega)) | exact calls_ex_same (day_no _ _ (by omega)))))))); refine wpQuiet_nil ?_; rintro _ ⟨k, rfl⟩)
        go_wp2
        go_roundw
        case rel => exact ⟨p + 1 + 1, by omega, by go_num, HN.out H0.out, j0.tr k, rfl⟩
        case measure => simp [intOf]; omega
      · clear hc hp
        have h1' : ((V.getD q []).length : Int) ≠ 2 := by omega
        generalize (V.getD q []).length = n at *
        have hb1 : ((n : Int) == 2) = false := by rw [beq_eq_false_iff_ne]; exact h1'
        have hb2 : ((n : Int) != 2) = true := by rw [bne, hb1]; rfl
        go_wp2
        (refine wp_region_ex (by kernel_rfl) (by kernel_rfl) ?_; (repeat (go_big_quiet_step (((first | (go_at_call 58; first | exact calls_ex_same (day_yes _ _ (by omega) (by omega)) | exact calls_ex_same (day_no _ _ (by omega)))))))); refine wpQuiet_nil ?_; rintro _ ⟨k, rfl⟩)
        go_wp2
        (go_ret3; refine ⟨by first | rfl | (simp; done), ?_⟩; (refine Ok.toEx ?_; (repeat (first | (with_reducible exact Ok.rf _) | (with_reducible refine Ok.alloc ?_ _) | (with_reducible refine Ok.ex ?_ _) | (with_reducible refine Ok.drew ?_) | (with_reducible refine Ok.setCellI ?_ _ _ _)))))
      · obtain ⟨b1, o1, rfl, hb1, d0, d1⟩ := hp h1
        rw [h1] at c0
        clear hc
        go_wp2
        (refine wp_region_ex (by kernel_rfl) (by kernel_rfl) ?_; (repeat (go_big_quiet_step (((first | (go_at_call 58; first | exact calls_ex_same (day_yes _ _ (by omega) (by omega)) | exact calls_ex_same (day_no _ _ (by omega)))))))); refine wpQuiet_nil ?_; rintro _ ⟨k, rfl⟩)
        go_wp2
        (go_ret3; refine ⟨by first | rfl | (simp; done), ?_⟩; (refine Ok.toEx ?_; (repeat (first | (with_reducible exact Ok.rf _) | (with_reducible refine Ok.alloc ?_ _) | (with_reducible refine Ok.ex ?_ _) | (with_reducible refine Ok.drew ?_) | (with_reducible refine Ok.setCellI ?_ _ _ _)))))
      · obtain ⟨b1, o1, rfl, hb1, d0, d1⟩ := hp h1
        rw [h1] at c0
        clear hc
        go_wp2
        (refine wp_region_ex (by kernel_rfl) (by kernel_rfl) ?_; (repeat (go_big_quiet_step (((first | (go_at_call 58; first | exact calls_ex_same (day_yes _ _ (by omega) (by omega)) | exact calls_ex_same (day_no _ _ (by omega)))))))); refine wpQuiet_nil ?_; rintro _ ⟨k, rfl⟩)
        go_wp2
        (go_ret3; refine ⟨by first | rfl | (simp; done), ?_⟩; (refine Ok.toEx ?_; (repeat (first | (with_reducible exact Ok.rf _) | (with_reducible refine Ok.alloc ?_ _) | (with_reducible refine Ok.ex ?_ _) | (with_reducible refine Ok.drew ?_) | (with_reducible refine Ok.setCellI ?_ _ _ _)))))
      · obtain ⟨b1, o1, rfl, hb1, d0, d1⟩ := hp h1
        rw [h1] at c0
        clear hc
        go_wp2
        (refine wp_region_ex (by kernel_rfl) (by kernel_rfl) ?_; (repeat (go_big_quiet_step (((first | (go_at_call 58; first | exact calls_ex_same (day_yes _ _ (by omega) (by omega)) | exact calls_ex_same (day_no _ _ (by omega)))))))); refine wpQuiet_nil ?_; rintro _ ⟨k, rfl⟩)
        go_wp2
        (go_ret3; refine ⟨by first | rfl | (simp; done), ?_⟩; (refine Ok.toEx ?_; (repeat (first | (with_reducible exact Ok.rf _) | (with_reducible refine Ok.alloc ?_ _) | (with_reducible refine Ok.ex ?_ _) | (with_reducible refine Ok.drew ?_) | (with_reducible refine Ok.setCellI ?_ _ _ _)))))
      · obtain ⟨b1, o1, rfl, hb1, d0, d1⟩ := hp h1
        rw [h1] at c0
        clear hc
        go_wp2
        (refine wp_region_ex (by kernel_rfl) (by kernel_rfl) ?_; (repeat (go_big_quiet_step (((first | (go_at_call 58; first | exact calls_ex_same (day_yes _ _ (by omega) (by omega)) | exact calls_ex_same (day_no _ _ (by omega)))))))); refine wpQuiet_nil ?_; rintro _ ⟨k, rfl⟩)
        go_wp2
        (go_ret3; refine ⟨by first | rfl | (simp; done), ?_⟩; (refine Ok.toEx ?_; (repeat (first | (with_reducible exact Ok.rf _) | (with_reducible refine Ok.alloc ?_ _) | (with_reducible refine Ok.ex ?_ _) | (with_reducible refine Ok.drew ?_) | (with_reducible refine Ok.setCellI ?_ _ _ _)))))
      · obtain ⟨b1, o1, rfl, hb1, d0, d1⟩ := hp h1
        rw [h1] at c0
        obtain ⟨p, rfl⟩ : ∃ p, q = p + 1 := ⟨q - 1, by omega⟩
        simp only [Nat.add_sub_cancel] at h7
        obtain ⟨B', c1', c0', hB'⟩ := hc p (by omega)
        have hp' := pair_at (by omega) hB' (HS.out p (by omega)).1
        rw [← getV (by omega), (HS.out p (by omega)).1] at c0'
        obtain ⟨b2, o2, rfl, hb2, e0, e1⟩ := hp'
        clear hc hp hB'
        go_wp2
        (refine wp_region_ex (by kernel_rfl) (by kernel_rfl) ?_; (repeat (go_big_quiet_step (((first | (go_at_call 58; first | exact calls_ex_same (day_yes _ _ (by omega) (by omega)) | exact calls_ex_same (day_no _ _ (by omega)))))))); refine wpQuiet_nil ?_; rintro _ ⟨k, rfl⟩)
        go_wp2
        (go_ret3; refine ⟨by first | rfl | (simp; done), ?_⟩; (refine Ok.toEx ?_; (repeat (first | (with_reducible exact Ok.rf _) | (with_reducible refine Ok.alloc ?_ _) | (with_reducible refine Ok.ex ?_ _) | (with_reducible refine Ok.drew ?_) | (with_reducible refine Ok.setCellI ?_ _ _ _)))))
    · exact absurd (fun i hi => HS.out i (by omega)) HR.out
end
end Go.Proofs.Ytfabohjejgdcgaa
