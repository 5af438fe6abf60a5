/-
  Contracts of the exported functions on times and codes, and the laws over them. Conditions: those typed at each theorem.
-/
import Derived.Test.YtfabohjejgdcgaaTcE
namespace Go.Proofs.Ytfabohjejgdcgaa
open Go.RowKit Tc
theorem msAt_day {f r : Int} (hr : okRate r) (h0 : 0 ≤ f) (h1 : f < dayOf r) : 0 ≤ msAt f r ∧ msAt f r ≤ 86400000 := by
  rcases hr with rfl | rfl | rfl <;> simp [msAt, dayOf] at * <;> omega
theorem mul_bd {a b A B : Int} (h0 : 0 ≤ a) (h1 : a ≤ A) (h2 : -B ≤ b) (h3 : b ≤ B) : -(A * B) ≤ a * b ∧ a * b ≤ A * B := by
  have hB : 0 ≤ B := by omega
  have k1 : a * b ≤ a * B := Int.mul_le_mul_of_nonneg_left h3 h0
  have k2 : a * (-B) ≤ a * b := Int.mul_le_mul_of_nonneg_left h2 h0
  have k3 : a * B ≤ A * B := Int.mul_le_mul_of_nonneg_right h1 hB
  rw [Int.mul_neg] at k2
  omega
section
set_option maxHeartbeats 1600000
/-! ### FrameAt -/
def okFA (m r : Int) : Prop := okRate r ∧ 0 ≤ m ∧ m ≤ 86400000
theorem noFA {m r : Int} (h : ¬ okFA m r) : ¬ okRate r ∨ (okRate r ∧ (m < 0 ∨ 86400000 < m)) := by unfold okFA okRate at *; omega
theorem iFrameAt_yes (m r : Int) (w : World) (h : okFA m r) :
    Calls Try.prog 23 #[.int .i64 m, .int .i64 r] w fun e w' => e = .returned (.tuple #[.int .i64 (frAt m r), .int .i64 0]) ∧ w = w' := by
  obtain ⟨hr, h0, h1⟩ := h
  go_enter Try.func23, Try.ntmps23
  go_wp2_with (first | (go_at_call 52; first | (refine (isr_yes _ _ (by assumption)).mono ?_; rintro e w' ⟨rfl, rfl⟩) | (refine (isr_no _ _ (by assumption)).mono ?_; rintro e w' ⟨rfl, rfl⟩)) | (go_at_call 53; first | (refine (wi_yes _ _ _ _ (by omega) (by omega)).mono ?_; rintro e w' ⟨rfl, rfl⟩) | (refine (wi_no _ _ _ _ (by omega)).mono ?_; rintro e w' ⟨rfl, rfl⟩)) | (go_at_call 62; refine (frameAt_any _ _ _ hr h0 (by omega)).mono ?_; rintro e w' ⟨rfl, rfl⟩))
  go_ret2
  exact ⟨rfl, rfl⟩
theorem iFrameAt_no (m r : Int) (w : World) (h : ¬ okFA m r) :
    Calls Try.prog 23 #[.int .i64 m, .int .i64 r] w fun e w' => e = .returned (.tuple #[.int .i64 0, .int .i64 2]) ∧ w = w' := by
  rcases noFA h with c | ⟨hr, c⟩ <;> clear h
  all_goals
    go_enter Try.func23, Try.ntmps23
    go_wp2_with (first | (go_at_call 52; first | (refine (isr_yes _ _ (by assumption)).mono ?_; rintro e w' ⟨rfl, rfl⟩) | (refine (isr_no _ _ (by assumption)).mono ?_; rintro e w' ⟨rfl, rfl⟩)) | (go_at_call 53; first | (refine (wi_yes _ _ _ _ (by omega) (by omega)).mono ?_; rintro e w' ⟨rfl, rfl⟩) | (refine (wi_no _ _ _ _ (by omega)).mono ?_; rintro e w' ⟨rfl, rfl⟩)))
    go_ret2
    exact ⟨rfl, rfl⟩
theorem sFrameAt_yes (m r : Int) (w : World) (h : okFA m r) :
    Calls Try.prog 22 #[.int .i64 m, .int .i64 r] w fun e w' => e = .returned (.tuple #[.int .i64 (frAt m r), .int .i64 0]) ∧ w = w' := by
  obtain ⟨hr, h0, h1⟩ := h
  go_enter Try.func22, Try.ntmps22
  go_wp2_with (first | (go_at_call 54; first | (refine (rt_yes _ _ (by assumption)).mono ?_; rintro e w' ⟨rfl, rfl⟩) | (refine (rt_no _ _ (by assumption)).mono ?_; rintro e w' ⟨rfl, rfl⟩)) | (go_at_call 58; first | (refine (day_yes _ _ (by omega) (by omega)).mono ?_; rintro e w' ⟨rfl, rfl⟩) | (refine (day_no _ _ (by omega)).mono ?_; rintro e w' ⟨rfl, rfl⟩)) | (go_at_call 61; refine (l16At_any _ _ _ hr h0 h1).mono ?_; rintro e w' ⟨rfl, rfl⟩))
  go_ret2
  exact ⟨rfl, rfl⟩
theorem sFrameAt_no (m r : Int) (w : World) (h : ¬ okFA m r) :
    Calls Try.prog 22 #[.int .i64 m, .int .i64 r] w fun e w' => e = .returned (.tuple #[.int .i64 0, .int .i64 2]) ∧ w = w' := by
  rcases noFA h with c | ⟨hr, c⟩ <;> clear h
  all_goals
    go_enter Try.func22, Try.ntmps22
    go_wp2_with (first | (go_at_call 54; first | (refine (rt_yes _ _ (by assumption)).mono ?_; rintro e w' ⟨rfl, rfl⟩) | (refine (rt_no _ _ (by assumption)).mono ?_; rintro e w' ⟨rfl, rfl⟩)) | (go_at_call 58; first | (refine (day_yes _ _ (by omega) (by omega)).mono ?_; rintro e w' ⟨rfl, rfl⟩) | (refine (day_no _ _ (by omega)).mono ?_; rintro e w' ⟨rfl, rfl⟩)))
    go_ret2
    exact ⟨rfl, rfl⟩
theorem lFrameAt (m r : Int) (w : World) : Calls Try.prog 6 #[.int .i64 m, .int .i64 r] w fun e w' => e = .returned (.bool true) ∧ w = w' := by
  by_cases h : okFA m r
  all_goals
    have H := hid h
    clear h
    go_enter Try.func6, Try.ntmps6
    go_wp2_with (first | (go_at_call 23; first | (refine (iFrameAt_yes _ _ _ H.out).mono ?_; rintro e w' ⟨rfl, rfl⟩) | (refine (iFrameAt_no _ _ _ H.out).mono ?_; rintro e w' ⟨rfl, rfl⟩)) | (go_at_call 22; first | (refine (sFrameAt_yes _ _ _ H.out).mono ?_; rintro e w' ⟨rfl, rfl⟩) | (refine (sFrameAt_no _ _ _ H.out).mono ?_; rintro e w' ⟨rfl, rfl⟩)))
    go_ret
    exact ⟨rfl, rfl⟩
/-! ### CorrectTime -/
def okCT (m o s : Int) : Prop := 0 ≤ m ∧ m ≤ 86400000 ∧ -86400000 ≤ o ∧ o ≤ 86400000 ∧ -2000000 ≤ s ∧ s ≤ 2000000
theorem noCT {m o s : Int} (h : ¬ okCT m o s) : (m < 0 ∨ 86400000 < m) ∨ (0 ≤ m ∧ m ≤ 86400000 ∧ (o < -86400000 ∨ 86400000 < o)) ∨ (0 ≤ m ∧ m ≤ 86400000 ∧ -86400000 ≤ o ∧ o ≤ 86400000 ∧ (s < -2000000 ∨ 2000000 < s)) := by
  unfold okCT at *; omega
theorem iCorrectTime_yes (m o s : Int) (w : World) (h : okCT m o s) :
    Calls Try.prog 21 #[.int .i64 m, .int .i64 o, .int .i64 s] w fun e w' => e = .returned (.tuple #[.int .i64 (m + o + near (m * s) 1000000), .int .i64 0]) ∧ ∃ k : Ex w, w' = k.v := by
  obtain ⟨h0, h1, h2, h3, h4, h5⟩ := h
  obtain ⟨b1, b2⟩ := mul_bd h0 h1 h4 h5
  have b1 : -172800000000000 ≤ m * s := by omega
  have b2 : m * s ≤ 172800000000000 := by omega
  obtain ⟨b3, b4⟩ := near_bd (b := 1000000) 172800000000000 (by omega) b1 b2
  go_enter Try.func21, Try.ntmps21
  go_wp2_with (first | (go_at_call 53; first | (refine (wi_yes _ _ _ _ (by omega) (by omega)).mono ?_; rintro e w' ⟨rfl, rfl⟩) | (refine (wi_no _ _ _ _ (by omega)).mono ?_; rintro e w' ⟨rfl, rfl⟩)) | (go_at_call 60; refine (nearest_any _ _ _ (by omega) (by omega) (by omega) (by omega)).mono ?_; rintro e w' ⟨rfl, k, rfl⟩))
  go_ret2
  exact ⟨rfl, k, rfl⟩
theorem iCorrectTime_no (m o s : Int) (w : World) (h : ¬ okCT m o s) :
    Calls Try.prog 21 #[.int .i64 m, .int .i64 o, .int .i64 s] w fun e w' => e = .returned (.tuple #[.int .i64 0, .int .i64 2]) ∧ ∃ k : Ex w, w' = k.v := by
  rcases noCT h with c | ⟨c1, c2, c⟩ | ⟨c1, c2, c3, c4, c⟩ <;> clear h
  all_goals
    go_enter Try.func21, Try.ntmps21
    go_wp2_with (first | (go_at_call 53; first | (refine (wi_yes _ _ _ _ (by omega) (by omega)).mono ?_; rintro e w' ⟨rfl, rfl⟩) | (refine (wi_no _ _ _ _ (by omega)).mono ?_; rintro e w' ⟨rfl, rfl⟩)))
    go_ret2
    exact ⟨rfl, Ex.rf w, rfl⟩
theorem sCorrectTime_yes (m o s : Int) (w : World) (h : okCT m o s) :
    Calls Try.prog 20 #[.int .i64 m, .int .i64 o, .int .i64 s] w fun e w' => e = .returned (.tuple #[.int .i64 (m + o + near (m * s) 1000000), .int .i64 0]) ∧ w = w' := by
  obtain ⟨h0, h1, h2, h3, h4, h5⟩ := h
  obtain ⟨b1, b2⟩ := mul_bd h0 h1 h4 h5
  have b1 : -172800000000000 ≤ m * s := by omega
  have b2 : m * s ≤ 172800000000000 := by omega
  obtain ⟨b3, b4⟩ := near_bd (b := 1000000) 172800000000000 (by omega) b1 b2
  go_enter Try.func20, Try.ntmps20
  go_wp2_with (first | (go_at_call 55; first | (refine (in_yes _ _ _ _ (by omega) (by omega)).mono ?_; rintro e w' ⟨rfl, rfl⟩) | (refine (in_no _ _ _ _ (by omega)).mono ?_; rintro e w' ⟨rfl, rfl⟩)) | (go_at_call 58; first | (refine (day_yes _ _ (by omega) (by omega)).mono ?_; rintro e w' ⟨rfl, rfl⟩) | (refine (day_no _ _ (by omega)).mono ?_; rintro e w' ⟨rfl, rfl⟩)) | (go_at_call 59; refine (div_any _ _ _ (by omega) (by omega) (by omega) (by omega)).mono ?_; rintro e w' ⟨rfl, rfl⟩))
  go_ret2
  exact ⟨rfl, rfl⟩
theorem sCorrectTime_no (m o s : Int) (w : World) (h : ¬ okCT m o s) :
    Calls Try.prog 20 #[.int .i64 m, .int .i64 o, .int .i64 s] w fun e w' => e = .returned (.tuple #[.int .i64 0, .int .i64 2]) ∧ w = w' := by
  rcases noCT h with c | ⟨c1, c2, c⟩ | ⟨c1, c2, c3, c4, c⟩ <;> clear h
  all_goals
    go_enter Try.func20, Try.ntmps20
    go_wp2_with (first | (go_at_call 55; first | (refine (in_yes _ _ _ _ (by omega) (by omega)).mono ?_; rintro e w' ⟨rfl, rfl⟩) | (refine (in_no _ _ _ _ (by omega)).mono ?_; rintro e w' ⟨rfl, rfl⟩)) | (go_at_call 58; first | (refine (day_yes _ _ (by omega) (by omega)).mono ?_; rintro e w' ⟨rfl, rfl⟩) | (refine (day_no _ _ (by omega)).mono ?_; rintro e w' ⟨rfl, rfl⟩)))
    go_ret2
    exact ⟨rfl, rfl⟩
theorem lCorrectTime (m o s : Int) (w : World) : Calls Try.prog 5 #[.int .i64 m, .int .i64 o, .int .i64 s] w fun e w' => e = .returned (.bool true) ∧ ∃ k : Ex w, w' = k.v := by
  by_cases h : okCT m o s
  all_goals
    have H := hid h
    clear h
    go_enter Try.func5, Try.ntmps5
    go_wp2_with (first | (go_at_call 21; first | (refine (iCorrectTime_yes _ _ _ _ H.out).mono ?_; rintro e w' ⟨rfl, k, rfl⟩) | (refine (iCorrectTime_no _ _ _ _ H.out).mono ?_; rintro e w' ⟨rfl, k, rfl⟩)) | (go_at_call 20; first | (refine (sCorrectTime_yes _ _ _ _ H.out).mono ?_; rintro e w' ⟨rfl, rfl⟩) | (refine (sCorrectTime_no _ _ _ _ H.out).mono ?_; rintro e w' ⟨rfl, rfl⟩)))
    go_ret
    exact ⟨rfl, k, rfl⟩
end
end Go.Proofs.Ytfabohjejgdcgaa
