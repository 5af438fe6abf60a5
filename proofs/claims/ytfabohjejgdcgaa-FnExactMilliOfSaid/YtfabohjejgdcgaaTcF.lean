/-
  Contracts of the exported functions on times and frames: each returns what its plain function says. Conditions: those typed at each theorem.
-/
import Derived.Test.YtfabohjejgdcgaaTcE
namespace Go.Proofs.Ytfabohjejgdcgaa
open Go.RowKit Tc
section
set_option maxHeartbeats 1600000
theorem iMilliOf_yes (f r : Int) (w : World) (hr : okRate r) (h0 : 0 ≤ f) (h1 : f ≤ 8640000) :
    Calls Try.prog 19 #[.int .i64 f, .int .i64 r] w fun e w' => e = .returned (.tuple #[.int .i64 (msAt f r), .int .i64 0]) ∧ w = w' := by
  go_enter Try.func19, Try.ntmps19
  go_wp2_with (first | (go_at_call 52; first | (refine (isr_yes _ _ (by assumption)).mono ?_; rintro e w' ⟨rfl, rfl⟩) | (refine (isr_no _ _ (by assumption)).mono ?_; rintro e w' ⟨rfl, rfl⟩)) | (go_at_call 53; first | (refine (wi_yes _ _ _ _ (by omega) (by omega)).mono ?_; rintro e w' ⟨rfl, rfl⟩) | (refine (wi_no _ _ _ _ (by omega)).mono ?_; rintro e w' ⟨rfl, rfl⟩)) | (go_at_call 57; refine (milliAt_any _ _ _ hr h0 (by omega)).mono ?_; rintro e w' ⟨rfl, rfl⟩))
  go_ret2
  exact ⟨rfl, rfl⟩
theorem iMilliOf_no (f r : Int) (w : World) (h : ¬ (okRate r ∧ 0 ≤ f ∧ f ≤ 8640000)) :
    Calls Try.prog 19 #[.int .i64 f, .int .i64 r] w fun e w' => e = .returned (.tuple #[.int .i64 0, .int .i64 2]) ∧ w = w' := by
  by_cases hr : okRate r
  · have h1 : f < 0 ∨ 8640000 < f := by
      rcases Classical.em (f < 0 ∨ 8640000 < f) with h1 | h1
      · exact h1
      · exact absurd ⟨hr, by omega, by omega⟩ h
    clear h
    go_enter Try.func19, Try.ntmps19
    go_wp2_with (first | (go_at_call 52; first | (refine (isr_yes _ _ (by assumption)).mono ?_; rintro e w' ⟨rfl, rfl⟩) | (refine (isr_no _ _ (by assumption)).mono ?_; rintro e w' ⟨rfl, rfl⟩)) | (go_at_call 53; first | (refine (wi_yes _ _ _ _ (by omega) (by omega)).mono ?_; rintro e w' ⟨rfl, rfl⟩) | (refine (wi_no _ _ _ _ (by omega)).mono ?_; rintro e w' ⟨rfl, rfl⟩)))
    go_ret2
    exact ⟨rfl, rfl⟩
  · clear h
    go_enter Try.func19, Try.ntmps19
    go_wp2_with (first | (go_at_call 52; first | (refine (isr_yes _ _ (by assumption)).mono ?_; rintro e w' ⟨rfl, rfl⟩) | (refine (isr_no _ _ (by assumption)).mono ?_; rintro e w' ⟨rfl, rfl⟩)) | (go_at_call 53; first | (refine (wi_yes _ _ _ _ (by omega) (by omega)).mono ?_; rintro e w' ⟨rfl, rfl⟩) | (refine (wi_no _ _ _ _ (by omega)).mono ?_; rintro e w' ⟨rfl, rfl⟩)))
    go_ret2
    exact ⟨rfl, rfl⟩
theorem sMilliOf_yes (f r : Int) (w : World) (hr : okRate r) (h0 : 0 ≤ f) (h1 : f ≤ 8640000) :
    Calls Try.prog 18 #[.int .i64 f, .int .i64 r] w fun e w' => e = .returned (.tuple #[.int .i64 (msAt f r), .int .i64 0]) ∧ w = w' := by
  go_enter Try.func18, Try.ntmps18
  go_wp2_with (first | (go_at_call 54; first | (refine (rt_yes _ _ (by assumption)).mono ?_; rintro e w' ⟨rfl, rfl⟩) | (refine (rt_no _ _ (by assumption)).mono ?_; rintro e w' ⟨rfl, rfl⟩)) | (go_at_call 55; first | (refine (in_yes _ _ _ _ (by omega) (by omega)).mono ?_; rintro e w' ⟨rfl, rfl⟩) | (refine (in_no _ _ _ _ (by omega)).mono ?_; rintro e w' ⟨rfl, rfl⟩)) | (go_at_call 56; refine (l16Milli_any _ _ _ hr h0 (by omega)).mono ?_; rintro e w' ⟨rfl, rfl⟩))
  go_ret2
  exact ⟨rfl, rfl⟩
theorem sMilliOf_no (f r : Int) (w : World) (h : ¬ (okRate r ∧ 0 ≤ f ∧ f ≤ 8640000)) :
    Calls Try.prog 18 #[.int .i64 f, .int .i64 r] w fun e w' => e = .returned (.tuple #[.int .i64 0, .int .i64 2]) ∧ w = w' := by
  by_cases hr : okRate r
  · have h1 : f < 0 ∨ 8640000 < f := by
      rcases Classical.em (f < 0 ∨ 8640000 < f) with h1 | h1
      · exact h1
      · exact absurd ⟨hr, by omega, by omega⟩ h
    clear h
    go_enter Try.func18, Try.ntmps18
    go_wp2_with (first | (go_at_call 54; first | (refine (rt_yes _ _ (by assumption)).mono ?_; rintro e w' ⟨rfl, rfl⟩) | (refine (rt_no _ _ (by assumption)).mono ?_; rintro e w' ⟨rfl, rfl⟩)) | (go_at_call 55; first | (refine (in_yes _ _ _ _ (by omega) (by omega)).mono ?_; rintro e w' ⟨rfl, rfl⟩) | (refine (in_no _ _ _ _ (by omega)).mono ?_; rintro e w' ⟨rfl, rfl⟩)))
    go_ret2
    exact ⟨rfl, rfl⟩
  · clear h
    go_enter Try.func18, Try.ntmps18
    go_wp2_with (first | (go_at_call 54; first | (refine (rt_yes _ _ (by assumption)).mono ?_; rintro e w' ⟨rfl, rfl⟩) | (refine (rt_no _ _ (by assumption)).mono ?_; rintro e w' ⟨rfl, rfl⟩)) | (go_at_call 55; first | (refine (in_yes _ _ _ _ (by omega) (by omega)).mono ?_; rintro e w' ⟨rfl, rfl⟩) | (refine (in_no _ _ _ _ (by omega)).mono ?_; rintro e w' ⟨rfl, rfl⟩)))
    go_ret2
    exact ⟨rfl, rfl⟩
theorem lMilliOf (f r : Int) (w : World) : Calls Try.prog 4 #[.int .i64 f, .int .i64 r] w fun e w' => e = .returned (.bool true) ∧ w = w' := by
  by_cases h : okRate r ∧ 0 ≤ f ∧ f ≤ 8640000
  · obtain ⟨hr, h0, h1⟩ := h
    go_enter Try.func4, Try.ntmps4
    go_wp2_with (first | (go_at_call 19; refine (iMilliOf_yes _ _ _ hr h0 h1).mono ?_; rintro e w' ⟨rfl, rfl⟩) | (go_at_call 18; refine (sMilliOf_yes _ _ _ hr h0 h1).mono ?_; rintro e w' ⟨rfl, rfl⟩))
    go_ret
    exact ⟨rfl, rfl⟩
  · have H := hid h
    clear h
    go_enter Try.func4, Try.ntmps4
    go_wp2_with (first | (go_at_call 19; refine (iMilliOf_no _ _ _ H.out).mono ?_; rintro e w' ⟨rfl, rfl⟩) | (go_at_call 18; refine (sMilliOf_no _ _ _ H.out).mono ?_; rintro e w' ⟨rfl, rfl⟩))
    go_ret
    exact ⟨rfl, rfl⟩
end
end Go.Proofs.Ytfabohjejgdcgaa
