/-
  The laws over codes: each returns true. Conditions: none beside that numbers are numbers.
-/
import Derived.Test.YtfabohjejgdcgaaTcJ
namespace Go.Proofs.Ytfabohjejgdcgaa
open Go.RowKit Tc
section
set_option maxHeartbeats 1600000
theorem lValidCode (h m s f r : Int) (w : World) : Calls Try.prog 3 #[.agg #[.int .i64 h, .int .i64 m, .int .i64 s, .int .i64 f, .int .i64 r]] w fun e w' => e = .returned (.bool true) ∧ ∃ k : Ex w, w' = k.v := by
  by_cases hk : okCode h m s f r
  all_goals
    go_enter Try.func3, Try.ntmps3
    go_wp2_with (first | (go_at_call 16; refine (toCode_any _ _ _ _ _ _).mono ?_; rintro e w' ⟨rfl, k, rfl⟩) | (go_at_call 17; first | (refine (valid_yes _ _ _ _ _ _ (by assumption)).mono ?_; rintro e w' ⟨rfl, k, rfl⟩) | (refine (valid_no _ _ _ _ _ _ (by assumption)).mono ?_; rintro e w' ⟨rfl, k, rfl⟩)) | (go_at_call 15; first | (refine (sValid_yes _ _ _ _ _ _ hk).mono ?_; rintro e w' ⟨rfl, k, rfl⟩) | (refine (sValid_no _ _ _ _ _ _ hk).mono ?_; rintro e w' ⟨rfl, k, rfl⟩)))
    (go_ret; refine ⟨by first | rfl | (simp; done), ?_⟩; (refine Ok.toEx ?_; (repeat (first | (with_reducible exact Ok.rf _) | (with_reducible refine Ok.alloc ?_ _) | (with_reducible refine Ok.ex ?_ _) | (with_reducible refine Ok.drew ?_) | (with_reducible refine Ok.setCellI ?_ _ _ _)))))
theorem lFrameOf (h m s f r : Int) (w : World) : Calls Try.prog 7 #[.agg #[.int .i64 h, .int .i64 m, .int .i64 s, .int .i64 f, .int .i64 r]] w fun e w' => e = .returned (.bool true) ∧ ∃ k : Ex w, w' = k.v := by
  by_cases hk : okCode h m s f r
  all_goals
    go_enter Try.func7, Try.ntmps7
    go_wp2_with (first | (go_at_call 16; refine (toCode_any _ _ _ _ _ _).mono ?_; rintro e w' ⟨rfl, k, rfl⟩) | (go_at_call 25; first | (refine (iFrameOf_yes _ _ _ _ _ _ hk).mono ?_; rintro e w' ⟨rfl, k, rfl⟩) | (refine (iFrameOf_no _ _ _ _ _ _ hk).mono ?_; rintro e w' ⟨rfl, k, rfl⟩)) | (go_at_call 24; first | (refine (sFrameOf_yes _ _ _ _ _ _ hk).mono ?_; rintro e w' ⟨rfl, k, rfl⟩) | (refine (sFrameOf_no _ _ _ _ _ _ hk).mono ?_; rintro e w' ⟨rfl, k, rfl⟩)))
    (go_ret; refine ⟨by first | rfl | (simp; done), ?_⟩; (refine Ok.toEx ?_; (repeat (first | (with_reducible exact Ok.rf _) | (with_reducible refine Ok.alloc ?_ _) | (with_reducible refine Ok.ex ?_ _) | (with_reducible refine Ok.drew ?_) | (with_reducible refine Ok.setCellI ?_ _ _ _)))))
theorem lCodeAt (f r : Int) (w : World) : Calls Try.prog 10 #[.int .i64 f, .int .i64 r] w fun e w' => e = .returned (.bool true) ∧ ∃ k : Ex w, w' = k.v := by
  by_cases hk : okRate r ∧ 0 ≤ f ∧ f < dayOf r
  · obtain ⟨hr, h0, h1⟩ := hk
    go_enter Try.func10, Try.ntmps10
    go_wp2_with (first | (go_at_call 36; refine (eqCode_any _ _ _ _ _ _).mono ?_; rintro e w' ⟨rfl, k, rfl⟩) | (go_at_call 35; refine (iCodeAt_yes _ _ _ hr h0 h1).mono ?_; rintro e w' ⟨rfl, k, rfl⟩) | (go_at_call 34; refine (sCodeAt_yes _ _ _ hr h0 h1).mono ?_; rintro e w' ⟨rfl, k, rfl⟩))
    (go_ret; refine ⟨by first | rfl | (simp; done), ?_⟩; (refine Ok.toEx ?_; (repeat (first | (with_reducible exact Ok.rf _) | (with_reducible refine Ok.alloc ?_ _) | (with_reducible refine Ok.ex ?_ _) | (with_reducible refine Ok.drew ?_) | (with_reducible refine Ok.setCellI ?_ _ _ _)))))
  · have H := hid hk
    clear hk
    go_enter Try.func10, Try.ntmps10
    go_wp2_with (first | (go_at_call 36; refine (eqCode_any _ _ _ _ _ _).mono ?_; rintro e w' ⟨rfl, k, rfl⟩) | (go_at_call 35; refine (iCodeAt_no _ _ _ H.out).mono ?_; rintro e w' ⟨rfl, k, rfl⟩) | (go_at_call 34; refine (sCodeAt_no _ _ _ H.out).mono ?_; rintro e w' ⟨rfl, k, rfl⟩))
    (go_ret; refine ⟨by first | rfl | (simp; done), ?_⟩; (refine Ok.toEx ?_; (repeat (first | (with_reducible exact Ok.rf _) | (with_reducible refine Ok.alloc ?_ _) | (with_reducible refine Ok.ex ?_ _) | (with_reducible refine Ok.drew ?_) | (with_reducible refine Ok.setCellI ?_ _ _ _)))))
theorem lAddFrames (h m s f r d : Int) (w : World) : Calls Try.prog 12 #[.agg #[.int .i64 h, .int .i64 m, .int .i64 s, .int .i64 f, .int .i64 r], .int .i64 d] w fun e w' => e = .returned (.bool true) ∧ ∃ k : Ex w, w' = k.v := by
  by_cases hk : okCode h m s f r
  · by_cases hd : d < -8640000 ∨ 8640000 < d
    · go_enter Try.func12, Try.ntmps12
      go_wp2_with (first | (go_at_call 16; refine (toCode_any _ _ _ _ _ _).mono ?_; rintro e w' ⟨rfl, k, rfl⟩) | (go_at_call 36; refine (eqCode_any _ _ _ _ _ _).mono ?_; rintro e w' ⟨rfl, k, rfl⟩) | (go_at_call 43; refine (iAdd_no2 _ _ _ _ _ _ _ hk hd).mono ?_; rintro e w' ⟨rfl, k, rfl⟩) | (go_at_call 42; refine (sAdd_no2 _ _ _ _ _ _ _ hk hd).mono ?_; rintro e w' ⟨rfl, k, rfl⟩))
      (go_ret; refine ⟨by first | rfl | (simp; done), ?_⟩; (refine Ok.toEx ?_; (repeat (first | (with_reducible exact Ok.rf _) | (with_reducible refine Ok.alloc ?_ _) | (with_reducible refine Ok.ex ?_ _) | (with_reducible refine Ok.drew ?_) | (with_reducible refine Ok.setCellI ?_ _ _ _)))))
    · obtain ⟨d1, d2⟩ : -8640000 ≤ d ∧ d ≤ 8640000 := by omega
      clear hd
      by_cases hn1 : num h m s f r + d < 0
      · go_enter Try.func12, Try.ntmps12
        go_wp2_with (first | (go_at_call 16; refine (toCode_any _ _ _ _ _ _).mono ?_; rintro e w' ⟨rfl, k, rfl⟩) | (go_at_call 36; refine (eqCode_any _ _ _ _ _ _).mono ?_; rintro e w' ⟨rfl, k, rfl⟩) | (go_at_call 43; refine (iAdd_no6 _ _ _ _ _ _ _ hk d1 d2 (.inl hn1)).mono ?_; rintro e w' ⟨rfl, k, rfl⟩) | (go_at_call 42; refine (sAdd_no6a _ _ _ _ _ _ _ hk d1 d2 hn1).mono ?_; rintro e w' ⟨rfl, k, rfl⟩))
        (go_ret; refine ⟨by first | rfl | (simp; done), ?_⟩; (refine Ok.toEx ?_; (repeat (first | (with_reducible exact Ok.rf _) | (with_reducible refine Ok.alloc ?_ _) | (with_reducible refine Ok.ex ?_ _) | (with_reducible refine Ok.drew ?_) | (with_reducible refine Ok.setCellI ?_ _ _ _)))))
      · by_cases hn2 : dayOf r ≤ num h m s f r + d
        · go_enter Try.func12, Try.ntmps12
          go_wp2_with (first | (go_at_call 16; refine (toCode_any _ _ _ _ _ _).mono ?_; rintro e w' ⟨rfl, k, rfl⟩) | (go_at_call 36; refine (eqCode_any _ _ _ _ _ _).mono ?_; rintro e w' ⟨rfl, k, rfl⟩) | (go_at_call 43; refine (iAdd_no6 _ _ _ _ _ _ _ hk d1 d2 (.inr hn2)).mono ?_; rintro e w' ⟨rfl, k, rfl⟩) | (go_at_call 42; refine (sAdd_no6b _ _ _ _ _ _ _ hk d1 d2 hn2).mono ?_; rintro e w' ⟨rfl, k, rfl⟩))
          (go_ret; refine ⟨by first | rfl | (simp; done), ?_⟩; (refine Ok.toEx ?_; (repeat (first | (with_reducible exact Ok.rf _) | (with_reducible refine Ok.alloc ?_ _) | (with_reducible refine Ok.ex ?_ _) | (with_reducible refine Ok.drew ?_) | (with_reducible refine Ok.setCellI ?_ _ _ _)))))
        · have hn1 := Int.not_lt.1 hn1
          have hn2 := Int.not_le.1 hn2
          go_enter Try.func12, Try.ntmps12
          go_wp2_with (first | (go_at_call 16; refine (toCode_any _ _ _ _ _ _).mono ?_; rintro e w' ⟨rfl, k, rfl⟩) | (go_at_call 36; refine (eqCode_any _ _ _ _ _ _).mono ?_; rintro e w' ⟨rfl, k, rfl⟩) | (go_at_call 43; refine (iAdd_yes _ _ _ _ _ _ _ hk d1 d2 hn1 hn2).mono ?_; rintro e w' ⟨rfl, k, rfl⟩) | (go_at_call 42; refine (sAdd_yes _ _ _ _ _ _ _ hk d1 d2 hn1 hn2).mono ?_; rintro e w' ⟨rfl, k, rfl⟩))
          (go_ret; refine ⟨by first | rfl | (simp; done), ?_⟩; (refine Ok.toEx ?_; (repeat (first | (with_reducible exact Ok.rf _) | (with_reducible refine Ok.alloc ?_ _) | (with_reducible refine Ok.ex ?_ _) | (with_reducible refine Ok.drew ?_) | (with_reducible refine Ok.setCellI ?_ _ _ _)))))
  · go_enter Try.func12, Try.ntmps12
    go_wp2_with (first | (go_at_call 16; refine (toCode_any _ _ _ _ _ _).mono ?_; rintro e w' ⟨rfl, k, rfl⟩) | (go_at_call 36; refine (eqCode_any _ _ _ _ _ _).mono ?_; rintro e w' ⟨rfl, k, rfl⟩) | (go_at_call 43; refine (iAdd_no1 _ _ _ _ _ _ _ hk).mono ?_; rintro e w' ⟨rfl, k, rfl⟩) | (go_at_call 42; refine (sAdd_no1 _ _ _ _ _ _ _ hk).mono ?_; rintro e w' ⟨rfl, k, rfl⟩))
    (go_ret; refine ⟨by first | rfl | (simp; done), ?_⟩; (refine Ok.toEx ?_; (repeat (first | (with_reducible exact Ok.rf _) | (with_reducible refine Ok.alloc ?_ _) | (with_reducible refine Ok.ex ?_ _) | (with_reducible refine Ok.drew ?_) | (with_reducible refine Ok.setCellI ?_ _ _ _)))))
theorem lBetween (h m s f r h' m' s' f' r' : Int) (w : World) : Calls Try.prog 8 #[.agg #[.int .i64 h, .int .i64 m, .int .i64 s, .int .i64 f, .int .i64 r], .agg #[.int .i64 h', .int .i64 m', .int .i64 s', .int .i64 f', .int .i64 r']] w fun e w' => e = .returned (.bool true) ∧ ∃ k : Ex w, w' = k.v := by
  by_cases hk : okCode h m s f r ∧ okCode h' m' s' f' r'
  · by_cases hr : r = r'
    · subst hr
      obtain ⟨k1, k2⟩ := hk
      go_enter Try.func8, Try.ntmps8
      go_wp2
      (refine wp_region_ex (by kernel_rfl) (by kernel_rfl) ?_; (repeat (go_big_quiet_step (((first | (go_at_call 16; exact calls_ex (toCode_any _ _ _ _ _ _)) | (go_at_call 26; exact calls_ex (sBetween_yes _ _ _ _ _ _ _ _ _ _ k1 k2))))))); refine wpQuiet_nil ?_; rintro _ ⟨k, rfl⟩)
      go_wp2
      (refine wp_region_ex (by kernel_rfl) (by kernel_rfl) ?_; (repeat (go_big_quiet_step (((first | (go_at_call 16; exact calls_ex (toCode_any _ _ _ _ _ _)) | (go_at_call 27; exact calls_ex (iBetween_yes _ _ _ _ _ _ _ _ _ _ k1 k2))))))); refine wpQuiet_nil ?_; rintro _ ⟨k, rfl⟩)
      go_wp2
      (go_ret; refine ⟨by first | rfl | (simp; done), ?_⟩; (refine Ok.toEx ?_; (repeat (first | (with_reducible exact Ok.rf _) | (with_reducible refine Ok.alloc ?_ _) | (with_reducible refine Ok.ex ?_ _) | (with_reducible refine Ok.drew ?_) | (with_reducible refine Ok.setCellI ?_ _ _ _)))))
    · obtain ⟨k1, k2⟩ := hk
      go_enter Try.func8, Try.ntmps8
      go_wp2
      (refine wp_region_ex (by kernel_rfl) (by kernel_rfl) ?_; (repeat (go_big_quiet_step (((first | (go_at_call 16; exact calls_ex (toCode_any _ _ _ _ _ _)) | (go_at_call 26; exact calls_ex (sBetween_no6 _ _ _ _ _ _ _ _ _ _ _ k1 k2 hr))))))); refine wpQuiet_nil ?_; rintro _ ⟨k, rfl⟩)
      go_wp2
      (refine wp_region_ex (by kernel_rfl) (by kernel_rfl) ?_; (repeat (go_big_quiet_step (((first | (go_at_call 16; exact calls_ex (toCode_any _ _ _ _ _ _)) | (go_at_call 27; exact calls_ex (iBetween_no6 _ _ _ _ _ _ _ _ _ _ _ k1 k2 hr))))))); refine wpQuiet_nil ?_; rintro _ ⟨k, rfl⟩)
      go_wp2
      (go_ret; refine ⟨by first | rfl | (simp; done), ?_⟩; (refine Ok.toEx ?_; (repeat (first | (with_reducible exact Ok.rf _) | (with_reducible refine Ok.alloc ?_ _) | (with_reducible refine Ok.ex ?_ _) | (with_reducible refine Ok.drew ?_) | (with_reducible refine Ok.setCellI ?_ _ _ _)))))
  · have H := hid hk
    clear hk
    go_enter Try.func8, Try.ntmps8
    go_wp2
    (refine wp_region_ex (by kernel_rfl) (by kernel_rfl) ?_; (repeat (go_big_quiet_step (((first | (go_at_call 16; exact calls_ex (toCode_any _ _ _ _ _ _)) | (go_at_call 26; exact calls_ex (sBetween_no1 _ _ _ _ _ _ _ _ _ _ _ H.out))))))); refine wpQuiet_nil ?_; rintro _ ⟨k, rfl⟩)
    go_wp2
    (refine wp_region_ex (by kernel_rfl) (by kernel_rfl) ?_; (repeat (go_big_quiet_step (((first | (go_at_call 16; exact calls_ex (toCode_any _ _ _ _ _ _)) | (go_at_call 27; exact calls_ex (iBetween_no1 _ _ _ _ _ _ _ _ _ _ _ H.out))))))); refine wpQuiet_nil ?_; rintro _ ⟨k, rfl⟩)
    go_wp2
    (go_ret; refine ⟨by first | rfl | (simp; done), ?_⟩; (refine Ok.toEx ?_; (repeat (first | (with_reducible exact Ok.rf _) | (with_reducible refine Ok.alloc ?_ _) | (with_reducible refine Ok.ex ?_ _) | (with_reducible refine Ok.drew ?_) | (with_reducible refine Ok.setCellI ?_ _ _ _)))))
end
end Go.Proofs.Ytfabohjejgdcgaa
