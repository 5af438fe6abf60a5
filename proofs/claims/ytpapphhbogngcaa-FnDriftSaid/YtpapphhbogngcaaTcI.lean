/-
  Contracts of the exported functions that take or return codes, and the laws over them. Conditions: those typed at each theorem.
-/
import Derived.Test.YtpapphhbogngcaaTcH
import Derived.Deep.RegionHeld3
namespace Go.Proofs.Ytpapphhbogngcaa
open Go.RowKit Tc
section
set_option maxHeartbeats 1600000
/-! ### FramesBetween -/
theorem iBetween_yes (h m s f r h' m' s' f' : Int) (w : World) (hk : okCode h m s f r) (hk' : okCode h' m' s' f' r) :
    Calls Try.prog 10 #[.agg #[.int .i64 h, .int .i64 m, .int .i64 s, .int .i64 f, .int .i64 r], .agg #[.int .i64 h', .int .i64 m', .int .i64 s', .int .i64 f', .int .i64 r]] w fun e w' => e = .returned (.tuple #[.int .i64 (num h' m' s' f' r - num h m s f r), .int .i64 0]) ∧ ∃ k : Ex w, w' = k.v := by
  obtain ⟨b1, b2⟩ := num_rng hk
  obtain ⟨b3, b4⟩ := num_rng hk'
  obtain ⟨d0, d1⟩ := dayOf_bd hk.1
  go_enter Try.func10, Try.ntmps10
  go_wp2_with (first | (go_at_call 42; first | (refine (valid_yes _ _ _ _ _ _ (by assumption)).mono ?_; rintro e w' ⟨rfl, k, rfl⟩) | (refine (valid_no _ _ _ _ _ _ (by assumption)).mono ?_; rintro e w' ⟨rfl, k, rfl⟩)))
  (refine wp_region_ex (by kernel_rfl) (by kernel_rfl) ?_; (repeat (go_big_quiet_step (((first | (go_at_call 44; exact calls_ex (frameOf_any _ _ _ _ _ _ hk)) | (go_at_call 44; exact calls_ex (frameOf_any _ _ _ _ _ _ hk'))))))); refine wpQuiet_nil ?_; rintro _ ⟨k, rfl⟩)
  go_wp2
  (go_ret2; refine ⟨by first | rfl | (simp; done), ?_⟩; (refine Ok.toEx ?_; (repeat (first | (with_reducible exact Ok.rf _) | (with_reducible refine Ok.alloc ?_ _) | (with_reducible refine Ok.ex ?_ _) | (with_reducible refine Ok.drew ?_) | (with_reducible refine Ok.setCellI ?_ _ _ _) | (with_reducible refine Ok.exb ?_ _)))))
theorem iBetween_no1 (h m s f r h' m' s' f' r' : Int) (w : World) (hk : ¬ (okCode h m s f r ∧ okCode h' m' s' f' r')) :
    Calls Try.prog 10 #[.agg #[.int .i64 h, .int .i64 m, .int .i64 s, .int .i64 f, .int .i64 r], .agg #[.int .i64 h', .int .i64 m', .int .i64 s', .int .i64 f', .int .i64 r']] w fun e w' => e = .returned (.tuple #[.int .i64 0, .int .i64 1]) ∧ ∃ k : Ex w, w' = k.v := by
  by_cases h1 : okCode h m s f r
  · have h2 : ¬ okCode h' m' s' f' r' := fun c => hk ⟨h1, c⟩
    clear hk
    go_enter Try.func10, Try.ntmps10
    go_wp2_with (first | (go_at_call 42; first | (refine (valid_yes _ _ _ _ _ _ (by assumption)).mono ?_; rintro e w' ⟨rfl, k, rfl⟩) | (refine (valid_no _ _ _ _ _ _ (by assumption)).mono ?_; rintro e w' ⟨rfl, k, rfl⟩)))
    (go_ret2; refine ⟨by first | rfl | (simp; done), ?_⟩; (refine Ok.toEx ?_; (repeat (first | (with_reducible exact Ok.rf _) | (with_reducible refine Ok.alloc ?_ _) | (with_reducible refine Ok.ex ?_ _) | (with_reducible refine Ok.drew ?_) | (with_reducible refine Ok.setCellI ?_ _ _ _) | (with_reducible refine Ok.exb ?_ _)))))
  · clear hk
    go_enter Try.func10, Try.ntmps10
    go_wp2_with (first | (go_at_call 42; first | (refine (valid_yes _ _ _ _ _ _ (by assumption)).mono ?_; rintro e w' ⟨rfl, k, rfl⟩) | (refine (valid_no _ _ _ _ _ _ (by assumption)).mono ?_; rintro e w' ⟨rfl, k, rfl⟩)))
    (go_ret2; refine ⟨by first | rfl | (simp; done), ?_⟩; (refine Ok.toEx ?_; (repeat (first | (with_reducible exact Ok.rf _) | (with_reducible refine Ok.alloc ?_ _) | (with_reducible refine Ok.ex ?_ _) | (with_reducible refine Ok.drew ?_) | (with_reducible refine Ok.setCellI ?_ _ _ _) | (with_reducible refine Ok.exb ?_ _)))))
theorem iBetween_no6 (h m s f r h' m' s' f' r' : Int) (w : World) (hk : okCode h m s f r) (hk' : okCode h' m' s' f' r') (hr : r ≠ r') :
    Calls Try.prog 10 #[.agg #[.int .i64 h, .int .i64 m, .int .i64 s, .int .i64 f, .int .i64 r], .agg #[.int .i64 h', .int .i64 m', .int .i64 s', .int .i64 f', .int .i64 r']] w fun e w' => e = .returned (.tuple #[.int .i64 0, .int .i64 6]) ∧ ∃ k : Ex w, w' = k.v := by
  go_enter Try.func10, Try.ntmps10
  go_wp2_with (first | (go_at_call 42; first | (refine (valid_yes _ _ _ _ _ _ (by assumption)).mono ?_; rintro e w' ⟨rfl, k, rfl⟩) | (refine (valid_no _ _ _ _ _ _ (by assumption)).mono ?_; rintro e w' ⟨rfl, k, rfl⟩)))
  (go_ret2; refine ⟨by first | rfl | (simp; done), ?_⟩; (refine Ok.toEx ?_; (repeat (first | (with_reducible exact Ok.rf _) | (with_reducible refine Ok.alloc ?_ _) | (with_reducible refine Ok.ex ?_ _) | (with_reducible refine Ok.drew ?_) | (with_reducible refine Ok.setCellI ?_ _ _ _) | (with_reducible refine Ok.exb ?_ _)))))
/-! ### AddFrames -/
theorem iAdd_no1 (h m s f r d : Int) (w : World) (hk : ¬ okCode h m s f r) :
    Calls Try.prog 9 #[.agg #[.int .i64 h, .int .i64 m, .int .i64 s, .int .i64 f, .int .i64 r], .int .i64 d] w fun e w' => e = .returned (.tuple #[(.agg #[.int .i64 0, .int .i64 0, .int .i64 0, .int .i64 0, .int .i64 0]), .int .i64 1]) ∧ ∃ k : Ex w, w' = k.v := by
  go_enter Try.func9, Try.ntmps9
  go_wp2_with (first | (go_at_call 42; first | (refine (valid_yes _ _ _ _ _ _ (by assumption)).mono ?_; rintro e w' ⟨rfl, k, rfl⟩) | (refine (valid_no _ _ _ _ _ _ (by assumption)).mono ?_; rintro e w' ⟨rfl, k, rfl⟩)))
  (refine bodyPost_ret (v := _) (by simp [results, Try.results9, go_sem]; rfl) rfl ⟨by first | rfl | (simp; done), ?_⟩; (refine Ok.toEx ?_; (repeat (first | (with_reducible exact Ok.rf _) | (with_reducible refine Ok.alloc ?_ _) | (with_reducible refine Ok.ex ?_ _) | (with_reducible refine Ok.drew ?_) | (with_reducible refine Ok.setCellI ?_ _ _ _) | (with_reducible refine Ok.exb ?_ _)))))
theorem iAdd_no2 (h m s f r d : Int) (w : World) (hk : okCode h m s f r) (hd : d < -8640000 ∨ 8640000 < d) :
    Calls Try.prog 9 #[.agg #[.int .i64 h, .int .i64 m, .int .i64 s, .int .i64 f, .int .i64 r], .int .i64 d] w fun e w' => e = .returned (.tuple #[(.agg #[.int .i64 0, .int .i64 0, .int .i64 0, .int .i64 0, .int .i64 0]), .int .i64 2]) ∧ ∃ k : Ex w, w' = k.v := by
  go_enter Try.func9, Try.ntmps9
  go_wp2_with (first | (go_at_call 42; first | (refine (valid_yes _ _ _ _ _ _ (by assumption)).mono ?_; rintro e w' ⟨rfl, k, rfl⟩) | (refine (valid_no _ _ _ _ _ _ (by assumption)).mono ?_; rintro e w' ⟨rfl, k, rfl⟩)) | (go_at_call 43; first | (refine (wi_yes _ _ _ _ (by omega) (by omega)).mono ?_; rintro e w' ⟨rfl, rfl⟩) | (refine (wi_no _ _ _ _ (by omega)).mono ?_; rintro e w' ⟨rfl, rfl⟩)))
  (refine bodyPost_ret (v := _) (by simp [results, Try.results9, go_sem]; rfl) rfl ⟨by first | rfl | (simp; done), ?_⟩; (refine Ok.toEx ?_; (repeat (first | (with_reducible exact Ok.rf _) | (with_reducible refine Ok.alloc ?_ _) | (with_reducible refine Ok.ex ?_ _) | (with_reducible refine Ok.drew ?_) | (with_reducible refine Ok.setCellI ?_ _ _ _) | (with_reducible refine Ok.exb ?_ _)))))
theorem iAdd_no6 (h m s f r d : Int) (w : World) (hk : okCode h m s f r) (hd1 : -8640000 ≤ d) (hd2 : d ≤ 8640000) (hn : num h m s f r + d < 0 ∨ dayOf r ≤ num h m s f r + d) :
    Calls Try.prog 9 #[.agg #[.int .i64 h, .int .i64 m, .int .i64 s, .int .i64 f, .int .i64 r], .int .i64 d] w fun e w' => e = .returned (.tuple #[(.agg #[.int .i64 0, .int .i64 0, .int .i64 0, .int .i64 0, .int .i64 0]), .int .i64 6]) ∧ ∃ k : Ex w, w' = k.v := by
  obtain ⟨b1, b2⟩ := num_rng hk
  obtain ⟨d0, d1⟩ := dayOf_bd hk.1
  go_enter Try.func9, Try.ntmps9
  go_wp2_with (first | (go_at_call 42; first | (refine (valid_yes _ _ _ _ _ _ (by assumption)).mono ?_; rintro e w' ⟨rfl, k, rfl⟩) | (refine (valid_no _ _ _ _ _ _ (by assumption)).mono ?_; rintro e w' ⟨rfl, k, rfl⟩)) | (go_at_call 43; first | (refine (wi_yes _ _ _ _ (by omega) (by omega)).mono ?_; rintro e w' ⟨rfl, rfl⟩) | (refine (wi_no _ _ _ _ (by omega)).mono ?_; rintro e w' ⟨rfl, rfl⟩)) | (go_at_call 44; refine (frameOf_any _ _ _ _ _ _ hk).mono ?_; rintro e w' ⟨rfl, k, rfl⟩) | (go_at_call 45; refine (framesOfDay_any _ _ hk.1).mono ?_; rintro e w' ⟨rfl, rfl⟩))
  (refine bodyPost_ret (v := _) (by simp [results, Try.results9, go_sem]; rfl) rfl ⟨by first | rfl | (simp; done), ?_⟩; (refine Ok.toEx ?_; (repeat (first | (with_reducible exact Ok.rf _) | (with_reducible refine Ok.alloc ?_ _) | (with_reducible refine Ok.ex ?_ _) | (with_reducible refine Ok.drew ?_) | (with_reducible refine Ok.setCellI ?_ _ _ _) | (with_reducible refine Ok.exb ?_ _)))))
theorem iAdd_yes (h m s f r d : Int) (w : World) (hk : okCode h m s f r) (hd1 : -8640000 ≤ d) (hd2 : d ≤ 8640000) (hn1 : 0 ≤ num h m s f r + d) (hn2 : num h m s f r + d < dayOf r) :
    Calls Try.prog 9 #[.agg #[.int .i64 h, .int .i64 m, .int .i64 s, .int .i64 f, .int .i64 r], .int .i64 d] w fun e w' => e = .returned (.tuple #[(.agg #[.int .i64 (cH (num h m s f r + d) r), .int .i64 (cM (num h m s f r + d) r), .int .i64 (cS (num h m s f r + d) r), .int .i64 (cF (num h m s f r + d) r), .int .i64 r]), .int .i64 0]) ∧ ∃ k : Ex w, w' = k.v := by
  obtain ⟨b1, b2⟩ := num_rng hk
  obtain ⟨d0, d1⟩ := dayOf_bd hk.1
  go_enter Try.func9, Try.ntmps9
  go_wp2_with (first | (go_at_call 42; first | (refine (valid_yes _ _ _ _ _ _ (by assumption)).mono ?_; rintro e w' ⟨rfl, k, rfl⟩) | (refine (valid_no _ _ _ _ _ _ (by assumption)).mono ?_; rintro e w' ⟨rfl, k, rfl⟩)) | (go_at_call 43; first | (refine (wi_yes _ _ _ _ (by omega) (by omega)).mono ?_; rintro e w' ⟨rfl, rfl⟩) | (refine (wi_no _ _ _ _ (by omega)).mono ?_; rintro e w' ⟨rfl, rfl⟩)) | (go_at_call 44; refine (frameOf_any _ _ _ _ _ _ hk).mono ?_; rintro e w' ⟨rfl, k, rfl⟩) | (go_at_call 45; refine (framesOfDay_any _ _ hk.1).mono ?_; rintro e w' ⟨rfl, rfl⟩) | (go_at_call 46; refine (codeAt_any _ _ _ hk.1 (by omega) (by omega)).mono ?_; rintro e w' ⟨rfl, k, rfl⟩))
  (refine bodyPost_ret (v := _) (by simp [results, Try.results9, go_sem]; rfl) rfl ⟨by first | rfl | (simp; done), ?_⟩; (refine Ok.toEx ?_; (repeat (first | (with_reducible exact Ok.rf _) | (with_reducible refine Ok.alloc ?_ _) | (with_reducible refine Ok.ex ?_ _) | (with_reducible refine Ok.drew ?_) | (with_reducible refine Ok.setCellI ?_ _ _ _) | (with_reducible refine Ok.exb ?_ _)))))
end
end Go.Proofs.Ytpapphhbogngcaa
