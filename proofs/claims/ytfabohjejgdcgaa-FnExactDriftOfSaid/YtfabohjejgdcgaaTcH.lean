/-
  Contracts of the exported functions that take or return codes. Conditions: those typed at each theorem.
-/
import Derived.Test.YtfabohjejgdcgaaTcG
namespace Go.Proofs.Ytfabohjejgdcgaa
open Go.RowKit Tc
section
set_option maxHeartbeats 1600000
theorem l16Code_neg (f r : Int) (w : World) (h0 : f < 0) :
    Calls Try.prog 66 #[.int .i64 f, .int .i64 r] w fun e w' => e = .returned (.tuple #[.agg #[.int .i64 0, .int .i64 0, .int .i64 0, .int .i64 0, .int .i64 0], .bool false]) ∧ ∃ k : Ex w, w' = k.v := by
  go_enter Try.func66, Try.ntmps66
  go_wp2
  (refine bodyPost_ret (v := _) (by simp [results, Try.results66, go_sem]; rfl) rfl ⟨by first | rfl | (simp; done), ?_⟩; (refine Ok.toEx ?_; (repeat (first | (with_reducible exact Ok.rf _) | (with_reducible refine Ok.alloc ?_ _) | (with_reducible refine Ok.ex ?_ _) | (with_reducible refine Ok.drew ?_) | (with_reducible refine Ok.setCellI ?_ _ _ _)))))
theorem l16Code_big (f r : Int) (w : World) (hr : okRate r) (h0 : dayOf r ≤ f) (h1 : f ≤ 100000000) :
    Calls Try.prog 66 #[.int .i64 f, .int .i64 r] w fun e w' => e = .returned (.tuple #[.agg #[.int .i64 (cH f r), .int .i64 (cM f r), .int .i64 (cS f r), .int .i64 (cF f r), .int .i64 r], .bool false]) ∧ ∃ k : Ex w, w' = k.v := by
  have hd := (dayOf_bd hr).1
  have hf : 0 ≤ f := by omega
  have hk := mt (okCode_iff hr hf).1 (by omega)
  clear h0 hd
  have b1 : 0 ≤ f / 17982 ∧ f / 17982 ≤ f := by omega
  have b2 : 0 ≤ f % 17982 ∧ f % 17982 < 17982 := by omega
  rcases hr with rfl | rfl | rfl
  case' inr.inr => by_cases hc : 1800 ≤ f % 17982
  all_goals
    simp [cH, cM, cS, cF, cnt, *] at hk
    try rw [if_neg (by omega)] at hk
    go_enter Try.func66, Try.ntmps66
    go_wp2
    (refine wp_region_ex_tail 2 (by kernel_rfl) (by kernel_rfl) ?_; simp only [List.take_succ_cons, List.take_zero, List.drop_succ_cons, List.drop_zero]; (repeat (go_big_quiet_step (((go_at_call 51; first | exact calls_ex (l16Ok_yes2 _ _ _ _ _ _ _ (by assumption) (by constructor <;> first | infer_instance | simp [go_sem])) | exact calls_ex (l16Ok_no2 _ _ _ _ _ _ _ (by assumption) (by constructor <;> first | infer_instance | simp [go_sem]))))))); refine wpQuiet_nil ?_; intro k)
    go_wp2
    refine bodyPost_ret (v := _) (by simp [results, Try.results66, go_sem]; rfl) rfl ⟨by first | (simp [cH, cM, cS, cF, cnt, *]; done) | (have hc2 : ¬ 1800 ≤ f % 17982 := (by omega); simp [cH, cM, cS, cF, cnt, hc2]), ?_⟩
    (refine Ok.toEx ?_; (repeat (first | (with_reducible exact Ok.rf _) | (with_reducible refine Ok.alloc ?_ _) | (with_reducible refine Ok.ex ?_ _) | (with_reducible refine Ok.drew ?_) | (with_reducible refine Ok.setCellI ?_ _ _ _))))
/-! ### FrameOf -/
theorem iFrameOf_yes (h m s f r : Int) (w : World) (hk : okCode h m s f r) : Calls Try.prog 25 #[.agg #[.int .i64 h, .int .i64 m, .int .i64 s, .int .i64 f, .int .i64 r]] w fun e w' => e = .returned (.tuple #[.int .i64 (num h m s f r), .int .i64 0]) ∧ ∃ k : Ex w, w' = k.v := by
  go_enter Try.func25, Try.ntmps25
  go_wp2_with (first | (go_at_call 17; first | (refine (valid_yes _ _ _ _ _ _ (by assumption)).mono ?_; rintro e w' ⟨rfl, k, rfl⟩) | (refine (valid_no _ _ _ _ _ _ (by assumption)).mono ?_; rintro e w' ⟨rfl, k, rfl⟩)) | (go_at_call 64; refine (frameOf_any _ _ _ _ _ _ hk).mono ?_; rintro e w' ⟨rfl, k, rfl⟩))
  (go_ret2; refine ⟨by first | rfl | (simp; done), ?_⟩; (refine Ok.toEx ?_; (repeat (first | (with_reducible exact Ok.rf _) | (with_reducible refine Ok.alloc ?_ _) | (with_reducible refine Ok.ex ?_ _) | (with_reducible refine Ok.drew ?_) | (with_reducible refine Ok.setCellI ?_ _ _ _)))))
theorem iFrameOf_no (h m s f r : Int) (w : World) (hk : ¬ okCode h m s f r) : Calls Try.prog 25 #[.agg #[.int .i64 h, .int .i64 m, .int .i64 s, .int .i64 f, .int .i64 r]] w fun e w' => e = .returned (.tuple #[.int .i64 0, .int .i64 1]) ∧ ∃ k : Ex w, w' = k.v := by
  go_enter Try.func25, Try.ntmps25
  go_wp2_with (first | (go_at_call 17; first | (refine (valid_yes _ _ _ _ _ _ (by assumption)).mono ?_; rintro e w' ⟨rfl, k, rfl⟩) | (refine (valid_no _ _ _ _ _ _ (by assumption)).mono ?_; rintro e w' ⟨rfl, k, rfl⟩)))
  (go_ret2; refine ⟨by first | rfl | (simp; done), ?_⟩; (refine Ok.toEx ?_; (repeat (first | (with_reducible exact Ok.rf _) | (with_reducible refine Ok.alloc ?_ _) | (with_reducible refine Ok.ex ?_ _) | (with_reducible refine Ok.drew ?_) | (with_reducible refine Ok.setCellI ?_ _ _ _)))))
theorem sFrameOf_yes (h m s f r : Int) (w : World) (hk : okCode h m s f r) : Calls Try.prog 24 #[.agg #[.int .i64 h, .int .i64 m, .int .i64 s, .int .i64 f, .int .i64 r]] w fun e w' => e = .returned (.tuple #[.int .i64 (num h m s f r), .int .i64 0]) ∧ ∃ k : Ex w, w' = k.v := by
  go_enter Try.func24, Try.ntmps24
  go_wp2_with (first | (go_at_call 51; first | (refine (l16Ok_yes2 _ _ _ _ _ _ _ (by assumption) (by constructor <;> first | infer_instance | simp [go_sem])).mono ?_; rintro e w' ⟨rfl, k, rfl⟩) | (refine (l16Ok_no2 _ _ _ _ _ _ _ (by assumption) (by constructor <;> first | infer_instance | simp [go_sem])).mono ?_; rintro e w' ⟨rfl, k, rfl⟩)) | (go_at_call 63; refine (l16Frame_any _ h m s f r _ (by constructor <;> first | infer_instance | simp [go_sem]) hk).mono ?_; rintro e w' ⟨rfl, k, rfl⟩))
  (go_ret2; refine ⟨by first | rfl | (simp; done), ?_⟩; (refine Ok.toEx ?_; (repeat (first | (with_reducible exact Ok.rf _) | (with_reducible refine Ok.alloc ?_ _) | (with_reducible refine Ok.ex ?_ _) | (with_reducible refine Ok.drew ?_) | (with_reducible refine Ok.setCellI ?_ _ _ _)))))
theorem sFrameOf_no (h m s f r : Int) (w : World) (hk : ¬ okCode h m s f r) : Calls Try.prog 24 #[.agg #[.int .i64 h, .int .i64 m, .int .i64 s, .int .i64 f, .int .i64 r]] w fun e w' => e = .returned (.tuple #[.int .i64 0, .int .i64 1]) ∧ ∃ k : Ex w, w' = k.v := by
  go_enter Try.func24, Try.ntmps24
  go_wp2_with (first | (go_at_call 51; first | (refine (l16Ok_yes2 _ _ _ _ _ _ _ (by assumption) (by constructor <;> first | infer_instance | simp [go_sem])).mono ?_; rintro e w' ⟨rfl, k, rfl⟩) | (refine (l16Ok_no2 _ _ _ _ _ _ _ (by assumption) (by constructor <;> first | infer_instance | simp [go_sem])).mono ?_; rintro e w' ⟨rfl, k, rfl⟩)))
  (go_ret2; refine ⟨by first | rfl | (simp; done), ?_⟩; (refine Ok.toEx ?_; (repeat (first | (with_reducible exact Ok.rf _) | (with_reducible refine Ok.alloc ?_ _) | (with_reducible refine Ok.ex ?_ _) | (with_reducible refine Ok.drew ?_) | (with_reducible refine Ok.setCellI ?_ _ _ _)))))
/-! ### CodeAt -/
theorem noCA {f r : Int} (h : ¬ (okRate r ∧ 0 ≤ f ∧ f < dayOf r)) : ¬ okRate r ∨ (okRate r ∧ (f < 0 ∨ 8640000 < f)) ∨ (okRate r ∧ 0 ≤ f ∧ f ≤ 8640000 ∧ dayOf r ≤ f) := by
  by_cases hr : okRate r
  · have : ¬ (0 ≤ f ∧ f < dayOf r) := fun c => h ⟨hr, c⟩
    have : (f < 0 ∨ 8640000 < f) ∨ (0 ≤ f ∧ f ≤ 8640000 ∧ dayOf r ≤ f) := by omega
    rcases this with c | c
    · exact .inr (.inl ⟨hr, c⟩)
    · exact .inr (.inr ⟨hr, c⟩)
  · exact .inl hr
theorem iCodeAt_yes (f r : Int) (w : World) (hr : okRate r) (h0 : 0 ≤ f) (h1 : f < dayOf r) :
    Calls Try.prog 35 #[.int .i64 f, .int .i64 r] w fun e w' => e = .returned (.tuple #[(.agg #[.int .i64 (cH f r), .int .i64 (cM f r), .int .i64 (cS f r), .int .i64 (cF f r), .int .i64 r]), .int .i64 0]) ∧ ∃ k : Ex w, w' = k.v := by
  obtain ⟨d0, d1⟩ := dayOf_bd hr
  go_enter Try.func35, Try.ntmps35
  go_wp2_with (first | (go_at_call 52; first | (refine (isr_yes _ _ (by assumption)).mono ?_; rintro e w' ⟨rfl, rfl⟩) | (refine (isr_no _ _ (by assumption)).mono ?_; rintro e w' ⟨rfl, rfl⟩)) | (go_at_call 53; first | (refine (wi_yes _ _ _ _ (by omega) (by omega)).mono ?_; rintro e w' ⟨rfl, rfl⟩) | (refine (wi_no _ _ _ _ (by omega)).mono ?_; rintro e w' ⟨rfl, rfl⟩)) | (go_at_call 67; refine (framesOfDay_any _ _ hr).mono ?_; rintro e w' ⟨rfl, rfl⟩) | (go_at_call 68; refine (codeAt_any _ _ _ hr h0 (by omega)).mono ?_; rintro e w' ⟨rfl, k, rfl⟩))
  (refine bodyPost_ret (v := _) (by simp [results, Try.results35, go_sem]; rfl) rfl ⟨by first | rfl | (simp; done), ?_⟩; (refine Ok.toEx ?_; (repeat (first | (with_reducible exact Ok.rf _) | (with_reducible refine Ok.alloc ?_ _) | (with_reducible refine Ok.ex ?_ _) | (with_reducible refine Ok.drew ?_) | (with_reducible refine Ok.setCellI ?_ _ _ _)))))
theorem iCodeAt_no (f r : Int) (w : World) (h : ¬ (okRate r ∧ 0 ≤ f ∧ f < dayOf r)) :
    Calls Try.prog 35 #[.int .i64 f, .int .i64 r] w fun e w' => e = .returned (.tuple #[(.agg #[.int .i64 0, .int .i64 0, .int .i64 0, .int .i64 0, .int .i64 0]), .int .i64 2]) ∧ ∃ k : Ex w, w' = k.v := by
  rcases noCA h with c | ⟨hr, c⟩ | ⟨hr, c1, c2, c3⟩ <;> clear h
  · go_enter Try.func35, Try.ntmps35
    go_wp2_with (first | (go_at_call 52; first | (refine (isr_yes _ _ (by assumption)).mono ?_; rintro e w' ⟨rfl, rfl⟩) | (refine (isr_no _ _ (by assumption)).mono ?_; rintro e w' ⟨rfl, rfl⟩)) | (go_at_call 53; first | (refine (wi_yes _ _ _ _ (by omega) (by omega)).mono ?_; rintro e w' ⟨rfl, rfl⟩) | (refine (wi_no _ _ _ _ (by omega)).mono ?_; rintro e w' ⟨rfl, rfl⟩)))
    (refine bodyPost_ret (v := _) (by simp [results, Try.results35, go_sem]; rfl) rfl ⟨by first | rfl | (simp; done), ?_⟩; (refine Ok.toEx ?_; (repeat (first | (with_reducible exact Ok.rf _) | (with_reducible refine Ok.alloc ?_ _) | (with_reducible refine Ok.ex ?_ _) | (with_reducible refine Ok.drew ?_) | (with_reducible refine Ok.setCellI ?_ _ _ _)))))
  all_goals
    obtain ⟨d0, d1⟩ := dayOf_bd hr
    go_enter Try.func35, Try.ntmps35
    go_wp2_with (first | (go_at_call 52; first | (refine (isr_yes _ _ (by assumption)).mono ?_; rintro e w' ⟨rfl, rfl⟩) | (refine (isr_no _ _ (by assumption)).mono ?_; rintro e w' ⟨rfl, rfl⟩)) | (go_at_call 53; first | (refine (wi_yes _ _ _ _ (by omega) (by omega)).mono ?_; rintro e w' ⟨rfl, rfl⟩) | (refine (wi_no _ _ _ _ (by omega)).mono ?_; rintro e w' ⟨rfl, rfl⟩)) | (go_at_call 67; refine (framesOfDay_any _ _ hr).mono ?_; rintro e w' ⟨rfl, rfl⟩))
    (refine bodyPost_ret (v := _) (by simp [results, Try.results35, go_sem]; rfl) rfl ⟨by first | rfl | (simp; done), ?_⟩; (refine Ok.toEx ?_; (repeat (first | (with_reducible exact Ok.rf _) | (with_reducible refine Ok.alloc ?_ _) | (with_reducible refine Ok.ex ?_ _) | (with_reducible refine Ok.drew ?_) | (with_reducible refine Ok.setCellI ?_ _ _ _)))))
theorem sCodeAt_yes (f r : Int) (w : World) (hr : okRate r) (h0 : 0 ≤ f) (h1 : f < dayOf r) :
    Calls Try.prog 34 #[.int .i64 f, .int .i64 r] w fun e w' => e = .returned (.tuple #[(.agg #[.int .i64 (cH f r), .int .i64 (cM f r), .int .i64 (cS f r), .int .i64 (cF f r), .int .i64 r]), .int .i64 0]) ∧ ∃ k : Ex w, w' = k.v := by
  obtain ⟨d0, d1⟩ := dayOf_bd hr
  go_enter Try.func34, Try.ntmps34
  go_wp2_with (first | (go_at_call 54; first | (refine (rt_yes _ _ (by assumption)).mono ?_; rintro e w' ⟨rfl, rfl⟩) | (refine (rt_no _ _ (by assumption)).mono ?_; rintro e w' ⟨rfl, rfl⟩)) | (go_at_call 55; first | (refine (in_yes _ _ _ _ (by omega) (by omega)).mono ?_; rintro e w' ⟨rfl, rfl⟩) | (refine (in_no _ _ _ _ (by omega)).mono ?_; rintro e w' ⟨rfl, rfl⟩)) | (go_at_call 66; refine (l16Code_yes _ _ _ hr h0 h1).mono ?_; rintro e w' ⟨rfl, k, rfl⟩))
  (refine bodyPost_ret (v := _) (by simp [results, Try.results34, go_sem]; rfl) rfl ⟨by first | rfl | (simp; done), ?_⟩; (refine Ok.toEx ?_; (repeat (first | (with_reducible exact Ok.rf _) | (with_reducible refine Ok.alloc ?_ _) | (with_reducible refine Ok.ex ?_ _) | (with_reducible refine Ok.drew ?_) | (with_reducible refine Ok.setCellI ?_ _ _ _)))))
theorem sCodeAt_no (f r : Int) (w : World) (h : ¬ (okRate r ∧ 0 ≤ f ∧ f < dayOf r)) :
    Calls Try.prog 34 #[.int .i64 f, .int .i64 r] w fun e w' => e = .returned (.tuple #[(.agg #[.int .i64 0, .int .i64 0, .int .i64 0, .int .i64 0, .int .i64 0]), .int .i64 2]) ∧ ∃ k : Ex w, w' = k.v := by
  rcases noCA h with c | ⟨hr, c⟩ | ⟨hr, c1, c2, c3⟩ <;> clear h
  all_goals
    go_enter Try.func34, Try.ntmps34
    go_wp2_with (first | (go_at_call 54; first | (refine (rt_yes _ _ (by assumption)).mono ?_; rintro e w' ⟨rfl, rfl⟩) | (refine (rt_no _ _ (by assumption)).mono ?_; rintro e w' ⟨rfl, rfl⟩)) | (go_at_call 55; first | (refine (in_yes _ _ _ _ (by omega) (by omega)).mono ?_; rintro e w' ⟨rfl, rfl⟩) | (refine (in_no _ _ _ _ (by omega)).mono ?_; rintro e w' ⟨rfl, rfl⟩)) | (go_at_call 66; refine (l16Code_big _ _ _ hr c3 (by omega)).mono ?_; rintro e w' ⟨rfl, k, rfl⟩))
    (refine bodyPost_ret (v := _) (by simp [results, Try.results34, go_sem]; rfl) rfl ⟨by first | rfl | (simp; done), ?_⟩; (refine Ok.toEx ?_; (repeat (first | (with_reducible exact Ok.rf _) | (with_reducible refine Ok.alloc ?_ _) | (with_reducible refine Ok.ex ?_ _) | (with_reducible refine Ok.drew ?_) | (with_reducible refine Ok.setCellI ?_ _ _ _)))))
end
end Go.Proofs.Ytfabohjejgdcgaa
