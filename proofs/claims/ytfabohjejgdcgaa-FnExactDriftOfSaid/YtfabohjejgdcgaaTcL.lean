/-
  Contracts of ConvertCode, and its law. Conditions: those typed at each theorem.
-/
import Derived.Test.YtfabohjejgdcgaaTcK
import Derived.Deep.RegionWith
import Derived.Deep.DrawnRows
attribute [local go_sem ↓] Go.wp_at_zero Go.wp_at_succ
namespace Go.Proofs.Ytfabohjejgdcgaa
open Go.RowKit Tc
section
set_option maxHeartbeats 6400000
theorem iConv_no1 (h m s f r q : Int) (w : World) (hk : ¬ okCode h m s f r) :
    Calls Try.prog 45 #[.agg #[.int .i64 h, .int .i64 m, .int .i64 s, .int .i64 f, .int .i64 r], .int .i64 q] w fun e w' => e = .returned (.tuple #[(.agg #[.int .i64 0, .int .i64 0, .int .i64 0, .int .i64 0, .int .i64 0]), .int .i64 1]) ∧ ∃ k : Ex w, w' = k.v := by
  go_enter Try.func45, Try.ntmps45
  go_wp2_with (first | (go_at_call 17; first | (refine (valid_yes _ _ _ _ _ _ (by assumption)).mono ?_; rintro e w' ⟨rfl, k, rfl⟩) | (refine (valid_no _ _ _ _ _ _ (by assumption)).mono ?_; rintro e w' ⟨rfl, k, rfl⟩)))
  (refine bodyPost_ret (v := _) (by simp [results, Try.results45, go_sem]; rfl) rfl ⟨by first | rfl | (simp; done), ?_⟩; (refine Ok.toEx ?_; (repeat (first | (with_reducible exact Ok.rf _) | (with_reducible refine Ok.alloc ?_ _) | (with_reducible refine Ok.ex ?_ _) | (with_reducible refine Ok.drew ?_) | (with_reducible refine Ok.setCellI ?_ _ _ _)))))
theorem iConv_no2 (h m s f r q : Int) (w : World) (hk : okCode h m s f r) (hq : ¬ okRate q) :
    Calls Try.prog 45 #[.agg #[.int .i64 h, .int .i64 m, .int .i64 s, .int .i64 f, .int .i64 r], .int .i64 q] w fun e w' => e = .returned (.tuple #[(.agg #[.int .i64 0, .int .i64 0, .int .i64 0, .int .i64 0, .int .i64 0]), .int .i64 2]) ∧ ∃ k : Ex w, w' = k.v := by
  go_enter Try.func45, Try.ntmps45
  go_wp2_with (first | (go_at_call 17; first | (refine (valid_yes _ _ _ _ _ _ (by assumption)).mono ?_; rintro e w' ⟨rfl, k, rfl⟩) | (refine (valid_no _ _ _ _ _ _ (by assumption)).mono ?_; rintro e w' ⟨rfl, k, rfl⟩)) | (go_at_call 52; first | (refine (isr_yes _ _ (by assumption)).mono ?_; rintro e w' ⟨rfl, rfl⟩) | (refine (isr_no _ _ (by assumption)).mono ?_; rintro e w' ⟨rfl, rfl⟩)))
  (refine bodyPost_ret (v := _) (by simp [results, Try.results45, go_sem]; rfl) rfl ⟨by first | rfl | (simp; done), ?_⟩; (refine Ok.toEx ?_; (repeat (first | (with_reducible exact Ok.rf _) | (with_reducible refine Ok.alloc ?_ _) | (with_reducible refine Ok.ex ?_ _) | (with_reducible refine Ok.drew ?_) | (with_reducible refine Ok.setCellI ?_ _ _ _)))))
theorem conv_bd {h m s f r q : Int} (hk : okCode h m s f r) (hq : okRate q) : 0 ≤ num h m s f r ∧ num h m s f r < 3000000 ∧ 0 ≤ msAt (num h m s f r) r ∧ msAt (num h m s f r) r ≤ 86400000 ∧ 0 ≤ (frAt (msAt (num h m s f r) r) q) ∧ (frAt (msAt (num h m s f r) r) q) ≤ 300000001 := by
  obtain ⟨b1, b2⟩ := num_rng hk
  obtain ⟨d0, d1⟩ := dayOf_bd hk.1
  obtain ⟨m1, m2⟩ := msAt_day hk.1 b1 b2
  obtain ⟨f1, f2⟩ := frAt_bd hq m1 (by omega)
  exact ⟨b1, by omega, m1, m2, f1, f2⟩
theorem conv_bd2 {h m s f r q : Int} (hk : okCode h m s f r) (hq : okRate q) : (frAt (msAt (num h m s f r) r) q) ≤ 100000000 := by
  obtain ⟨_, _, b1, b2, _, _⟩ := conv_bd hk hq
  generalize msAt (num h m s f r) r = M at *
  rcases hq with rfl | rfl | rfl <;> simp [frAt] <;> omega
theorem iConv_no6 (h m s f r q : Int) (w : World) (hk : okCode h m s f r) (hq : okRate q) (hn : dayOf q ≤ (frAt (msAt (num h m s f r) r) q)) :
    Calls Try.prog 45 #[.agg #[.int .i64 h, .int .i64 m, .int .i64 s, .int .i64 f, .int .i64 r], .int .i64 q] w fun e w' => e = .returned (.tuple #[(.agg #[.int .i64 0, .int .i64 0, .int .i64 0, .int .i64 0, .int .i64 0]), .int .i64 6]) ∧ ∃ k : Ex w, w' = k.v := by
  obtain ⟨b1, b2, b3, b4, b5, b6⟩ := conv_bd hk hq
  go_enter Try.func45, Try.ntmps45
  go_wp2_with (first | (go_at_call 17; first | (refine (valid_yes _ _ _ _ _ _ (by assumption)).mono ?_; rintro e w' ⟨rfl, k, rfl⟩) | (refine (valid_no _ _ _ _ _ _ (by assumption)).mono ?_; rintro e w' ⟨rfl, k, rfl⟩)) | (go_at_call 52; first | (refine (isr_yes _ _ (by assumption)).mono ?_; rintro e w' ⟨rfl, rfl⟩) | (refine (isr_no _ _ (by assumption)).mono ?_; rintro e w' ⟨rfl, rfl⟩)))
  (refine wp_region_ex (by kernel_rfl) (by kernel_rfl) ?_; (repeat (go_big_quiet_step (((first | (go_at_call 64; exact calls_ex (frameOf_any _ _ _ _ _ _ hk)) | (go_at_call 57; exact calls_ex_same (milliAt_any _ _ _ hk.1 b1 (by omega))) | (go_at_call 62; exact calls_ex_same (frameAt_any _ _ _ hq b3 (by omega)))))))); refine wpQuiet_nil ?_; rintro _ ⟨k, rfl⟩)
  go_wp2_with (first | (go_at_call 67; refine (framesOfDay_any _ _ hq).mono ?_; rintro e w' ⟨rfl, rfl⟩))
  (refine bodyPost_ret (v := _) (by simp [results, Try.results45, go_sem]; rfl) rfl ⟨by first | rfl | (simp; done), ?_⟩; (refine Ok.toEx ?_; (repeat (first | (with_reducible exact Ok.rf _) | (with_reducible refine Ok.alloc ?_ _) | (with_reducible refine Ok.ex ?_ _) | (with_reducible refine Ok.drew ?_) | (with_reducible refine Ok.setCellI ?_ _ _ _)))))
theorem iConv_yes (h m s f r q : Int) (w : World) (hk : okCode h m s f r) (hq : okRate q) (hn : (frAt (msAt (num h m s f r) r) q) < dayOf q) :
    Calls Try.prog 45 #[.agg #[.int .i64 h, .int .i64 m, .int .i64 s, .int .i64 f, .int .i64 r], .int .i64 q] w fun e w' => e = .returned (.tuple #[(.agg #[.int .i64 (cH (frAt (msAt (num h m s f r) r) q) q), .int .i64 (cM (frAt (msAt (num h m s f r) r) q) q), .int .i64 (cS (frAt (msAt (num h m s f r) r) q) q), .int .i64 (cF (frAt (msAt (num h m s f r) r) q) q), .int .i64 q]), .int .i64 0]) ∧ ∃ k : Ex w, w' = k.v := by
  obtain ⟨b1, b2, b3, b4, b5, b6⟩ := conv_bd hk hq
  have b7 := conv_bd2 hk hq
  go_enter Try.func45, Try.ntmps45
  go_wp2_with (first | (go_at_call 17; first | (refine (valid_yes _ _ _ _ _ _ (by assumption)).mono ?_; rintro e w' ⟨rfl, k, rfl⟩) | (refine (valid_no _ _ _ _ _ _ (by assumption)).mono ?_; rintro e w' ⟨rfl, k, rfl⟩)) | (go_at_call 52; first | (refine (isr_yes _ _ (by assumption)).mono ?_; rintro e w' ⟨rfl, rfl⟩) | (refine (isr_no _ _ (by assumption)).mono ?_; rintro e w' ⟨rfl, rfl⟩)))
  (refine wp_region_ex (by kernel_rfl) (by kernel_rfl) ?_; (repeat (go_big_quiet_step (((first | (go_at_call 64; exact calls_ex (frameOf_any _ _ _ _ _ _ hk)) | (go_at_call 57; exact calls_ex_same (milliAt_any _ _ _ hk.1 b1 (by omega))) | (go_at_call 62; exact calls_ex_same (frameAt_any _ _ _ hq b3 (by omega)))))))); refine wpQuiet_nil ?_; rintro _ ⟨k, rfl⟩)
  go_wp2_with (first | (go_at_call 67; refine (framesOfDay_any _ _ hq).mono ?_; rintro e w' ⟨rfl, rfl⟩) | (go_at_call 68; refine (codeAt_any _ _ _ hq b5 b7).mono ?_; rintro e w' ⟨rfl, k, rfl⟩))
  (refine bodyPost_ret (v := _) (by simp [results, Try.results45, go_sem]; rfl) rfl ⟨by first | rfl | (simp; done), ?_⟩; (refine Ok.toEx ?_; (repeat (first | (with_reducible exact Ok.rf _) | (with_reducible refine Ok.alloc ?_ _) | (with_reducible refine Ok.ex ?_ _) | (with_reducible refine Ok.drew ?_) | (with_reducible refine Ok.setCellI ?_ _ _ _)))))
theorem sConv_no1 (h m s f r q : Int) (w : World) (hk : ¬ okCode h m s f r) :
    Calls Try.prog 44 #[.agg #[.int .i64 h, .int .i64 m, .int .i64 s, .int .i64 f, .int .i64 r], .int .i64 q] w fun e w' => e = .returned (.tuple #[(.agg #[.int .i64 0, .int .i64 0, .int .i64 0, .int .i64 0, .int .i64 0]), .int .i64 1]) ∧ ∃ k : Ex w, w' = k.v := by
  go_enter Try.func44, Try.ntmps44
  go_wp2_with (first | (go_at_call 51; first | (refine (l16Ok_yes2 _ h m s f r _ hk (by first | (constructor <;> first | infer_instance | (simp [go_sem] <;> fail)) | fail)).mono ?_; rintro e w' ⟨rfl, k, rfl⟩) | (refine (l16Ok_no2 _ h m s f r _ hk (by first | (constructor <;> first | infer_instance | (simp [go_sem] <;> fail)) | fail)).mono ?_; rintro e w' ⟨rfl, k, rfl⟩)))
  (refine bodyPost_ret (v := _) (by simp [results, Try.results44, go_sem]; rfl) rfl ⟨by first | rfl | (simp; done), ?_⟩; (refine Ok.toEx ?_; (repeat (first | (with_reducible exact Ok.rf _) | (with_reducible refine Ok.alloc ?_ _) | (with_reducible refine Ok.ex ?_ _) | (with_reducible refine Ok.drew ?_) | (with_reducible refine Ok.setCellI ?_ _ _ _)))))
theorem sConv_no2 (h m s f r q : Int) (w : World) (hk : okCode h m s f r) (hq : ¬ okRate q) :
    Calls Try.prog 44 #[.agg #[.int .i64 h, .int .i64 m, .int .i64 s, .int .i64 f, .int .i64 r], .int .i64 q] w fun e w' => e = .returned (.tuple #[(.agg #[.int .i64 0, .int .i64 0, .int .i64 0, .int .i64 0, .int .i64 0]), .int .i64 2]) ∧ ∃ k : Ex w, w' = k.v := by
  go_enter Try.func44, Try.ntmps44
  go_wp2_with (first | (go_at_call 51; first | (refine (l16Ok_yes2 _ h m s f r _ hk (by first | (constructor <;> first | infer_instance | (simp [go_sem] <;> fail)) | fail)).mono ?_; rintro e w' ⟨rfl, k, rfl⟩) | (refine (l16Ok_no2 _ h m s f r _ hk (by first | (constructor <;> first | infer_instance | (simp [go_sem] <;> fail)) | fail)).mono ?_; rintro e w' ⟨rfl, k, rfl⟩)) | (go_at_call 54; first | (refine (rt_yes _ _ (by assumption)).mono ?_; rintro e w' ⟨rfl, rfl⟩) | (refine (rt_no _ _ (by assumption)).mono ?_; rintro e w' ⟨rfl, rfl⟩)))
  (refine bodyPost_ret (v := _) (by simp [results, Try.results44, go_sem]; rfl) rfl ⟨by first | rfl | (simp; done), ?_⟩; (refine Ok.toEx ?_; (repeat (first | (with_reducible exact Ok.rf _) | (with_reducible refine Ok.alloc ?_ _) | (with_reducible refine Ok.ex ?_ _) | (with_reducible refine Ok.drew ?_) | (with_reducible refine Ok.setCellI ?_ _ _ _)))))
theorem sConv_no6 (h m s f r q : Int) (w : World) (hk : okCode h m s f r) (hq : okRate q) (hn : dayOf q ≤ (frAt (msAt (num h m s f r) r) q)) :
    Calls Try.prog 44 #[.agg #[.int .i64 h, .int .i64 m, .int .i64 s, .int .i64 f, .int .i64 r], .int .i64 q] w fun e w' => e = .returned (.tuple #[(.agg #[.int .i64 0, .int .i64 0, .int .i64 0, .int .i64 0, .int .i64 0]), .int .i64 6]) ∧ ∃ k : Ex w, w' = k.v := by
  obtain ⟨b1, b2, b3, b4, b5, b6⟩ := conv_bd hk hq
  have b7 := conv_bd2 hk hq
  go_enter Try.func44, Try.ntmps44
  go_wp2_with (first | (go_at_call 51; first | (refine (l16Ok_yes2 _ h m s f r _ hk (by first | (constructor <;> first | infer_instance | (simp [go_sem] <;> fail)) | fail)).mono ?_; rintro e w' ⟨rfl, k, rfl⟩) | (refine (l16Ok_no2 _ h m s f r _ hk (by first | (constructor <;> first | infer_instance | (simp [go_sem] <;> fail)) | fail)).mono ?_; rintro e w' ⟨rfl, k, rfl⟩)) | (go_at_call 54; first | (refine (rt_yes _ _ (by assumption)).mono ?_; rintro e w' ⟨rfl, rfl⟩) | (refine (rt_no _ _ (by assumption)).mono ?_; rintro e w' ⟨rfl, rfl⟩)))
  go_region_with (first | (go_at_call 63; refine (l16Frame_any _ h m s f r _ (by first | (constructor <;> first | infer_instance | (simp [go_sem] <;> fail)) | fail) hk).mono ?_; rintro e w' ⟨rfl, k, rfl⟩) | (go_at_call 56; refine (l16Milli_any _ _ _ hk.1 b1 (by omega)).mono ?_; rintro e w' ⟨rfl, rfl⟩) | (go_at_call 61; refine (l16At_any _ _ _ hq b3 b4).mono ?_; rintro e w' ⟨rfl, rfl⟩) | (go_at_call 66; refine (l16Code_big _ _ _ hq hn b7).mono ?_; rintro e w' ⟨rfl, k, rfl⟩))

  all_goals
    go_wp2
    (refine bodyPost_ret (v := _) (by simp [results, Try.results44, go_sem]; rfl) rfl ⟨by first | rfl | (simp; done), ?_⟩; (refine Ok.toEx ?_; (repeat (first | (with_reducible exact Ok.rf _) | (with_reducible refine Ok.alloc ?_ _) | (with_reducible refine Ok.ex ?_ _) | (with_reducible refine Ok.drew ?_) | (with_reducible refine Ok.setCellI ?_ _ _ _)))))
theorem sConv_yes (h m s f r q : Int) (w : World) (hk : okCode h m s f r) (hq : okRate q) (hn : (frAt (msAt (num h m s f r) r) q) < dayOf q) :
    Calls Try.prog 44 #[.agg #[.int .i64 h, .int .i64 m, .int .i64 s, .int .i64 f, .int .i64 r], .int .i64 q] w fun e w' => e = .returned (.tuple #[(.agg #[.int .i64 (cH (frAt (msAt (num h m s f r) r) q) q), .int .i64 (cM (frAt (msAt (num h m s f r) r) q) q), .int .i64 (cS (frAt (msAt (num h m s f r) r) q) q), .int .i64 (cF (frAt (msAt (num h m s f r) r) q) q), .int .i64 q]), .int .i64 0]) ∧ ∃ k : Ex w, w' = k.v := by
  obtain ⟨b1, b2, b3, b4, b5, b6⟩ := conv_bd hk hq
  have b7 := conv_bd2 hk hq
  go_enter Try.func44, Try.ntmps44
  go_wp2_with (first | (go_at_call 51; first | (refine (l16Ok_yes2 _ h m s f r _ hk (by first | (constructor <;> first | infer_instance | (simp [go_sem] <;> fail)) | fail)).mono ?_; rintro e w' ⟨rfl, k, rfl⟩) | (refine (l16Ok_no2 _ h m s f r _ hk (by first | (constructor <;> first | infer_instance | (simp [go_sem] <;> fail)) | fail)).mono ?_; rintro e w' ⟨rfl, k, rfl⟩)) | (go_at_call 54; first | (refine (rt_yes _ _ (by assumption)).mono ?_; rintro e w' ⟨rfl, rfl⟩) | (refine (rt_no _ _ (by assumption)).mono ?_; rintro e w' ⟨rfl, rfl⟩)))
  go_region_with (first | (go_at_call 63; refine (l16Frame_any _ h m s f r _ (by first | (constructor <;> first | infer_instance | (simp [go_sem] <;> fail)) | fail) hk).mono ?_; rintro e w' ⟨rfl, k, rfl⟩) | (go_at_call 56; refine (l16Milli_any _ _ _ hk.1 b1 (by omega)).mono ?_; rintro e w' ⟨rfl, rfl⟩) | (go_at_call 61; refine (l16At_any _ _ _ hq b3 b4).mono ?_; rintro e w' ⟨rfl, rfl⟩) | (go_at_call 66; refine (l16Code_yes _ _ _ hq b5 hn).mono ?_; rintro e w' ⟨rfl, k, rfl⟩))
  all_goals
    go_wp2
    (refine bodyPost_ret (v := _) (by simp [results, Try.results44, go_sem]; rfl) rfl ⟨by first | rfl | (simp; done), ?_⟩; (refine Ok.toEx ?_; (repeat (first | (with_reducible exact Ok.rf _) | (with_reducible refine Ok.alloc ?_ _) | (with_reducible refine Ok.ex ?_ _) | (with_reducible refine Ok.drew ?_) | (with_reducible refine Ok.setCellI ?_ _ _ _)))))
theorem lConvertCode (h m s f r q : Int) (w : World) : Calls Try.prog 13 #[.agg #[.int .i64 h, .int .i64 m, .int .i64 s, .int .i64 f, .int .i64 r], .int .i64 q] w fun e w' => e = .returned (.bool true) ∧ ∃ k : Ex w, w' = k.v := by
  by_cases hk : okCode h m s f r
  · by_cases hq : okRate q
    · by_cases hn : (frAt (msAt (num h m s f r) r) q) < dayOf q
      · go_enter Try.func13, Try.ntmps13
        go_wp2_with (first | (go_at_call 16; refine (toCode_any _ _ _ _ _ _).mono ?_; rintro e w' ⟨rfl, k, rfl⟩) | (go_at_call 36; refine (eqCode_any _ _ _ _ _ _).mono ?_; rintro e w' ⟨rfl, k, rfl⟩) | (go_at_call 45; refine (iConv_yes _ _ _ _ _ _ _ hk hq hn).mono ?_; rintro e w' ⟨rfl, k, rfl⟩) | (go_at_call 44; refine (sConv_yes _ _ _ _ _ _ _ hk hq hn).mono ?_; rintro e w' ⟨rfl, k, rfl⟩))
        (go_ret; refine ⟨by first | rfl | (simp; done), ?_⟩; (refine Ok.toEx ?_; (repeat (first | (with_reducible exact Ok.rf _) | (with_reducible refine Ok.alloc ?_ _) | (with_reducible refine Ok.ex ?_ _) | (with_reducible refine Ok.drew ?_) | (with_reducible refine Ok.setCellI ?_ _ _ _)))))
      · have hn := Int.not_lt.1 hn
        go_enter Try.func13, Try.ntmps13
        go_wp2_with (first | (go_at_call 16; refine (toCode_any _ _ _ _ _ _).mono ?_; rintro e w' ⟨rfl, k, rfl⟩) | (go_at_call 36; refine (eqCode_any _ _ _ _ _ _).mono ?_; rintro e w' ⟨rfl, k, rfl⟩) | (go_at_call 45; refine (iConv_no6 _ _ _ _ _ _ _ hk hq hn).mono ?_; rintro e w' ⟨rfl, k, rfl⟩) | (go_at_call 44; refine (sConv_no6 _ _ _ _ _ _ _ hk hq hn).mono ?_; rintro e w' ⟨rfl, k, rfl⟩))
        (go_ret; refine ⟨by first | rfl | (simp; done), ?_⟩; (refine Ok.toEx ?_; (repeat (first | (with_reducible exact Ok.rf _) | (with_reducible refine Ok.alloc ?_ _) | (with_reducible refine Ok.ex ?_ _) | (with_reducible refine Ok.drew ?_) | (with_reducible refine Ok.setCellI ?_ _ _ _)))))
    · go_enter Try.func13, Try.ntmps13
      go_wp2_with (first | (go_at_call 16; refine (toCode_any _ _ _ _ _ _).mono ?_; rintro e w' ⟨rfl, k, rfl⟩) | (go_at_call 36; refine (eqCode_any _ _ _ _ _ _).mono ?_; rintro e w' ⟨rfl, k, rfl⟩) | (go_at_call 45; refine (iConv_no2 _ _ _ _ _ _ _ hk hq).mono ?_; rintro e w' ⟨rfl, k, rfl⟩) | (go_at_call 44; refine (sConv_no2 _ _ _ _ _ _ _ hk hq).mono ?_; rintro e w' ⟨rfl, k, rfl⟩))
      (go_ret; refine ⟨by first | rfl | (simp; done), ?_⟩; (refine Ok.toEx ?_; (repeat (first | (with_reducible exact Ok.rf _) | (with_reducible refine Ok.alloc ?_ _) | (with_reducible refine Ok.ex ?_ _) | (with_reducible refine Ok.drew ?_) | (with_reducible refine Ok.setCellI ?_ _ _ _)))))
  · go_enter Try.func13, Try.ntmps13
    go_wp2_with (first | (go_at_call 16; refine (toCode_any _ _ _ _ _ _).mono ?_; rintro e w' ⟨rfl, k, rfl⟩) | (go_at_call 36; refine (eqCode_any _ _ _ _ _ _).mono ?_; rintro e w' ⟨rfl, k, rfl⟩) | (go_at_call 45; refine (iConv_no1 _ _ _ _ _ _ _ hk).mono ?_; rintro e w' ⟨rfl, k, rfl⟩) | (go_at_call 44; refine (sConv_no1 _ _ _ _ _ _ _ hk).mono ?_; rintro e w' ⟨rfl, k, rfl⟩))
    (go_ret; refine ⟨by first | rfl | (simp; done), ?_⟩; (refine Ok.toEx ?_; (repeat (first | (with_reducible exact Ok.rf _) | (with_reducible refine Ok.alloc ?_ _) | (with_reducible refine Ok.ex ?_ _) | (with_reducible refine Ok.drew ?_) | (with_reducible refine Ok.setCellI ?_ _ _ _)))))
end
end Go.Proofs.Ytfabohjejgdcgaa
