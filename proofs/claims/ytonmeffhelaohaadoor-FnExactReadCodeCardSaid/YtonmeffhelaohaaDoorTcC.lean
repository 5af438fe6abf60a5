/-
  Contracts of the functions that take or return a time code: each returns what its plain function says, and leaves all that lay there. Conditions: those typed at each theorem.
-/
import Derived.Test.YtonmeffhelaohaaDoorTcW
namespace Go.Proofs.YtonmeffhelaohaaDoor
open Go.RowKit Tc

/-- a code behind a pointer -/
structure AtCode (w : World) (b : Nat) (h m s f r : Int) : Prop where
  lt : LtW b w
  c0 : w.cell? ⟨b, 0, none⟩ = some (.int .i64 h)
  c1 : w.cell? ⟨b, 1, none⟩ = some (.int .i64 m)
  c2 : w.cell? ⟨b, 2, none⟩ = some (.int .i64 s)
  c3 : w.cell? ⟨b, 3, none⟩ = some (.int .i64 f)
  c4 : w.cell? ⟨b, 4, none⟩ = some (.int .i64 r)
section
set_option maxHeartbeats 800000
theorem eqCode_any (h m s f r : Int) (w : World) :
    Calls Tryd.prog 8 #[.agg #[.int .i64 h, .int .i64 m, .int .i64 s, .int .i64 f, .int .i64 r], .agg #[.int .i64 h, .int .i64 m, .int .i64 s, .int .i64 f, .int .i64 r]] w fun e w' => e = .returned (.bool true) ∧ ∃ k : Ex w, w' = k.v := by
  go_enter Tryd.func8, Tryd.ntmps8
  go_wp2
  go_ret
  refine ⟨rfl, ?_⟩
  (refine Ok.toEx ?_; (repeat (first | (with_reducible exact Ok.rf _) | (with_reducible refine Ok.alloc ?_ _) | (with_reducible refine Ok.ex ?_ _) | (with_reducible refine Ok.drew ?_) | (with_reducible refine Ok.setCellI ?_ _ _ _) | (with_reducible refine Ok.exb ?_ _))))
theorem valid_no (h m s f r : Int) (w : World) (hk : ¬ okCode h m s f r) :
    Calls Tryd.prog 24 #[.agg #[.int .i64 h, .int .i64 m, .int .i64 s, .int .i64 f, .int .i64 r]] w fun e w' => e = .returned (.bool false) ∧ ∃ k : Ex w, w' = k.v := by
  rcases notOk hk with c | c
  · have hr : ¬ okRate r := by unfold okRate; omega
    clear hk c
    go_enter Tryd.func24, Tryd.ntmps24
    go_wp2_with (first | (go_at_call 46; first | (refine (isr_yes _ _ (by assumption)).mono ?_; rintro e w' ⟨rfl, rfl⟩) | (refine (isr_no _ _ (by assumption)).mono ?_; rintro e w' ⟨rfl, rfl⟩)) | (go_at_call 47; first | (refine (wi_yes _ _ _ _ (by omega) (by omega)).mono ?_; rintro e w' ⟨rfl, rfl⟩) | (refine (wi_no _ _ _ _ (by omega)).mono ?_; rintro e w' ⟨rfl, rfl⟩)))
    go_ret
    refine ⟨rfl, ?_⟩
    (refine Ok.toEx ?_; (repeat (first | (with_reducible exact Ok.rf _) | (with_reducible refine Ok.alloc ?_ _) | (with_reducible refine Ok.ex ?_ _) | (with_reducible refine Ok.drew ?_) | (with_reducible refine Ok.setCellI ?_ _ _ _) | (with_reducible refine Ok.exb ?_ _))))
  rcases c with ⟨hr, c⟩ | ⟨hr, a1, a2, c⟩ | ⟨hr, a1, a2, a3, a4, c⟩ | ⟨hr, a1, a2, a3, a4, a5, a6, c⟩ | ⟨rfl, a1, a2, a3, a4, rfl, a7, a8, c⟩
  case inr.inr.inr.inr =>
    have hr : okRate 30 := by simp [okRate]
    clear hk
    go_enter Tryd.func24, Tryd.ntmps24
    go_wp2_with (first | (go_at_call 46; first | (refine (isr_yes _ _ (by assumption)).mono ?_; rintro e w' ⟨rfl, rfl⟩) | (refine (isr_no _ _ (by assumption)).mono ?_; rintro e w' ⟨rfl, rfl⟩)) | (go_at_call 47; first | (refine (wi_yes _ _ _ _ (by omega) (by omega)).mono ?_; rintro e w' ⟨rfl, rfl⟩) | (refine (wi_no _ _ _ _ (by omega)).mono ?_; rintro e w' ⟨rfl, rfl⟩)))
    go_ret
    refine ⟨by simp; omega, ?_⟩
    (refine Ok.toEx ?_; (repeat (first | (with_reducible exact Ok.rf _) | (with_reducible refine Ok.alloc ?_ _) | (with_reducible refine Ok.ex ?_ _) | (with_reducible refine Ok.drew ?_) | (with_reducible refine Ok.setCellI ?_ _ _ _) | (with_reducible refine Ok.exb ?_ _))))
  all_goals
    obtain ⟨r1, r2⟩ := okRate_bd hr
    clear hk
    go_enter Tryd.func24, Tryd.ntmps24
    go_wp2_with (first | (go_at_call 46; first | (refine (isr_yes _ _ (by assumption)).mono ?_; rintro e w' ⟨rfl, rfl⟩) | (refine (isr_no _ _ (by assumption)).mono ?_; rintro e w' ⟨rfl, rfl⟩)) | (go_at_call 47; first | (refine (wi_yes _ _ _ _ (by omega) (by omega)).mono ?_; rintro e w' ⟨rfl, rfl⟩) | (refine (wi_no _ _ _ _ (by omega)).mono ?_; rintro e w' ⟨rfl, rfl⟩)))
    go_ret
    refine ⟨rfl, ?_⟩
    (refine Ok.toEx ?_; (repeat (first | (with_reducible exact Ok.rf _) | (with_reducible refine Ok.alloc ?_ _) | (with_reducible refine Ok.ex ?_ _) | (with_reducible refine Ok.drew ?_) | (with_reducible refine Ok.setCellI ?_ _ _ _) | (with_reducible refine Ok.exb ?_ _))))
theorem valid_yes (h m s f r : Int) (w : World) (hk : okCode h m s f r) :
    Calls Tryd.prog 24 #[.agg #[.int .i64 h, .int .i64 m, .int .i64 s, .int .i64 f, .int .i64 r]] w fun e w' => e = .returned (.bool true) ∧ ∃ k : Ex w, w' = k.v := by
  obtain ⟨hr, a1, a2, a3, a4, a5, a6, a7, a8, c⟩ := hk
  obtain ⟨r1, r2⟩ := okRate_bd hr
  go_enter Tryd.func24, Tryd.ntmps24
  go_wp2_with (first | (go_at_call 46; first | (refine (isr_yes _ _ (by assumption)).mono ?_; rintro e w' ⟨rfl, rfl⟩) | (refine (isr_no _ _ (by assumption)).mono ?_; rintro e w' ⟨rfl, rfl⟩)) | (go_at_call 47; first | (refine (wi_yes _ _ _ _ (by omega) (by omega)).mono ?_; rintro e w' ⟨rfl, rfl⟩) | (refine (wi_no _ _ _ _ (by omega)).mono ?_; rintro e w' ⟨rfl, rfl⟩)))
  all_goals
    go_ret
    refine ⟨by first | rfl | (simp; omega), ?_⟩
    (refine Ok.toEx ?_; (repeat (first | (with_reducible exact Ok.rf _) | (with_reducible refine Ok.alloc ?_ _) | (with_reducible refine Ok.ex ?_ _) | (with_reducible refine Ok.drew ?_) | (with_reducible refine Ok.setCellI ?_ _ _ _) | (with_reducible refine Ok.exb ?_ _))))
theorem l16Ok_no (b : Nat) (h m s f r : Int) (w : World) (hc : AtCode w b h m s f r) (hk : ¬ okCode h m s f r) :
    Calls Tryd.prog 21 #[.pointer (some ⟨b, 0, none⟩)] w fun e w' => e = .returned (.bool false) ∧ ∃ k : Ex w, w' = k.v := by
  obtain ⟨lt, c0, c1, c2, c3, c4⟩ := hc
  rcases notOk hk with c | c
  · have hr : ¬ okRate r := by unfold okRate; omega
    clear hk c
    go_enter Tryd.func21, Tryd.ntmps21
    go_wp2
    (refine wp_region_ex (by kernel_rfl) (by kernel_rfl) ?_; (repeat (go_big_quiet_step (((first | (go_at_call 40; first | exact calls_ex_same (rt_yes _ _ (by assumption)) | exact calls_ex_same (rt_no _ _ (by assumption))) | (go_at_call 41; first | exact calls_ex_same (in_yes _ _ _ _ (by omega) (by omega)) | exact calls_ex_same (in_no _ _ _ _ (by omega)))))))); refine wpQuiet_nil ?_; rintro _ ⟨k, rfl⟩)
    go_wp2
    go_ret
    exact ⟨rfl, k, rfl⟩
  rcases c with ⟨hr, c⟩ | ⟨hr, a1, a2, c⟩ | ⟨hr, a1, a2, a3, a4, c⟩ | ⟨hr, a1, a2, a3, a4, a5, a6, c⟩ | ⟨rfl, a1, a2, a3, a4, rfl, a7, a8, c⟩
  case inr.inr.inr.inr =>
    have hr : okRate 30 := by simp [okRate]
    clear hk
    go_enter Tryd.func21, Tryd.ntmps21
    go_wp2
    (refine wp_region_ex (by kernel_rfl) (by kernel_rfl) ?_; (repeat (go_big_quiet_step (((first | (go_at_call 40; first | exact calls_ex_same (rt_yes _ _ (by assumption)) | exact calls_ex_same (rt_no _ _ (by assumption))) | (go_at_call 41; first | exact calls_ex_same (in_yes _ _ _ _ (by omega) (by omega)) | exact calls_ex_same (in_no _ _ _ _ (by omega)))))))); refine wpQuiet_nil ?_; rintro _ ⟨k, rfl⟩)
    go_wp2
    go_ret
    exact ⟨by simp; omega, k, rfl⟩
  all_goals
    obtain ⟨r1, r2⟩ := okRate_bd hr
    clear hk
    go_enter Tryd.func21, Tryd.ntmps21
    go_wp2
    (refine wp_region_ex (by kernel_rfl) (by kernel_rfl) ?_; (repeat (go_big_quiet_step (((first | (go_at_call 40; first | exact calls_ex_same (rt_yes _ _ (by assumption)) | exact calls_ex_same (rt_no _ _ (by assumption))) | (go_at_call 41; first | exact calls_ex_same (in_yes _ _ _ _ (by omega) (by omega)) | exact calls_ex_same (in_no _ _ _ _ (by omega)))))))); refine wpQuiet_nil ?_; rintro _ ⟨k, rfl⟩)
    go_wp2
    go_ret
    exact ⟨rfl, k, rfl⟩
theorem l16Ok_yes (b : Nat) (h m s f r : Int) (w : World) (hc : AtCode w b h m s f r) (hk : okCode h m s f r) :
    Calls Tryd.prog 21 #[.pointer (some ⟨b, 0, none⟩)] w fun e w' => e = .returned (.bool true) ∧ ∃ k : Ex w, w' = k.v := by
  obtain ⟨lt, c0, c1, c2, c3, c4⟩ := hc
  obtain ⟨hr, a1, a2, a3, a4, a5, a6, a7, a8, c⟩ := hk
  obtain ⟨r1, r2⟩ := okRate_bd hr
  go_enter Tryd.func21, Tryd.ntmps21
  go_wp2
  (refine wp_region_ex (by kernel_rfl) (by kernel_rfl) ?_; (repeat (go_big_quiet_step (((first | (go_at_call 40; first | exact calls_ex_same (rt_yes _ _ (by assumption)) | exact calls_ex_same (rt_no _ _ (by assumption))) | (go_at_call 41; first | exact calls_ex_same (in_yes _ _ _ _ (by omega) (by omega)) | exact calls_ex_same (in_no _ _ _ _ (by omega)))))))); refine wpQuiet_nil ?_; rintro _ ⟨k, rfl⟩)
  go_wp2
  all_goals
    go_ret
    exact ⟨by first | rfl | (simp; omega), k, rfl⟩
end
end Go.Proofs.YtonmeffhelaohaaDoor
