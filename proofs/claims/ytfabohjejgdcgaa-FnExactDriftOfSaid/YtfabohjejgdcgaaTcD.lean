/-
  Contracts of the functions on frames and codes: each returns what its plain function says, and leaves all that lay there. Conditions: those typed at each theorem.
-/
import Derived.Test.YtfabohjejgdcgaaTcC
namespace Go.Proofs.Ytfabohjejgdcgaa
open Go.RowKit Tc
section
set_option maxHeartbeats 800000
theorem sValid_yes (h m s f r : Int) (w : World) (hk : okCode h m s f r) :
    Calls Try.prog 15 #[.agg #[.int .i64 h, .int .i64 m, .int .i64 s, .int .i64 f, .int .i64 r]] w fun e w' => e = .returned (.bool true) ∧ ∃ k : Ex w, w' = k.v := by
  go_enter Try.func15, Try.ntmps15
  go_wp2_with ((go_at_call 51; first | (refine (l16Ok_yes _ h m s f r _ (by constructor <;> first | infer_instance | simp [go_sem]) (by assumption)).mono ?_; rintro e w' ⟨rfl, k, rfl⟩) | (refine (l16Ok_no _ h m s f r _ (by constructor <;> first | infer_instance | simp [go_sem]) (by assumption)).mono ?_; rintro e w' ⟨rfl, k, rfl⟩)))
  go_ret
  refine ⟨rfl, ?_⟩
  (refine Ok.toEx ?_; (repeat (first | (with_reducible exact Ok.rf _) | (with_reducible refine Ok.alloc ?_ _) | (with_reducible refine Ok.ex ?_ _) | (with_reducible refine Ok.drew ?_) | (with_reducible refine Ok.setCellI ?_ _ _ _))))
theorem sValid_no (h m s f r : Int) (w : World) (hk : ¬ okCode h m s f r) :
    Calls Try.prog 15 #[.agg #[.int .i64 h, .int .i64 m, .int .i64 s, .int .i64 f, .int .i64 r]] w fun e w' => e = .returned (.bool false) ∧ ∃ k : Ex w, w' = k.v := by
  go_enter Try.func15, Try.ntmps15
  go_wp2_with ((go_at_call 51; first | (refine (l16Ok_yes _ h m s f r _ (by constructor <;> first | infer_instance | simp [go_sem]) (by assumption)).mono ?_; rintro e w' ⟨rfl, k, rfl⟩) | (refine (l16Ok_no _ h m s f r _ (by constructor <;> first | infer_instance | simp [go_sem]) (by assumption)).mono ?_; rintro e w' ⟨rfl, k, rfl⟩)))
  go_ret
  refine ⟨rfl, ?_⟩
  (refine Ok.toEx ?_; (repeat (first | (with_reducible exact Ok.rf _) | (with_reducible refine Ok.alloc ?_ _) | (with_reducible refine Ok.ex ?_ _) | (with_reducible refine Ok.drew ?_) | (with_reducible refine Ok.setCellI ?_ _ _ _))))
theorem frameOf_any (h m s f r : Int) (w : World) (hk : okCode h m s f r) :
    Calls Try.prog 64 #[.agg #[.int .i64 h, .int .i64 m, .int .i64 s, .int .i64 f, .int .i64 r]] w fun e w' => e = .returned (.int .i64 (num h m s f r)) ∧ ∃ k : Ex w, w' = k.v := by
  obtain ⟨hr, a1, a2, a3, a4, a5, a6, a7, a8, c⟩ := hk
  clear c
  rcases hr with rfl | rfl | rfl
  all_goals
    go_enter Try.func64, Try.ntmps64
    go_wp2
    go_ret
    refine ⟨rfl, ?_⟩
    (refine Ok.toEx ?_; (repeat (first | (with_reducible exact Ok.rf _) | (with_reducible refine Ok.alloc ?_ _) | (with_reducible refine Ok.ex ?_ _) | (with_reducible refine Ok.drew ?_) | (with_reducible refine Ok.setCellI ?_ _ _ _))))
theorem l16Frame_any (b : Nat) (h m s f r : Int) (w : World) (hc : AtCode w b h m s f r) (hk : okCode h m s f r) :
    Calls Try.prog 63 #[.pointer (some ⟨b, 0, none⟩)] w fun e w' => e = .returned (.int .i64 (num h m s f r)) ∧ ∃ k : Ex w, w' = k.v := by
  obtain ⟨lt, c0, c1, c2, c3, c4⟩ := hc
  obtain ⟨hr, a1, a2, a3, a4, a5, a6, a7, a8, c⟩ := hk
  clear c
  rcases hr with rfl | rfl | rfl
  all_goals
    go_enter Try.func63, Try.ntmps63
    go_wp2
    (refine wp_region_ex (by kernel_rfl) (by kernel_rfl) ?_; (repeat (go_big_quiet_step ((fail)))); refine wpQuiet_nil ?_; rintro _ ⟨k, rfl⟩)
    go_wp2
    (refine wp_region_ex (by kernel_rfl) (by kernel_rfl) ?_; (repeat (go_big_quiet_step ((fail)))); refine wpQuiet_nil ?_; rintro _ ⟨k, rfl⟩)
    go_wp2
    go_ret
    refine ⟨ret_int (by simp [num]; omega), ?_⟩
    (refine Ok.toEx ?_; (repeat (first | (with_reducible exact Ok.rf _) | (with_reducible refine Ok.alloc ?_ _) | (with_reducible refine Ok.ex ?_ _) | (with_reducible refine Ok.drew ?_) | (with_reducible refine Ok.setCellI ?_ _ _ _))))
end
end Go.Proofs.Ytfabohjejgdcgaa
