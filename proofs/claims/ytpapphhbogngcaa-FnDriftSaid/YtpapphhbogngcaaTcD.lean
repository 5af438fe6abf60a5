/-
  Contracts of the functions on frames and codes: each returns what its plain function says, and leaves all that lay there. Conditions: those typed at each theorem.
-/
import Derived.Test.YtpapphhbogngcaaTcC
namespace Go.Proofs.Ytpapphhbogngcaa
open Go.RowKit Tc
section
set_option maxHeartbeats 800000
theorem frameOf_any (h m s f r : Int) (w : World) (hk : okCode h m s f r) :
    Calls Try.prog 44 #[.agg #[.int .i64 h, .int .i64 m, .int .i64 s, .int .i64 f, .int .i64 r]] w fun e w' => e = .returned (.int .i64 (num h m s f r)) ∧ ∃ k : Ex w, w' = k.v := by
  obtain ⟨hr, a1, a2, a3, a4, a5, a6, a7, a8, c⟩ := hk
  clear c
  rcases hr with rfl | rfl | rfl
  all_goals
    go_enter Try.func44, Try.ntmps44
    go_wp2
    go_ret
    refine ⟨rfl, ?_⟩
    (refine Ok.toEx ?_; (repeat (first | (with_reducible exact Ok.rf _) | (with_reducible refine Ok.alloc ?_ _) | (with_reducible refine Ok.ex ?_ _) | (with_reducible refine Ok.drew ?_) | (with_reducible refine Ok.setCellI ?_ _ _ _) | (with_reducible refine Ok.exb ?_ _))))
end
end Go.Proofs.Ytpapphhbogngcaa
