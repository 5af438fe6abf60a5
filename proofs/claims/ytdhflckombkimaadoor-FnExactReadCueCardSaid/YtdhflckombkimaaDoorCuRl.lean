/-
  The law of ReadCue. Conditions: those typed at each theorem.
-/
import Derived.Test.YtdhflckombkimaaDoorCuRi
import Derived.Test.YtdhflckombkimaaDoorMkCue
import Derived.Laws.StructEq
namespace Go.Proofs.YtdhflckombkimaaDoor
open Go.RowKit
section
set_option maxHeartbeats 3200000
set_option maxRecDepth 20000
theorem srq_any (s : ByteArray) (w : World) (hs : s.size ≤ 1048576) :
    Calls Tryd.prog 8 #[.string s] w fun e w' => e = .returned (.tuple #[(.agg #[.string (rqC s).id, .int .i64 (rqC s).t, .int .i64 (rqC s).ln, .string (rqC s).tg, .int .i64 (rqC s).act, .int .i64 (rqC s).v]), .bool (rqB s)]) ∧ ∃ k : Ex w, w' = k.v := by
  go_enter Tryd.func8, Tryd.ntmps8
  go_wp2_with ((go_at_call 36; refine (sRead_any s _ hs).mono ?_; rintro e w' ⟨rfl, k, rfl⟩))
  refine bodyPost_ret (v := _) (by simp [results, Tryd.results8, go_sem]; rfl) rfl ?_
  refine ⟨rfl, ?_⟩
  (refine Ok.toEx ?_; (repeat (first | (with_reducible exact Ok.rf _) | (with_reducible refine Ok.alloc ?_ _) | (with_reducible refine Ok.ex ?_ _) | (with_reducible refine Ok.drew ?_) | (with_reducible refine Ok.setCellI ?_ _ _ _) | (with_reducible refine Ok.exb ?_ _))))
theorem lReadCue (s : ByteArray) (w : World) [Tb w] [Es w] [Er w] [Ml w] (hz : s.size ≤ 9223372036854775807) :
    Calls Tryd.prog 3 #[.string s] w fun e w' => e = .returned (.bool true) ∧ ∃ k : Ex w, w' = k.v := by
  by_cases hs : 1048576 < s.size
  · have hi : (1048576 : Int) < (s.size : Int) := by omega
    go_enter Tryd.func3, Tryd.ntmps3
    go_wp2_with (fail)
    (go_ret; refine ⟨by first | rfl | (simp; done), ?_⟩; (refine Ok.toEx ?_; (repeat (first | (with_reducible exact Ok.rf _) | (with_reducible refine Ok.alloc ?_ _) | (with_reducible refine Ok.ex ?_ _) | (with_reducible refine Ok.drew ?_) | (with_reducible refine Ok.setCellI ?_ _ _ _) | (with_reducible refine Ok.exb ?_ _)))))
  have hi : ¬ (1048576 : Int) < (s.size : Int) := by omega
  have hs : s.size ≤ 1048576 := by omega
  have HA := hid (fun W => srq_any s W hs)
  have HB := hid (fun (W : World) (h1 : Tb W) (h2 : Es W) (h3 : Er W) (h4 : Ml W) => iRead_any s W hs)
  generalize rqC s = x at *
  generalize rqB s = b at *
  go_enter Tryd.func3, Tryd.ntmps3
  go_wp2_with (first | (go_at_call 8; refine (HA.out _).mono ?_; rintro e w' ⟨rfl, k, rfl⟩) | (go_at_call 9; refine (HB.out _ inferInstance inferInstance inferInstance inferInstance).mono ?_; rintro e w' ⟨rfl, k, rfl⟩) | (go_at_call 10; refine (eqCue_any _ _).mono ?_; rintro e w' ⟨rfl, k, rfl⟩))
  all_goals (go_ret; refine ⟨by first | rfl | (simp; done), ?_⟩; (refine Ok.toEx ?_; (repeat (first | (with_reducible exact Ok.rf _) | (with_reducible refine Ok.alloc ?_ _) | (with_reducible refine Ok.ex ?_ _) | (with_reducible refine Ok.drew ?_) | (with_reducible refine Ok.setCellI ?_ _ _ _) | (with_reducible refine Ok.exb ?_ _)))))
end
end Go.Proofs.YtdhflckombkimaaDoor
