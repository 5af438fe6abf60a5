/-
  The law of LevelAt. Conditions: those typed at each theorem.
-/
import Derived.Test.YtpodgojijkficaaCuLs
import Derived.Test.YtpodgojijkficaaMkCue
import Derived.Test.YtpodgojijkficaaCuO
namespace Go.Proofs.Ytpodgojijkficaa
open Go.RowKit
section
set_option maxHeartbeats 3200000
set_option maxRecDepth 20000
theorem lLevelAt (A : Option Addr) (c : Nat) (l : List Cu) (nm : ByteArray) (time : Int) (w : World) (hk : COks l) (hl : Rd 6 cC w A l) (_hnm : nm.size ≤ 9223372036854775807) (_htime : i64' time) :
    Calls Try.prog 8 #[.slice A l.length c, .string nm, .int .i64 time] w fun e w' => e = .returned (.bool true) ∧ ∃ k : Ex w, w' = k.v := by
  have hlen := hl.len
  obtain ⟨rv, hrv⟩ : ∃ rv, laV l nm time = rv := ⟨_, rfl⟩
  obtain ⟨re, hre⟩ : ∃ re, laE l time = re := ⟨_, rfl⟩
  have HV := hid hrv
  have HE := hid hre
  clear hrv hre
  by_cases hz : 1048576 < nm.size
  · have hzi : (1048576 : Int) < (nm.size : Int) := by omega
    go_enter Try.func8, Try.ntmps8
    go_wp2
    (go_ret; refine ⟨by first | rfl | (simp; done), ?_⟩; (refine Ok.toEx ?_; (repeat (first | (with_reducible exact Ok.rf _) | (with_reducible refine Ok.alloc ?_ _) | (with_reducible refine Ok.ex ?_ _) | (with_reducible refine Ok.drew ?_) | (with_reducible refine Ok.setCellI ?_ _ _ _) | (with_reducible refine Ok.exb ?_ _)))))
  have hzi : ¬ (1048576 : Int) < (nm.size : Int) := by omega
  go_enter Try.func8, Try.ntmps8
  go_wp2_with ((go_at_call 15; (with_reducible refine (szCueS_any _ _ l _ _ ?_ ?_).mono ?_); (· omega); (· omega); rintro e w' ⟨m, rfl, ⟨hm1, hm2, hm3⟩, hm4, k, rfl⟩; have hm4 := hid hm4))
  · (go_ret; refine ⟨by first | rfl | (simp; done), ?_⟩; (refine Ok.toEx ?_; (repeat (first | (with_reducible exact Ok.rf _) | (with_reducible refine Ok.alloc ?_ _) | (with_reducible refine Ok.ex ?_ _) | (with_reducible refine Ok.drew ?_) | (with_reducible refine Ok.setCellI ?_ _ _ _) | (with_reducible refine Ok.exb ?_ _)))))
  have hm5 := hm3 (by omega)
  clear hm3
  go_wp2_with ((go_at_call 17; (with_reducible refine (toCueS_any _ _ l _ ?_).mono ?_); (· omega); rintro e w' ⟨rfl, k1, rfl, hw1⟩))
  go_wp2_with (go_at_call 35; (with_reducible refine (sLevelAt_any _ _ l nm time _ ?_ HV.out HE.out).mono ?_); (· omega); rintro e w' ⟨rfl, k2, rfl⟩)
  go_wp2_with ((go_at_call 17; (with_reducible refine (toCueS_any _ _ l _ ?_).mono ?_); (· omega); rintro e w' ⟨rfl, k3, rfl, hw3⟩))
  go_wp2_with (go_at_call 27; (with_reducible refine (iLevelAt_any _ _ l nm time _ ?_ ?_ HV.out HE.out).mono ?_); (· exact Nat.le_refl _); (· omega); rintro e w' ⟨rfl, k4, rfl⟩)
  go_wp2_with ((go_at_call 17; (with_reducible refine (toCueS_any _ _ l _ ?_).mono ?_); (· omega); rintro e w' ⟨rfl, k5, rfl, hw5⟩))
  go_wp2_with ((go_at_call 19; (with_reducible refine (eqCueS_any _ _ _ _ l _).mono ?_); rintro e w' ⟨rfl, k6, rfl⟩))
  all_goals (go_ret; refine ⟨by first | rfl | (simp; done), ?_⟩; (refine Ok.toEx ?_; (repeat (first | (with_reducible exact Ok.rf _) | (with_reducible refine Ok.alloc ?_ _) | (with_reducible refine Ok.ex ?_ _) | (with_reducible refine Ok.drew ?_) | (with_reducible refine Ok.setCellI ?_ _ _ _) | (with_reducible refine Ok.exb ?_ _)))))
end
end Go.Proofs.Ytpodgojijkficaa
