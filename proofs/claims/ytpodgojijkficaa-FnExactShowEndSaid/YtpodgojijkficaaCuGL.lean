/-
  The law of ShowEnd. Conditions: those typed at each theorem.
-/
import Derived.Test.YtpodgojijkficaaCuG
import Derived.Test.YtpodgojijkficaaMkCue
import Derived.Test.YtpodgojijkficaaCuO
namespace Go.Proofs.Ytpodgojijkficaa
open Go.RowKit
section
set_option maxHeartbeats 3200000
set_option maxRecDepth 20000
theorem lShowEnd (A : Option Addr) (c : Nat) (l : List Cu) (w : World) (hk : COks l) (hl : Rd 6 cC w A l) :
    Calls Try.prog 5 #[.slice A l.length c] w fun e w' => e = .returned (.bool true) ∧ ∃ k : Ex w, w' = k.v := by
  have hlen := hl.len
  obtain ⟨rv, hrv⟩ : ∃ rv, seV l = rv := ⟨_, rfl⟩
  obtain ⟨re, hre⟩ : ∃ re, seE l = re := ⟨_, rfl⟩
  have HV := hid hrv
  have HE := hid hre
  clear hrv hre
  go_enter Try.func5, Try.ntmps5
  go_wp2_with ((go_at_call 15; (with_reducible refine (szCueS_any _ _ l _ _ ?_ ?_).mono ?_); (· omega); (· omega); rintro e w' ⟨m, rfl, ⟨hm1, hm2, hm3⟩, hm4, k, rfl⟩; have hm4 := hid hm4))
  · (go_ret; refine ⟨by first | rfl | (simp; done), ?_⟩; (refine Ok.toEx ?_; (repeat (first | (with_reducible exact Ok.rf _) | (with_reducible refine Ok.alloc ?_ _) | (with_reducible refine Ok.ex ?_ _) | (with_reducible refine Ok.drew ?_) | (with_reducible refine Ok.setCellI ?_ _ _ _) | (with_reducible refine Ok.exb ?_ _)))))
  have hm5 := hm3 (by omega)
  clear hm3
  go_wp2_with ((go_at_call 17; (with_reducible refine (toCueS_any _ _ l _ ?_).mono ?_); (· omega); rintro e w' ⟨rfl, k1, rfl, hw1⟩))
  go_wp2_with (go_at_call 24; (with_reducible refine (sShowEnd_any _ _ l  _ ?_ HV.out HE.out).mono ?_); (· omega); rintro e w' ⟨rfl, k2, rfl⟩)
  go_wp2_with ((go_at_call 17; (with_reducible refine (toCueS_any _ _ l _ ?_).mono ?_); (· omega); rintro e w' ⟨rfl, k3, rfl, hw3⟩))
  go_wp2_with (go_at_call 25; (with_reducible refine (iShowEnd_any _ _ l  _ ?_ ?_ HV.out HE.out).mono ?_); (· exact Nat.le_refl _); (· omega); rintro e w' ⟨rfl, k4, rfl⟩)
  go_wp2_with ((go_at_call 17; (with_reducible refine (toCueS_any _ _ l _ ?_).mono ?_); (· omega); rintro e w' ⟨rfl, k5, rfl, hw5⟩))
  go_wp2_with ((go_at_call 19; (with_reducible refine (eqCueS_any _ _ _ _ l _).mono ?_); rintro e w' ⟨rfl, k6, rfl⟩))
  all_goals (go_ret; refine ⟨by first | rfl | (simp; done), ?_⟩; (refine Ok.toEx ?_; (repeat (first | (with_reducible exact Ok.rf _) | (with_reducible refine Ok.alloc ?_ _) | (with_reducible refine Ok.ex ?_ _) | (with_reducible refine Ok.drew ?_) | (with_reducible refine Ok.setCellI ?_ _ _ _) | (with_reducible refine Ok.exb ?_ _)))))
end
end Go.Proofs.Ytpodgojijkficaa
