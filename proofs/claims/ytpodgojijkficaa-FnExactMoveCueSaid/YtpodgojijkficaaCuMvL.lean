/-
  The law of MoveCue. Conditions: those typed at each theorem.
-/
import Derived.Test.YtpodgojijkficaaCuAi
import Derived.Test.YtpodgojijkficaaMkCue
import Derived.Test.YtpodgojijkficaaCuO
namespace Go.Proofs.Ytpodgojijkficaa
open Go.RowKit
section
set_option maxHeartbeats 3200000
set_option maxRecDepth 20000
theorem lMoveCue (A : Option Addr) (c : Nat) (l : List Cu) (nm : ByteArray) (t : Int) (w : World) (hk : COks l) (hl : Rd 6 cC w A l) (_hnm : nm.size ≤ 9223372036854775807) (_ht : i64' t) :
    Calls Try.prog 13 #[.slice A l.length c, .string nm, .int .i64 t] w fun e w' => e = .returned (.bool true) ∧ ∃ k : Ex w, w' = k.v := by
  have hlen := hl.len
  obtain ⟨rv, hrv⟩ : ∃ rv, (mvR l nm t).1 = rv := ⟨_, rfl⟩
  obtain ⟨re, hre⟩ : ∃ re, (mvR l nm t).2 = re := ⟨_, rfl⟩
  have hrl : rv.length ≤ 64 := by rw [← hrv]; exact mvV_len l nm t
  have HV := hid hrv
  have HE := hid hre
  clear hrv hre
  by_cases hz : 1048576 < nm.size
  · have hzi : (1048576 : Int) < (nm.size : Int) := by omega
    go_enter Try.func13, Try.ntmps13
    go_wp2
    (go_ret; refine ⟨by first | rfl | (simp; done), ?_⟩; (refine Ok.toEx ?_; (repeat (first | (with_reducible exact Ok.rf _) | (with_reducible refine Ok.alloc ?_ _) | (with_reducible refine Ok.ex ?_ _) | (with_reducible refine Ok.drew ?_) | (with_reducible refine Ok.setCellI ?_ _ _ _) | (with_reducible refine Ok.exb ?_ _)))))
  have hzi : ¬ (1048576 : Int) < (nm.size : Int) := by omega
  go_enter Try.func13, Try.ntmps13
  go_wp2_with ((go_at_call 15; (with_reducible refine (szCueS_any _ _ l _ _ ?_ ?_).mono ?_); (· omega); (· omega); rintro e w' ⟨m, rfl, ⟨hm1, hm2, hm3⟩, hm4, k, rfl⟩; have hm4 := hid hm4))
  · (go_ret; refine ⟨by first | rfl | (simp; done), ?_⟩; (refine Ok.toEx ?_; (repeat (first | (with_reducible exact Ok.rf _) | (with_reducible refine Ok.alloc ?_ _) | (with_reducible refine Ok.ex ?_ _) | (with_reducible refine Ok.drew ?_) | (with_reducible refine Ok.setCellI ?_ _ _ _) | (with_reducible refine Ok.exb ?_ _)))))
  have hm5 := hm3 (by omega)
  clear hm3
  go_wp2_with ((go_at_call 17; (with_reducible refine (toCueS_any _ _ l _ ?_).mono ?_); (· omega); rintro e w' ⟨rfl, k1, rfl, hw1⟩))
  go_wp2_with ((go_at_call 49; (with_reducible refine (sMoveCue2_any _ _ l nm t _ ?_ ?_ HV.out HE.out).mono ?_); (· exact Nat.le_refl _); (· omega); rintro e w' ⟨Aw, cw, rfl, k2, rfl, how, hfw⟩))
  go_wp2_with ((go_at_call 17; (with_reducible refine (toCueS_any _ _ l _ ?_).mono ?_); (· omega); rintro e w' ⟨rfl, k3, rfl, hw3⟩))
  go_wp2_with ((go_at_call 50; (with_reducible refine (iMoveCue2_any _ _ l nm t _ ?_ ?_ HV.out HE.out).mono ?_); (· exact Nat.le_refl _); (· omega); rintro e w' ⟨Ag, cg, rfl, k4, rfl, hog, hfg⟩))
  go_wp2_with (go_at_call 19; refine (eqCueS_any _ _ _ _ _ _).mono ?_; rintro e w' ⟨rfl, k5, rfl⟩)
  go_wp2_with ((go_at_call 17; (with_reducible refine (toCueS_any _ _ l _ ?_).mono ?_); (· omega); rintro e w' ⟨rfl, k6, rfl, hw6⟩))
  go_wp2_with ((go_at_call 19; (with_reducible refine (eqCueS_any _ _ _ _ l _).mono ?_); rintro e w' ⟨rfl, k7, rfl⟩))
  go_wp2_with (go_at_call 32; refine (markCueS_any k2.v _ _ _ _ _ (by omega) (by omega) (by omega)).mono ?_; rintro e w' ⟨rfl, k8, rfl, ho8, hb8⟩)
  have hog8 : Ow 6 cC k8.v Ag rv := Ow.but (inferInstanceAs (Ow 6 cC k7.v Ag rv)) hb8 (fun x o o' e h => by have h1 := hfg.h x o none e; have h2 := hw3.lt.h; cases h; omega)
  have hfg2 : Fr k2.v Ag := hfg.mono
  go_wp2_with (go_at_call 19; refine (eqCueS_any _ _ _ _ _ _).mono ?_; rintro e w' ⟨rfl, k9, rfl⟩)
  go_wp2_with (go_at_call 32; refine (markCueS_any k2.v _ _ _ _ _ (by omega) (by omega) (by omega)).mono ?_; rintro e w' ⟨rfl, k10, rfl, ho10, hb10⟩)
  go_wp2_with ((go_at_call 38; refine (heldCueS_any _ _ _ _ _ (by omega) (by omega) (by omega)).mono ?_; rintro e w' ⟨rfl, k11, rfl⟩))
  go_wp2_with ((go_at_call 17; (with_reducible refine (toCueS_any _ _ l _ ?_).mono ?_); (· omega); rintro e w' ⟨rfl, k12, rfl, hw12⟩))
  go_wp2_with ((go_at_call 50; (with_reducible refine (iMoveCue2_any _ _ l nm t _ ?_ ?_ HV.out HE.out).mono ?_); (· exact Nat.le_refl _); (· omega); rintro e w' ⟨Ah, ch, rfl, k13, rfl, hoh, hfh⟩))
  go_wp2_with (go_at_call 19; refine (eqCueS_any _ _ _ _ _ _).mono ?_; rintro e w' ⟨rfl, k14, rfl⟩)
  go_wp2_with ((go_at_call 38; refine (heldCueS_any _ _ _ _ _ (by omega) (by omega) (by omega)).mono ?_; rintro e w' ⟨rfl, k15, rfl⟩))
  all_goals (go_ret; refine ⟨by first | rfl | (simp; done), ?_⟩; (refine Ok.toEx ?_; (repeat (first | (with_reducible exact Ok.rf _) | (with_reducible refine Ok.alloc ?_ _) | (with_reducible refine Ok.ex ?_ _) | (with_reducible refine Ok.drew ?_) | (with_reducible refine Ok.setCellI ?_ _ _ _) | (with_reducible refine Ok.exb ?_ _)))))
end
end Go.Proofs.Ytpodgojijkficaa
