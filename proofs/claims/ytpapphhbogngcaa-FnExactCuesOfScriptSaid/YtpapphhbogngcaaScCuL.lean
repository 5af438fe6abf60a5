/-
  The law of CuesOfScript. Conditions: those typed at each theorem.
-/
import Derived.Test.YtpapphhbogngcaaScCu
import Derived.Test.YtpapphhbogngcaaScEv
import Derived.Test.YtpapphhbogngcaaMkString
namespace Go.Proofs.Ytpapphhbogngcaa
open Go.RowKit
section
set_option maxHeartbeats 3200000
theorem lCuesOfScript (A : Option Addr) (c : Nat) (l : List Ln) (w : World) (hl : Lns w A l) :
    Calls Try.prog 6 #[.slice A l.length c] w fun e w' => e = .returned (.bool true) ∧ ∃ k : Ex w, w' = k.v := by
  obtain ⟨rv, hrv⟩ : ∃ rv, csRV l = rv := ⟨_, rfl⟩
  obtain ⟨re, hre⟩ : ∃ re, csRE l = re := ⟨_, rfl⟩
  have hR : rv.length ≤ l.length := by rw [← hrv]; exact csRV_len l
  have HV := hid hrv
  have HE := hid hre
  clear hrv hre
  go_enter Try.func6, Try.ntmps6
  go_wp2_with ((go_at_call 31; refine (szLineS_any _ _ _ _ _ (by omega) (by omega)).mono ?_; rintro e w' ⟨m, rfl, ⟨hm1, hm2, hm3⟩, hm4, k, rfl⟩))
  · (go_ret; refine ⟨by first | rfl | (simp; done), ?_⟩; (refine Ok.toEx ?_; (repeat (first | (with_reducible exact Ok.rf _) | (with_reducible refine Ok.alloc ?_ _) | (with_reducible refine Ok.ex ?_ _) | (with_reducible refine Ok.drew ?_) | (with_reducible refine Ok.setCellI ?_ _ _ _) | (with_reducible refine Ok.exb ?_ _)))))
  go_wp2_with ((go_at_call 33; refine (toLineS_any _ _ _ _ (by omega)).mono ?_; rintro e w' ⟨rfl, k1, rfl, hw1⟩))
  go_wp2_with ((go_at_call 32; refine (sCs_any _ _ _ _ (by omega) HV.out HE.out).mono ?_; rintro e w' ⟨Aw, cw, rfl, k2, rfl, how, hfw⟩))
  go_wp2_with ((go_at_call 33; refine (toLineS_any _ _ _ _ (by omega)).mono ?_; rintro e w' ⟨rfl, k3, rfl, hw3⟩))
  go_wp2_with ((go_at_call 20; refine (iCs_any _ _ _ _ (by omega) (by omega) HV.out HE.out).mono ?_; rintro e w' ⟨Ag, cg, rfl, k4, rfl, hog, hfg⟩))
  go_wp2_with ((go_at_call 34; refine (eqStringS_any _ _ _ _ _ _).mono ?_; rintro e w' ⟨rfl, k5, rfl⟩))
  go_wp2_with ((go_at_call 33; refine (toLineS_any _ _ _ _ (by omega)).mono ?_; rintro e w' ⟨rfl, k6, rfl, hw6⟩))
  go_wp2_with ((go_at_call 35; refine (eqLineS_any _ _ _ _ _ _).mono ?_; rintro e w' ⟨rfl, k7, rfl⟩))
  go_wp2_with ((go_at_call 36; refine (markLineS_any k2.v _ _ _ _ _ (by omega) (by omega) (by omega)).mono ?_; rintro e w' ⟨rfl, k8, rfl, ho8, hb8⟩))
  have hog8 : Ow 1 sC k8.v Ag rv := Ow.but (inferInstanceAs (Ow 1 sC k7.v Ag rv)) hb8 (fun x o o' e h => by have h1 := hfg.h x o none e; have h2 := hw3.lt.h; cases h; omega)
  have hfg2 : Fr k2.v Ag := hfg.mono
  go_wp2_with ((go_at_call 34; refine (eqStringS_any _ _ _ _ _ _).mono ?_; rintro e w' ⟨rfl, k9, rfl⟩))
  go_wp2_with (go_at_call 37; refine (markStringS_any k2.v _ _ _ _ _ (by omega) (by omega) (by omega)).mono ?_; rintro e w' ⟨rfl, k10, rfl, ho10, hb10⟩)
  go_wp2_with ((go_at_call 38; refine (heldStringS_any _ _ _ _ _ (by omega) (by omega) (by omega)).mono ?_; rintro e w' ⟨rfl, k11, rfl⟩))
  go_wp2_with ((go_at_call 33; refine (toLineS_any _ _ _ _ (by omega)).mono ?_; rintro e w' ⟨rfl, k12, rfl, hw12⟩))
  go_wp2_with ((go_at_call 20; refine (iCs_any _ _ _ _ (by omega) (by omega) HV.out HE.out).mono ?_; rintro e w' ⟨Ah, ch, rfl, k13, rfl, hoh, hfh⟩))
  go_wp2_with ((go_at_call 34; refine (eqStringS_any _ _ _ _ _ _).mono ?_; rintro e w' ⟨rfl, k14, rfl⟩))
  go_wp2_with ((go_at_call 38; refine (heldStringS_any _ _ _ _ _ (by omega) (by omega) (by omega)).mono ?_; rintro e w' ⟨rfl, k15, rfl⟩))
  all_goals (go_ret; refine ⟨by first | rfl | (simp; done), ?_⟩; (refine Ok.toEx ?_; (repeat (first | (with_reducible exact Ok.rf _) | (with_reducible refine Ok.alloc ?_ _) | (with_reducible refine Ok.ex ?_ _) | (with_reducible refine Ok.drew ?_) | (with_reducible refine Ok.setCellI ?_ _ _ _) | (with_reducible refine Ok.exb ?_ _)))))
end
end Go.Proofs.Ytpapphhbogngcaa
