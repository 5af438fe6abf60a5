/-
  The law of TargetsOf. Conditions: those typed at each theorem.
-/
import Derived.Test.YthgfnbgdpmbolaaCuTi
import Derived.Test.YthgfnbgdpmbolaaMkCue
import Derived.Test.YthgfnbgdpmbolaaMkString
import Derived.Test.YthgfnbgdpmbolaaCuO
namespace Go.Proofs.Ythgfnbgdpmbolaa
open Go.RowKit
section
set_option maxHeartbeats 3200000
set_option maxRecDepth 20000
theorem lTargetsOf (A : Option Addr) (c : Nat) (l : List Cu) (w : World) (hk : COks l) (hl : Rd 6 cC w A l) :
    Calls Try.prog 4 #[.slice A l.length c] w fun e w' => e = .returned (.bool true) ∧ ∃ k : Ex w, w' = k.v := by
  have hlen := hl.len
  obtain ⟨rv, hrv⟩ : ∃ rv, tgV l = rv := ⟨_, rfl⟩
  obtain ⟨re, hre⟩ : ∃ re, tgE l = re := ⟨_, rfl⟩
  have hrl : rv.length ≤ 64 := by rw [← hrv]; exact tgV_len l
  have HV := hid hrv
  have HE := hid hre
  clear hrv hre
  go_enter Try.func4, Try.ntmps4
  go_wp2_with ((go_at_call 10; (with_reducible refine (szCueS_any _ _ l _ _ ?_ ?_).mono ?_); (· omega); (· omega); rintro e w' ⟨m, rfl, ⟨hm1, hm2, hm3⟩, hm4, k, rfl⟩; have hm4 := hid hm4))
  · (go_ret; refine ⟨by first | rfl | (simp; done), ?_⟩; (refine Ok.toEx ?_; (repeat (first | (with_reducible exact Ok.rf _) | (with_reducible refine Ok.alloc ?_ _) | (with_reducible refine Ok.ex ?_ _) | (with_reducible refine Ok.drew ?_) | (with_reducible refine Ok.setCellI ?_ _ _ _) | (with_reducible refine Ok.exb ?_ _)))))
  have hm5 := hm3 (by omega)
  clear hm3
  go_wp2_with ((go_at_call 12; (with_reducible refine (toCueS_any _ _ l _ ?_).mono ?_); (· omega); rintro e w' ⟨rfl, k1, rfl, hw1⟩))
  go_wp2_with ((go_at_call 11; (with_reducible refine (sTg_any _ _ l _ ?_ HV.out HE.out).mono ?_); (· omega); rintro e w' ⟨Aw, cw, rfl, k2, rfl, how, hfw⟩))
  go_wp2_with ((go_at_call 12; (with_reducible refine (toCueS_any _ _ l _ ?_).mono ?_); (· omega); rintro e w' ⟨rfl, k3, rfl, hw3⟩))
  go_wp2_with ((go_at_call 13; (with_reducible refine (iTg_any _ _ l _ ?_ ?_ HV.out HE.out).mono ?_); (· exact Nat.le_refl _); (· omega); rintro e w' ⟨Ag, cg, rfl, k4, rfl, hog, hfg⟩))
  go_wp2_with ((go_at_call 14; refine (eqStringS_any _ _ _ _ _ _).mono ?_; rintro e w' ⟨rfl, k5, rfl⟩))
  go_wp2_with ((go_at_call 12; (with_reducible refine (toCueS_any _ _ l _ ?_).mono ?_); (· omega); rintro e w' ⟨rfl, k6, rfl, hw6⟩))
  go_wp2_with ((go_at_call 15; (with_reducible refine (eqCueS_any _ _ _ _ l _).mono ?_); rintro e w' ⟨rfl, k7, rfl⟩))
  go_wp2_with (go_at_call 16; refine (markCueS_any k2.v _ _ _ _ _ (by omega) (by omega) (by omega)).mono ?_; rintro e w' ⟨rfl, k8, rfl, ho8, hb8⟩)
  have hog8 : Ow 1 sC k8.v Ag rv := Ow.but (inferInstanceAs (Ow 1 sC k7.v Ag rv)) hb8 (fun x o o' e h => by have h1 := hfg.h x o none e; have h2 := hw3.lt.h; cases h; omega)
  have hfg2 : Fr k2.v Ag := hfg.mono
  go_wp2_with ((go_at_call 14; refine (eqStringS_any _ _ _ _ _ _).mono ?_; rintro e w' ⟨rfl, k9, rfl⟩))
  go_wp2_with (go_at_call 17; refine (markStringS_any k2.v _ _ _ _ _ (by omega) (by omega) (by omega)).mono ?_; rintro e w' ⟨rfl, k10, rfl, ho10, hb10⟩)
  go_wp2_with ((go_at_call 18; refine (heldStringS_any _ _ _ _ _ (by omega) (by omega) (by omega)).mono ?_; rintro e w' ⟨rfl, k11, rfl⟩))
  go_wp2_with ((go_at_call 12; (with_reducible refine (toCueS_any _ _ l _ ?_).mono ?_); (· omega); rintro e w' ⟨rfl, k12, rfl, hw12⟩))
  go_wp2_with ((go_at_call 13; (with_reducible refine (iTg_any _ _ l _ ?_ ?_ HV.out HE.out).mono ?_); (· exact Nat.le_refl _); (· omega); rintro e w' ⟨Ah, ch, rfl, k13, rfl, hoh, hfh⟩))
  go_wp2_with ((go_at_call 14; refine (eqStringS_any _ _ _ _ _ _).mono ?_; rintro e w' ⟨rfl, k14, rfl⟩))
  go_wp2_with ((go_at_call 18; refine (heldStringS_any _ _ _ _ _ (by omega) (by omega) (by omega)).mono ?_; rintro e w' ⟨rfl, k15, rfl⟩))
  all_goals (go_ret; refine ⟨by first | rfl | (simp; done), ?_⟩; (refine Ok.toEx ?_; (repeat (first | (with_reducible exact Ok.rf _) | (with_reducible refine Ok.alloc ?_ _) | (with_reducible refine Ok.ex ?_ _) | (with_reducible refine Ok.drew ?_) | (with_reducible refine Ok.setCellI ?_ _ _ _) | (with_reducible refine Ok.exb ?_ _)))))
end
end Go.Proofs.Ythgfnbgdpmbolaa
