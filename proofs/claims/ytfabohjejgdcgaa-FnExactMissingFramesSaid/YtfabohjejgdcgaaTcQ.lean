/-
  Law of MissingFrames. Conditions: those typed at each theorem.
-/
import Derived.Test.YtfabohjejgdcgaaTcO
namespace Go.Proofs.Ytfabohjejgdcgaa
open Go.RowKit
theorem missR_len (l : List Int) : (missR l).1.length ≤ 64 := by
  unfold missR
  split
  · split
    · assumption
    · simp
  · simp
section
set_option maxHeartbeats 6400000
theorem lMissing (A : Option Addr) (c : Nat) (l : List Int) (w : World) (hl : Rd 1 iC w A l) :
    Calls Try.prog 9 #[.slice A l.length c] w fun e w' => e = .returned (.bool true) ∧ ∃ k : Ex w, w' = k.v := by
  have hlen := hl.len
  by_cases hn : 1048576 < l.length
  · go_enter Try.func9, Try.ntmps9
    go_wp2
    (go_ret; refine ⟨by first | rfl | (simp; done), ?_⟩; (refine Ok.toEx ?_; (repeat (first | (with_reducible exact Ok.rf _) | (with_reducible refine Ok.alloc ?_ _) | (with_reducible refine Ok.ex ?_ _) | (with_reducible refine Ok.drew ?_) | (with_reducible refine Ok.setCellI ?_ _ _ _)))))
  have hn : l.length ≤ 1048576 := by omega
  have hR := missR_len l
  go_enter Try.func9, Try.ntmps9
  go_wp2_with (go_at_call 29; refine (toI_any _ _ _ _ hn).mono ?_; rintro e w' ⟨rfl, k1, rfl, hw1⟩)
  go_wp2_with (go_at_call 28; refine (sMiss_any _ _ _ _ hn).mono ?_; rintro e w' ⟨Aw, cw, rfl, k2, rfl, how, hfw⟩)
  go_wp2_with (go_at_call 29; refine (toI_any _ _ _ _ hn).mono ?_; rintro e w' ⟨rfl, k3, rfl, hw3⟩)
  go_wp2_with (go_at_call 30; refine (iMiss_any _ _ _ _ hn).mono ?_; rintro e w' ⟨Ag, cg, rfl, k4, rfl, hog, hfg⟩)
  go_wp2_with (go_at_call 31; refine (eqI_any _ _ _ _ _ _).mono ?_; rintro e w' ⟨rfl, k5, rfl⟩)
  go_wp2_with (go_at_call 29; refine (toI_any _ _ _ _ hn).mono ?_; rintro e w' ⟨rfl, k6, rfl, hw6⟩)
  go_wp2_with (go_at_call 31; refine (eqI_any _ _ _ _ _ _).mono ?_; rintro e w' ⟨rfl, k7, rfl⟩)
  go_wp2_with (go_at_call 32; refine (markI_any k2.v _ _ _ _ _ hn (by omega) (by omega)).mono ?_; rintro e w' ⟨rfl, k8, rfl, ho8, hb8⟩)
  have hog8 : Ow 1 iC k8.v Ag (missR l).1 := Ow.but (inferInstanceAs (Ow 1 iC k7.v Ag (missR l).1)) hb8 (fun x o o' e h => by have h1 := hfg.h x o none e; have h2 := hw3.lt.h; cases h; omega)
  have hfg2 : Fr k2.v Ag := hfg.mono
  go_wp2_with (go_at_call 31; refine (eqI_any _ _ _ _ _ _).mono ?_; rintro e w' ⟨rfl, k9, rfl⟩)
  go_wp2_with (go_at_call 32; refine (markI_any k2.v _ _ _ _ _ (by omega) (by omega) (by omega)).mono ?_; rintro e w' ⟨rfl, k10, rfl, ho10, hb10⟩)
  go_wp2_with (go_at_call 33; refine (heldI_any _ _ _ _ _ (by omega) (by omega) (by omega)).mono ?_; rintro e w' ⟨rfl, k11, rfl⟩)
  go_wp2_with (go_at_call 29; refine (toI_any _ _ _ _ hn).mono ?_; rintro e w' ⟨rfl, k12, rfl, hw12⟩)
  go_wp2_with (go_at_call 30; refine (iMiss_any _ _ _ _ hn).mono ?_; rintro e w' ⟨Ah, ch, rfl, k13, rfl, hoh, hfh⟩)
  go_wp2_with (go_at_call 31; refine (eqI_any _ _ _ _ _ _).mono ?_; rintro e w' ⟨rfl, k14, rfl⟩)
  go_wp2_with (go_at_call 33; refine (heldI_any _ _ _ _ _ (by omega) (by omega) (by omega)).mono ?_; rintro e w' ⟨rfl, k15, rfl⟩)
  all_goals (go_ret; refine ⟨by first | rfl | (simp; done), ?_⟩; (refine Ok.toEx ?_; (repeat (first | (with_reducible exact Ok.rf _) | (with_reducible refine Ok.alloc ?_ _) | (with_reducible refine Ok.ex ?_ _) | (with_reducible refine Ok.drew ?_) | (with_reducible refine Ok.setCellI ?_ _ _ _)))))
end
end Go.Proofs.Ytfabohjejgdcgaa
