/-
  Law of SameScript. Conditions: those typed at each theorem.
-/
import Derived.Test.YthppdjjdmgbpcaaScE
namespace Go.Proofs.Ythppdjjdmgbpcaa
open Go.RowKit
section
set_option maxHeartbeats 3200000
theorem lSameScript (A : Option Addr) (c : Nat) (a : List Ln) (B : Option Addr) (d : Nat) (b : List Ln) (w : World) (ha : Lns w A a) (hb : Lns w B b) :
    Calls Try.prog 4 #[.slice A a.length c, .slice B b.length d] w fun e w' => e = .returned (.bool true) ∧ ∃ k : Ex w, w' = k.v := by
  cases hs : sameL a b
  all_goals
    go_enter Try.func4, Try.ntmps4
    go_wp2_with (first | (go_at_call 19; refine (szLineS_any _ _ _ _ _ (by omega) (by omega)).mono ?_; rintro e w' ⟨m, rfl, ⟨hm1, hm2, hm3⟩, hm4, k, rfl⟩) | (go_at_call 21; refine (toLineS_any _ _ _ _ (by omega)).mono ?_; rintro e w' ⟨rfl, k, rfl, hwr⟩) | (go_at_call 23; refine (eqLineS_any _ _ _ _ _ _).mono ?_; rintro e w' ⟨rfl, k, rfl⟩) | (go_at_call 20; refine (sSame_any _ _ _ _ _ _ _).mono ?_; rw [hs]; rintro e w' ⟨rfl, k, rfl⟩) | (go_at_call 22; refine (iSame_any _ _ _ _ _ _ _).mono ?_; rw [hs]; rintro e w' ⟨rfl, k, rfl⟩))
    all_goals (go_ret; refine ⟨by first | rfl | (simp; done), ?_⟩; (refine Ok.toEx ?_; (repeat (first | (with_reducible exact Ok.rf _) | (with_reducible refine Ok.alloc ?_ _) | (with_reducible refine Ok.ex ?_ _) | (with_reducible refine Ok.drew ?_) | (with_reducible refine Ok.setCellI ?_ _ _ _)))))
end
end Go.Proofs.Ythppdjjdmgbpcaa
