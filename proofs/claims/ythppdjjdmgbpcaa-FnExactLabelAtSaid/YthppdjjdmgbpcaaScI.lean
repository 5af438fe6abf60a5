/-
  Contracts of LabelAt, and its law. Conditions: those typed at each theorem.
-/
import Derived.Test.YthppdjjdmgbpcaaScH
namespace Go.Proofs.Ythppdjjdmgbpcaa
open Go.RowKit
theorem lbl_bd (l : List Ln) (nm : ByteArray) : -1 ≤ lbl l nm ∧ lbl l nm < l.length + 1 := by
  unfold lbl
  cases hf : l.findIdx? (fun x => decide (isLbl nm x)) with
  | none => simp; omega
  | some i =>
    rw [List.findIdx?_eq_some_iff_getElem] at hf
    obtain ⟨hi, _⟩ := hf
    simp; omega
section
set_option maxHeartbeats 6400000
theorem sLabelAt_no (A : Option Addr) (c : Nat) (l : List Ln) (nm : ByteArray) (w : World) [hl : Lns w A l] (hn : l.length ≤ 1048576) (hv : vL l = false) :
    Calls Try.prog 26 #[.slice A l.length c, .string nm] w fun e w' => e = .returned (.tuple #[.int .i64 0, .int .i64 1]) ∧ ∃ k : Ex w, w' = k.v := by
  go_enter Try.func26, Try.ntmps26
  go_wp2_with (go_at_call 60; refine (l15Ok_any _ _ _ _ (by omega)).mono ?_; rw [hv]; rintro e w' ⟨rfl, k, rfl⟩)
  (go_ret2; refine ⟨by first | rfl | (simp; done), ?_⟩; (refine Ok.toEx ?_; (repeat (first | (with_reducible exact Ok.rf _) | (with_reducible refine Ok.alloc ?_ _) | (with_reducible refine Ok.ex ?_ _) | (with_reducible refine Ok.drew ?_) | (with_reducible refine Ok.setCellI ?_ _ _ _)))))
theorem sLabelAt_miss (A : Option Addr) (c : Nat) (l : List Ln) (nm : ByteArray) (w : World) [hl : Lns w A l] (hn : l.length ≤ 1048576) (hv : vL l = true) (hm : lbl l nm < 0) :
    Calls Try.prog 26 #[.slice A l.length c, .string nm] w fun e w' => e = .returned (.tuple #[.int .i64 0, .int .i64 3]) ∧ ∃ k : Ex w, w' = k.v := by
  go_enter Try.func26, Try.ntmps26
  go_wp2_with (first | (go_at_call 60; refine (l15Ok_any _ _ _ _ (by omega)).mono ?_; rw [hv]; rintro e w' ⟨rfl, k, rfl⟩) | (go_at_call 64; refine (l15Label_any _ _ _ _ _ inferInstance).mono ?_; rintro e w' ⟨rfl, rfl⟩))
  (go_ret2; refine ⟨by first | rfl | (simp; done), ?_⟩; (refine Ok.toEx ?_; (repeat (first | (with_reducible exact Ok.rf _) | (with_reducible refine Ok.alloc ?_ _) | (with_reducible refine Ok.ex ?_ _) | (with_reducible refine Ok.drew ?_) | (with_reducible refine Ok.setCellI ?_ _ _ _)))))
theorem sLabelAt_hit (A : Option Addr) (c : Nat) (l : List Ln) (nm : ByteArray) (w : World) [hl : Lns w A l] (hn : l.length ≤ 1048576) (hv : vL l = true) (hm : 0 ≤ lbl l nm) :
    Calls Try.prog 26 #[.slice A l.length c, .string nm] w fun e w' => e = .returned (.tuple #[.int .i64 (lbl l nm), .int .i64 0]) ∧ ∃ k : Ex w, w' = k.v := by
  obtain ⟨_, _⟩ := lbl_bd l nm
  go_enter Try.func26, Try.ntmps26
  go_wp2_with (first | (go_at_call 60; refine (l15Ok_any _ _ _ _ (by omega)).mono ?_; rw [hv]; rintro e w' ⟨rfl, k, rfl⟩) | (go_at_call 64; refine (l15Label_any _ _ _ _ _ inferInstance).mono ?_; rintro e w' ⟨rfl, rfl⟩))
  (go_ret2; refine ⟨by first | rfl | (simp; done), ?_⟩; (refine Ok.toEx ?_; (repeat (first | (with_reducible exact Ok.rf _) | (with_reducible refine Ok.alloc ?_ _) | (with_reducible refine Ok.ex ?_ _) | (with_reducible refine Ok.drew ?_) | (with_reducible refine Ok.setCellI ?_ _ _ _)))))
theorem iLabelAt_no (A : Option Addr) (c : Nat) (l : List Ln) (nm : ByteArray) (w : World) [hl : Lns w A l] (hc : l.length ≤ c) (hn : l.length ≤ 1048576) (hv : vL l = false) :
    Calls Try.prog 27 #[.slice A l.length c, .string nm] w fun e w' => e = .returned (.tuple #[.int .i64 0, .int .i64 1]) ∧ ∃ k : Ex w, w' = k.v := by
  go_enter Try.func27, Try.ntmps27
  go_wp2_with (go_at_call 25; refine (iValid_any _ _ _ _ (by omega) (by omega)).mono ?_; rw [hv]; rintro e w' ⟨rfl, k, rfl⟩)
  (go_ret2; refine ⟨by first | rfl | (simp; done), ?_⟩; (refine Ok.toEx ?_; (repeat (first | (with_reducible exact Ok.rf _) | (with_reducible refine Ok.alloc ?_ _) | (with_reducible refine Ok.ex ?_ _) | (with_reducible refine Ok.drew ?_) | (with_reducible refine Ok.setCellI ?_ _ _ _)))))
theorem iLabelAt_miss (A : Option Addr) (c : Nat) (l : List Ln) (nm : ByteArray) (w : World) [hl : Lns w A l] (hc : l.length ≤ c) (hn : l.length ≤ 1048576) (hv : vL l = true) (hm : lbl l nm < 0) :
    Calls Try.prog 27 #[.slice A l.length c, .string nm] w fun e w' => e = .returned (.tuple #[.int .i64 0, .int .i64 3]) ∧ ∃ k : Ex w, w' = k.v := by
  go_enter Try.func27, Try.ntmps27
  go_wp2_with (first | (go_at_call 25; refine (iValid_any _ _ _ _ (by omega) (by omega)).mono ?_; rw [hv]; rintro e w' ⟨rfl, k, rfl⟩) | (go_at_call 62; refine (labelIndex_any _ _ _ _ _ inferInstance).mono ?_; rintro e w' ⟨rfl, k, rfl⟩))
  (go_ret2; refine ⟨by first | rfl | (simp; done), ?_⟩; (refine Ok.toEx ?_; (repeat (first | (with_reducible exact Ok.rf _) | (with_reducible refine Ok.alloc ?_ _) | (with_reducible refine Ok.ex ?_ _) | (with_reducible refine Ok.drew ?_) | (with_reducible refine Ok.setCellI ?_ _ _ _)))))
theorem iLabelAt_hit (A : Option Addr) (c : Nat) (l : List Ln) (nm : ByteArray) (w : World) [hl : Lns w A l] (hc : l.length ≤ c) (hn : l.length ≤ 1048576) (hv : vL l = true) (hm : 0 ≤ lbl l nm) :
    Calls Try.prog 27 #[.slice A l.length c, .string nm] w fun e w' => e = .returned (.tuple #[.int .i64 (lbl l nm), .int .i64 0]) ∧ ∃ k : Ex w, w' = k.v := by
  obtain ⟨_, _⟩ := lbl_bd l nm
  go_enter Try.func27, Try.ntmps27
  go_wp2_with (first | (go_at_call 25; refine (iValid_any _ _ _ _ (by omega) (by omega)).mono ?_; rw [hv]; rintro e w' ⟨rfl, k, rfl⟩) | (go_at_call 62; refine (labelIndex_any _ _ _ _ _ inferInstance).mono ?_; rintro e w' ⟨rfl, k, rfl⟩))
  (go_ret2; refine ⟨by first | rfl | (simp; done), ?_⟩; (refine Ok.toEx ?_; (repeat (first | (with_reducible exact Ok.rf _) | (with_reducible refine Ok.alloc ?_ _) | (with_reducible refine Ok.ex ?_ _) | (with_reducible refine Ok.drew ?_) | (with_reducible refine Ok.setCellI ?_ _ _ _)))))
theorem lLabelAt (A : Option Addr) (c : Nat) (l : List Ln) (nm : ByteArray) (w : World) (hl : Lns w A l) (hnm : nm.size ≤ 9223372036854775807) :
    Calls Try.prog 6 #[.slice A l.length c, .string nm] w fun e w' => e = .returned (.bool true) ∧ ∃ k : Ex w, w' = k.v := by
  cases hv : vL l
  · go_enter Try.func6, Try.ntmps6
    go_wp2_with (first | (go_at_call 19; refine (szLineS_any _ _ _ _ _ (by omega) (by omega)).mono ?_; rintro e w' ⟨m, rfl, ⟨hm1, hm2, hm3⟩, hm4, k, rfl⟩) | (go_at_call 21; refine (toLineS_any _ _ _ _ (by omega)).mono ?_; rintro e w' ⟨rfl, k, rfl, hwr⟩) | (go_at_call 23; refine (eqLineS_any _ _ _ _ _ _).mono ?_; rintro e w' ⟨rfl, k, rfl⟩) | (go_at_call 26; refine (sLabelAt_no _ _ _ _ _ (by omega) hv).mono ?_; rintro e w' ⟨rfl, k, rfl⟩) | (go_at_call 27; refine (iLabelAt_no _ _ _ _ _ (by omega) (by omega) hv).mono ?_; rintro e w' ⟨rfl, k, rfl⟩))
    all_goals (go_ret; refine ⟨by first | rfl | (simp; done), ?_⟩; (refine Ok.toEx ?_; (repeat (first | (with_reducible exact Ok.rf _) | (with_reducible refine Ok.alloc ?_ _) | (with_reducible refine Ok.ex ?_ _) | (with_reducible refine Ok.drew ?_) | (with_reducible refine Ok.setCellI ?_ _ _ _)))))
  · by_cases hm : lbl l nm < 0
    · go_enter Try.func6, Try.ntmps6
      go_wp2_with (first | (go_at_call 19; refine (szLineS_any _ _ _ _ _ (by omega) (by omega)).mono ?_; rintro e w' ⟨m, rfl, ⟨hm1, hm2, hm3⟩, hm4, k, rfl⟩) | (go_at_call 21; refine (toLineS_any _ _ _ _ (by omega)).mono ?_; rintro e w' ⟨rfl, k, rfl, hwr⟩) | (go_at_call 23; refine (eqLineS_any _ _ _ _ _ _).mono ?_; rintro e w' ⟨rfl, k, rfl⟩) | (go_at_call 26; refine (sLabelAt_miss _ _ _ _ _ (by omega) hv hm).mono ?_; rintro e w' ⟨rfl, k, rfl⟩) | (go_at_call 27; refine (iLabelAt_miss _ _ _ _ _ (by omega) (by omega) hv hm).mono ?_; rintro e w' ⟨rfl, k, rfl⟩))
      all_goals (go_ret; refine ⟨by first | rfl | (simp; done), ?_⟩; (refine Ok.toEx ?_; (repeat (first | (with_reducible exact Ok.rf _) | (with_reducible refine Ok.alloc ?_ _) | (with_reducible refine Ok.ex ?_ _) | (with_reducible refine Ok.drew ?_) | (with_reducible refine Ok.setCellI ?_ _ _ _)))))
    · have hm : 0 ≤ lbl l nm := by omega
      go_enter Try.func6, Try.ntmps6
      go_wp2_with (first | (go_at_call 19; refine (szLineS_any _ _ _ _ _ (by omega) (by omega)).mono ?_; rintro e w' ⟨m, rfl, ⟨hm1, hm2, hm3⟩, hm4, k, rfl⟩) | (go_at_call 21; refine (toLineS_any _ _ _ _ (by omega)).mono ?_; rintro e w' ⟨rfl, k, rfl, hwr⟩) | (go_at_call 23; refine (eqLineS_any _ _ _ _ _ _).mono ?_; rintro e w' ⟨rfl, k, rfl⟩) | (go_at_call 26; refine (sLabelAt_hit _ _ _ _ _ (by omega) hv hm).mono ?_; rintro e w' ⟨rfl, k, rfl⟩) | (go_at_call 27; refine (iLabelAt_hit _ _ _ _ _ (by omega) (by omega) hv hm).mono ?_; rintro e w' ⟨rfl, k, rfl⟩))
      all_goals (go_ret; refine ⟨by first | rfl | (simp; done), ?_⟩; (refine Ok.toEx ?_; (repeat (first | (with_reducible exact Ok.rf _) | (with_reducible refine Ok.alloc ?_ _) | (with_reducible refine Ok.ex ?_ _) | (with_reducible refine Ok.drew ?_) | (with_reducible refine Ok.setCellI ?_ _ _ _)))))
end
end Go.Proofs.Ythppdjjdmgbpcaa
