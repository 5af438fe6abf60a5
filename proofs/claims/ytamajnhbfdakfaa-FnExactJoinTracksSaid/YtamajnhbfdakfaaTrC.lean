/-
  Law of ValidTrack. Conditions: those typed at each theorem.
-/
import Derived.Test.YtamajnhbfdakfaaTrB
import Derived.Deep.RegionHeld3
import Derived.Deep.DeepCutAuto
namespace Go.Proofs.Ytamajnhbfdakfaa
open Go.RowKit
section
set_option maxHeartbeats 3200000
set_option maxRecDepth 20000
theorem lValidTrack (nm : ByteArray) (A : Option Addr) (c : Nat) (l : List Ky) (w : World) (hl : Rd 2 kC w A l) (hs : nm.size ≤ 9223372036854775807) :
    Calls Try.prog 4 #[.agg #[.string nm, .slice A l.length c]] w fun e w' => e = .returned (.bool true) ∧ ∃ k : Ex w, w' = k.v := by
  have hs' : nm.size ≤ maxLen := hs
  have hlen := hl.len
  cases hv : vT nm l
  all_goals
    go_enter Try.func4, Try.ntmps4
    go_wp2_with ((go_at_call 17; (with_reducible refine (szTrack_any nm _ _ l _ _ ?_ ?_ ?_).mono ?_); (· omega); (· omega); (· omega); rintro e w' ⟨m, rfl, ⟨m_1, m_2, m_3⟩, k, rfl⟩))
    · (go_ret; refine ⟨by first | rfl | (simp; done), ?_⟩; (refine Ok.toEx ?_; (repeat (first | (with_reducible exact Ok.rf _) | (with_reducible refine Ok.alloc ?_ _) | (with_reducible refine Ok.ex ?_ _) | (with_reducible refine Ok.drew ?_) | (with_reducible refine Ok.setCellI ?_ _ _ _) | (with_reducible refine Ok.exb ?_ _)))))
    obtain ⟨hm4, hm5⟩ := m_3 (by omega)
    clear m_3
    go_wp2_with ((go_at_call 19; (with_reducible refine (toTrack_any nm _ _ l _ ?_).mono ?_); (· omega); rintro e w' ⟨b1, rfl, k1, rfl, hw1, hb1⟩))
    go_wp2_with (go_at_call 22; refine (sVT_any nm _ _ l _ hs' hm4).mono ?_; rw [hv]; rintro e w' ⟨rfl, k2, rfl⟩)
    go_wp2_with ((go_at_call 19; (with_reducible refine (toTrack_any nm _ _ l _ ?_).mono ?_); (· omega); rintro e w' ⟨b2, rfl, k3, rfl, hw2, hb2⟩))
    go_wp2_with (go_at_call 23; refine (iVT_any nm _ _ l _ hs' hm4).mono ?_; rw [hv]; rintro e w' ⟨rfl, k4, rfl⟩)
    (go_region_held3 (fun W => W.cell? ⟨k3.v.heap.size, 0, none⟩ = some (.string nm) ∧ W.cell? ⟨k3.v.heap.size, 1, none⟩ = some (.slice (some ⟨b2, 0, none⟩) l.length l.length) ∧ W.cell? ⟨w.heap.size, 0, none⟩ = some (.string nm) ∧ W.cell? ⟨w.heap.size, 1, none⟩ = some (.slice A l.length c)) ((refine ⟨?_, ?_, ?_, ?_⟩ <;> simp [go_sem])) ((first | (go_at_call 19; (with_reducible refine (toTrack_any nm _ _ l _ ?_).mono ?_); (· omega); rintro e w' ⟨b3, rfl, k5, rfl, hwx, hbx⟩) | (go_at_call 21; (with_reducible refine (eqTrack_any nm _ _ _ _ l _).mono ?_); rintro e w' ⟨rfl, kx, rfl⟩))))
    go_wp2
    (go_ret; refine ⟨by first | rfl | (simp; done), ?_⟩; (refine Ok.toEx ?_; (repeat (first | (with_reducible exact Ok.rf _) | (with_reducible refine Ok.alloc ?_ _) | (with_reducible refine Ok.ex ?_ _) | (with_reducible refine Ok.drew ?_) | (with_reducible refine Ok.setCellI ?_ _ _ _) | (with_reducible refine Ok.exb ?_ _)))))
end
end Go.Proofs.Ytamajnhbfdakfaa
