/-
  Law of SameTrack. Conditions: those typed at each theorem.
-/
import Derived.Test.YtamajnhbfdakfaaTrD
namespace Go.Proofs.Ytamajnhbfdakfaa
open Go.RowKit
section
set_option maxHeartbeats 3200000
set_option maxRecDepth 20000
theorem lSameTrack (n1 : ByteArray) (A : Option Addr) (c : Nat) (a : List Ky) (n2 : ByteArray) (B : Option Addr) (d : Nat) (b : List Ky) (w : World) (ha : Rd 2 kC w A a) (hs1 : n1.size ≤ 9223372036854775807) (hb : Rd 2 kC w B b) (hs2 : n2.size ≤ 9223372036854775807) :
    Calls Try.prog 3 #[.agg #[.string n1, .slice A a.length c], .agg #[.string n2, .slice B b.length d]] w fun e w' => e = .returned (.bool true) ∧ ∃ k : Ex w, w' = k.v := by
  have hlen := ha.len
  have hlenb := hb.len
  cases hv : sameT n1 a n2 b
  all_goals
    go_enter Try.func3, Try.ntmps3
    go_wp2_with ((go_at_call 17; (with_reducible refine (szTrack_any n1 _ _ a _ _ ?_ ?_ ?_).mono ?_); (· omega); (· omega); (· omega); rintro e w' ⟨m, rfl, ⟨m_1, m_2, m_3⟩, k, rfl⟩))
    · (go_ret; refine ⟨by first | rfl | (simp; done), ?_⟩; (refine Ok.toEx ?_; (repeat (first | (with_reducible exact Ok.rf _) | (with_reducible refine Ok.alloc ?_ _) | (with_reducible refine Ok.ex ?_ _) | (with_reducible refine Ok.drew ?_) | (with_reducible refine Ok.setCellI ?_ _ _ _) | (with_reducible refine Ok.exb ?_ _)))))
    obtain ⟨hm4, hm5⟩ := m_3 (by omega)
    clear m_3
    go_wp2_with ((go_at_call 17; (with_reducible refine (szTrack_any n2 _ _ b _ _ ?_ ?_ ?_).mono ?_); (· omega); (· omega); (· omega); rintro e w' ⟨mm, rfl, ⟨mm_1, mm_2, mm_3⟩, k, rfl⟩))
    · (go_ret; refine ⟨by first | rfl | (simp; done), ?_⟩; (refine Ok.toEx ?_; (repeat (first | (with_reducible exact Ok.rf _) | (with_reducible refine Ok.alloc ?_ _) | (with_reducible refine Ok.ex ?_ _) | (with_reducible refine Ok.drew ?_) | (with_reducible refine Ok.setCellI ?_ _ _ _) | (with_reducible refine Ok.exb ?_ _)))))
    obtain ⟨hn4, hn5⟩ := mm_3 (by omega)
    clear mm_3
    go_region_held3 (fun W => W.cell? ⟨w.heap.size, 0, none⟩ = some (.string n1) ∧ W.cell? ⟨w.heap.size, 1, none⟩ = some (.slice A a.length c) ∧ W.cell? ⟨w.heap.size + 1, 0, none⟩ = some (.string n2) ∧ W.cell? ⟨w.heap.size + 1, 1, none⟩ = some (.slice B b.length d)) ((refine ⟨?_, ?_, ?_, ?_⟩ <;> simp [go_sem])) ((first | (go_at_call 19; (with_reducible refine (toTrack_any n1 _ _ a _ ?_).mono ?_); (· omega); rintro e w' ⟨b1, rfl, k1, rfl, hw1, hb1⟩) | (go_at_call 19; (with_reducible refine (toTrack_any n2 _ _ b _ ?_).mono ?_); (· omega); rintro e w' ⟨b2, rfl, k2, rfl, hw2, hb2⟩) | (go_at_call 18; (with_reducible refine (sSameT_any n1 _ _ a n2 _ _ b _).mono ?_); rw [hv]; rintro e w' ⟨rfl, k3, rfl⟩)))
    all_goals
      go_wp2_with ((go_at_call 19; (with_reducible refine (toTrack_any n1 _ _ a _ ?_).mono ?_); (· omega); rintro e w' ⟨b3, rfl, k4, rfl, hw3, hb3⟩))
      go_wp2_with ((go_at_call 19; (with_reducible refine (toTrack_any n2 _ _ b _ ?_).mono ?_); (· omega); rintro e w' ⟨b4, rfl, k5, rfl, hw4, hb4⟩))
      go_wp2_with (go_at_call 20; (with_reducible refine (iSameT_any n1 _ _ a n2 _ _ b _).mono ?_); rw [hv]; rintro e w' ⟨rfl, k6, rfl⟩)
      (go_region_held3 (fun W => W.cell? ⟨k4.v.heap.size, 0, none⟩ = some (.string n1) ∧ W.cell? ⟨k4.v.heap.size, 1, none⟩ = some (.slice (some ⟨b3, 0, none⟩) a.length a.length) ∧ W.cell? ⟨w.heap.size, 0, none⟩ = some (.string n1) ∧ W.cell? ⟨w.heap.size, 1, none⟩ = some (.slice A a.length c)) ((refine ⟨?_, ?_, ?_, ?_⟩ <;> simp [go_sem])) ((first | (go_at_call 19; (with_reducible refine (toTrack_any n1 _ _ a _ ?_).mono ?_); (· omega); rintro e w' ⟨b5, rfl, k7, rfl, hwx, hbx⟩) | (go_at_call 21; (with_reducible refine (eqTrack_any n1 _ _ _ _ a _).mono ?_); rintro e w' ⟨rfl, kx, rfl⟩))))
      go_wp2
      (go_region_held3 (fun W => W.cell? ⟨k5.v.heap.size, 0, none⟩ = some (.string n2) ∧ W.cell? ⟨k5.v.heap.size, 1, none⟩ = some (.slice (some ⟨b4, 0, none⟩) b.length b.length) ∧ W.cell? ⟨w.heap.size + 1, 0, none⟩ = some (.string n2) ∧ W.cell? ⟨w.heap.size + 1, 1, none⟩ = some (.slice B b.length d)) ((refine ⟨?_, ?_, ?_, ?_⟩ <;> simp [go_sem])) ((first | (go_at_call 19; (with_reducible refine (toTrack_any n2 _ _ b _ ?_).mono ?_); (· omega); rintro e w' ⟨b6, rfl, k8, rfl, hwx, hbx⟩) | (go_at_call 21; (with_reducible refine (eqTrack_any n2 _ _ _ _ b _).mono ?_); rintro e w' ⟨rfl, kx, rfl⟩))))
      go_wp2
      (go_ret; refine ⟨by first | rfl | (simp; done), ?_⟩; (refine Ok.toEx ?_; (repeat (first | (with_reducible exact Ok.rf _) | (with_reducible refine Ok.alloc ?_ _) | (with_reducible refine Ok.ex ?_ _) | (with_reducible refine Ok.drew ?_) | (with_reducible refine Ok.setCellI ?_ _ _ _) | (with_reducible refine Ok.exb ?_ _)))))
end
end Go.Proofs.Ytamajnhbfdakfaa
