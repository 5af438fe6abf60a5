/-
  Contracts of ValueAt, and its law. Conditions: those typed at each theorem.
-/
import Derived.Test.YtamajnhbfdakfaaTrF
import Derived.Test.YtamajnhbfdakfaaOpen
namespace Go.Proofs.Ytamajnhbfdakfaa
open Go.RowKit
/-- what ValueAt answers -/
noncomputable def vaR (nm : ByteArray) (l : List Ky) (t : Int) : Int × Int := if vT nm l = true then (if 0 ≤ t ∧ t ≤ 7200000 then (vAt l t, 0) else (0, 2)) else (0, 1)
section
set_option maxHeartbeats 3200000
set_option maxRecDepth 20000
theorem sVA_any (nm : ByteArray) (A : Option Addr) (c : Nat) (l : List Ky) (t : Int) (w : World) [hl : Rd 2 kC w A l] (hs : nm.size ≤ maxLen) (hn : l.length ≤ 1048576) :
    Calls Try.prog 31 #[.agg #[.string nm, .slice A l.length c], .int .i64 t] w fun e w' => e = .returned (.tuple #[.int .i64 (vaR nm l t).1, .int .i64 (vaR nm l t).2]) ∧ ∃ k : Ex w, w' = k.v := by
  cases hv : vT nm l
  · have HR : Hid (vaR nm l t = (0, 1)) := hid (by unfold vaR; rw [hv]; rfl)
    go_enter Try.func31, Try.ntmps31
    go_wp2_with ((go_at_call 64; (refine (one_any nm A c l _ _ hs hn ?_ ?_).mono ?_); (· simp [go_sem]); (· simp [go_sem]); rw [hv]; rintro e w' ⟨rfl, k, rfl⟩))
    go_ret2
    refine ⟨by rw [HR.out]; rfl, ?_⟩
    (refine Ok.toEx ?_; (repeat (first | (with_reducible exact Ok.rf _) | (with_reducible refine Ok.alloc ?_ _) | (with_reducible refine Ok.ex ?_ _) | (with_reducible refine Ok.drew ?_) | (with_reducible refine Ok.setCellI ?_ _ _ _) | (with_reducible refine Ok.exb ?_ _))))
  · by_cases ht : 0 ≤ t ∧ t ≤ 7200000
    · have HR : Hid (vaR nm l t = (vAt l t, 0)) := hid (by unfold vaR; rw [if_pos hv, if_pos ht])
      have hk := (vT_of hv).2.vk
      have HK := hid hk
      clear hk
      have HT := hid ht
      obtain ⟨ht1, ht2⟩ := ht
      go_enter Try.func31, Try.ntmps31
      go_wp2_with (first | (go_at_call 64; (refine (one_any nm A c l _ _ hs hn ?_ ?_).mono ?_); (· simp [go_sem]); (· simp [go_sem]); rw [hv]; rintro e w' ⟨rfl, k, rfl⟩) | (go_at_call 73; refine (tm_yes _ _ ht1 ht2).mono ?_; rintro e w' ⟨rfl, rfl⟩) | (go_at_call 74; refine (at_any _ _ l t _ HK.out HT.out).mono ?_; rintro e w' ⟨rfl, k, rfl⟩))
      go_ret2
      refine ⟨by rw [HR.out]; rfl, ?_⟩
      (refine Ok.toEx ?_; (repeat (first | (with_reducible exact Ok.rf _) | (with_reducible refine Ok.alloc ?_ _) | (with_reducible refine Ok.ex ?_ _) | (with_reducible refine Ok.drew ?_) | (with_reducible refine Ok.setCellI ?_ _ _ _) | (with_reducible refine Ok.exb ?_ _))))
    · have HR : Hid (vaR nm l t = (0, 2)) := hid (by unfold vaR; rw [if_pos hv, if_neg ht])
      have ht : t < 0 ∨ 7200000 < t := by omega
      go_enter Try.func31, Try.ntmps31
      go_wp2_with (first | (go_at_call 64; (refine (one_any nm A c l _ _ hs hn ?_ ?_).mono ?_); (· simp [go_sem]); (· simp [go_sem]); rw [hv]; rintro e w' ⟨rfl, k, rfl⟩) | (go_at_call 73; refine (tm_no _ _ ht).mono ?_; rintro e w' ⟨rfl, rfl⟩))
      go_ret2
      refine ⟨by rw [HR.out]; rfl, ?_⟩
      (refine Ok.toEx ?_; (repeat (first | (with_reducible exact Ok.rf _) | (with_reducible refine Ok.alloc ?_ _) | (with_reducible refine Ok.ex ?_ _) | (with_reducible refine Ok.drew ?_) | (with_reducible refine Ok.setCellI ?_ _ _ _) | (with_reducible refine Ok.exb ?_ _))))
theorem iVA_any (nm : ByteArray) (A : Option Addr) (c : Nat) (l : List Ky) (t : Int) (w : World) [hl : Rd 2 kC w A l] (hs : nm.size ≤ maxLen) (hn : l.length ≤ 1048576) :
    Calls Try.prog 32 #[.agg #[.string nm, .slice A l.length c], .int .i64 t] w fun e w' => e = .returned (.tuple #[.int .i64 (vaR nm l t).1, .int .i64 (vaR nm l t).2]) ∧ ∃ k : Ex w, w' = k.v := by
  cases hv : vT nm l
  · have HR : Hid (vaR nm l t = (0, 1)) := hid (by unfold vaR; rw [hv]; rfl)
    go_enter Try.func32, Try.ntmps32
    go_wp2_with ((go_at_call 23; (with_reducible refine (iVT_any nm _ _ l _ hs hn).mono ?_); rw [hv]; rintro e w' ⟨rfl, k, rfl⟩))
    go_ret2
    refine ⟨by rw [HR.out]; rfl, ?_⟩
    (refine Ok.toEx ?_; (repeat (first | (with_reducible exact Ok.rf _) | (with_reducible refine Ok.alloc ?_ _) | (with_reducible refine Ok.ex ?_ _) | (with_reducible refine Ok.drew ?_) | (with_reducible refine Ok.setCellI ?_ _ _ _) | (with_reducible refine Ok.exb ?_ _))))
  · by_cases ht : 0 ≤ t ∧ t ≤ 7200000
    · have HR : Hid (vaR nm l t = (vAt l t, 0)) := hid (by unfold vaR; rw [if_pos hv, if_pos ht])
      have hk := (vT_of hv).2.vk
      have HK := hid hk
      clear hk
      have HT := hid ht
      obtain ⟨ht1, ht2⟩ := ht
      go_enter Try.func32, Try.ntmps32
      go_wp2_with (first | (go_at_call 23; (with_reducible refine (iVT_any nm _ _ l _ hs hn).mono ?_); rw [hv]; rintro e w' ⟨rfl, k, rfl⟩) | (go_at_call 66; first | (refine (wi_yes _ _ _ _ (by omega) (by omega)).mono ?_; rintro e w' ⟨rfl, rfl⟩) | (refine (wi_no _ _ _ _ (by omega)).mono ?_; rintro e w' ⟨rfl, rfl⟩)) | (go_at_call 75; refine (valueAt_any _ _ l t _ HK.out HT.out).mono ?_; rintro e w' ⟨rfl, k, rfl⟩))
      go_ret2
      refine ⟨by rw [HR.out]; rfl, ?_⟩
      (refine Ok.toEx ?_; (repeat (first | (with_reducible exact Ok.rf _) | (with_reducible refine Ok.alloc ?_ _) | (with_reducible refine Ok.ex ?_ _) | (with_reducible refine Ok.drew ?_) | (with_reducible refine Ok.setCellI ?_ _ _ _) | (with_reducible refine Ok.exb ?_ _))))
    · have HR : Hid (vaR nm l t = (0, 2)) := hid (by unfold vaR; rw [if_pos hv, if_neg ht])
      have ht : t < 0 ∨ 7200000 < t := by omega
      go_enter Try.func32, Try.ntmps32
      go_wp2_with (first | (go_at_call 23; (with_reducible refine (iVT_any nm _ _ l _ hs hn).mono ?_); rw [hv]; rintro e w' ⟨rfl, k, rfl⟩) | (go_at_call 66; first | (refine (wi_yes _ _ _ _ (by omega) (by omega)).mono ?_; rintro e w' ⟨rfl, rfl⟩) | (refine (wi_no _ _ _ _ (by omega)).mono ?_; rintro e w' ⟨rfl, rfl⟩)))
      go_ret2
      refine ⟨by rw [HR.out]; rfl, ?_⟩
      (refine Ok.toEx ?_; (repeat (first | (with_reducible exact Ok.rf _) | (with_reducible refine Ok.alloc ?_ _) | (with_reducible refine Ok.ex ?_ _) | (with_reducible refine Ok.drew ?_) | (with_reducible refine Ok.setCellI ?_ _ _ _) | (with_reducible refine Ok.exb ?_ _))))
theorem lValueAt (nm : ByteArray) (A : Option Addr) (c : Nat) (l : List Ky) (t : Int) (w : World) (hl : Rd 2 kC w A l) (hs : nm.size ≤ 9223372036854775807) (ht : i64' t) :
    Calls Try.prog 7 #[.agg #[.string nm, .slice A l.length c], .int .i64 t] w fun e w' => e = .returned (.bool true) ∧ ∃ k : Ex w, w' = k.v := by
  have hs' : nm.size ≤ maxLen := hs
  have hlen := hl.len
  obtain ⟨v, co, hR⟩ : ∃ v co, vaR nm l t = (v, co) := ⟨_, _, rfl⟩
  have HR := hid hR
  clear hR
  go_enter Try.func7, Try.ntmps7
  go_wp2_with ((go_at_call 17; (with_reducible refine (szTrack_any nm _ _ l _ _ ?_ ?_ ?_).mono ?_); (· omega); (· omega); (· omega); rintro e w' ⟨m, rfl, ⟨m_1, m_2, m_3⟩, k, rfl⟩))
  · (go_ret; refine ⟨by first | rfl | (simp; done), ?_⟩; (refine Ok.toEx ?_; (repeat (first | (with_reducible exact Ok.rf _) | (with_reducible refine Ok.alloc ?_ _) | (with_reducible refine Ok.ex ?_ _) | (with_reducible refine Ok.drew ?_) | (with_reducible refine Ok.setCellI ?_ _ _ _) | (with_reducible refine Ok.exb ?_ _)))))
  obtain ⟨hm4, hm5⟩ := m_3 (by omega)
  clear m_3
  go_wp2_with ((go_at_call 19; (with_reducible refine (toTrack_any nm _ _ l _ ?_).mono ?_); (· omega); rintro e w' ⟨b1, rfl, k1, rfl, hw1, hb1⟩))
  go_wp2_with (go_at_call 31; (with_reducible refine (sVA_any nm _ _ l t _ hs' hm4).mono ?_); rw [HR.out]; rintro e w' ⟨rfl, k2, rfl⟩)
  go_wp2_with ((go_at_call 19; (with_reducible refine (toTrack_any nm _ _ l _ ?_).mono ?_); (· omega); rintro e w' ⟨b2, rfl, k3, rfl, hw2, hb2⟩))
  go_wp2_with (go_at_call 32; (with_reducible refine (iVA_any nm _ _ l t _ hs' hm4).mono ?_); rw [HR.out]; rintro e w' ⟨rfl, k4, rfl⟩)
  (go_region_held3 (fun W => W.cell? ⟨k3.v.heap.size, 0, none⟩ = some (.string nm) ∧ W.cell? ⟨k3.v.heap.size, 1, none⟩ = some (.slice (some ⟨b2, 0, none⟩) l.length l.length) ∧ W.cell? ⟨w.heap.size, 0, none⟩ = some (.string nm) ∧ W.cell? ⟨w.heap.size, 1, none⟩ = some (.slice A l.length c)) ((refine ⟨?_, ?_, ?_, ?_⟩ <;> simp [go_sem])) ((first | (go_at_call 19; (with_reducible refine (toTrack_any nm _ _ l _ ?_).mono ?_); (· omega); rintro e w' ⟨b3, rfl, k5, rfl, hwx, hbx⟩) | (go_at_call 21; (with_reducible refine (eqTrack_any nm _ _ _ _ l _).mono ?_); rintro e w' ⟨rfl, kx, rfl⟩))))
  go_wp2
  (go_ret; refine ⟨by first | rfl | (simp; done), ?_⟩; (refine Ok.toEx ?_; (repeat (first | (with_reducible exact Ok.rf _) | (with_reducible refine Ok.alloc ?_ _) | (with_reducible refine Ok.ex ?_ _) | (with_reducible refine Ok.drew ?_) | (with_reducible refine Ok.setCellI ?_ _ _ _) | (with_reducible refine Ok.exb ?_ _)))))
end
end Go.Proofs.Ytamajnhbfdakfaa
