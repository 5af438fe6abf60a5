/-
  Contracts of ValueAt, and its law. Conditions: those typed at each theorem.
-/
import Derived.Test.YtdhflckombkimaaDoorT18
import Derived.Test.YtdhflckombkimaaDoorT7
namespace Go.Proofs.YtdhflckombkimaaDoor
open Go.RowKit
/-- what ValueAt answers -/
noncomputable def vaR (nm : ByteArray) (l : List Ky) (t : Int) : Int × Int := if vT nm l = true then (if 0 ≤ t ∧ t ≤ 7200000 then (vAt l t, 0) else (0, 2)) else (0, 1)
section
set_option maxHeartbeats 3200000
set_option maxRecDepth 20000
theorem iVA_any (nm : ByteArray) (A : Option Addr) (c : Nat) (l : List Ky) (t : Int) (w : World) [hl : Rd 2 kC w A l] (hs : nm.size ≤ maxLen) (hn : l.length ≤ 1048576) :
    Calls Tryd.prog 30 #[.agg #[.string nm, .slice A l.length c], .int .i64 t] w fun e w' => e = .returned (.tuple #[.int .i64 (vaR nm l t).1, .int .i64 (vaR nm l t).2]) ∧ ∃ k : Ex w, w' = k.v := by
  cases hv : vT nm l
  · have HR : Hid (vaR nm l t = (0, 1)) := hid (by unfold vaR; rw [hv]; rfl)
    go_enter Tryd.func30, Tryd.ntmps30
    go_wp2_with ((go_at_call 43; (with_reducible refine (iVT_any nm _ _ l _ hs hn).mono ?_); rw [hv]; rintro e w' ⟨rfl, k, rfl⟩))
    go_ret2
    refine ⟨by rw [HR.out]; rfl, ?_⟩
    (refine Ok.toEx ?_; (repeat (first | (with_reducible exact Ok.rf _) | (with_reducible refine Ok.alloc ?_ _) | (with_reducible refine Ok.ex ?_ _) | (with_reducible refine Ok.drew ?_) | (with_reducible refine Ok.setCellI ?_ _ _ _) | (with_reducible refine Ok.exb ?_ _))))
  · by_cases ht : 0 ≤ t ∧ t ≤ 7200000
    · have HR : Hid (vaR nm l t = (vAt l t, 0)) := hid (by unfold vaR; rw [if_pos hv, if_pos ht])
      have hk := (vT_of hv).2.vk
      have HK := hid hk
      clear hk
      have HT := hid ht
      obtain ⟨ht1, ht2⟩ := ht
      go_enter Tryd.func30, Tryd.ntmps30
      go_wp2_with (first | (go_at_call 43; (with_reducible refine (iVT_any nm _ _ l _ hs hn).mono ?_); rw [hv]; rintro e w' ⟨rfl, k, rfl⟩) | (go_at_call 63; first | (refine (wi_yes _ _ _ _ (by omega) (by omega)).mono ?_; rintro e w' ⟨rfl, rfl⟩) | (refine (wi_no _ _ _ _ (by omega)).mono ?_; rintro e w' ⟨rfl, rfl⟩)) | (go_at_call 64; refine (valueAt_any _ _ l t _ HK.out HT.out).mono ?_; rintro e w' ⟨rfl, k, rfl⟩))
      go_ret2
      refine ⟨by rw [HR.out]; rfl, ?_⟩
      (refine Ok.toEx ?_; (repeat (first | (with_reducible exact Ok.rf _) | (with_reducible refine Ok.alloc ?_ _) | (with_reducible refine Ok.ex ?_ _) | (with_reducible refine Ok.drew ?_) | (with_reducible refine Ok.setCellI ?_ _ _ _) | (with_reducible refine Ok.exb ?_ _))))
    · have HR : Hid (vaR nm l t = (0, 2)) := hid (by unfold vaR; rw [if_pos hv, if_neg ht])
      have ht : t < 0 ∨ 7200000 < t := by omega
      go_enter Tryd.func30, Tryd.ntmps30
      go_wp2_with (first | (go_at_call 43; (with_reducible refine (iVT_any nm _ _ l _ hs hn).mono ?_); rw [hv]; rintro e w' ⟨rfl, k, rfl⟩) | (go_at_call 63; first | (refine (wi_yes _ _ _ _ (by omega) (by omega)).mono ?_; rintro e w' ⟨rfl, rfl⟩) | (refine (wi_no _ _ _ _ (by omega)).mono ?_; rintro e w' ⟨rfl, rfl⟩)))
      go_ret2
      refine ⟨by rw [HR.out]; rfl, ?_⟩
      (refine Ok.toEx ?_; (repeat (first | (with_reducible exact Ok.rf _) | (with_reducible refine Ok.alloc ?_ _) | (with_reducible refine Ok.ex ?_ _) | (with_reducible refine Ok.drew ?_) | (with_reducible refine Ok.setCellI ?_ _ _ _) | (with_reducible refine Ok.exb ?_ _))))
end
end Go.Proofs.YtdhflckombkimaaDoor
