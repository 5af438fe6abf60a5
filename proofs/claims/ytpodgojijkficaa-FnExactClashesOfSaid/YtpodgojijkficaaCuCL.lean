/-
  The law of ClashesOf. Conditions: those typed at each theorem.
-/
import Derived.Test.YtpodgojijkficaaCuCu
import Derived.Test.YtpodgojijkficaaCuCm
import Derived.Test.YtpodgojijkficaaMkCue
import Derived.Test.YtpodgojijkficaaCuO
namespace Go.Proofs.Ytpodgojijkficaa
open Go.RowKit
section
set_option maxHeartbeats 3200000
set_option maxRecDepth 20000
theorem lClashesOf (A : Option Addr) (c : Nat) (l : List Cu) (w : World) (hk : COks l) (hl : Rd 6 cC w A l) :
    Calls Try.prog 11 #[.slice A l.length c] w fun e w' => e = .returned (.bool true) ∧ ∃ k : Ex w, w' = k.v := by
  have hlen := hl.len
  obtain ⟨rv, hrv⟩ : ∃ rv, csV l = rv := ⟨_, rfl⟩
  obtain ⟨re, hre⟩ : ∃ re, csE l = re := ⟨_, rfl⟩
  have hrl : rv.length ≤ 1024 := by rw [← hrv]; exact csV_len l
  have H2 : Hid (∀ x ∈ rv, x.length = 2) := hid (by rw [← hrv]; exact csV_two l)
  have HV := hid hrv
  have HE := hid hre
  clear hrv hre
  go_enter Try.func11, Try.ntmps11
  go_wp2_with ((go_at_call 15; (with_reducible refine (szCueS_any _ _ l _ _ ?_ ?_).mono ?_); (· omega); (· omega); rintro e w' ⟨m, rfl, ⟨hm1, hm2, hm3⟩, hm4, k, rfl⟩; have hm4 := hid hm4))
  · (go_ret; refine ⟨by first | rfl | (simp; done), ?_⟩; (refine Ok.toEx ?_; (repeat (first | (with_reducible exact Ok.rf _) | (with_reducible refine Ok.alloc ?_ _) | (with_reducible refine Ok.ex ?_ _) | (with_reducible refine Ok.drew ?_) | (with_reducible refine Ok.setCellI ?_ _ _ _) | (with_reducible refine Ok.exb ?_ _)))))
  have hm5 := hm3 (by omega)
  clear hm3
  go_wp2_with ((go_at_call 17; (with_reducible refine (toCueS_any _ _ l _ ?_).mono ?_); (· omega); rintro e w' ⟨rfl, k1, rfl, hw1⟩))
  go_wp2_with (go_at_call 41; go_loud ((with_reducible refine (sClashesOf_any _ _ l _ ?_ ?_ HV.out HE.out).mono ?_); (· exact Nat.le_refl _); (· omega); rintro e w' h; obtain ⟨Aw, cw, bw, rfl, hlw, k2, rfl, hpw⟩ := h.get))
  go_wp2_with ((go_at_call 17; (with_reducible refine (toCueS_any _ _ l _ ?_).mono ?_); (· omega); rintro e w' ⟨rfl, k3, rfl, hw3⟩))
  have HPW := hid hpw
  go_wp2_with (go_at_call 22; go_loud ((with_reducible refine (iClashesOf_any _ _ l _ ?_ ?_ HV.out HE.out).mono ?_); (· exact Nat.le_refl _); (· omega); rintro e w' h; obtain ⟨Ag, cg, bg, rfl, hlg, k4, rfl, hpg⟩ := h.get))
  have HPG := hid hpg
  have iw4 : Iss k4.v Aw rv := PrR.iss (h := inferInstance) (B := k1.v.heap.size) (e := 39) (bs := bw) (c := cw) hlw.symm H2.out
  have ig4 : Iss k4.v Ag rv := PrR.iss (h := hpg) hlg.symm H2.out
  go_wp2_with ((go_at_call 42; go_loud (refine (eqSS_any _ _ _ _ rv _).mono ?_; rintro e w' ⟨rfl, k5, rfl⟩)))
  go_wp2_with ((go_at_call 17; (with_reducible refine (toCueS_any _ _ l _ ?_).mono ?_); (· omega); rintro e w' ⟨rfl, k6, rfl, hw6⟩))
  go_wp2_with ((go_at_call 19; (with_reducible refine (eqCueS_any _ _ _ _ l _).mono ?_); rintro e w' ⟨rfl, k7, rfl⟩))
  go_wp2_with (go_at_call 32; go_loud (refine (markCueS_any k2.v _ _ _ _ _ (by omega) (by omega) (by omega)).mono ?_; rintro e w' ⟨rfl, k8, rfl, ho8, hb8⟩))
  have hbx : k2.v.heap.size < k3.v.heap.size := hw3.lt.h
  have hpg8 : PrR k3.v.heap.size 39 (.slice Ag rv.length cg) bg rv k8.v := PrR.but (prr_ex (h := prr_ex (h := prr_ex (h := hpg) k5) k6) k7) hb8 hbx
  have hpw8 : PrR k1.v.heap.size 39 (.slice Aw rv.length cw) bw rv k8.v := prr_ex (h := hpw) k8
  have iw8 : Iss k8.v Aw rv := PrR.iss (h := hpw8) hlw.symm H2.out
  have ig8 : Iss k8.v Ag rv := PrR.iss (h := hpg8) hlg.symm H2.out
  go_wp2_with ((go_at_call 42; go_loud (refine (eqSS_any _ _ _ _ rv _).mono ?_; rintro e w' ⟨rfl, k9, rfl⟩)))
  have hpg9 : PrR k2.v.heap.size 39 (.slice Ag rv.length cg) bg rv k9.v := (prr_ex (h := hpg8) k9).mono (by omega)
  go_wp2_with (go_at_call 43; go_loud (refine (markPr_any (hp := hpg9) k2.v Ag cg rv.length bg rv 1 _ hlg H2.out (by omega) (by omega) (by omega)).mono ?_; rintro e w' ⟨rfl, k10, rfl, V2, hm10, hp10⟩))
  go_wp2_with (go_at_call 44; go_loud (refine (heldPr_any (hp := hp10) Ag cg rv.length bg V2 1 _ hlg hm10 (by omega) (by omega) (by omega)).mono ?_; rintro e w' ⟨rfl, k11, rfl⟩))
  go_wp2_with ((go_at_call 17; (with_reducible refine (toCueS_any _ _ l _ ?_).mono ?_); (· omega); rintro e w' ⟨rfl, k12, rfl, hw12⟩))
  go_wp2_with (go_at_call 22; go_loud ((with_reducible refine (iClashesOf_any _ _ l _ ?_ ?_ HV.out HE.out).mono ?_); (· exact Nat.le_refl _); (· omega); rintro e w' h; obtain ⟨Ah, ch, bh, rfl, hlh, k13, rfl, hph⟩ := h.get))
  have hpw13 : PrR k1.v.heap.size 39 (.slice Aw rv.length cw) bw rv k13.v := prr_ex (h := prr_ex (h := prr_ex (h := prr_ex (h := hpw) k10) k11) k12) k13
  have iw13 : Iss k13.v Aw rv := PrR.iss (h := hpw13) hlw.symm H2.out
  have ih13 : Iss k13.v Ah rv := PrR.iss (h := hph) hlh.symm H2.out
  go_wp2_with ((go_at_call 42; go_loud (refine (eqSS_any _ _ _ _ rv _).mono ?_; rintro e w' ⟨rfl, k14, rfl⟩)))
  have hp14 : PrR k2.v.heap.size 39 (.slice Ag rv.length cg) bg V2 k14.v := prr_ex (h := prr_ex (h := prr_ex (h := prr_ex (h := hp10) k11) k12) k13) k14
  go_wp2_with (go_at_call 44; go_loud (refine (heldPr_any (hp := hp14) Ag cg rv.length bg V2 1 _ hlg hm10 (by omega) (by omega) (by omega)).mono ?_; rintro e w' ⟨rfl, k15, rfl⟩))
  all_goals (go_ret; refine ⟨by first | rfl | (simp; done), ?_⟩; (refine Ok.toEx ?_; (repeat (first | (with_reducible exact Ok.rf _) | (with_reducible refine Ok.alloc ?_ _) | (with_reducible refine Ok.ex ?_ _) | (with_reducible refine Ok.drew ?_) | (with_reducible refine Ok.setCellI ?_ _ _ _) | (with_reducible refine Ok.exb ?_ _)))))
end
end Go.Proofs.Ytpodgojijkficaa
