/-
  The law of AddCue. Conditions: those typed at each theorem.
-/
import Derived.Test.YtpodgojijkficaaCuAi
import Derived.Test.YtpodgojijkficaaMkCue
import Derived.Test.YtpodgojijkficaaCuO
namespace Go.Proofs.Ytpodgojijkficaa
open Go.RowKit
section
set_option maxHeartbeats 3200000
set_option maxRecDepth 20000
theorem lAddCue (A : Option Addr) (c : Nat) (l : List Cu) (x : Cu) (w : World) (hk : COks l) (hl : Rd 6 cC w A l) (hx : x.ok) :
    Calls Try.prog 12 #[.slice A l.length c, .agg #[.string x.id, .int .i64 x.t, .int .i64 x.ln, .string x.tg, .int .i64 x.act, .int .i64 x.v]] w fun e w' => e = .returned (.bool true) ∧ ∃ k : Ex w, w' = k.v := by
  have hlen := hl.len
  obtain ⟨rv, hrv⟩ : ∃ rv, adV l x = rv := ⟨_, rfl⟩
  obtain ⟨re, hre⟩ : ∃ re, adE l x = re := ⟨_, rfl⟩
  have hrl : rv.length ≤ 64 := by rw [← hrv]; exact adV_len l x
  have HV := hid hrv
  have HE := hid hre
  clear hrv hre
  go_enter Try.func12, Try.ntmps12
  go_wp2_with ((go_at_call 15; (with_reducible refine (szCueS_any _ _ l _ _ ?_ ?_).mono ?_); (· omega); (· omega); rintro e w' ⟨m, rfl, ⟨hm1, hm2, hm3⟩, hm4, k, rfl⟩; have hm4 := hid hm4))
  · (go_ret; refine ⟨by first | rfl | (simp; done), ?_⟩; (refine Ok.toEx ?_; (repeat (first | (with_reducible exact Ok.rf _) | (with_reducible refine Ok.alloc ?_ _) | (with_reducible refine Ok.ex ?_ _) | (with_reducible refine Ok.drew ?_) | (with_reducible refine Ok.setCellI ?_ _ _ _) | (with_reducible refine Ok.exb ?_ _)))))
  have hm5 := hm3 (by omega)
  clear hm3
  obtain ⟨hc1, hc2, -⟩ := hx
  have hd1 : x.id.size ≤ maxLen := hc1
  have hd2 : x.tg.size ≤ maxLen := hc2
  go_wp2_with (go_at_call 45; (with_reducible refine (szCue_any x _ _ hc1 hc2 ?_ ?_).mono ?_); (· omega); (· omega); rintro e w' ⟨mm, rfl, ⟨hn1, hn2, hn3⟩, kz, rfl⟩; have hn3 := hid hn3)
  · (go_ret; refine ⟨by first | rfl | (simp; done), ?_⟩; (refine Ok.toEx ?_; (repeat (first | (with_reducible exact Ok.rf _) | (with_reducible refine Ok.alloc ?_ _) | (with_reducible refine Ok.ex ?_ _) | (with_reducible refine Ok.drew ?_) | (with_reducible refine Ok.setCellI ?_ _ _ _) | (with_reducible refine Ok.exb ?_ _)))))
  go_wp2_with fail
  go_region_held3 (fun W => W.cell? ⟨w.heap.size, 0, none⟩ = some (.string x.id) ∧ W.cell? ⟨w.heap.size, 1, none⟩ = some (.int .i64 x.t) ∧ W.cell? ⟨w.heap.size, 2, none⟩ = some (.int .i64 x.ln) ∧ W.cell? ⟨w.heap.size, 3, none⟩ = some (.string x.tg) ∧ W.cell? ⟨w.heap.size, 4, none⟩ = some (.int .i64 x.act) ∧ W.cell? ⟨w.heap.size, 5, none⟩ = some (.int .i64 x.v)) ((refine ⟨?_, ?_, ?_, ?_, ?_, ?_⟩ <;> simp [go_sem])) ((first | (go_at_call 17; (with_reducible refine (toCueS_any _ _ l _ ?_).mono ?_); (· omega); rintro e w' ⟨rfl, k1, rfl, hw1⟩) | (go_at_call 47; (with_reducible refine (toCue_any _ _).mono ?_); rintro e w' ⟨rfl, kt, rfl⟩) | (go_at_call 46; go_loud ((with_reducible refine (sAddCue_any (hl := ?_) (hp := ?_) _ _ l x _ ?_ ?_ hd1 hd2 HV.out HE.out).mono ?_); (· haveI : Wr 6 cC k1.v kz.v.heap.size l := hw1; infer_instance); (· infer_instance); (· exact Nat.le_refl _); (· omega); rintro e w' ⟨Aw, cw, rfl, k2, rfl, how, hfw, -⟩))))
  all_goals
    have hu2 : Up w k2.v := inferInstance
    go_wp2_with ((go_at_call 17; (with_reducible refine (toCueS_any _ _ l _ ?_).mono ?_); (· omega); rintro e w' ⟨rfl, k3, rfl, hw3⟩))
    go_wp2_with ((first | (go_at_call 48; go_loud ((with_reducible refine (iAddCue_any (hl := ?_) (hp := ?_) _ _ l x _ ?_ ?_ hd1 hd2 HV.out HE.out).mono ?_); (· infer_instance); (· infer_instance); (· exact Nat.le_refl _); (· omega); rintro e w' ⟨Ag, cg, rfl, k4, rfl, hog, hfg⟩)) | (go_at_call 47; (with_reducible refine (toCue_any _ _).mono ?_); rintro e w' ⟨rfl, kt, rfl⟩)))
    go_wp2_with (go_at_call 19; refine (eqCueS_any _ _ _ _ _ _).mono ?_; rintro e w' ⟨rfl, k5, rfl⟩)
    go_wp2_with ((go_at_call 17; (with_reducible refine (toCueS_any _ _ l _ ?_).mono ?_); (· omega); rintro e w' ⟨rfl, k6, rfl, hw6⟩))
    go_wp2_with ((go_at_call 19; (with_reducible refine (eqCueS_any _ _ _ _ l _).mono ?_); rintro e w' ⟨rfl, k7, rfl⟩))
    go_wp2_with (go_at_call 32; refine (markCueS_any k2.v _ _ _ _ _ (by omega) (by omega) (by omega)).mono ?_; rintro e w' ⟨rfl, k8, rfl, ho8, hb8⟩)
    have hog8 : Ow 6 cC k8.v Ag rv := Ow.but (inferInstanceAs (Ow 6 cC k7.v Ag rv)) hb8 (fun x o o' e h => by have h1 := hfg.h x o none e; have h2 := hw3.lt.h; have h3 := (inferInstance : LeB k3.v.heap.size kt.v.heap.size).h; cases h; omega)
    have hfg2 : Fr k2.v Ag := hfg.mono
    go_wp2_with (go_at_call 19; refine (eqCueS_any _ _ _ _ _ _).mono ?_; rintro e w' ⟨rfl, k9, rfl⟩)
    go_wp2_with (go_at_call 32; refine (markCueS_any k2.v _ _ _ _ _ (by omega) (by omega) (by omega)).mono ?_; rintro e w' ⟨rfl, k10, rfl, ho10, hb10⟩)
    go_wp2_with ((go_at_call 38; refine (heldCueS_any _ _ _ _ _ (by omega) (by omega) (by omega)).mono ?_; rintro e w' ⟨rfl, k11, rfl⟩))
    go_wp2_with fail
    go_region_held3 (fun W => W.cell? ⟨w.heap.size, 0, none⟩ = some (.string x.id) ∧ W.cell? ⟨w.heap.size, 1, none⟩ = some (.int .i64 x.t) ∧ W.cell? ⟨w.heap.size, 2, none⟩ = some (.int .i64 x.ln) ∧ W.cell? ⟨w.heap.size, 3, none⟩ = some (.string x.tg) ∧ W.cell? ⟨w.heap.size, 4, none⟩ = some (.int .i64 x.act) ∧ W.cell? ⟨w.heap.size, 5, none⟩ = some (.int .i64 x.v)) ((refine ⟨?_, ?_, ?_, ?_, ?_, ?_⟩ <;> simp [go_sem])) ((first | (go_at_call 17; (with_reducible refine (toCueS_any _ _ l _ ?_).mono ?_); (· omega); rintro e w' ⟨rfl, k12, rfl, hw12⟩) | (go_at_call 47; (with_reducible refine (toCue_any _ _).mono ?_); rintro e w' ⟨rfl, kt2, rfl⟩) | (go_at_call 48; go_loud ((with_reducible refine (iAddCue_any (hl := ?_) (hp := ?_) _ _ l x _ ?_ ?_ hd1 hd2 HV.out HE.out).mono ?_); (· haveI : Wr 6 cC k12.v k11.v.heap.size l := hw12; infer_instance); (· infer_instance); (· exact Nat.le_refl _); (· omega); rintro e w' ⟨Ah, ch, rfl, k13, rfl, hoh, hfh⟩))))
    all_goals
      go_wp2_with (go_at_call 19; refine (eqCueS_any _ _ _ _ _ _).mono ?_; rintro e w' ⟨rfl, k14, rfl⟩)
      go_wp2_with ((go_at_call 38; refine (heldCueS_any _ _ _ _ _ (by omega) (by omega) (by omega)).mono ?_; rintro e w' ⟨rfl, k15, rfl⟩))
      all_goals (go_ret; refine ⟨by first | rfl | (simp; done), ?_⟩; (refine Ok.toEx ?_; (repeat (first | (with_reducible exact Ok.rf _) | (with_reducible refine Ok.alloc ?_ _) | (with_reducible refine Ok.ex ?_ _) | (with_reducible refine Ok.drew ?_) | (with_reducible refine Ok.setCellI ?_ _ _ _) | (with_reducible refine Ok.exb ?_ _)))))
end
end Go.Proofs.Ytpodgojijkficaa
