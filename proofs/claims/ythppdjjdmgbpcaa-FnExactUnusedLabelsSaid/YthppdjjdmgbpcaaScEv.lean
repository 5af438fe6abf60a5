/-
  Contracts of RunScript, and its law. Conditions: those typed at each theorem.
-/
import Derived.Test.YthppdjjdmgbpcaaScTime
import Derived.Test.YthppdjjdmgbpcaaMkLine
import Derived.Test.YthppdjjdmgbpcaaMkEvent
namespace Go.Proofs.Ythppdjjdmgbpcaa
open Go.RowKit
section
set_option maxHeartbeats 3200000
theorem iRunScript_any (A : Option Addr) (c : Nat) (l : List Ln) (budget : Int) (w : World) [hl : Lns w A l] (hcap : l.length ≤ c) (hn : l.length ≤ 1048576) {co : Int} {s : RS} (ha : ansL l budget = (co, s)) :
    Calls Try.prog 37 #[.slice A l.length c, .int .i64 budget] w fun e w' => ∃ A' c', e = .returned (.tuple #[.slice A' s.ev.length c', .int .i64 co]) ∧ ∃ k : Ex w, w' = k.v ∧ Ow 2 evC k.v A' s.ev ∧ Fr w A' := by
  have HA := hid ha
  clear ha
  go_enter Try.func37, Try.ntmps37
  go_wp2_with (have ha := HA.out; (go_at_call 51; (refine (iRun_any _ _ l _ _ (by omega) (by omega)).mono ?_); rw [ha]; rintro e w' ⟨B, D, p, q, rfl, hBn, k, rfl, hO, hF, hR⟩); clear ha; have hO := hid hO; have hF := hid hF; clear hR)
  go_ret2
  refine ⟨B, p, by rfl, ex_and (fun W => Ow 2 evC W B s.ev ∧ Fr w B) (by (refine Ok.toEx ?_; (repeat (first | (with_reducible exact Ok.rf _) | (with_reducible refine Ok.alloc ?_ _) | (with_reducible refine Ok.ex ?_ _) | (with_reducible refine Ok.drew ?_) | (with_reducible refine Ok.setCellI ?_ _ _ _) | (with_reducible refine Ok.exb ?_ _))))) ⟨?_, hF.out⟩⟩
  haveI : Ow 2 evC k.v B s.ev := hO.out
  infer_instance
theorem sRunScript_any (A : Option Addr) (c : Nat) (l : List Ln) (budget : Int) (w : World) [hl : Lns w A l] (hn : l.length ≤ 1048576) {co : Int} {s : RS} (ha : ansL l budget = (co, s)) (hs : s.ok l) (hf : co = 0 ∨ (co ≠ 0 ∧ s = RS.zero)) :
    Calls Try.prog 16 #[.slice A l.length c, .int .i64 budget] w fun e w' => ∃ A' c', e = .returned (.tuple #[.slice A' s.ev.length c', .int .i64 co]) ∧ ∃ k : Ex w, w' = k.v ∧ Ow 2 evC k.v A' s.ev ∧ Fr w A' := by
  have HA := hid ha
  clear ha
  rcases hf with rfl | ⟨hc, rfl⟩
  · have hev := hs.evn
    clear hs
    go_enter Try.func16, Try.ntmps16
    go_wp2_with (first | (have ha := HA.out; (go_at_call 52; (refine (sRun_any _ _ l _ _ (by omega)).mono ?_); rw [ha]; rintro e w' ⟨b, rfl, k, rfl, hS⟩); clear ha; obtain ⟨B, c1, D, S, q, hS⟩ := hS rfl; haveI hSl := hS.lt; have hS1 := hS.c0; have hn0 := hid hS.hn; have hO := hid hS.ev; clear hS) |
      (at_builtin; refine wpList_appN evC _ rfl _ _ _ rfl k.v.heap.size ?_ 33 (.agg #[.int .i64 0, .string ⟨#[]⟩]) 2 24 Try.underlying27 infoEv rfl (by omega) (fun _ => ⟨rfl, by simp [evC, Value.oneCell']⟩) _ [] rfl (World.ownsRow_made _ #[] 0 (Nat.le_refl _) (by simp [maxLen]) (by simp)) B s.ev c1 rfl ?_ hn0.out ?_ ?_ ?_; (· simp); (· haveI : Ow 2 evC k.v B s.ev := hO.out; infer_instance); (· simp; omega); (· simp; omega); intro v' k' hown'))
    go_ret2
    obtain ⟨A2, c2, hv, hO2, hF2⟩ := Ow.of_row (f := evC) (fun _ => rfl) hown'
    subst hv
    refine ⟨A2, c2, by simp, ex_and (fun W => Ow 2 evC W A2 s.ev ∧ Fr w A2) (by (refine Ok.toEx ?_; (repeat (first | (with_reducible exact Ok.rf _) | (with_reducible refine Ok.alloc ?_ _) | (with_reducible refine Ok.ex ?_ _) | (with_reducible refine Ok.drew ?_) | (with_reducible refine Ok.setCellI ?_ _ _ _) | (with_reducible refine Ok.exb ?_ _))))) ⟨by simpa using hO2, ⟨fun b o m h => Nat.le_trans k.size (hF2 b o m h)⟩⟩⟩
  · have hcb : (co == 0) = false := by rw [beq_eq_false_iff_ne]; exact hc
    go_enter Try.func16, Try.ntmps16
    go_wp2_with (have ha := HA.out; (go_at_call 52; (refine (sRun_any _ _ l _ _ (by omega)).mono ?_); rw [ha]; rintro e w' ⟨b, rfl, k, rfl, hS⟩); clear ha)
    go_ret2
    exact ⟨none, 0, by rfl, k, rfl, Ow.nil, inferInstance⟩
theorem lRunScript (A : Option Addr) (c : Nat) (l : List Ln) (budget : Int) (w : World) (hl : Lns w A l) (hb : i64' budget) :
    Calls Try.prog 10 #[.slice A l.length c, .int .i64 budget] w fun e w' => e = .returned (.bool true) ∧ ∃ k : Ex w, w' = k.v := by
  obtain ⟨co, s, ha, hs, hsn, h⟩ := ansL_facts l budget
  have HF : Hid (co = 0 ∨ (co ≠ 0 ∧ s = RS.zero)) := hid (h.elim (fun h => .inl h.1) (fun h => .inr ⟨h.1, h.2.2⟩))
  have HA := hid ha
  have HS := hid hs
  have hev := hs.evn
  clear ha h hs
  go_enter Try.func10, Try.ntmps10
  go_wp2_with ((go_at_call 19; refine (szLineS_any _ _ _ _ _ (by omega) (by omega)).mono ?_; rintro e w' ⟨m, rfl, ⟨hm1, hm2, hm3⟩, hm4, k, rfl⟩))
  · (go_ret; refine ⟨by first | rfl | (simp; done), ?_⟩; (refine Ok.toEx ?_; (repeat (first | (with_reducible exact Ok.rf _) | (with_reducible refine Ok.alloc ?_ _) | (with_reducible refine Ok.ex ?_ _) | (with_reducible refine Ok.drew ?_) | (with_reducible refine Ok.setCellI ?_ _ _ _) | (with_reducible refine Ok.exb ?_ _)))))
  go_wp2_with ((go_at_call 21; refine (toLineS_any _ _ _ _ (by omega)).mono ?_; rintro e w' ⟨rfl, k1, rfl, hw1⟩))
  go_wp2_with ((go_at_call 16; refine (sRunScript_any _ _ _ _ _ (by omega) HA.out HS.out HF.out).mono ?_; rintro e w' ⟨Aw, cw, rfl, k2, rfl, how, hfw⟩))
  go_wp2_with ((go_at_call 21; refine (toLineS_any _ _ _ _ (by omega)).mono ?_; rintro e w' ⟨rfl, k3, rfl, hw3⟩))
  go_wp2_with ((go_at_call 37; refine (iRunScript_any _ _ _ _ _ (by omega) (by omega) HA.out).mono ?_; rintro e w' ⟨Ag, cg, rfl, k4, rfl, hog, hfg⟩))
  go_wp2_with ((go_at_call 38; refine (eqEventS_any _ _ _ _ _ _).mono ?_; rintro e w' ⟨rfl, k5, rfl⟩))
  go_wp2_with ((go_at_call 21; refine (toLineS_any _ _ _ _ (by omega)).mono ?_; rintro e w' ⟨rfl, k6, rfl, hw6⟩))
  go_wp2_with ((go_at_call 23; refine (eqLineS_any _ _ _ _ _ _).mono ?_; rintro e w' ⟨rfl, k7, rfl⟩))
  go_wp2_with ((go_at_call 31; refine (markLineS_any k2.v _ _ _ _ _ (by omega) (by omega) (by omega)).mono ?_; rintro e w' ⟨rfl, k8, rfl, ho8, hb8⟩))
  have hog8 : Ow 2 evC k8.v Ag s.ev := Ow.but (inferInstanceAs (Ow 2 evC k7.v Ag s.ev)) hb8 (fun x o o' e h => by have h1 := hfg.h x o none e; have h2 := hw3.lt.h; cases h; omega)
  have hfg2 : Fr k2.v Ag := hfg.mono
  go_wp2_with ((go_at_call 38; refine (eqEventS_any _ _ _ _ _ _).mono ?_; rintro e w' ⟨rfl, k9, rfl⟩))
  go_wp2_with (go_at_call 39; refine (markEventS_any k2.v _ _ _ _ _ (by omega) (by omega) (by omega)).mono ?_; rintro e w' ⟨rfl, k10, rfl, ho10, hb10⟩)
  go_wp2_with ((go_at_call 40; refine (heldEventS_any _ _ _ _ _ (by omega) (by omega) (by omega)).mono ?_; rintro e w' ⟨rfl, k11, rfl⟩))
  go_wp2_with ((go_at_call 21; refine (toLineS_any _ _ _ _ (by omega)).mono ?_; rintro e w' ⟨rfl, k12, rfl, hw12⟩))
  go_wp2_with ((go_at_call 37; refine (iRunScript_any _ _ _ _ _ (by omega) (by omega) HA.out).mono ?_; rintro e w' ⟨Ah, ch, rfl, k13, rfl, hoh, hfh⟩))
  go_wp2_with ((go_at_call 38; refine (eqEventS_any _ _ _ _ _ _).mono ?_; rintro e w' ⟨rfl, k14, rfl⟩))
  go_wp2_with ((go_at_call 40; refine (heldEventS_any _ _ _ _ _ (by omega) (by omega) (by omega)).mono ?_; rintro e w' ⟨rfl, k15, rfl⟩))
  all_goals (go_ret; refine ⟨by first | rfl | (simp; done), ?_⟩; (refine Ok.toEx ?_; (repeat (first | (with_reducible exact Ok.rf _) | (with_reducible refine Ok.alloc ?_ _) | (with_reducible refine Ok.ex ?_ _) | (with_reducible refine Ok.drew ?_) | (with_reducible refine Ok.setCellI ?_ _ _ _) | (with_reducible refine Ok.exb ?_ _)))))
end
end Go.Proofs.Ythppdjjdmgbpcaa
