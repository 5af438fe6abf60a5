/-
  Contracts of RunScript, and its law. Conditions: those typed at each theorem.
-/
import Derived.Test.YtpapphhbogngcaaScTime
import Derived.Test.YtpapphhbogngcaaMkLine
import Derived.Test.YtpapphhbogngcaaMkEvent
namespace Go.Proofs.Ytpapphhbogngcaa
open Go.RowKit
section
set_option maxHeartbeats 3200000
theorem sRunScript_any (A : Option Addr) (c : Nat) (l : List Ln) (budget : Int) (w : World) [hl : Lns w A l] (hn : l.length ≤ 1048576) {co : Int} {s : RS} (ha : ansL l budget = (co, s)) (hs : s.ok l) (hf : co = 0 ∨ (co ≠ 0 ∧ s = RS.zero)) :
    Calls Try.prog 18 #[.slice A l.length c, .int .i64 budget] w fun e w' => ∃ A' c', e = .returned (.tuple #[.slice A' s.ev.length c', .int .i64 co]) ∧ ∃ k : Ex w, w' = k.v ∧ Ow 2 evC k.v A' s.ev ∧ Fr w A' := by
  have HA := hid ha
  clear ha
  rcases hf with rfl | ⟨hc, rfl⟩
  · have hev := hs.evn
    clear hs
    go_enter Try.func18, Try.ntmps18
    go_wp2_with (first | (have ha := HA.out; (go_at_call 51; (refine (sRun_any _ _ l _ _ (by omega)).mono ?_); rw [ha]; rintro e w' ⟨b, rfl, k, rfl, hS⟩); clear ha; obtain ⟨B, c1, D, S, q, hS⟩ := hS rfl; haveI hSl := hS.lt; have hS1 := hS.c0; have hn0 := hid hS.hn; have hO := hid hS.ev; clear hS) |
      (at_builtin; refine wpList_appN evC _ rfl _ _ _ rfl k.v.heap.size ?_ 50 (.agg #[.int .i64 0, .string ⟨#[]⟩]) 2 24 Try.underlying45 infoEv rfl (by omega) (fun _ => ⟨rfl, by simp [evC, Value.oneCell']⟩) _ [] rfl (World.ownsRow_made _ #[] 0 (Nat.le_refl _) (by simp [maxLen]) (by simp)) B s.ev c1 rfl ?_ hn0.out ?_ ?_ ?_; (· simp); (· haveI : Ow 2 evC k.v B s.ev := hO.out; infer_instance); (· simp; omega); (· simp; omega); intro v' k' hown'))
    go_ret2
    obtain ⟨A2, c2, hv, hO2, hF2⟩ := Ow.of_row (f := evC) (fun _ => rfl) hown'
    subst hv
    refine ⟨A2, c2, by simp, ex_and (fun W => Ow 2 evC W A2 s.ev ∧ Fr w A2) (by (refine Ok.toEx ?_; (repeat (first | (with_reducible exact Ok.rf _) | (with_reducible refine Ok.alloc ?_ _) | (with_reducible refine Ok.ex ?_ _) | (with_reducible refine Ok.drew ?_) | (with_reducible refine Ok.setCellI ?_ _ _ _) | (with_reducible refine Ok.exb ?_ _))))) ⟨by simpa using hO2, ⟨fun b o m h => Nat.le_trans k.size (hF2 b o m h)⟩⟩⟩
  · have hcb : (co == 0) = false := by rw [beq_eq_false_iff_ne]; exact hc
    go_enter Try.func18, Try.ntmps18
    go_wp2_with (have ha := HA.out; (go_at_call 51; (refine (sRun_any _ _ l _ _ (by omega)).mono ?_); rw [ha]; rintro e w' ⟨b, rfl, k, rfl, hS⟩); clear ha)
    go_ret2
    exact ⟨none, 0, by rfl, k, rfl, Ow.nil, inferInstance⟩
end
end Go.Proofs.Ytpapphhbogngcaa
