/-
  Cues without one: l13Without. Conditions: those typed at each theorem.
-/
import Derived.Test.YtpodgojijkficaaCuE
import Derived.Test.YtpodgojijkficaaAppZ
namespace Go.Proofs.Ytpodgojijkficaa
open Go.RowKit
section
variable {α : Type} {sz : Nat} {f : α → List Value} {w : World} {b o : Nat} {l : List α}
theorem Rd.take (h : Rd sz f w (some ⟨b, o, none⟩) l) (i : Nat) : Rd sz f w (some ⟨b, o, none⟩) (l.take i) := ⟨by have := h.len; rw [List.length_take]; omega, fun h0 => by
  rw [List.length_take] at h0
  obtain ⟨b', o', e, hb, hc⟩ := h.at_ (by omega)
  refine ⟨b', o', e, hb, fun k hk j v hv => ?_⟩
  rw [List.length_take] at hk
  rw [List.getElem_take] at hv
  exact hc k (by omega) j v hv⟩
theorem Rd.drop (h : Rd sz f w (some ⟨b, o, none⟩) l) (i : Nat) : Rd sz f w (some ⟨b, o + i * sz, none⟩) (l.drop i) := ⟨by have := h.len; rw [List.length_drop]; omega, fun h0 => by
  rw [List.length_drop] at h0
  obtain ⟨b', o', e, hb, hc⟩ := h.at_ (by omega)
  cases e
  refine ⟨b, o + i * sz, rfl, hb, fun k hk j v hv => ?_⟩
  rw [List.length_drop] at hk
  rw [List.getElem_drop] at hv
  have := hc (i + k) (by omega) j v hv
  rwa [show o + (i + k) * sz + j = o + i * sz + k * sz + j by rw [Nat.add_mul]; omega] at this⟩
end
/-- the cues without cue i -/
def woC (l : List Cu) (i : Nat) : List Cu := l.take i ++ l.drop (i + 1)
theorem woC_len {l : List Cu} {i : Nat} (h : i < l.length) : (woC l i).length = l.length - 1 := by unfold woC; rw [List.length_append, List.length_take, List.length_drop]; omega
section
set_option maxHeartbeats 3200000
set_option maxRecDepth 20000
theorem wo_any (A : Option Addr) (c : Nat) (l : List Cu) (i : Nat) (w : World) [hl : Rd 6 cC w A l] (hi : i < l.length) (hn : l.length ≤ 1048576) (hc : l.length ≤ c) :
    Calls Try.prog 72 #[.slice A l.length c, .int .i64 i] w fun e w' => ∃ A' c', e = .returned (.slice A' (woC l i).length c') ∧ ∃ k : Ex w, w' = k.v ∧ Ow 6 cC k.v A' (woC l i) ∧ Fr w A' := by
  obtain ⟨b, o, rfl, hbw, -⟩ := hl.at_ (by omega)
  have hti : (l.take i).length = i := by rw [List.length_take]; omega
  have htd : (l.drop (i + 1)).length = l.length - (i + 1) := List.length_drop ..
  haveI r1 := Rd.take hl i
  haveI r2 := Rd.drop hl (i + 1)
  have h0 : (0 : Int) ≤ (i : Int) := by omega
  have h1 : (i : Int) ≤ (c : Int) := by omega
  have h2 : (i : Int) + 1 ≤ (l.length : Int) := by omega
  have h3 : IntKind.i64.wrap ((i : Int) + 1) = (i : Int) + 1 := IntWalk.i64_in _ (by omega)
  have h4 : ((i : Int) + 1).toNat = i + 1 := by omega
  have h5 : i ≤ c := by omega
  have h6 : i + 1 ≤ l.length := by omega
  have hrow0 := hid (row_made w w.heap.size (Nat.le_refl _) 37 6 cC)
  by_cases hcl : c = i + 1
  · have hnil : l.drop (i + 1) = [] := List.drop_eq_nil_of_le (by omega)
    have hlen1 : l.length = i + 1 := by omega
    have HN := hid hnil
    clear hnil
    go_enter Try.func72, Try.ntmps72
    go_wp2_with (first | (at_builtin; refine wpList_appM cC _ rfl _ _ _ rfl w.heap.size ?_ _ _ _ _ Try.underlying26 infoCue rfl (by omega) (fun _ => ⟨rfl, by simp [cC, Value.oneCell']⟩) _ [] rfl hrow0.out b o (l.take i) _ (by rw [hti]; rfl) ?_ ?_ ?_ ?_; (· simp); (· infer_instance); (· simp; omega); (· simp; omega); intro v1 k1 hA1; have hk1 : w.heap.size ≤ k1.v.heap.size := Nat.le_trans (by simp) k1.h.size; have kB : Below w.heap.size w k1.v := ((Below.refl _ _).alloc (Nat.le_refl _) _).trans k1.h; haveI r3 : Rd 6 cC k1.v (some ⟨b, o + (i + 1) * 6, none⟩) (l.drop (i + 1)) := Rd.ex (h := r2) (Ex.of kB)) | (at_builtin; go_loud (refine wpList_appM cC _ rfl _ _ _ rfl w.heap.size ?_ _ _ _ _ Try.underlying26 infoCue rfl (by omega) (fun _ => ⟨rfl, by simp [cC, Value.oneCell']⟩) v1 (l.take i) rfl hA1.own b o [] 0 rfl ?_ ?_ ?_ ?_; (· exact hk1); (· infer_instance); (· simp; omega); (· simp; omega); intro v2 k2 hA2)))
    obtain ⟨A2, c2, he, hO2, hF2⟩ := Ow.of_row (f := cC) (fun _ => rfl) hA2.own
    subst he
    go_ret
    have hwo : woC l i = l.take i ++ [] := by unfold woC; rw [HN.out]
    rw [hwo]
    exact ⟨A2, c2, by rfl, ex_and (fun W => Ow 6 cC W A2 (l.take i ++ []) ∧ Fr w A2) (by (refine Ok.toEx ?_; (repeat (first | (with_reducible exact Ok.rf _) | (with_reducible refine Ok.alloc ?_ _) | (with_reducible refine Ok.ex ?_ _) | (with_reducible refine Ok.drew ?_) | (with_reducible refine Ok.setCellI ?_ _ _ _) | (with_reducible refine Ok.exb ?_ _))))) ⟨hO2, ⟨hF2⟩⟩⟩
  · go_enter Try.func72, Try.ntmps72
    go_wp2_with (first | (at_builtin; refine wpList_appM cC _ rfl _ _ _ rfl w.heap.size ?_ _ _ _ _ Try.underlying26 infoCue rfl (by omega) (fun _ => ⟨rfl, by simp [cC, Value.oneCell']⟩) _ [] rfl hrow0.out b o (l.take i) _ (by rw [hti]; rfl) ?_ ?_ ?_ ?_; (· simp); (· infer_instance); (· simp; omega); (· simp; omega); intro v1 k1 hA1; have hk1 : w.heap.size ≤ k1.v.heap.size := Nat.le_trans (by simp) k1.h.size; have kB : Below w.heap.size w k1.v := ((Below.refl _ _).alloc (Nat.le_refl _) _).trans k1.h; haveI r3 : Rd 6 cC k1.v (some ⟨b, o + (i + 1) * 6, none⟩) (l.drop (i + 1)) := Rd.ex (h := r2) (Ex.of kB)) | (at_builtin; go_loud (refine wpList_appM cC _ rfl _ _ _ rfl w.heap.size ?_ _ _ _ _ Try.underlying26 infoCue rfl (by omega) (fun _ => ⟨rfl, by simp [cC, Value.oneCell']⟩) v1 (l.take i) rfl hA1.own b (o + (i + 1) * 6) (l.drop (i + 1)) (c - (i + 1)) (by rw [htd]; rfl) ?_ ?_ ?_ ?_; (· exact hk1); (· infer_instance); (· simp; omega); (· simp; omega); intro v2 k2 hA2)))
    obtain ⟨A2, c2, he, hO2, hF2⟩ := Ow.of_row (f := cC) (fun _ => rfl) hA2.own
    subst he
    go_ret
    exact ⟨A2, c2, by rfl, ex_and (fun W => Ow 6 cC W A2 (woC l i) ∧ Fr w A2) (by (refine Ok.toEx ?_; (repeat (first | (with_reducible exact Ok.rf _) | (with_reducible refine Ok.alloc ?_ _) | (with_reducible refine Ok.ex ?_ _) | (with_reducible refine Ok.drew ?_) | (with_reducible refine Ok.setCellI ?_ _ _ _) | (with_reducible refine Ok.exb ?_ _))))) ⟨hO2, ⟨hF2⟩⟩⟩
end
end Go.Proofs.Ytpodgojijkficaa
