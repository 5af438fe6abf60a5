/-
  Cues without one: l13Without. Conditions: those typed at each theorem.
-/
import Derived.Test.YthgfnbgdpmbolaaCuE
import Derived.Test.YthgfnbgdpmbolaaAppZ
namespace Go.Proofs.Ythgfnbgdpmbolaa
open Go.RowKit
section
variable {α : Type} {sz : Nat} {f : α → List Value} {w : World} {b o : Nat} {l : List α}
theorem Rd.take (h : Rd sz f w (some ⟨b, o, none⟩) l) (i : Nat) : Rd sz f w (some ⟨b, o, none⟩) (l.take i) := ⟨by have := h.len; rw [List.length_take]; omega, fun h0 => by
  rw [List.length_take] at h0
  obtain ⟨b', o', e, hb, hc⟩ := h.at_ (by omega)
  refine ⟨b', o', e, hb, fun k hk j v hv => ?_⟩
  rw [List.length_take] at hk
  rw [List.getElem_take] at hv
  exact hc k (by omega) j v hv⟩
theorem Rd.drop (h : Rd sz f w (some ⟨b, o, none⟩) l) (i : Nat) : Rd sz f w (some ⟨b, o + i * sz, none⟩) (l.drop i) := ⟨by have := h.len; rw [List.length_drop]; omega, fun h0 => by
  rw [List.length_drop] at h0
  obtain ⟨b', o', e, hb, hc⟩ := h.at_ (by omega)
  cases e
  refine ⟨b, o + i * sz, rfl, hb, fun k hk j v hv => ?_⟩
  rw [List.length_drop] at hk
  rw [List.getElem_drop] at hv
  have := hc (i + k) (by omega) j v hv
  rwa [show o + (i + k) * sz + j = o + i * sz + k * sz + j by rw [Nat.add_mul]; omega] at this⟩
end
/-- the cues without cue i -/
def woC (l : List Cu) (i : Nat) : List Cu := l.take i ++ l.drop (i + 1)
theorem woC_len {l : List Cu} {i : Nat} (h : i < l.length) : (woC l i).length = l.length - 1 := by unfold woC; rw [List.length_append, List.length_take, List.length_drop]; omega
section
set_option maxHeartbeats 3200000
set_option maxRecDepth 20000
end
end Go.Proofs.Ythgfnbgdpmbolaa
