/-
  Parts of a slice; the room of a row. Conditions: those typed at each theorem.
-/
import Derived.Test.YtdhflckombkimaaDoorAppZ
namespace Go.Proofs.YtdhflckombkimaaDoor
open Go.RowKit
section
variable {α : Type} {sz : Nat} {f : α → List Value} {w : World} {b o : Nat} {l : List α}
theorem Rd.take (h : Rd sz f w (some ⟨b, o, none⟩) l) (i : Nat) : Rd sz f w (some ⟨b, o, none⟩) (l.take i) := ⟨by have := h.len; rw [List.length_take]; omega, fun h0 => by
  rw [List.length_take] at h0
  obtain ⟨b', o', e, hb, hc⟩ := h.at_ (by omega)
  refine ⟨b', o', e, hb, fun k hk j v hv => ?_⟩
  rw [List.length_take] at hk
  rw [List.getElem_take] at hv
  exact hc k (by omega) j v hv⟩
theorem Rd.drop (h : Rd sz f w (some ⟨b, o, none⟩) l) (i : Nat) : Rd sz f w (some ⟨b, o + i * sz, none⟩) (l.drop i) := ⟨by have := h.len; rw [List.length_drop]; omega, fun h0 => by
  rw [List.length_drop] at h0
  obtain ⟨b', o', e, hb, hc⟩ := h.at_ (by omega)
  cases e
  refine ⟨b, o + i * sz, rfl, hb, fun k hk j v hv => ?_⟩
  rw [List.length_drop] at hk
  rw [List.getElem_drop] at hv
  have := hc (i + k) (by omega) j v hv
  rwa [show o + (i + k) * sz + j = o + i * sz + k * sz + j by rw [Nat.add_mul]; omega] at this⟩
end
theorem own_cap {w : World} {B : Nat} {e : TypeId} {sz : Nat} {A : Option Addr} {n c : Nat} {xs : List Value} (h : w.ownsRow B e sz (.slice A n c) n xs) : n ≤ c ∧ ((A = none ∧ c = 0) ∨ ∃ b o, A = some ⟨b, o, none⟩) := by
  rcases h.2 with ⟨h1, h2⟩ | ⟨g, cap, cur, h1, -, -, h2, -⟩
  · cases h1; exact ⟨by omega, .inl ⟨rfl, rfl⟩⟩
  · cases h1; exact ⟨h2, .inr ⟨g, 0, rfl⟩⟩
/-- A is a plain address, or nil -/
class PlA (A : Option Addr) (c : Nat) : Prop where h : (A = none ∧ c = 0) ∨ ∃ b o, A = some ⟨b, o, none⟩
instance pla_some {b o c : Nat} : PlA (some ⟨b, o, none⟩) c := ⟨.inr ⟨b, o, rfl⟩⟩
instance pla_none : PlA none 0 := ⟨.inl ⟨rfl, rfl⟩⟩
end Go.Proofs.YtdhflckombkimaaDoor
