/-
  slices.Insert of one element into a row of the call's own. Conditions: those typed at each theorem.
-/
import Derived.Test.YthgfnbgdpmbolaaCuE
import Derived.Test.YthgfnbgdpmbolaaInsP
import Derived.Test.YthgfnbgdpmbolaaCuDel
import Derived.Deep.RegionLaw
import Derived.Lib.SliceRun
import Derived.Lib.Overlaps
import Derived.Lib.AppendZerosOnto
import Derived.Laws.Externs
import Derived.Laws.NewBlocks
namespace Go.Proofs.Ythgfnbgdpmbolaa
open Go.RowKit
section
set_option maxHeartbeats 3200000
set_option maxRecDepth 20000
/-- what Insert leaves -/
def InsPost (W0 : World) (n : Nat) (L : List Cu) (e : Ending) (w' : World) : Prop := ∃ g c', e = .returned (.slice (some ⟨g, 0, none⟩) (n + 1) c') ∧ ∃ j : Ex W0, w' = j.v ∧ Wr 6 cC j.v g L ∧ LeB W0.heap.size g
theorem oneCu (x : Cu) : ∀ v ∈ cC x, v.oneCell' = true := by
  intro v hv
  simp [cC] at hv
  repeat (first | (subst hv; rfl) | (rcases hv with hv | hv))
theorem onesCu (l : List Cu) : ∀ v ∈ l.flatMap cC, v.oneCell' = true := by
  intro v hv
  obtain ⟨x, _, hx⟩ := List.mem_flatMap.1 hv
  exact oneCu x v hx
theorem drew_setCellsH (b : Nat) : ∀ (vs : List Value) (o : Nat) (w : World) (g : Nat), (w.drew.setCells b o vs).heap[g]? = (w.setCells b o vs).heap[g]?
  | [], _, _, _ => rfl
  | v :: r, o, w, g => drew_setCellsH b r (o + 1) (w.setCell ⟨b, o, none⟩ v) g
theorem setCells_drewW {α : Type} {sz : Nat} {f : α → List Value} {b p q g : Nat} {vs us : List Value} {w : World} {l : List α} (h : Wr sz f (setCells (setCells w b p vs) b q us) g l) : Wr sz f (setCells (setCells w b p vs).drew b q us) g l := by
  refine h.congr ?_
  rw [← wsetCells, ← wsetCells, ← wsetCells]
  have := drew_setCellsH b us q (w.setCells b p vs) g
  exact this
end
end Go.Proofs.Ythgfnbgdpmbolaa
