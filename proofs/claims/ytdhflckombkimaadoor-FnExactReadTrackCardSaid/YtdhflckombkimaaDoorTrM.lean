/-
  ShiftTrack of the specification. Conditions: those typed at each theorem.
-/
import Derived.Test.YtdhflckombkimaaDoorTrL
namespace Go.Proofs.YtdhflckombkimaaDoor
open Go.RowKit
theorem fz_block {w w' : World} {b o : Nat} (h : w'.heap[b]? = w.heap[b]?) : w'.frozen? ⟨b, o, none⟩ = w.frozen? ⟨b, o, none⟩ := by simp only [World.frozen?, h]
theorem But.frozen {A : Option Addr} {w w' : World} (h : But A w w') {b : Nat} [hb : LtW b w] (hne : ∀ o, A ≠ some ⟨b, o, none⟩) (o : Nat) : w'.frozen? ⟨b, o, none⟩ = w.frozen? ⟨b, o, none⟩ := fz_block (h.block b hb.h hne)
theorem ne_blk {a b o p : Nat} (h : a ≠ b) : some (⟨a, o, none⟩ : Addr) ≠ some ⟨b, p, none⟩ := fun e => h (congrArg Addr.block (Option.some.inj e))
section
set_option maxHeartbeats 3200000
set_option maxRecDepth 20000
end
end Go.Proofs.YtdhflckombkimaaDoor
