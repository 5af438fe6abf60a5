/-
  ClashesOf: both. Conditions: those typed at each theorem.
  ClashesOf of the specification. Conditions: those typed at each theorem.
-/
import Derived.Test.YtdhflckombkimaaGreatDoorJ16
import Derived.Test.YtdhflckombkimaaGreatDoorJ11
import Derived.Deep.Cut
import Derived.Deep.CutRange
namespace Go.Proofs.YtdhflckombkimaaGreatDoor
open Go.RowKit
section
set_option maxHeartbeats 3200000
set_option maxRecDepth 20000
/-- block T holds the numbers and the target of cue x -/
structure XC (T : Nat) (x : Cu) (W : World) : Prop where
  lt : T < W.heap.size
  c1 : W.cell? ⟨T, 1, none⟩ = some (.int .i64 x.t)
  c2 : W.cell? ⟨T, 2, none⟩ = some (.int .i64 x.ln)
  c3 : W.cell? ⟨T, 3, none⟩ = some (.string x.tg)
theorem XC.of_block {T : Nat} {x : Cu} {W W' : World} (h : XC T x W) (hb : W'.heap[T]? = W.heap[T]?) (hs : W.heap.size ≤ W'.heap.size) : XC T x W' :=
  ⟨Nat.lt_of_lt_of_le h.lt hs, (World.cell?_of_block hb).trans h.c1, (World.cell?_of_block hb).trans h.c2, (World.cell?_of_block hb).trans h.c3⟩
theorem XC.alloc {T : Nat} {x : Cu} {W : World} (h : XC T x W) (o : Obj) : XC T x (W.alloc o) := h.of_block ((Below.refl _ _).alloc (Nat.le_refl _) o |>.block T h.lt) (by simp)
/-- what ClashesOf leaves -/
def ClPost (w : World) (V : List (List Int)) (E : Int) (e : Ending) (w' : World) : Prop := ∃ A c bs, e = .returned (.tuple #[.slice A bs.length c, .int .i64 E]) ∧ ∃ k : Ex w, w' = k.v ∧ PrR w.heap.size 44 (.slice A bs.length c) bs V k.v
theorem ClPost.get {w : World} {V : List (List Int)} {E : Int} {e : Ending} {w' : World} (h : ClPost w V E e w') : ∃ A c bs, e = .returned (.tuple #[.slice A V.length c, .int .i64 E]) ∧ bs.length = V.length ∧ ∃ k : Ex w, w' = k.v ∧ PrR w.heap.size 44 (.slice A V.length c) bs V k.v := by
  obtain ⟨A, c, bs, rfl, k, rfl, hp⟩ := h
  have := hp.len
  rw [this] at hp ⊢
  exact ⟨A, c, bs, rfl, this, k, rfl, hp⟩
theorem clPost_nil (w : World) (E : Int) (k : Ex w) : ClPost w [] E (.returned (.tuple #[.slice none 0 0, .int .i64 E])) k.v := ⟨none, 0, [], rfl, k, rfl, PrR.nil _ _ _⟩
end
end Go.Proofs.YtdhflckombkimaaGreatDoor
namespace Go.Proofs.YtdhflckombkimaaGreatDoor
open Go.RowKit
section
set_option maxHeartbeats 3200000
set_option maxRecDepth 20000
end
end Go.Proofs.YtdhflckombkimaaGreatDoor
