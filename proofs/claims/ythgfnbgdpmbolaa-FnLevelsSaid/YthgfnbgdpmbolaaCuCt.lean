/-
  ClashesOf: both. Conditions: those typed at each theorem.
-/
import Derived.Test.YthgfnbgdpmbolaaCuCs
import Derived.Test.YthgfnbgdpmbolaaAppZ
import Derived.Deep.Cut
import Derived.Deep.CutRange
namespace Go.Proofs.Ythgfnbgdpmbolaa
open Go.RowKit
section
set_option maxHeartbeats 3200000
set_option maxRecDepth 20000
/-- block T holds the numbers and the target of cue x -/
structure XC (T : Nat) (x : Cu) (W : World) : Prop where
  lt : T < W.heap.size
  c1 : W.cell? ⟨T, 1, none⟩ = some (.int .i64 x.t)
  c2 : W.cell? ⟨T, 2, none⟩ = some (.int .i64 x.ln)
  c3 : W.cell? ⟨T, 3, none⟩ = some (.string x.tg)
theorem XC.of_block {T : Nat} {x : Cu} {W W' : World} (h : XC T x W) (hb : W'.heap[T]? = W.heap[T]?) (hs : W.heap.size ≤ W'.heap.size) : XC T x W' :=
  ⟨Nat.lt_of_lt_of_le h.lt hs, (World.cell?_of_block hb).trans h.c1, (World.cell?_of_block hb).trans h.c2, (World.cell?_of_block hb).trans h.c3⟩
theorem XC.alloc {T : Nat} {x : Cu} {W : World} (h : XC T x W) (o : Obj) : XC T x (W.alloc o) := h.of_block ((Below.refl _ _).alloc (Nat.le_refl _) o |>.block T h.lt) (by simp)
end
end Go.Proofs.Ythgfnbgdpmbolaa
