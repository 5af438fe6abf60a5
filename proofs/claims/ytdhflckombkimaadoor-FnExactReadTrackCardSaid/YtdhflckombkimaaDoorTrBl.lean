/-
  A track under construction: its block and the row of its keys. Conditions: those typed at each theorem.
-/
import Derived.Test.YtdhflckombkimaaDoorTrM
import Derived.Test.YtdhflckombkimaaDoorAppB
namespace Go.Proofs.YtdhflckombkimaaDoor
open Go.RowKit
/-- block T is a track of a name whose keys append has built -/
class Bld (B T : Nat) (nm : ByteArray) (v : Value) (l : List Ky) (W : World) : Prop where
  lt : LtW T W
  ge : B ≤ T
  c0 : W.cell? ⟨T, 0, none⟩ = some (.string nm)
  c1 : W.cell? ⟨T, 1, none⟩ = some v
  f0 : W.frozen? ⟨T, 0, none⟩ = false
  f1 : W.frozen? ⟨T, 1, none⟩ = false
  own : OwT B T 58 2 v l.length (l.flatMap kC) W
section
variable {B T : Nat} {nm : ByteArray} {v v' : Value} {l l' : List Ky} {W : World}
theorem Bld.block {W' : World} (h : Bld B T nm v l W) (hs : W.heap.size ≤ W'.heap.size) (hb : W'.heap[T]? = W.heap[T]?) (ho : OwT B T 58 2 v' l'.length (l'.flatMap kC) W') (hv : v' = v) : Bld B T nm v' l' W' := by
  subst hv
  exact ⟨⟨Nat.lt_of_lt_of_le h.lt.h hs⟩, h.ge, (World.cell?_of_block (a := ⟨T, 0, none⟩) hb).trans h.c0, (World.cell?_of_block (a := ⟨T, 1, none⟩) hb).trans h.c1, (fz_block hb).trans h.f0, (fz_block hb).trans h.f1, ho⟩
instance (priority := 900) Bld.ex [h : Bld B T nm v l W] (k : Ex W) : Bld B T nm v l k.v := h.block k.size (k.block h.lt.h) (haveI := h.own; inferInstance) rfl
instance (priority := 900) Bld.alloc [h : Bld B T nm v l W] (o : Obj) : Bld B T nm v l (W.alloc o) := h.block (by simp) (Below.heap_alloc _ _ _ h.lt.h) (haveI := h.own; inferInstance) rfl
instance (priority := 900) Bld.drew [h : Bld B T nm v l W] : Bld B T nm v l W.drew := h.block (Nat.le_refl _) rfl (haveI := h.own; inferInstance) rfl
theorem Bld.app (h : Bld B T nm v l W) {k : Exb B W} (hA : Apd B 58 2 v v' W k l'.length (l'.flatMap kC)) : Bld B T nm v' l' (k.v.setCell ⟨T, 1, none⟩ v') := by
  have hb := hA.blk h.own h.lt.h
  have ho : OwT B T 58 2 v' l'.length (l'.flatMap kC) k.v := hA.owt h.own h.lt.h
  have hlt : T < k.v.heap.size := Nat.lt_of_lt_of_le h.lt.h k.h.size
  refine ⟨⟨by rw [size_setCell']; exact hlt⟩, h.ge, ?_, ?_, ?_, ?_, inferInstance⟩
  · rw [cell_nbI _ _ _ _ _ (by omega)]
    exact (World.cell?_of_block (a := ⟨T, 0, none⟩) hb).trans h.c0
  · rw [cell_setI, (World.cell?_of_block (a := ⟨T, 1, none⟩) hb).trans h.c1]; rfl
  · rw [frozen_setI]; exact (fz_block hb).trans h.f0
  · rw [frozen_setI]; exact (fz_block hb).trans h.f1
end
theorem row_oneB (w : World) (B : Nat) (hB : B ≤ w.heap.size) (e : TypeId) (x : Ky) : (w.alloc (.cells #[.int .i64 x.t, .int .i64 x.v] e)).ownsRow B e 2 (.slice (some ⟨w.heap.size, 0, none⟩) 1 1) [x].length ([x].flatMap kC) :=
  ⟨by simp [kC], .inr ⟨w.heap.size, 1, #[.int .i64 x.t, .int .i64 x.v], rfl, hB, heap_alloc_new w _, Nat.le_refl _, by simp [maxLen], rfl, by simp [kC]⟩⟩
end Go.Proofs.YtdhflckombkimaaDoor
