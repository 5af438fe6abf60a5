/-
  slices.Delete of elements of an own row. Conditions: those typed at each theorem.
-/
import Derived.Test.YtpapphhbogngcaaTrV
import Derived.Test.YtpapphhbogngcaaDelP
import Derived.Deep.RegionLaw
import Derived.Lib.SliceRun
namespace Go.Proofs.Ytpapphhbogngcaa
open Go.RowKit
section
set_option maxHeartbeats 3200000
set_option maxRecDepth 20000
theorem zeroElt (w : World) : (zeroValue 63).run Try.prog w = .ok (.agg #[.int .i64 0, .int .i64 0]) w := by rfl
theorem clear_one {n : Nat} (hn : n = 1) (w : World) (ty : TypeId) (b o c : Nat) (hc : ∀ j, j < 2 → (w.cell? ⟨b, o + j, none⟩).isSome = true) (hf : ∀ j, j < 2 → w.frozen? ⟨b, o + j, none⟩ = false) :
    (Builtin.clear_ #[54] ty #[.slice (some ⟨b, o, none⟩) n c]).run Try.prog w = .ok (.tuple #[]) (w.setCells b o [.int .i64 0, .int .i64 0]) := by
  subst hn
  have hst := run_storeCells_cells (P := Try.prog) b o [.int .i64 0, .int .i64 0] 0 w (by simpa using hc) (by simpa using hf) (by intro v hv; simp at hv; repeat (first | (subst hv; rfl) | (rcases hv with hv | hv)))
  simp only [Nat.add_zero] at hst
  have hz : (Builtin.zeroCells (Value.agg #[.int .i64 0, .int .i64 0]).cells 1).toList = [.int .i64 0, .int .i64 0] := by
    have h : (Value.agg #[.int .i64 0, .int .i64 0]).cells = #[.int .i64 0, .int .i64 0] := by first | rfl | kernel_rfl | simp [Value.cells]
    rw [h]; (first | rfl | kernel_rfl | simp [Builtin.zeroCells, List.range_succ])
  simp [Builtin.clear_, run_underlying Try.underlying54, hz, hst]
theorem wsetCells (b : Nat) : ∀ (vs : List Value) (p : Nat) (w : World), w.setCells b p vs = setCells w b p vs
  | [], _, _ => rfl
  | v :: vs, p, w => wsetCells b vs (p + 1) _
theorem up_setCells {W0 : World} {b : Nat} [hb : LeB W0.heap.size b] : ∀ (vs : List Value) (p : Nat) (w : World), Up W0 w → Up W0 (setCells w b p vs)
  | [], _, _, h => h
  | v :: vs, p, w, h => up_setCells vs (p + 1) _ (Up.set b p v)
theorem but_setCells {b : Nat} {w : World} : ∀ (vs : List Value) (p : Nat) (w' : World), But (some ⟨b, 0, none⟩) w w' → But (some ⟨b, 0, none⟩) w (setCells w' b p vs)
  | [], _, _, h => h
  | v :: vs, p, w', h => but_setCells vs (p + 1) _ (h.set p v)
end
end Go.Proofs.Ytpapphhbogngcaa
