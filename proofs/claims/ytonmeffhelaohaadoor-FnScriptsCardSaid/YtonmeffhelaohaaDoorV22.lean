/-
  Bytes among the arguments: the reading opened. Conditions: none beside the readings.
-/
import Derived.Test.YtonmeffhelaohaaDoorV20
import Derived.Test.YtonmeffhelaohaaDoorV12
namespace Go.Proofs.YtonmeffhelaohaaDoor
open Go.RowKit Go.ChangeShapes Go.WideShapes Go.Deep
section
variable {H : Type} {enc : TypeId × Value → H} {P : Program} {w : World} {base : Nat} {spare : Nat → Bool} {held : Bool}
/-- bytes -/
class By (l : List Int) : Prop where h : ∀ x ∈ l, 0 ≤ x ∧ x ≤ 255
theorem op_by {r : Reach} {b0 : Nat} {t e : TypeId} {v : Value} {d : DataW H} {p : List MemPlace} (ht : P.underlying t = some (.slice e)) (hs : P.underlying e = some (.int .u8)) (hC : P.cellsOf e = 1)
    (hv : Value.okWide P w r b0 t v) (h : DataW.Trod enc P w base spare held t v d p) :
    ∃ (A : Option Addr) (l : List Int) (c : Nat), v = .slice A l.length c ∧ Rd 1 byC w A l ∧ By l := by
  obtain ⟨A, l, c, rfl, hr, hp⟩ := op_rd (f := byC) (p := fun x => 0 ≤ x ∧ x ≤ 255) ht hC (by omega) (fun _ => rfl) (fun n cs y hd => by
    obtain ⟨m, q, _, hw⟩ := DataW.trod_int hs hd
    refine ⟨m, q, ?_⟩
    simp [Lit.wf, IntKind.min, IntKind.max, IntKind.signed, IntKind.bits] at hw
    omega) hv h
  exact ⟨A, l, c, rfl, hr, ⟨hp⟩⟩
end
end Go.Proofs.YtonmeffhelaohaaDoor
