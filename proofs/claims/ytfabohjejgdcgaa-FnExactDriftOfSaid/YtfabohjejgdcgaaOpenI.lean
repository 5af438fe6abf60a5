/-
  A slice of numbers among the arguments. Conditions: none beside the reading.
-/
import Derived.Test.YtfabohjejgdcgaaOpenS
import Derived.Test.YtfabohjejgdcgaaInts
import Derived.Test.YtfabohjejgdcgaaIss
namespace Go.Proofs.Ytfabohjejgdcgaa
open Go.RowKit Go.ChangeShapes Go.WideShapes Go.Deep
section
variable {H : Type} {enc : TypeId × Value → H} {P : Program} {w : World} {base : Nat} {spare : Nat → Bool} {held : Bool}
theorem op_ints {r : Reach} {b0 : Nat} {t e : TypeId} {v : Value} {d : DataW H} {p : List MemPlace} (ht : P.underlying t = some (.slice e)) (hs : P.underlying e = some (.int .i64)) (hC : P.cellsOf e = 1)
    (hv : Value.okWide P w r b0 t v) (h : DataW.Trod enc P w base spare held t v d p) :
    ∃ (A : Option Addr) (l : List Int) (c : Nat), v = .slice A l.length c ∧ Rd 1 iC w A l := by
  obtain ⟨A, l, c, rfl, hr, hp⟩ := op_rd (f := iC) (p := i64') ht hC (by omega) (fun _ => rfl) (fun n cs y hd => by
    obtain ⟨m, q, _, hw⟩ := DataW.trod_int hs hd
    exact ⟨m, q, int_bd hw⟩) hv h
  exact ⟨A, l, c, rfl, hr⟩
theorem op_intss {r : Reach} {b0 : Nat} {t e e2 : TypeId} {v : Value} {d : DataW H} {p : List MemPlace} (ht : P.underlying t = some (.slice e)) (he : P.underlying e = some (.slice e2)) (hs : P.underlying e2 = some (.int .i64)) (hC : P.cellsOf e = 1) (hC2 : P.cellsOf e2 = 1)
    (hv : Value.okWide P w r b0 t v) (h : DataW.Trod enc P w base spare held t v d p) :
    ∃ (A : Option Addr) (V : List (List Int)) (c : Nat), v = .slice A V.length c ∧ Iss w A V := by
  obtain ⟨A, l, c, rfl, hr, hp⟩ := op_rd (f := irC) (p := fun x => Rd 1 iC w x.A x.l) ht hC (by omega) (fun _ => rfl) (fun n cs y hd => by
    obtain ⟨A, l, c, rfl, hr, -⟩ := dec_rd (f := iC) (p := i64') he hC2 (by omega) (fun _ => rfl) (fun n cs y hd => by
      obtain ⟨m, q, _, hw⟩ := DataW.trod_int hs hd
      exact ⟨m, q, int_bd hw⟩) hd
    exact ⟨⟨A, c, l⟩, rfl, hr⟩) hv h
  exact ⟨A, l.map IR.l, c, by simp, Iss.of hr hp⟩
end
end Go.Proofs.Ytfabohjejgdcgaa
