/-
  A slice of lines among the arguments. Conditions: none beside the reading.
-/
import Derived.Test.YtpapphhbogngcaaDoorOpenS
import Derived.Test.YtpapphhbogngcaaDoorScA
namespace Go.Proofs.YtpapphhbogngcaaDoor
open Go.RowKit Go.ChangeShapes Go.WideShapes Go.Deep
section
variable {H : Type} {enc : TypeId × Value → H} {P : Program} {w : World} {base : Nat} {spare : Nat → Bool} {held : Bool}
theorem op_lines {r : Reach} {b0 : Nat} {t e : TypeId} {f0 f1 f2 : Field} {v : Value} {d : DataW H} {p : List MemPlace} (ht : P.underlying t = some (.slice e)) (hs : P.underlying e = some (.struct #[f0, f1, f2])) (hone : oneCellFields P #[f0, f1, f2] = true) (hC : P.cellsOf e = 3)
    (h0 : P.underlying f0.type = some (.int .i64)) (h1 : P.underlying f1.type = some .string) (h2 : P.underlying f2.type = some (.int .i64))
    (hv : Value.okWide P w r b0 t v) (h : DataW.Trod enc P w base spare held t v d p) :
    ∃ (A : Option Addr) (l : List Ln) (c : Nat), v = .slice A l.length c ∧ Lns w A l := by
  obtain ⟨A, l, c, rfl, hr, hp⟩ := op_rd (f := Ln.cells) (p := Ln.ok) ht hC (by omega) (fun _ => rfl) (fun n cs y hd => by
    obtain ⟨hl, n', hg⟩ := dec_fields hs hone hC hd
    match cs, hl with
    | [c0, c1, c2], _ =>
      obtain ⟨u0, y0, e0, g0⟩ := hg 0 f0 rfl
      obtain ⟨u1, y1, e1, g1⟩ := hg 1 f1 rfl
      obtain ⟨u2, y2, e2, g2⟩ := hg 2 f2 rfl
      obtain ⟨n0, rfl, w0⟩ := dec_int h0 g0
      obtain ⟨n1, rfl, w1⟩ := dec_str h1 g1
      obtain ⟨n2, rfl, w2⟩ := dec_int h2 g2
      simp at e0 e1 e2
      subst e0 e1 e2
      exact ⟨⟨n0, n1, n2⟩, rfl, w0.1, w0.2, w1, w2.1, w2.2⟩) hv h
  exact ⟨A, l, c, rfl, { h := hp, toRd := hr }⟩
end
end Go.Proofs.YtpapphhbogngcaaDoor
