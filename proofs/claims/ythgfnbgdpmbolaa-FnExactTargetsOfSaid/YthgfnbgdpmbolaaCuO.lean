/-
  A slice of cues, a cue among the arguments. Conditions: none beside the reading.
-/
import Derived.Test.YthgfnbgdpmbolaaOpenS
import Derived.Test.YthgfnbgdpmbolaaCuA
namespace Go.Proofs.Ythgfnbgdpmbolaa
open Go.RowKit Go.ChangeShapes Go.WideShapes Go.Deep
section
variable {H : Type} {enc : TypeId × Value → H} {P : Program} {w : World} {base : Nat} {spare : Nat → Bool} {held : Bool}
theorem dec_cue {e : TypeId} {f0 f1 f2 f3 f4 f5 : Field} (hs : P.underlying e = some (.struct #[f0, f1, f2, f3, f4, f5])) (hone : oneCellFields P #[f0, f1, f2, f3, f4, f5] = true) (hC : P.cellsOf e = 6)
    (h0 : P.underlying f0.type = some .string) (h1 : P.underlying f1.type = some (.int .i64)) (h2 : P.underlying f2.type = some (.int .i64)) (h3 : P.underlying f3.type = some .string) (h4 : P.underlying f4.type = some (.int .i64)) (h5 : P.underlying f5.type = some (.int .i64))
    (n : Nat) (cs : List Value) (y : DataW H × List MemPlace) (hd : DataW.trod enc P w base spare held n e cs = some y) : ∃ x : Cu, cs = cC x ∧ x.ok := by
  obtain ⟨hl, n', hg⟩ := dec_fields hs hone hC hd
  match cs, hl with
  | [c0, c1, c2, c3, c4, c5], _ =>
    obtain ⟨u0, y0, e0, g0⟩ := hg 0 f0 rfl
    obtain ⟨u1, y1, e1, g1⟩ := hg 1 f1 rfl
    obtain ⟨u2, y2, e2, g2⟩ := hg 2 f2 rfl
    obtain ⟨u3, y3, e3, g3⟩ := hg 3 f3 rfl
    obtain ⟨u4, y4, e4, g4⟩ := hg 4 f4 rfl
    obtain ⟨u5, y5, e5, g5⟩ := hg 5 f5 rfl
    obtain ⟨n0, rfl, w0⟩ := dec_str h0 g0
    obtain ⟨n1, rfl, w1⟩ := dec_int h1 g1
    obtain ⟨n2, rfl, w2⟩ := dec_int h2 g2
    obtain ⟨n3, rfl, w3⟩ := dec_str h3 g3
    obtain ⟨n4, rfl, w4⟩ := dec_int h4 g4
    obtain ⟨n5, rfl, w5⟩ := dec_int h5 g5
    simp at e0 e1 e2 e3 e4 e5
    subst e0 e1 e2 e3 e4 e5
    exact ⟨⟨n0, n1, n2, n3, n4, n5⟩, rfl, w0, w3, w1, w2, w4, w5⟩
theorem op_cues {r : Reach} {b0 : Nat} {t e : TypeId} {f0 f1 f2 f3 f4 f5 : Field} {v : Value} {d : DataW H} {p : List MemPlace} (ht : P.underlying t = some (.slice e)) (hs : P.underlying e = some (.struct #[f0, f1, f2, f3, f4, f5])) (hone : oneCellFields P #[f0, f1, f2, f3, f4, f5] = true) (hC : P.cellsOf e = 6)
    (h0 : P.underlying f0.type = some .string) (h1 : P.underlying f1.type = some (.int .i64)) (h2 : P.underlying f2.type = some (.int .i64)) (h3 : P.underlying f3.type = some .string) (h4 : P.underlying f4.type = some (.int .i64)) (h5 : P.underlying f5.type = some (.int .i64))
    (hv : Value.okWide P w r b0 t v) (h : DataW.Trod enc P w base spare held t v d p) :
    ∃ (A : Option Addr) (l : List Cu) (c : Nat), v = .slice A l.length c ∧ COks l ∧ Rd 6 cC w A l := by
  obtain ⟨A, l, c, rfl, hr, hp⟩ := op_rd (f := cC) (p := Cu.ok) ht hC (by omega) (fun _ => rfl) (dec_cue hs hone hC h0 h1 h2 h3 h4 h5) hv h
  exact ⟨A, l, c, rfl, ⟨hp⟩, hr⟩
theorem op_cue {r : Reach} {b0 : Nat} {t : TypeId} {f0 f1 f2 f3 f4 f5 : Field} {v : Value} {d : DataW H} {p : List MemPlace} (hs : P.underlying t = some (.struct #[f0, f1, f2, f3, f4, f5])) (hone : oneCellFields P #[f0, f1, f2, f3, f4, f5] = true) (hC : P.cellsOf t = 6)
    (h0 : P.underlying f0.type = some .string) (h1 : P.underlying f1.type = some (.int .i64)) (h2 : P.underlying f2.type = some (.int .i64)) (h3 : P.underlying f3.type = some .string) (h4 : P.underlying f4.type = some (.int .i64)) (h5 : P.underlying f5.type = some (.int .i64))
    (hv : Value.okWide P w r b0 t v) (h : DataW.Trod enc P w base spare held t v d p) :
    ∃ x : Cu, v = .agg #[.string x.id, .int .i64 x.t, .int .i64 x.ln, .string x.tg, .int .i64 x.act, .int .i64 x.v] ∧ x.ok := by
  obtain ⟨cs, n, rfl, hl, hg⟩ := op_fields hs hone hC hv h
  match cs, hl with
  | [c0, c1, c2, c3, c4, c5], _ =>
    obtain ⟨u0, y0, e0, g0⟩ := hg 0 f0 rfl
    obtain ⟨u1, y1, e1, g1⟩ := hg 1 f1 rfl
    obtain ⟨u2, y2, e2, g2⟩ := hg 2 f2 rfl
    obtain ⟨u3, y3, e3, g3⟩ := hg 3 f3 rfl
    obtain ⟨u4, y4, e4, g4⟩ := hg 4 f4 rfl
    obtain ⟨u5, y5, e5, g5⟩ := hg 5 f5 rfl
    obtain ⟨n0, rfl, w0⟩ := dec_str h0 g0
    obtain ⟨n1, rfl, w1⟩ := dec_int h1 g1
    obtain ⟨n2, rfl, w2⟩ := dec_int h2 g2
    obtain ⟨n3, rfl, w3⟩ := dec_str h3 g3
    obtain ⟨n4, rfl, w4⟩ := dec_int h4 g4
    obtain ⟨n5, rfl, w5⟩ := dec_int h5 g5
    simp at e0 e1 e2 e3 e4 e5
    subst e0 e1 e2 e3 e4 e5
    exact ⟨⟨n0, n1, n2, n3, n4, n5⟩, rfl, w0, w3, w1, w2, w4, w5⟩
end
end Go.Proofs.Ythgfnbgdpmbolaa
