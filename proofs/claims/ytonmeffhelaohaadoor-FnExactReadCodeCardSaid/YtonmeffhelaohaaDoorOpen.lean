/-
  What the arguments of a call are: each argument's reading opened into values and cells. Conditions: none beside the readings.
-/
import Derived.Test.YtonmeffhelaohaaDoorBase
import Derived.ProofKit
import Derived.OpenShut
import Derived.Carry
import Derived.Deep.Slices
import Derived.Deep.Fields
namespace Go.Proofs.YtonmeffhelaohaaDoor
open Go.RowKit Go.ChangeShapes Go.WideShapes Go.Deep
section
variable {H : Type} {enc : TypeId × Value → H} {P : Program} {w : World} {base : Nat} {spare : Nat → Bool} {held : Bool}

theorem int_bd {n : Int} (h : (Lit.int .i64 n).wf = true) : -9223372036854775808 ≤ n ∧ n ≤ 9223372036854775807 := by
  simp [Lit.wf, IntKind.min, IntKind.max, IntKind.signed, IntKind.bits] at h
  omega

/-- a struct by value, each field of one cell -/
theorem op_fields {r : Reach} {b0 : Nat} {t : TypeId} {fs : Array Field} {v : Value} {d : DataW H} {p : List MemPlace} (hs : P.underlying t = some (.struct fs)) (hone : oneCellFields P fs = true) (hC : P.cellsOf t = fs.size)
    (hv : Value.okWide P w r b0 t v) (h : DataW.Trod enc P w base spare held t v d p) :
    ∃ (cs : List Value) (n : Nat), v = .agg cs.toArray ∧ cs.length = fs.size ∧ ∀ (i : Nat) (f : Field), fs[i]? = some f → ∃ (u : Value) (y : DataW H × List MemPlace), cs[i]? = some u ∧ DataW.trod enc P w base spare held n f.type [u] = some y := by
  obtain ⟨cs, rfl, hsz⟩ := okWide_struct hs hv
  obtain ⟨fuel, hf⟩ := h
  obtain ⟨xs, n, _, _, hl, hlen, hg⟩ := DataW.trod_struct hs hf
  refine ⟨cs.toList, n, by simp, by simp; omega, fun i f hi => ?_⟩
  obtain ⟨ho, hk⟩ := hone_of hone i f hi
  have hif : i < fs.size := (Array.getElem?_eq_some_iff.1 hi).1
  have hic : i < cs.toList.length := by simp; omega
  have h1 := hg i f hi
  rw [ho, hk] at h1
  rw [show (Value.agg cs).cells.toList = cs.toList from rfl] at h1
  rw [show (cs.toList.drop i).take 1 = [cs.toList[i]] by rw [List.drop_eq_getElem_cons hic]; rfl] at h1
  have hx : i < xs.length := by omega
  exact ⟨_, _, List.getElem?_eq_getElem hic, h1.trans (List.getElem?_eq_getElem hx)⟩
def i64' (n : Int) : Prop := -9223372036854775808 ≤ n ∧ n ≤ 9223372036854775807
/-- a struct of five numbers by value -/
theorem op_code {r : Reach} {b0 : Nat} {t : TypeId} {f0 f1 f2 f3 f4 : Field} {v : Value} {d : DataW H} {p : List MemPlace} (hs : P.underlying t = some (.struct #[f0, f1, f2, f3, f4])) (hone : oneCellFields P #[f0, f1, f2, f3, f4] = true) (hC : P.cellsOf t = 5)
    (h0 : P.underlying f0.type = some (.int .i64)) (h1 : P.underlying f1.type = some (.int .i64)) (h2 : P.underlying f2.type = some (.int .i64)) (h3 : P.underlying f3.type = some (.int .i64)) (h4 : P.underlying f4.type = some (.int .i64))
    (hv : Value.okWide P w r b0 t v) (h : DataW.Trod enc P w base spare held t v d p) :
    ∃ a b c d e : Int, v = .agg #[.int .i64 a, .int .i64 b, .int .i64 c, .int .i64 d, .int .i64 e] ∧ i64' a ∧ i64' b ∧ i64' c ∧ i64' d ∧ i64' e := by
  obtain ⟨cs, n, rfl, hl, hg⟩ := op_fields hs hone hC hv h
  match cs, hl with
  | [c0, c1, c2, c3, c4], _ =>
    obtain ⟨u0, y0, e0, g0⟩ := hg 0 f0 rfl
    obtain ⟨u1, y1, e1, g1⟩ := hg 1 f1 rfl
    obtain ⟨u2, y2, e2, g2⟩ := hg 2 f2 rfl
    obtain ⟨u3, y3, e3, g3⟩ := hg 3 f3 rfl
    obtain ⟨u4, y4, e4, g4⟩ := hg 4 f4 rfl
    obtain ⟨n0, q0, _, w0⟩ := DataW.trod_int h0 g0
    obtain ⟨n1, q1, _, w1⟩ := DataW.trod_int h1 g1
    obtain ⟨n2, q2, _, w2⟩ := DataW.trod_int h2 g2
    obtain ⟨n3, q3, _, w3⟩ := DataW.trod_int h3 g3
    obtain ⟨n4, q4, _, w4⟩ := DataW.trod_int h4 g4
    simp at e0 e1 e2 e3 e4 q0 q1 q2 q3 q4
    subst e0 e1 e2 e3 e4 q0 q1 q2 q3 q4
    exact ⟨n0, n1, n2, n3, n4, rfl, int_bd w0, int_bd w1, int_bd w2, int_bd w3, int_bd w4⟩
theorem op_int {r : Reach} {b0 : Nat} {t : TypeId} {v : Value} {d : DataW H} {p : List MemPlace} (hs : P.underlying t = some (.int .i64)) (hv : Value.okWide P w r b0 t v) (h : DataW.Trod enc P w base spare held t v d p) :
    ∃ n : Int, v = .int .i64 n ∧ i64' n := by
  obtain ⟨n, rfl, _, _, hw⟩ := open_int hs hv h
  exact ⟨n, rfl, int_bd hw⟩
end
end Go.Proofs.YtonmeffhelaohaaDoor
