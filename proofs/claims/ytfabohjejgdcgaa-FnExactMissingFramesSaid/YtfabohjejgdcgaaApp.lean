/-
  append of one element to a row of the call's own. Conditions: those typed.
-/
import Derived.Test.YtfabohjejgdcgaaRow
namespace Go.Proofs.Ytfabohjejgdcgaa
open Go.RowKit
variable {α : Type}
theorem ownsRow_ex {w : World} {B : Nat} {e : TypeId} {sz : Nat} {v : Value} {n : Nat} {xs : List Value} (h : w.ownsRow B e sz v n xs) (k : Ex w) : k.v.ownsRow B e sz v n xs := by
  refine ⟨h.1, ?_⟩
  rcases h.2 with hn | ⟨g, cap, cur, rfl, hb, hgg, rest⟩
  · exact .inl hn
  · exact .inr ⟨g, cap, cur, rfl, hb, (k.block (Array.getElem?_eq_some_iff.1 hgg).1).trans hgg, rest⟩
/-- append of one element, by its cells -/
theorem wpList_app (f : α → List Value) {P : Program} (w : World) {ops : Array Oper} {rest : List Oper} {o : Oper} {a : Act} {Q : Exit → Act → World → Prop}
    (hg : o.guard = none) (s x : Operand) (t : TypeId) (hop : o.op = .call { callee := .builtin .append, args := #[s, x], argTypes := #[t, t] })
    (W0 : World) [hu : Up W0 w] (e : TypeId) (z : Value) (sz bytes : Nat) (ht : P.underlying t = some (.slice e)) (hinfo : (P.info? e).map (fun i => (i.zero, i.size, i.bytes)) = some (some z, sz, bytes)) (hzs : z.cells.size = sz) (hsz : 0 < sz)
    (hf : ∀ x, (f x).length = sz ∧ ∀ u ∈ f x, u.oneCell' = true)
    (v : Value) (l : List α) (hs : a.eval s = v) (hown : w.ownsRow W0.heap.size e sz v l.length (l.flatMap f))
    (y : α) (b c : Nat) (hx : a.eval x = .slice (some ⟨b, 0, none⟩) 1 c) (hcell : ∀ j u, (f y)[j]? = some u → w.cell? ⟨b, j, none⟩ = some u)
    (hbytes : (l.length + 1) * bytes ≤ 140737488355328) (hl : l.length ≤ 1000000000000)
    (h : ∀ (v' : Value) (k : Ex W0), k.v.ownsRow W0.heap.size e sz v' (l ++ [y]).length ((l ++ [y]).flatMap f) → wpList P ops Q rest (a.put o.dst v') k.v) :
    wpList P ops Q (o :: rest) a w := by
  obtain ⟨i, hi, hz, hs', hb'⟩ := info_parts hinfo
  refine wpList_append_own w hg s x t hop W0.heap.size e i z sz bytes ht hi hz hs' hb' hzs hsz v l.length (l.flatMap f) hs hown ⟨b, 0, none⟩ 1 c (f y) hx (by rw [(hf y).1]; omega) (fun j u hj => ?_) (hf y).2 (by simp only [maxLen]; omega) hbytes hu.h.size ?_
  · rw [show (⟨b, 0, none⟩ : Addr).add j = ⟨b, 0 + j, none⟩ from Go.WideShapes.add_plain .., Nat.zero_add]; exact hcell j u hj
  · intro v' w' h1 h2 _
    have hB : Below W0.heap.size W0 w' := hu.h.grown h2 hu.h.size (fun k hk => (hown.lt k hk).1)
    refine h v' ⟨w', hB⟩ ?_
    simpa using h1
/-- append's result, as a row of the call's own -/
theorem own_of_row {w0 w : World} {e : TypeId} {sz : Nat} {f : α → List Value} {v : Value} {l : List α} (hf : ∀ x, (f x).length = sz) (h : w.ownsRow w0.heap.size e sz v l.length (l.flatMap f)) :
    ∃ A c, v = .slice A l.length c ∧ Ow sz f w A l ∧ Fr w0 A := by
  obtain ⟨A, c, h1, h2, h3⟩ := Ow.of_row hf h
  exact ⟨A, c, h1, h2, ⟨h3⟩⟩
theorem row_nil (w : World) (B : Nat) (e : TypeId) (sz : Nat) (f : α → List Value) : w.ownsRow B e sz (.slice none 0 0) ([] : List α).length (([] : List α).flatMap f) := World.ownsRow_nil w B e sz
theorem row_made (w : World) (B : Nat) (hB : B ≤ w.heap.size) (e : TypeId) (sz : Nat) (f : α → List Value) : (w.alloc (.cells #[] e)).ownsRow B e sz (.slice (some ⟨w.heap.size, 0, none⟩) 0 0) ([] : List α).length (([] : List α).flatMap f) :=
  World.ownsRow_made w #[] 0 hB (by simp [maxLen]) (by simp)
theorem cell1 (w : World) (v : Value) (t : TypeId) (i : Nat) (u : Value) (h : ([v] : List Value)[i]? = some u) : (w.alloc (.cells #[v] t)).cell? ⟨w.heap.size, i, none⟩ = some u := by
  cases i with
  | zero => simp at h; subst h; simp [go_sem]
  | succ i => simp at h
end Go.Proofs.Ytfabohjejgdcgaa
