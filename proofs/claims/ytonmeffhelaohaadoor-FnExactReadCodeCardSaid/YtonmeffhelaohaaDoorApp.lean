/-
  append of one element to a row of the call's own. Conditions: those typed.
-/
import Derived.Test.YtonmeffhelaohaaDoorRow
namespace Go.Proofs.YtonmeffhelaohaaDoor
open Go.RowKit
variable {α : Type}
theorem ownsRow_ex {w : World} {B : Nat} {e : TypeId} {sz : Nat} {v : Value} {n : Nat} {xs : List Value} (h : w.ownsRow B e sz v n xs) (k : Ex w) : k.v.ownsRow B e sz v n xs := by
  refine ⟨h.1, ?_⟩
  rcases h.2 with hn | ⟨g, cap, cur, rfl, hb, hgg, rest⟩
  · exact .inl hn
  · exact .inr ⟨g, cap, cur, rfl, hb, (k.block (Array.getElem?_eq_some_iff.1 hgg).1).trans hgg, rest⟩
/-- append of one element, by its cells -/
theorem wpList_app (f : α → List Value) {P : Program} (w : World) {ops : Array Oper} {rest : List Oper} {o : Oper} {a : Act} {Q : Exit → Act → World → Prop}
    (hg : o.guard = none) (s x : Operand) (t : TypeId) (hop : o.op = .call { callee := .builtin .append, args := #[s, x], argTypes := #[t, t] })
    (W0 : World) [hu : Up W0 w] (e : TypeId) (z : Value) (sz bytes : Nat) (ht : P.underlying t = some (.slice e)) (hinfo : (P.info? e).map (fun i => (i.zero, i.size, i.bytes)) = some (some z, sz, bytes)) (hzs : z.cells.size = sz) (hsz : 0 < sz)
    (hf : ∀ x, (f x).length = sz ∧ ∀ u ∈ f x, u.oneCell' = true)
    (v : Value) (l : List α) (hs : a.eval s = v) (hown : w.ownsRow W0.heap.size e sz v l.length (l.flatMap f))
    (y : α) (b c : Nat) (hx : a.eval x = .slice (some ⟨b, 0, none⟩) 1 c) (hcell : ∀ j u, (f y)[j]? = some u → w.cell? ⟨b, j, none⟩ = some u)
    (hbytes : (l.length + 1) * bytes ≤ 140737488355328) (hl : l.length ≤ 1000000000000)
    (h : ∀ (v' : Value) (k : Ex W0), k.v.ownsRow W0.heap.size e sz v' (l ++ [y]).length ((l ++ [y]).flatMap f) → wpList P ops Q rest (a.put o.dst v') k.v) :
    wpList P ops Q (o :: rest) a w := by
  obtain ⟨i, hi, hz, hs', hb'⟩ := info_parts hinfo
  refine wpList_append_own w hg s x t hop W0.heap.size e i z sz bytes ht hi hz hs' hb' hzs hsz v l.length (l.flatMap f) hs hown ⟨b, 0, none⟩ 1 c (f y) hx (by rw [(hf y).1]; omega) (fun j u hj => ?_) (hf y).2 (by simp only [maxLen]; omega) hbytes hu.h.size ?_
  · rw [show (⟨b, 0, none⟩ : Addr).add j = ⟨b, 0 + j, none⟩ from Go.WideShapes.add_plain .., Nat.zero_add]; exact hcell j u hj
  · intro v' w' h1 h2 _
    have hB : Below W0.heap.size W0 w' := hu.h.grown h2 hu.h.size (fun k hk => (hown.lt k hk).1)
    refine h v' ⟨w', hB⟩ ?_
    simpa using h1
/-- append's result, as a row of the call's own -/
theorem own_of_row {w0 w : World} {e : TypeId} {sz : Nat} {f : α → List Value} {v : Value} {l : List α} (hf : ∀ x, (f x).length = sz) (h : w.ownsRow w0.heap.size e sz v l.length (l.flatMap f)) :
    ∃ A c, v = .slice A l.length c ∧ Ow sz f w A l ∧ Fr w0 A := by
  obtain ⟨A, c, h1, h2, h3⟩ := Ow.of_row hf h
  exact ⟨A, c, h1, h2, ⟨h3⟩⟩
theorem row_nil (w : World) (B : Nat) (e : TypeId) (sz : Nat) (f : α → List Value) : w.ownsRow B e sz (.slice none 0 0) ([] : List α).length (([] : List α).flatMap f) := World.ownsRow_nil w B e sz
theorem row_made (w : World) (B : Nat) (hB : B ≤ w.heap.size) (e : TypeId) (sz : Nat) (f : α → List Value) : (w.alloc (.cells #[] e)).ownsRow B e sz (.slice (some ⟨w.heap.size, 0, none⟩) 0 0) ([] : List α).length (([] : List α).flatMap f) :=
  World.ownsRow_made w #[] 0 hB (by simp [maxLen]) (by simp)
theorem cell1 (w : World) (v : Value) (t : TypeId) (i : Nat) (u : Value) (h : ([v] : List Value)[i]? = some u) : (w.alloc (.cells #[v] t)).cell? ⟨w.heap.size, i, none⟩ = some u := by
  cases i with
  | zero => simp at h; subst h; simp [go_sem]
  | succ i => simp at h
/-- a row of N cells of the call's own whose first elements are l -/
def PFill (e : TypeId) (sz : Nat) (f : α → List Value) (w : World) (b N : Nat) (l : List α) : Prop :=
  ∃ F : Nat → Value, w.rowIs b e N F ∧ ∀ (k : Nat) (h : k < l.length) (i : Nat) (v : Value), (f l[k])[i]? = some v → i < sz → F (k * sz + i) = v
namespace PFill
variable {e : TypeId} {sz : Nat} {f : α → List Value} {w : World} {b N : Nat} {l : List α}
theorem start {F : Nat → Value} (h : w.rowIs b e N F) : PFill e sz f w b N [] := ⟨F, h, fun _ h => absurd h (by simp)⟩
theorem lt (h : PFill e sz f w b N l) : LtW b w := ⟨by obtain ⟨F, hr, _⟩ := h; exact hr.lt⟩
theorem ex (h : PFill e sz f w b N l) (k : Ex w) : PFill e sz f k.v b N l := by
  have := h.lt.h
  obtain ⟨F, hr, hc⟩ := h
  exact ⟨F, hr.of_block (k.block this), hc⟩
theorem step (h : PFill e sz f w b N l) (x : α) (hl : (f x).length = sz) : PFill e sz f (setCells w b (l.length * sz) (f x)) b N (l ++ [x]) := by
  obtain ⟨F, hr, hc⟩ := h
  obtain ⟨G, h1, h2, h3⟩ := rowIs_setCells (f x) w (l.length * sz) F hr
  refine ⟨G, h1, fun k hk i v hv hi => ?_⟩
  rcases Nat.lt_or_ge k l.length with h | h
  · have := Nat.mul_le_mul_right sz (Nat.succ_le_of_lt h)
    rw [Nat.succ_mul] at this
    rw [h2 _ (.inl (by omega))]
    exact hc k h i v (by rwa [List.getElem_append_left h] at hv) hi
  · obtain rfl : k = l.length := by simp at hk; omega
    rw [List.getElem_append_right (by omega)] at hv
    exact h3 i v (by simpa using hv)
theorem step1 (h : PFill e 1 f w b N l) (x : α) {v : Value} (hl : f x = [v]) : PFill e 1 f (w.setCell ⟨b, l.length, none⟩ v) b N (l ++ [x]) := by
  have := h.step x (by rw [hl]; rfl)
  rw [hl, Nat.mul_one] at this
  exact this
theorem done (h : PFill e sz f w b N l) (hN : l.length * sz ≤ N) (hn : l.length ≤ 9223372036854775807) (hf : ∀ x, (f x).length = sz) : Wr sz f w b l := by
  obtain ⟨F, hr, hc⟩ := h
  exact ⟨hn, ⟨e, N, F, hN, hr, fun k hk j v hv hj => hc k hk j v hv hj⟩, fun x _ => hf x⟩
theorem cell (h : PFill e sz f w b N l) (i : Nat) (hi : i < N) : ∃ v, w.cell? ⟨b, i, none⟩ = some v ∧ w.frozen? ⟨b, i, none⟩ = false := by
  obtain ⟨F, hr, _⟩ := h
  exact ⟨_, hr.cell hi, hr.frozen i⟩
end PFill
end Go.Proofs.YtonmeffhelaohaaDoor
