/-
  append of one element as one step of a region that draws, telling the block of its result. Conditions: those typed.
-/
import Derived.Test.YtonmeffhelaohaaDoorAppZ
namespace Go.Proofs.YtonmeffhelaohaaDoor
open Go.RowKit
variable {α : Type}
theorem step_appZ (f : α → List Value) {P : Program} {ops : Array Oper} {o : Oper} {a : Act} {w : World} {K : Act → World → Prop} {Q : Exit → Act → World → Prop} {E : Prop}
    (hgd : o.guard = none) (s x : Operand) (t : TypeId) (ho : o.op = .call { callee := .builtin .append, args := #[s, x], argTypes := #[t, t] })
    (B : Nat) (hB : B ≤ w.heap.size) (e : TypeId) (z : Value) (sz bytes : Nat) (ht : P.underlying t = some (.slice e)) (hinfo : (P.info? e).map (fun i => (i.zero, i.size, i.bytes)) = some (some z, sz, bytes)) (hzs : z.cells.size = sz) (hsz : 0 < sz)
    (hf : ∀ x, (f x).length = sz ∧ ∀ u ∈ f x, u.oneCell' = true)
    (v : Value) (l : List α) (hs : a.eval s = v) (hown : w.ownsRow B e sz v l.length (l.flatMap f))
    (y : α) (b c : Nat) (hx : a.eval x = .slice (some ⟨b, 0, none⟩) 1 c) (hcell : ∀ j u, (f y)[j]? = some u → w.cell? ⟨b, j, none⟩ = some u)
    (hbytes : (l.length + 1) * bytes ≤ 140737488355328) (hl : l.length ≤ 1000000000000)
    (h : ∀ (v' : Value) (k : Exb B w), Apd B e sz v v' w k (l ++ [y]).length ((l ++ [y]).flatMap f) → K (a.put o.dst v') k.v) :
    if Region.wanted o (yielded ops a.tmps) = true then Oper.wp P o a w K Q else E := by
  have hw : Region.wanted o (yielded ops a.tmps) = true := by simp [Region.wanted, hgd]
  rw [if_pos hw]
  obtain ⟨i, hi, hz, hs', hb'⟩ := info_parts hinfo
  obtain ⟨v', w', hr, h1, h2, h3⟩ := run_app_where (P := P) w B t o.type e i z sz bytes ht hi hz hs' hb' hzs hsz v l.length (l.flatMap f) hown ⟨b, 0, none⟩ 1 c (f y) (by rw [(hf y).1]; omega)
    (fun j u hj => by rw [show (⟨b, 0, none⟩ : Addr).add j = ⟨b, 0 + j, none⟩ from Go.WideShapes.add_plain .., Nat.zero_add]; exact hcell j u hj) (hf y).2 (by simp only [maxLen]; omega) hbytes hB
  unfold Oper.wp execOp
  simp only [ho, resolve, invoke, builtin, Sem.run_bind, Sem.run_pure, Result.andThen_ok, List.map_toArray, List.map_cons, List.map_nil, hs, hx, hr]
  exact h v' ⟨w', (Below.refl _ _).grown h2 hB (fun k hk => (hown.lt k hk).1)⟩ ⟨by simpa using h1, fun x hx hne => h2.block x hx (fun e => hne e.symm), h3⟩
/-- v is a row that append has built from block B on, and not in block T -/
class OwT (B T : Nat) (e : TypeId) (sz : Nat) (v : Value) (n : Nat) (xs : List Value) (w : World) : Prop where
  own : w.ownsRow B e sz v n xs
  ne : v.ownBlock ≠ some T
theorem ownsRow_congr {w w' : World} {B : Nat} {e : TypeId} {sz : Nat} {v : Value} {n : Nat} {xs : List Value} (h : w.ownsRow B e sz v n xs) (hb : ∀ g, v.ownBlock = some g → w'.heap[g]? = w.heap[g]?) : w'.ownsRow B e sz v n xs := by
  refine ⟨h.1, ?_⟩
  rcases h.2 with hn | ⟨g, cap, cur, rfl, hg, hgg, rest⟩
  · exact .inl hn
  · exact .inr ⟨g, cap, cur, rfl, hg, (hb g rfl).trans hgg, rest⟩
section
variable {B T : Nat} {e : TypeId} {sz : Nat} {v v' : Value} {n m : Nat} {xs ys : List Value} {w : World}
instance (priority := 900) owt_alloc [h : OwT B T e sz v n xs w] (o : Obj) : OwT B T e sz v n xs (w.alloc o) := ⟨h.own.alloc o, h.ne⟩
instance (priority := 900) owt_ex [h : OwT B T e sz v n xs w] (k : Ex w) : OwT B T e sz v n xs k.v := ⟨ownsRow_ex h.own k, h.ne⟩
instance (priority := 900) owt_drew [h : OwT B T e sz v n xs w] : OwT B T e sz v n xs w.drew := ⟨h.own, h.ne⟩
instance (priority := 900) owt_set [h : OwT B T e sz v n xs w] (o : Nat) (u : Value) : OwT B T e sz v n xs (w.setCell ⟨T, o, none⟩ u) :=
  ⟨ownsRow_congr h.own fun g hg => Below.heap_setCell _ _ _ _ (fun e => h.ne (by rw [hg, e])), h.ne⟩
instance (priority := 800) owt_setB {a : Nat} [h : OwT B T e sz v n xs w] [ha : LtN a B] (o : Nat) (u : Value) : OwT B T e sz v n xs (w.setCell ⟨a, o, none⟩ u) :=
  ⟨ownsRow_block h.own fun g hg _ => Below.heap_setCell _ _ _ _ (by have := ha.h; show g ≠ a; omega), h.ne⟩
theorem owT_h [h : OwT B T e sz v n xs w] : w.ownsRow B e sz v n xs := h.own
theorem Apd.owt {k : Exb B w} (h : Apd B e sz v v' w k m ys) (hw : OwT B T e sz v n xs w) (ht : T < w.heap.size) : OwT B T e sz v' m ys k.v := ⟨h.own, h.ne ht hw.ne⟩
/-- block T stays as it was -/
theorem Apd.blk {k : Exb B w} (h : Apd B e sz v v' w k m ys) (hw : OwT B T e sz v n xs w) (ht : T < w.heap.size) : k.v.heap[T]? = w.heap[T]? := h.keep T ht hw.ne
/-- a new row, and a block laid behind it -/
theorem OwT.new {j : World} (h : j.ownsRow B e sz v n xs) (hT : j.heap.size ≤ T) (hw : w.ownsRow B e sz v n xs) : OwT B T e sz v n xs w := ⟨hw, own_ne h hT⟩
end
/-- the cells of a flat list -/
theorem flat_at {α : Type} {sz : Nat} {f : α → List Value} (hf : ∀ x, (f x).length = sz) : ∀ (l : List α) (k : Nat) (h : k < l.length) (j : Nat), j < sz → (l.flatMap f)[k * sz + j]? = (f l[k])[j]?
  | [], k, h, _, _ => absurd h (by simp)
  | x :: l, 0, _, j, hj => by
    rw [List.flatMap_cons, Nat.zero_mul, Nat.zero_add, List.getElem?_append_left (by rw [hf]; exact hj)]
    rfl
  | x :: l, k + 1, h, j, hj => by
    have hk : k < l.length := by simpa using h
    rw [List.flatMap_cons, List.getElem?_append_right (by rw [hf, Nat.succ_mul]; omega), hf, show (k + 1) * sz + j - sz = k * sz + j by rw [Nat.succ_mul]; omega, flat_at hf l k hk j hj]
    rfl
/-- a row all of whose cells are those of a list -/
theorem owns_full {α : Type} {sz : Nat} {f : α → List Value} (hf : ∀ x, (f x).length = sz) (hsz : 0 < sz) {w : World} {B g : Nat} {e : TypeId} {N : Nat} {F : Nat → Value} (l : List α) (h : w.rowIs g e N F) (hB : B ≤ g) (hN : N = l.length * sz) (hm : l.length ≤ maxLen)
    (hc : ∀ (k : Nat) (hk : k < l.length) (i : Nat) (v : Value), (f l[k])[i]? = some v → i < sz → F (k * sz + i) = v) : w.ownsRow B e sz (.slice (some ⟨g, 0, none⟩) l.length l.length) l.length (l.flatMap f) := by
  obtain ⟨c, hb, hs, hc'⟩ := h
  refine ⟨flat_len hf l, .inr ⟨g, l.length, c, rfl, hB, hb, Nat.le_refl _, hm, by rw [hs, hN], ?_⟩⟩
  rw [List.take_of_length_le (by simp [hs, hN])]
  apply List.ext_getElem?
  intro t
  by_cases ht : t < N
  · rw [Array.getElem?_toList, hc' t ht]
    have hk : t / sz < l.length := by rw [Nat.div_lt_iff_lt_mul hsz]; omega
    have hi : t % sz < sz := Nat.mod_lt _ hsz
    have he : t / sz * sz + t % sz = t := by rw [Nat.mul_comm]; exact Nat.div_add_mod ..
    have h1 := flat_at hf l (t / sz) hk (t % sz) hi
    rw [he] at h1
    rw [h1]
    have h2 : (f l[t / sz])[t % sz]? = some ((f l[t / sz])[t % sz]'(by rw [hf]; exact hi)) := List.getElem?_eq_getElem _
    rw [h2, ← hc _ hk _ _ h2 hi, he]
  · rw [Array.getElem?_toList, Array.getElem?_eq_none (by omega), List.getElem?_eq_none (by rw [flat_len hf]; omega)]
end Go.Proofs.YtonmeffhelaohaaDoor
