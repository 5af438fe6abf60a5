/-
  append to a row of the call's own, told with the block of its result: the row's block, or a new one. Conditions: those typed.
-/
import Derived.Test.YtonmeffhelaohaaDoorRowF
namespace Go.Proofs.YtonmeffhelaohaaDoor
open Go.RowKit
instance ltn_of1 {b : Nat} {w : World} [h : LtW b w] : LtN b (w.heap.size + 1) := ⟨by have := h.h; omega⟩
instance ltn_of2 {b : Nat} {w : World} [h : LtW b w] : LtN b (w.heap.size + 1 + 1) := ⟨by have := h.h; omega⟩
instance ltn_succ {b : Nat} : LtN b (b + 1) := ⟨Nat.lt_succ_self b⟩
instance ltn_succ2 {b : Nat} : LtN b (b + 1 + 1) := ⟨by omega⟩
instance leb_self1 {b : Nat} : LeB b (b + 1) := ⟨by omega⟩
variable {α : Type}
instance (priority := 800) Wr.far {sz : Nat} {f : α → List Value} {w : World} {a b : Nat} {l : List α} [h : Wr sz f w b l] [hn : NeB a b] (o : Nat) (v : Value) : Wr sz f (w.setCell ⟨a, o, none⟩ v) b l := h.congr (Below.heap_setCell _ _ _ _ (fun e => hn.h e.symm))
theorem neb_of {a b : Nat} {w : World} [h : LtW a w] (hb : LeB w.heap.size b) : NeB a b := ⟨by have := h.h; have := hb.h; omega⟩
theorem run_app_where {P : Program} (w : World) (base : Nat) (t ty e : TypeId) (i : TypeInfo) (z : Value) (size bytes : Nat) (ht : P.underlying t = some (.slice e)) (hi : P.info? e = some i) (hz : i.zero = some z)
    (hsize : i.size = size) (hby : i.bytes = bytes) (hzs : z.cells.size = size) (hsz : 0 < size) (v : Value) (n : Nat) (xs : List Value) (hown : w.ownsRow base e size v n xs)
    (a : Addr) (m c : Nat) (news : List Value) (hl : news.length = m * size) (hnews : ∀ j u, news[j]? = some u → w.cell? (a.add j) = some u) (h1 : ∀ u ∈ news, u.oneCell' = true)
    (h63 : n + m ≤ maxLen) (hbytes : (n + m) * bytes ≤ 140737488355328) (hbase : base ≤ w.heap.size) :
    ∃ v' w', (Builtin.append_ #[t, t] ty #[v, .slice (some a) m c]).run P w = .ok v' w' ∧ w'.ownsRow base e size v' (n + m) (xs ++ news) ∧ w.grownBy w' v.ownBlock ∧ (v'.ownBlock = v.ownBlock ∨ v'.ownBlock = some w.heap.size) := by
  obtain ⟨v', w', hr, h2, h3, h4⟩ := run_append_own (P := P) (w := w) base t ty e i z size bytes ht hi hz hsize hby hzs hsz v n xs hown a m c news hl hnews h1 h63 hbytes hbase
  refine ⟨v', w', hr, h2, h3, ?_⟩
  subst hsize
  subst hby
  have hsmall : n + m ≤ 9223372036854775807 := by simp only [maxLen] at h63; omega
  rcases hown.2 with ⟨rfl, rfl⟩ | ⟨g, cap, cur, rfl, hbg, hg, hnc, hcm, hcs, htake⟩
  · by_cases hm : m = 0
    · exact .inl (by rw [h4.2 ⟨rfl, hm⟩])
    · have hr' := run_append_nil (P := P) (w := w) t ty e i z ht hi hz a m c news hl hnews (by omega) (by omega) (by have hb := hbytes; simp only [Nat.zero_add] at hb; omega)
      rw [hr] at hr'
      cases hr'
      exact .inr rfl
  · by_cases hroom : n + m ≤ cap
    · have hfit : n * i.size + news.length ≤ cur.size := by rw [hl, hcs, ← Nat.add_mul]; exact Nat.mul_le_mul_right _ hroom
      have hr' := run_append_room (P := P) (w := w) t ty e i ht hi g n cap cur hg a m c news hl hnews h1 hroom hfit
      rw [hr] at hr'
      cases hr'
      exact .inl rfl
    · have holds : ∀ j u, xs[j]? = some u → w.cell? ((⟨g, 0, none⟩ : Addr).add j) = some u := hown.cells (g := g) rfl
      have hr' := run_append_grow (P := P) (w := w) t ty e i z ht hi hz ⟨g, 0, none⟩ n cap xs hown.1 holds a m c news hl hnews (by omega) (by omega) (growslice_fits (by omega) hbytes)
      rw [hr] at hr'
      cases hr'
      exact .inr rfl
/-- what an append leaves -/
structure Apd (B : Nat) (e : TypeId) (sz : Nat) (v v' : Value) (w : World) (k : Exb B w) (n : Nat) (xs : List Value) : Prop where
  own : k.v.ownsRow B e sz v' n xs
  keep : ∀ x, x < w.heap.size → v.ownBlock ≠ some x → k.v.heap[x]? = w.heap[x]?
  at_ : v'.ownBlock = v.ownBlock ∨ v'.ownBlock = some w.heap.size
/-- append of one element -/
theorem wpList_appZ (f : α → List Value) {P : Program} (w : World) {ops : Array Oper} {rest : List Oper} {o : Oper} {a : Act} {Q : Exit → Act → World → Prop}
    (hgd : o.guard = none) (s x : Operand) (t : TypeId) (ho : o.op = .call { callee := .builtin .append, args := #[s, x], argTypes := #[t, t] })
    (B : Nat) (hB : B ≤ w.heap.size) (e : TypeId) (z : Value) (sz bytes : Nat) (ht : P.underlying t = some (.slice e)) (hinfo : (P.info? e).map (fun i => (i.zero, i.size, i.bytes)) = some (some z, sz, bytes)) (hzs : z.cells.size = sz) (hsz : 0 < sz)
    (hf : ∀ x, (f x).length = sz ∧ ∀ u ∈ f x, u.oneCell' = true)
    (v : Value) (l : List α) (hs : a.eval s = v) (hown : w.ownsRow B e sz v l.length (l.flatMap f))
    (y : α) (b c : Nat) (hx : a.eval x = .slice (some ⟨b, 0, none⟩) 1 c) (hcell : ∀ j u, (f y)[j]? = some u → w.cell? ⟨b, j, none⟩ = some u)
    (hbytes : (l.length + 1) * bytes ≤ 140737488355328) (hl : l.length ≤ 1000000000000)
    (h : ∀ (v' : Value) (k : Exb B w), Apd B e sz v v' w k (l ++ [y]).length ((l ++ [y]).flatMap f) → wpList P ops Q rest (a.put o.dst v') k.v) :
    wpList P ops Q (o :: rest) a w := by
  obtain ⟨i, hi, hz, hs', hb'⟩ := info_parts hinfo
  obtain ⟨v', w', hr, h1, h2, h3⟩ := run_app_where (P := P) w B t o.type e i z sz bytes ht hi hz hs' hb' hzs hsz v l.length (l.flatMap f) hown ⟨b, 0, none⟩ 1 c (f y) (by rw [(hf y).1]; omega)
    (fun j u hj => by rw [show (⟨b, 0, none⟩ : Addr).add j = ⟨b, 0 + j, none⟩ from Go.WideShapes.add_plain .., Nat.zero_add]; exact hcell j u hj) (hf y).2 (by simp only [maxLen]; omega) hbytes hB
  refine wpList_plain hgd fun K hK => ?_
  unfold Oper.wp execOp
  simp only [ho, resolve, invoke, builtin, Sem.run_bind, Sem.run_pure, Result.andThen_ok, List.map_toArray, List.map_cons, List.map_nil, hs, hx, hr]
  exact hK _ _ (h v' ⟨w', (Below.refl _ _).grown h2 hB (fun k hk => (hown.lt k hk).1)⟩ ⟨by simpa using h1, fun x hx hne => h2.block x hx (fun e => hne e.symm), h3⟩)
theorem app_many (f : α → List Value) {P : Program} (w : World) (o : Oper) (t : TypeId)
    (B : Nat) (hB : B ≤ w.heap.size) (e : TypeId) (z : Value) (sz bytes : Nat) (ht : P.underlying t = some (.slice e)) (hinfo : (P.info? e).map (fun i => (i.zero, i.size, i.bytes)) = some (some z, sz, bytes)) (hzs : z.cells.size = sz) (hsz : 0 < sz)
    (hf : ∀ x, (f x).length = sz ∧ ∀ u ∈ f x, u.oneCell' = true)
    (v : Value) (l : List α) (hown : w.ownsRow B e sz v l.length (l.flatMap f))
    (b q : Nat) (m : List α) (c : Nat) (hr : Rd sz f w (some ⟨b, q, none⟩) m)
    (hbytes : (l.length + m.length) * bytes ≤ 140737488355328) (hl : l.length + m.length ≤ 1000000000000) :
    ∃ (v' : Value) (k : Exb B w), (Builtin.append_ #[t, t] o.type #[v, .slice (some ⟨b, q, none⟩) m.length c]).run P w = .ok v' k.v ∧ Apd B e sz v v' w k (l ++ m).length ((l ++ m).flatMap f) := by
  obtain ⟨i, hi, hz, hs', hb'⟩ := info_parts hinfo
  obtain ⟨v', w', hr, h1, h2, h3⟩ := run_app_where (P := P) w B t o.type e i z sz bytes ht hi hz hs' hb' hzs hsz v l.length (l.flatMap f) hown ⟨b, q, none⟩ m.length c (m.flatMap f) (flat_len (fun x => (hf x).1) m)
    (fun j u hj => by
      obtain ⟨k, hk, i, hi, rfl, hg⟩ := flat_get (fun x => (hf x).1) m j u hj
      obtain ⟨b', q', e', hbw, hc⟩ := hr.at_ (by omega)
      cases e'
      rw [show (⟨b, q, none⟩ : Addr).add (k * sz + i) = ⟨b, q + (k * sz + i), none⟩ from Go.WideShapes.add_plain .., ← Nat.add_assoc]; exact hc k hk i u hg)
    (fun u hu => by
      obtain ⟨x, _, hx⟩ := List.mem_flatMap.1 hu
      exact (hf x).2 u hx) (by simp only [maxLen]; omega) hbytes hB
  exact ⟨v', ⟨w', (Below.refl _ _).grown h2 hB (fun k hk => (hown.lt k hk).1)⟩, hr, ⟨by simpa using h1, fun x hx hne => h2.block x hx (fun e => hne e.symm), h3⟩⟩
/-- append of a slice that has an address -/
theorem wpList_appM (f : α → List Value) {P : Program} (w : World) {ops : Array Oper} {rest : List Oper} {o : Oper} {a : Act} {Q : Exit → Act → World → Prop}
    (hgd : o.guard = none) (s x : Operand) (t : TypeId) (ho : o.op = .call { callee := .builtin .append, args := #[s, x], argTypes := #[t, t] })
    (B : Nat) (hB : B ≤ w.heap.size) (e : TypeId) (z : Value) (sz bytes : Nat) (ht : P.underlying t = some (.slice e)) (hinfo : (P.info? e).map (fun i => (i.zero, i.size, i.bytes)) = some (some z, sz, bytes)) (hzs : z.cells.size = sz) (hsz : 0 < sz)
    (hf : ∀ x, (f x).length = sz ∧ ∀ u ∈ f x, u.oneCell' = true)
    (v : Value) (l : List α) (hs : a.eval s = v) (hown : w.ownsRow B e sz v l.length (l.flatMap f))
    (b q : Nat) (m : List α) (c : Nat) (hx : a.eval x = .slice (some ⟨b, q, none⟩) m.length c) (hr : Rd sz f w (some ⟨b, q, none⟩) m)
    (hbytes : (l.length + m.length) * bytes ≤ 140737488355328) (hl : l.length + m.length ≤ 1000000000000)
    (h : ∀ (v' : Value) (k : Exb B w), Apd B e sz v v' w k (l ++ m).length ((l ++ m).flatMap f) → wpList P ops Q rest (a.put o.dst v') k.v) :
    wpList P ops Q (o :: rest) a w := by
  obtain ⟨v', k, hrun, hA⟩ := app_many f w o t B hB e z sz bytes ht hinfo hzs hsz hf v l hown b q m c hr hbytes hl
  refine wpList_plain hgd fun K hK => ?_
  unfold Oper.wp execOp
  simp only [ho, resolve, invoke, builtin, Sem.run_bind, Sem.run_pure, Result.andThen_ok, List.map_toArray, List.map_cons, List.map_nil, hs, hx, hrun]
  exact hK _ _ (h v' k hA)
/-- .. as one step of a region that draws -/
theorem step_appM (f : α → List Value) {P : Program} {ops : Array Oper} {o : Oper} {a : Act} {w : World} {K : Act → World → Prop} {Q : Exit → Act → World → Prop} {E : Prop}
    (hgd : o.guard = none) (s x : Operand) (t : TypeId) (ho : o.op = .call { callee := .builtin .append, args := #[s, x], argTypes := #[t, t] })
    (B : Nat) (hB : B ≤ w.heap.size) (e : TypeId) (z : Value) (sz bytes : Nat) (ht : P.underlying t = some (.slice e)) (hinfo : (P.info? e).map (fun i => (i.zero, i.size, i.bytes)) = some (some z, sz, bytes)) (hzs : z.cells.size = sz) (hsz : 0 < sz)
    (hf : ∀ x, (f x).length = sz ∧ ∀ u ∈ f x, u.oneCell' = true)
    (v : Value) (l : List α) (hs : a.eval s = v) (hown : w.ownsRow B e sz v l.length (l.flatMap f))
    (b q : Nat) (m : List α) (c : Nat) (hx : a.eval x = .slice (some ⟨b, q, none⟩) m.length c) (hr : Rd sz f w (some ⟨b, q, none⟩) m)
    (hbytes : (l.length + m.length) * bytes ≤ 140737488355328) (hl : l.length + m.length ≤ 1000000000000)
    (h : ∀ (v' : Value) (k : Exb B w), Apd B e sz v v' w k (l ++ m).length ((l ++ m).flatMap f) → K (a.put o.dst v') k.v) :
    if Region.wanted o (yielded ops a.tmps) = true then Oper.wp P o a w K Q else E := by
  have hw : Region.wanted o (yielded ops a.tmps) = true := by simp [Region.wanted, hgd]
  rw [if_pos hw]
  obtain ⟨v', k, hrun, hA⟩ := app_many f w o t B hB e z sz bytes ht hinfo hzs hsz hf v l hown b q m c hr hbytes hl
  unfold Oper.wp execOp
  simp only [ho, resolve, invoke, builtin, Sem.run_bind, Sem.run_pure, Result.andThen_ok, List.map_toArray, List.map_cons, List.map_nil, hs, hx, hrun]
  exact h v' k hA
namespace Apd
variable {B : Nat} {e : TypeId} {sz : Nat} {v v' : Value} {w : World} {k : Exb B w} {n : Nat} {xs : List Value}
/-- a cell of another block stays -/
theorem cell (h : Apd B e sz v v' w k n xs) {b : Nat} [hb : LtW b w] (hne : v.ownBlock ≠ some b) (o : Nat) {u : Value} (hc : w.cell? ⟨b, o, none⟩ = some u) : k.v.cell? ⟨b, o, none⟩ = some u :=
  (World.cell?_of_block (a := ⟨b, o, none⟩) (h.keep b hb.h hne)).trans hc
theorem ne (h : Apd B e sz v v' w k n xs) {b : Nat} (hb : b < w.heap.size) (hne : v.ownBlock ≠ some b) : v'.ownBlock ≠ some b := by
  rcases h.at_ with h | h
  · rw [h]; exact hne
  · rw [h]; intro e; cases e; omega
end Apd
/-- a row's block lies below a new block -/
theorem own_ne {B : Nat} {e : TypeId} {sz : Nat} {v : Value} {j : World} {n : Nat} {xs : List Value} (h : j.ownsRow B e sz v n xs) {b : Nat} (hb : j.heap.size ≤ b) : v.ownBlock ≠ some b := fun e => by
  have := (h.lt _ e).2; omega
end Go.Proofs.YtonmeffhelaohaaDoor
