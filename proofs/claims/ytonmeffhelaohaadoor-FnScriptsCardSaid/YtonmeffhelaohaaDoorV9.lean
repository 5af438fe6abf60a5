/-
  Rows of the call's own, found by instances through allocations, stores and appends: a world that is as another below a block number ('Exb'), a row told by its cells ('RowF'), a row that append builds ('OwR'). Conditions: those typed.
  append to a row of the call's own, told with the block of its result: the row's block, or a new one. Conditions: those typed.
  append of one element as one step of a region that draws, telling the block of its result. Conditions: those typed.
  Parts of a slice; the room of a row. Conditions: those typed at each theorem.
-/
import Derived.Test.YtonmeffhelaohaaDoorV5
import Derived.Laws.AppendOwnNone
import Derived.Deep.RegionLaw
namespace Go.Proofs.YtonmeffhelaohaaDoor
open Go.RowKit
/-- a world that is as w below block B -/
structure Exb (B : Nat) (w : World) where
  v : World
  h : Below B w v
/-- a is less than b -/
class LtN (a b : Nat) : Prop where h : a < b
section
variable {w : World} {B b : Nat}
instance ltn_of [h : LtW b w] : LtN b w.heap.size := ⟨h.h⟩
instance (priority := 900) ltw_exb (k : Exb B w) [h : LtW b w] : LtW b k.v := ⟨Nat.lt_of_lt_of_le h.h k.h.size⟩
instance (priority := 900) leb_exb {C : Nat} (k : Exb B w) [h : LeB C w.heap.size] : LeB C k.v.heap.size := ⟨Nat.le_trans h.h k.h.size⟩
@[go_sem] theorem Exb.cell (k : Exb B w) (b o : Nat) [h : LtN b B] : k.v.cell? ⟨b, o, none⟩ = w.cell? ⟨b, o, none⟩ := k.h.cell (p := ⟨b, o, none⟩) h.h
@[go_sem] theorem Exb.frozen (k : Exb B w) (b o : Nat) [h : LtN b B] : k.v.frozen? ⟨b, o, none⟩ = w.frozen? ⟨b, o, none⟩ := k.h.frozen (p := ⟨b, o, none⟩) h.h
theorem Ok.exb {B0 : Nat} {a : World} (h : Ok B0 a w) (k : Exb B w) [hb : LeB B0 B] : Ok B0 a k.v := ⟨h.b.trans (k.h.mono hb.h), Nat.le_trans h.s k.h.size⟩
@[go_sem] theorem frozen_setI (w : World) (a o b p : Nat) (v : Value) : (w.setCell ⟨a, o, none⟩ v).frozen? ⟨b, p, none⟩ = w.frozen? ⟨b, p, none⟩ := World.frozen?_setCell ..
@[go_sem] theorem cell_nbI (w : World) (a o p : Nat) (v : Value) (h : o ≠ p) : (w.setCell ⟨a, o, none⟩ v).cell? ⟨a, p, none⟩ = w.cell? ⟨a, p, none⟩ :=
  World.cell?_setCell_other _ _ _ _ (fun e => h (by cases e; rfl))
end
instance (priority := 500) ltw_leb {w : World} {b : Nat} [h : LeB b w.heap.size] (o : Obj) : LtW b (w.alloc o) := ⟨by have := h.h; simp; omega⟩
instance (priority := 500) leb_alloc1 {w : World} {b : Nat} [h : LeB b w.heap.size] (o : Obj) : LeB (b + 1) (w.alloc o).heap.size := ⟨by have := h.h; simp; omega⟩
instance Up.set {w0 w : World} [h : Up w0 w] (b o : Nat) [hb : LeB w0.heap.size b] (v : Value) : Up w0 (w.setCell ⟨b, o, none⟩ v) := ⟨h.h.setCell hb.h v⟩
instance Up.exb {w0 w : World} {B : Nat} [h : Up w0 w] (k : Exb B w) [hb : LeB w0.heap.size B] : Up w0 k.v := ⟨h.h.trans (k.h.mono hb.h)⟩
theorem ex_up {w W1 W : World} (h : ∃ j : Ex W1, W = j.v) [hu : Up w W1] : ∃ k : Ex w, W = k.v := by
  obtain ⟨j, rfl⟩ := h
  exact ⟨(Ex.of hu.h).tr j, rfl⟩
/-- block b is a row of N cells that are as F tells -/
class RowF (e : outParam TypeId) (N : outParam Nat) (F : outParam (Nat → Value)) (w : World) (b : Nat) : Prop where h : w.rowIs b e N F
section
variable {e : TypeId} {N : Nat} {F : Nat → Value} {w : World} {b a B : Nat}
theorem RowF.lt (h : RowF e N F w b) : LtW b w := ⟨h.h.lt⟩
instance (priority := 900) rowf_alloc [h : RowF e N F w b] (o : Obj) : RowF e N F (w.alloc o) b := ⟨h.h.alloc o⟩
instance (priority := 900) rowf_ex [h : RowF e N F w b] (k : Ex w) : RowF e N F k.v b := ⟨h.h.of_block (k.block h.h.lt)⟩
instance (priority := 900) rowf_exb [h : RowF e N F w b] (k : Exb B w) [hb : LtN b B] : RowF e N F k.v b := ⟨h.h.of_block (k.h.block _ hb.h)⟩
instance (priority := 900) rowf_drew [h : RowF e N F w b] : RowF e N F w.drew b := ⟨h.h⟩
instance (priority := 800) rowf_far [h : RowF e N F w b] [hn : NeB a b] (o : Nat) (v : Value) : RowF e N F (w.setCell ⟨a, o, none⟩ v) b := ⟨h.h.setOther (fun e => hn.h e.symm) v⟩
instance (priority := 900) rowf_set [h : RowF e N F w b] (o : Nat) (v : Value) : RowF e N (fun j => if j = o then v else F j) (w.setCell ⟨b, o, none⟩ v) b := ⟨h.h.set o v⟩
end
instance (priority := 1000) rowf_new {w : World} (c : Array Value) (t : TypeId) : RowF t c.size (fun i => (c[i]?).getD undef) (w.alloc (.cells c t)) w.heap.size := ⟨World.rowIs_alloc _ _ _ _ fun i hi => by simp [hi]⟩
instance (priority := 1000) rowf_new1 {w : World} (o : Obj) (c : Array Value) (t : TypeId) : RowF t c.size (fun i => (c[i]?).getD undef) ((w.alloc o).alloc (.cells c t)) (w.heap.size + 1) := ⟨by have := World.rowIs_alloc (w.alloc o) c t (fun i => (c[i]?).getD undef) (fun i hi => by simp [hi]); simpa using this⟩
/-- the slice with base A reads as l, and lies from block B on -/
class RdB {α : Type} (B : Nat) (sz : Nat) (f : α → List Value) (w : World) (A : Option Addr) (l : List α) : Prop where
  rd : Rd sz f w A l
  ge : ∀ b o m, A = some ⟨b, o, m⟩ → B ≤ b
section
variable {α : Type} {B : Nat} {sz : Nat} {f : α → List Value} {w : World} {A : Option Addr} {l : List α} {a : Nat}
instance (priority := 900) rdb_ex [h : RdB B sz f w A l] (k : Ex w) : RdB B sz f k.v A l := ⟨haveI := h.rd; inferInstance, h.ge⟩
instance (priority := 900) rdb_alloc [h : RdB B sz f w A l] (o : Obj) : RdB B sz f (w.alloc o) A l := ⟨haveI := h.rd; inferInstance, h.ge⟩
instance (priority := 900) rdb_drew [h : RdB B sz f w A l] : RdB B sz f w.drew A l := ⟨haveI := h.rd; inferInstance, h.ge⟩
theorem Rd.same {w' : World} (h : Rd sz f w A l) (he : ∀ b o, A = some ⟨b, o, none⟩ → b < w.heap.size → w'.heap[b]? = w.heap[b]?) (hs : w.heap.size ≤ w'.heap.size) : Rd sz f w' A l :=
  ⟨h.len, fun h0 => by
    obtain ⟨b, o, e, hb, hc⟩ := h.at_ h0
    exact ⟨b, o, e, ⟨Nat.lt_of_lt_of_le hb.h hs⟩, fun i hi j v hv => (World.cell?_of_block (he b o e hb.h)).trans (hc i hi j v hv)⟩⟩
instance (priority := 900) rdb_set [h : RdB B sz f w A l] [ha : LtN a B] (o : Nat) (v : Value) : RdB B sz f (w.setCell ⟨a, o, none⟩ v) A l :=
  ⟨h.rd.same (fun b _ e _ => Below.heap_setCell _ _ _ _ (by have := ha.h; have := h.ge _ _ _ e; show b ≠ a; omega)) (by rw [size_setCell']; exact Nat.le_refl _), h.ge⟩
end
theorem rdB_keep {α : Type} {B B2 : Nat} {sz sz2 : Nat} {f : α → List Value} {W W' j : World} {D : Option Addr} {T : List α} {e : TypeId} {v : Value} {n : Nat} {xs : List Value} (hrd : RdB B sz f W D T) (hs : W.heap.size ≤ W'.heap.size)
    (hkeep : ∀ x, x < W.heap.size → v.ownBlock ≠ some x → W'.heap[x]? = W.heap[x]?) (hown : j.ownsRow B2 e sz2 v n xs) (hfr : ∀ b o m, D = some ⟨b, o, m⟩ → j.heap.size ≤ b) : RdB B sz f W' D T :=
  ⟨hrd.rd.same (fun b o h hb => hkeep b hb (fun e => by have := (hown.lt _ e).2; have := hfr b o none h; omega)) hs, hrd.ge⟩
theorem rdB_h {α : Type} {B : Nat} {sz : Nat} {f : α → List Value} {w : World} {A : Option Addr} {l : List α} [h : RdB B sz f w A l] : Rd sz f w A l := h.rd
/-- v is a row of n elements that append has built from block B on -/
class OwR (B : Nat) (e : TypeId) (sz : Nat) (v : Value) (n : Nat) (xs : List Value) (w : World) : Prop where h : w.ownsRow B e sz v n xs
theorem ownsRow_block {w w' : World} {B : Nat} {e : TypeId} {sz : Nat} {v : Value} {n : Nat} {xs : List Value} (h : w.ownsRow B e sz v n xs) (hb : ∀ g, B ≤ g → g < w.heap.size → w'.heap[g]? = w.heap[g]?) : w'.ownsRow B e sz v n xs := by
  refine ⟨h.1, ?_⟩
  rcases h.2 with hn | ⟨g, cap, cur, rfl, hg, hgg, rest⟩
  · exact .inl hn
  · exact .inr ⟨g, cap, cur, rfl, hg, (hb g hg (Array.getElem?_eq_some_iff.1 hgg).1).trans hgg, rest⟩
section
variable {B : Nat} {e : TypeId} {sz : Nat} {v : Value} {n : Nat} {xs : List Value} {w : World} {a : Nat}
instance (priority := 900) owr_alloc [h : OwR B e sz v n xs w] (o : Obj) : OwR B e sz v n xs (w.alloc o) := ⟨h.h.alloc o⟩
instance (priority := 900) owr_ex [h : OwR B e sz v n xs w] (k : Ex w) : OwR B e sz v n xs k.v := ⟨ownsRow_ex h.h k⟩
instance (priority := 900) owr_drew [h : OwR B e sz v n xs w] : OwR B e sz v n xs w.drew := ⟨h.h⟩
instance (priority := 900) owr_set [h : OwR B e sz v n xs w] [ha : LtN a B] (o : Nat) (u : Value) : OwR B e sz v n xs (w.setCell ⟨a, o, none⟩ u) :=
  ⟨ownsRow_block h.h fun g hg _ => Below.heap_setCell _ _ _ _ (by have := ha.h; show g ≠ a; omega)⟩
end
theorem rowF_h {e : TypeId} {N : Nat} {F : Nat → Value} {w : World} {b : Nat} [h : RowF e N F w b] : w.rowIs b e N F := h.h
theorem rowF_congr {e : TypeId} {N : Nat} {F : Nat → Value} {w : World} {b : Nat} (G : Nat → Value) [h : RowF e N F w b] (hc : ∀ i, i < N → F i = G i) : w.rowIs b e N G := h.h.congr hc
theorem owR_h {B : Nat} {e : TypeId} {sz : Nat} {v : Value} {n : Nat} {xs : List Value} {w : World} [h : OwR B e sz v n xs w] : w.ownsRow B e sz v n xs := h.h
variable {α : Type}
/-- append of one element to a row of the call's own; all below the row's base stays -/
theorem wpList_appB (f : α → List Value) {P : Program} (w : World) {ops : Array Oper} {rest : List Oper} {o : Oper} {a : Act} {Q : Exit → Act → World → Prop}
    (hg : o.guard = none) (s x : Operand) (t : TypeId) (hop : o.op = .call { callee := .builtin .append, args := #[s, x], argTypes := #[t, t] })
    (B : Nat) (hB : B ≤ w.heap.size) (e : TypeId) (z : Value) (sz bytes : Nat) (ht : P.underlying t = some (.slice e)) (hinfo : (P.info? e).map (fun i => (i.zero, i.size, i.bytes)) = some (some z, sz, bytes)) (hzs : z.cells.size = sz) (hsz : 0 < sz)
    (hf : ∀ x, (f x).length = sz ∧ ∀ u ∈ f x, u.oneCell' = true)
    (v : Value) (l : List α) (hs : a.eval s = v) (hown : w.ownsRow B e sz v l.length (l.flatMap f))
    (y : α) (b c : Nat) (hx : a.eval x = .slice (some ⟨b, 0, none⟩) 1 c) (hcell : ∀ j u, (f y)[j]? = some u → w.cell? ⟨b, j, none⟩ = some u)
    (hbytes : (l.length + 1) * bytes ≤ 140737488355328) (hl : l.length ≤ 1000000000000)
    (h : ∀ (v' : Value) (k : Exb B w), k.v.ownsRow B e sz v' (l ++ [y]).length ((l ++ [y]).flatMap f) → wpList P ops Q rest (a.put o.dst v') k.v) :
    wpList P ops Q (o :: rest) a w := by
  obtain ⟨i, hi, hz, hs', hb'⟩ := info_parts hinfo
  refine wpList_append_own w hg s x t hop B e i z sz bytes ht hi hz hs' hb' hzs hsz v l.length (l.flatMap f) hs hown ⟨b, 0, none⟩ 1 c (f y) hx (by rw [(hf y).1]; omega) (fun j u hj => ?_) (hf y).2 (by simp only [maxLen]; omega) hbytes hB ?_
  · rw [show (⟨b, 0, none⟩ : Addr).add j = ⟨b, 0 + j, none⟩ from Go.WideShapes.add_plain .., Nat.zero_add]; exact hcell j u hj
  · intro v' w' h1 h2 _
    refine h v' ⟨w', (Below.refl _ _).grown h2 hB (fun k hk => (hown.lt k hk).1)⟩ ?_
    simpa using h1
/-- .. as one step of a region that draws -/
theorem step_appB (f : α → List Value) {P : Program} {ops : Array Oper} {o : Oper} {a : Act} {w : World} {K : Act → World → Prop} {Q : Exit → Act → World → Prop} {E : Prop}
    (hg : o.guard = none) (s x : Operand) (t : TypeId) (hop : o.op = .call { callee := .builtin .append, args := #[s, x], argTypes := #[t, t] })
    (B : Nat) (hB : B ≤ w.heap.size) (e : TypeId) (z : Value) (sz bytes : Nat) (ht : P.underlying t = some (.slice e)) (hinfo : (P.info? e).map (fun i => (i.zero, i.size, i.bytes)) = some (some z, sz, bytes)) (hzs : z.cells.size = sz) (hsz : 0 < sz)
    (hf : ∀ x, (f x).length = sz ∧ ∀ u ∈ f x, u.oneCell' = true)
    (v : Value) (l : List α) (hs : a.eval s = v) (hown : w.ownsRow B e sz v l.length (l.flatMap f))
    (y : α) (b c : Nat) (hx : a.eval x = .slice (some ⟨b, 0, none⟩) 1 c) (hcell : ∀ j u, (f y)[j]? = some u → w.cell? ⟨b, j, none⟩ = some u)
    (hbytes : (l.length + 1) * bytes ≤ 140737488355328) (hl : l.length ≤ 1000000000000)
    (h : ∀ (v' : Value) (k : Exb B w), k.v.ownsRow B e sz v' (l ++ [y]).length ((l ++ [y]).flatMap f) → K (a.put o.dst v') k.v) :
    if Region.wanted o (yielded ops a.tmps) = true then Oper.wp P o a w K Q else E := by
  have hw : Region.wanted o (yielded ops a.tmps) = true := by simp [Region.wanted, hg]
  rw [if_pos hw]
  obtain ⟨i, hi, hz, hs', hb'⟩ := info_parts hinfo
  refine wp_append_own w s x t hop B e i z sz bytes ht hi hz hs' hb' hzs hsz v l.length (l.flatMap f) hs hown ⟨b, 0, none⟩ 1 c (f y) hx (by rw [(hf y).1]; omega) (fun j u hj => ?_) (hf y).2 (by simp only [maxLen]; omega) hbytes hB ?_
  · rw [show (⟨b, 0, none⟩ : Addr).add j = ⟨b, 0 + j, none⟩ from Go.WideShapes.add_plain .., Nat.zero_add]; exact hcell j u hj
  · intro v' w' h1 h2 _
    refine h v' ⟨w', (Below.refl _ _).grown h2 hB (fun k hk => (hown.lt k hk).1)⟩ ?_
    simpa using h1
/-- .. telling that but the row all stays -/
theorem step_appK (f : α → List Value) {P : Program} {ops : Array Oper} {o : Oper} {a : Act} {w : World} {K : Act → World → Prop} {Q : Exit → Act → World → Prop} {E : Prop}
    (hg : o.guard = none) (s x : Operand) (t : TypeId) (hop : o.op = .call { callee := .builtin .append, args := #[s, x], argTypes := #[t, t] })
    (B : Nat) (hB : B ≤ w.heap.size) (e : TypeId) (z : Value) (sz bytes : Nat) (ht : P.underlying t = some (.slice e)) (hinfo : (P.info? e).map (fun i => (i.zero, i.size, i.bytes)) = some (some z, sz, bytes)) (hzs : z.cells.size = sz) (hsz : 0 < sz)
    (hf : ∀ x, (f x).length = sz ∧ ∀ u ∈ f x, u.oneCell' = true)
    (v : Value) (l : List α) (hs : a.eval s = v) (hown : w.ownsRow B e sz v l.length (l.flatMap f))
    (y : α) (b c : Nat) (hx : a.eval x = .slice (some ⟨b, 0, none⟩) 1 c) (hcell : ∀ j u, (f y)[j]? = some u → w.cell? ⟨b, j, none⟩ = some u)
    (hbytes : (l.length + 1) * bytes ≤ 140737488355328) (hl : l.length ≤ 1000000000000)
    (h : ∀ (v' : Value) (k : Exb B w), k.v.ownsRow B e sz v' (l ++ [y]).length ((l ++ [y]).flatMap f) → (∀ x, x < w.heap.size → v.ownBlock ≠ some x → k.v.heap[x]? = w.heap[x]?) → K (a.put o.dst v') k.v) :
    if Region.wanted o (yielded ops a.tmps) = true then Oper.wp P o a w K Q else E := by
  have hw : Region.wanted o (yielded ops a.tmps) = true := by simp [Region.wanted, hg]
  rw [if_pos hw]
  obtain ⟨i, hi, hz, hs', hb'⟩ := info_parts hinfo
  refine wp_append_own w s x t hop B e i z sz bytes ht hi hz hs' hb' hzs hsz v l.length (l.flatMap f) hs hown ⟨b, 0, none⟩ 1 c (f y) hx (by rw [(hf y).1]; omega) (fun j u hj => ?_) (hf y).2 (by simp only [maxLen]; omega) hbytes hB ?_
  · rw [show (⟨b, 0, none⟩ : Addr).add j = ⟨b, 0 + j, none⟩ from Go.WideShapes.add_plain .., Nat.zero_add]; exact hcell j u hj
  · intro v' w' h1 h2 _
    refine h v' ⟨w', (Below.refl _ _).grown h2 hB (fun k hk => (hown.lt k hk).1)⟩ ?_ (fun x hx hne => h2.block x hx (fun e => hne e.symm))
    simpa using h1
theorem cellsN (w : World) (c : List Value) (t : TypeId) (i : Nat) (u : Value) (h : c[i]? = some u) : (w.alloc (.cells c.toArray t)).cell? ⟨w.heap.size, i, none⟩ = some u := by
  have hi := (List.getElem?_eq_some_iff.1 h).1
  have := (World.rowIs_alloc w c.toArray t (fun i => (c[i]?).getD undef) (fun i hi => by simp [show i < c.length by simpa using hi])).cell (i := i) (by simpa using hi)
  rw [this, h]; rfl
theorem cellsB {w : World} {c : List Value} {t : TypeId} {b : Nat} (hb : b = w.heap.size) (i : Nat) (u : Value) (h : c[i]? = some u) : (w.alloc (.cells c.toArray t)).cell? ⟨b, i, none⟩ = some u := by
  subst hb; exact cellsN w c t i u h
theorem made_one {z : Value} (hz : z.cells = #[z]) {n i : Nat} (h : i < n) : ((madeCells z.cells (n * 1))[i]?).getD undef = z := by
  rw [hz, Nat.mul_one]
  simp [madeCells, h, Nat.mod_one]
theorem flat_get {sz : Nat} {f : α → List Value} (hf : ∀ x, (f x).length = sz) : ∀ (l : List α) (j : Nat) (u : Value), (l.flatMap f)[j]? = some u → ∃ (k : Nat) (hk : k < l.length) (i : Nat), i < sz ∧ j = k * sz + i ∧ (f l[k])[i]? = some u
  | [], j, u, h => by simp at h
  | x :: l, j, u, h => by
    rw [List.flatMap_cons] at h
    rcases Nat.lt_or_ge j (f x).length with h1 | h1
    · rw [List.getElem?_append_left h1] at h
      exact ⟨0, by simp, j, by rw [← hf x]; exact h1, by omega, by simpa using h⟩
    · rw [List.getElem?_append_right h1] at h
      obtain ⟨k, hk, i, hi, he, hg⟩ := flat_get hf l _ u h
      refine ⟨k + 1, by simp; omega, i, hi, ?_, by simpa using hg⟩
      rw [hf] at he h1
      rw [Nat.succ_mul]
      omega
theorem flat_len {sz : Nat} {f : α → List Value} (hf : ∀ x, (f x).length = sz) (l : List α) : (l.flatMap f).length = l.length * sz := by
  induction l with
  | nil => simp
  | cons x l ih => rw [List.flatMap_cons, List.length_append, ih, hf, List.length_cons, Nat.succ_mul]; omega
/-- append of a slice to a row of the call's own -/
theorem wpList_appN (f : α → List Value) {P : Program} (w : World) {ops : Array Oper} {rest : List Oper} {o : Oper} {a : Act} {Q : Exit → Act → World → Prop}
    (hg : o.guard = none) (s x : Operand) (t : TypeId) (hop : o.op = .call { callee := .builtin .append, args := #[s, x], argTypes := #[t, t] })
    (B : Nat) (hB : B ≤ w.heap.size) (e : TypeId) (z : Value) (sz bytes : Nat) (ht : P.underlying t = some (.slice e)) (hinfo : (P.info? e).map (fun i => (i.zero, i.size, i.bytes)) = some (some z, sz, bytes)) (hzs : z.cells.size = sz) (hsz : 0 < sz)
    (hf : ∀ x, (f x).length = sz ∧ ∀ u ∈ f x, u.oneCell' = true)
    (v : Value) (l : List α) (hs : a.eval s = v) (hown : w.ownsRow B e sz v l.length (l.flatMap f))
    (A : Option Addr) (m : List α) (c : Nat) (hx : a.eval x = .slice A m.length c) (hr : Rd sz f w A m) (hn0 : A = none → c = 0)
    (hbytes : (l.length + m.length) * bytes ≤ 140737488355328) (hl : l.length + m.length ≤ 1000000000000)
    (h : ∀ (v' : Value) (k : Exb B w), k.v.ownsRow B e sz v' (l ++ m).length ((l ++ m).flatMap f) → wpList P ops Q rest (a.put o.dst v') k.v) :
    wpList P ops Q (o :: rest) a w := by
  obtain ⟨i, hi, hz, hs', hb'⟩ := info_parts hinfo
  by_cases h0 : 0 < m.length
  · obtain ⟨b, q, rfl, hbw, hc⟩ := hr.at_ h0
    refine wpList_append_own w hg s x t hop B e i z sz bytes ht hi hz hs' hb' hzs hsz v l.length (l.flatMap f) hs hown ⟨b, q, none⟩ m.length c (m.flatMap f) hx (flat_len (fun x => (hf x).1) m) (fun j u hj => ?_) (fun u hu => ?_) (by simp only [maxLen]; omega) hbytes hB ?_
    · obtain ⟨k, hk, i, hi, rfl, hg⟩ := flat_get (fun x => (hf x).1) m j u hj
      rw [show (⟨b, q, none⟩ : Addr).add (k * sz + i) = ⟨b, q + (k * sz + i), none⟩ from Go.WideShapes.add_plain .., ← Nat.add_assoc]; exact hc k hk i u hg
    · obtain ⟨x, _, hx⟩ := List.mem_flatMap.1 hu
      exact (hf x).2 u hx
    · intro v' w' h1 h2 _
      refine h v' ⟨w', (Below.refl _ _).grown h2 hB (fun k hk => (hown.lt k hk).1)⟩ ?_
      simpa using h1
  · have hm : m = [] := List.eq_nil_of_length_eq_zero (by omega)
    subst hm
    cases A with
    | some ad =>
      refine wpList_append_own w hg s x t hop B e i z sz bytes ht hi hz hs' hb' hzs hsz v l.length (l.flatMap f) hs hown ad 0 c [] hx (by simp) (fun j u hj => by simp at hj) (by simp) (by simp only [maxLen]; simp at hl; omega) (by simpa using hbytes) hB ?_
      intro v' w' h1 h2 _
      refine h v' ⟨w', (Below.refl _ _).grown h2 hB (fun k hk => (hown.lt k hk).1)⟩ ?_
      simpa using h1
    | none =>
      obtain rfl := hn0 rfl
      refine wpList_append_own_none hg s x t hop B e i sz ht hi v l.length (l.flatMap f) hs hown hx ?_
      refine h v ⟨w, Below.refl _ _⟩ ?_
      simpa using hown
end Go.Proofs.YtonmeffhelaohaaDoor
namespace Go.Proofs.YtonmeffhelaohaaDoor
open Go.RowKit
instance ltn_of1 {b : Nat} {w : World} [h : LtW b w] : LtN b (w.heap.size + 1) := ⟨by have := h.h; omega⟩
instance ltn_of2 {b : Nat} {w : World} [h : LtW b w] : LtN b (w.heap.size + 1 + 1) := ⟨by have := h.h; omega⟩
instance ltn_succ {b : Nat} : LtN b (b + 1) := ⟨Nat.lt_succ_self b⟩
instance ltn_succ2 {b : Nat} : LtN b (b + 1 + 1) := ⟨by omega⟩
instance leb_self1 {b : Nat} : LeB b (b + 1) := ⟨by omega⟩
variable {α : Type}
instance (priority := 800) Wr.far {sz : Nat} {f : α → List Value} {w : World} {a b : Nat} {l : List α} [h : Wr sz f w b l] [hn : NeB a b] (o : Nat) (v : Value) : Wr sz f (w.setCell ⟨a, o, none⟩ v) b l := h.congr (Below.heap_setCell _ _ _ _ (fun e => hn.h e.symm))
theorem neb_of {a b : Nat} {w : World} [h : LtW a w] (hb : LeB w.heap.size b) : NeB a b := ⟨by have := h.h; have := hb.h; omega⟩
theorem run_app_where {P : Program} (w : World) (base : Nat) (t ty e : TypeId) (i : TypeInfo) (z : Value) (size bytes : Nat) (ht : P.underlying t = some (.slice e)) (hi : P.info? e = some i) (hz : i.zero = some z)
    (hsize : i.size = size) (hby : i.bytes = bytes) (hzs : z.cells.size = size) (hsz : 0 < size) (v : Value) (n : Nat) (xs : List Value) (hown : w.ownsRow base e size v n xs)
    (a : Addr) (m c : Nat) (news : List Value) (hl : news.length = m * size) (hnews : ∀ j u, news[j]? = some u → w.cell? (a.add j) = some u) (h1 : ∀ u ∈ news, u.oneCell' = true)
    (h63 : n + m ≤ maxLen) (hbytes : (n + m) * bytes ≤ 140737488355328) (hbase : base ≤ w.heap.size) :
    ∃ v' w', (Builtin.append_ #[t, t] ty #[v, .slice (some a) m c]).run P w = .ok v' w' ∧ w'.ownsRow base e size v' (n + m) (xs ++ news) ∧ w.grownBy w' v.ownBlock ∧ (v'.ownBlock = v.ownBlock ∨ v'.ownBlock = some w.heap.size) := by
  obtain ⟨v', w', hr, h2, h3, h4⟩ := run_append_own (P := P) (w := w) base t ty e i z size bytes ht hi hz hsize hby hzs hsz v n xs hown a m c news hl hnews h1 h63 hbytes hbase
  refine ⟨v', w', hr, h2, h3, ?_⟩
  subst hsize
  subst hby
  have hsmall : n + m ≤ 9223372036854775807 := by simp only [maxLen] at h63; omega
  rcases hown.2 with ⟨rfl, rfl⟩ | ⟨g, cap, cur, rfl, hbg, hg, hnc, hcm, hcs, htake⟩
  · by_cases hm : m = 0
    · exact .inl (by rw [h4.2 ⟨rfl, hm⟩])
    · have hr' := run_append_nil (P := P) (w := w) t ty e i z ht hi hz a m c news hl hnews (by omega) (by omega) (by have hb := hbytes; simp only [Nat.zero_add] at hb; omega)
      rw [hr] at hr'
      cases hr'
      exact .inr rfl
  · by_cases hroom : n + m ≤ cap
    · have hfit : n * i.size + news.length ≤ cur.size := by rw [hl, hcs, ← Nat.add_mul]; exact Nat.mul_le_mul_right _ hroom
      have hr' := run_append_room (P := P) (w := w) t ty e i ht hi g n cap cur hg a m c news hl hnews h1 hroom hfit
      rw [hr] at hr'
      cases hr'
      exact .inl rfl
    · have holds : ∀ j u, xs[j]? = some u → w.cell? ((⟨g, 0, none⟩ : Addr).add j) = some u := hown.cells (g := g) rfl
      have hr' := run_append_grow (P := P) (w := w) t ty e i z ht hi hz ⟨g, 0, none⟩ n cap xs hown.1 holds a m c news hl hnews (by omega) (by omega) (growslice_fits (by omega) hbytes)
      rw [hr] at hr'
      cases hr'
      exact .inr rfl
/-- what an append leaves -/
structure Apd (B : Nat) (e : TypeId) (sz : Nat) (v v' : Value) (w : World) (k : Exb B w) (n : Nat) (xs : List Value) : Prop where
  own : k.v.ownsRow B e sz v' n xs
  keep : ∀ x, x < w.heap.size → v.ownBlock ≠ some x → k.v.heap[x]? = w.heap[x]?
  at_ : v'.ownBlock = v.ownBlock ∨ v'.ownBlock = some w.heap.size
/-- append of one element -/
theorem wpList_appZ (f : α → List Value) {P : Program} (w : World) {ops : Array Oper} {rest : List Oper} {o : Oper} {a : Act} {Q : Exit → Act → World → Prop}
    (hgd : o.guard = none) (s x : Operand) (t : TypeId) (ho : o.op = .call { callee := .builtin .append, args := #[s, x], argTypes := #[t, t] })
    (B : Nat) (hB : B ≤ w.heap.size) (e : TypeId) (z : Value) (sz bytes : Nat) (ht : P.underlying t = some (.slice e)) (hinfo : (P.info? e).map (fun i => (i.zero, i.size, i.bytes)) = some (some z, sz, bytes)) (hzs : z.cells.size = sz) (hsz : 0 < sz)
    (hf : ∀ x, (f x).length = sz ∧ ∀ u ∈ f x, u.oneCell' = true)
    (v : Value) (l : List α) (hs : a.eval s = v) (hown : w.ownsRow B e sz v l.length (l.flatMap f))
    (y : α) (b c : Nat) (hx : a.eval x = .slice (some ⟨b, 0, none⟩) 1 c) (hcell : ∀ j u, (f y)[j]? = some u → w.cell? ⟨b, j, none⟩ = some u)
    (hbytes : (l.length + 1) * bytes ≤ 140737488355328) (hl : l.length ≤ 1000000000000)
    (h : ∀ (v' : Value) (k : Exb B w), Apd B e sz v v' w k (l ++ [y]).length ((l ++ [y]).flatMap f) → wpList P ops Q rest (a.put o.dst v') k.v) :
    wpList P ops Q (o :: rest) a w := by
  obtain ⟨i, hi, hz, hs', hb'⟩ := info_parts hinfo
  obtain ⟨v', w', hr, h1, h2, h3⟩ := run_app_where (P := P) w B t o.type e i z sz bytes ht hi hz hs' hb' hzs hsz v l.length (l.flatMap f) hown ⟨b, 0, none⟩ 1 c (f y) (by rw [(hf y).1]; omega)
    (fun j u hj => by rw [show (⟨b, 0, none⟩ : Addr).add j = ⟨b, 0 + j, none⟩ from Go.WideShapes.add_plain .., Nat.zero_add]; exact hcell j u hj) (hf y).2 (by simp only [maxLen]; omega) hbytes hB
  refine wpList_plain hgd fun K hK => ?_
  unfold Oper.wp execOp
  simp only [ho, resolve, invoke, builtin, Sem.run_bind, Sem.run_pure, Result.andThen_ok, List.map_toArray, List.map_cons, List.map_nil, hs, hx, hr]
  exact hK _ _ (h v' ⟨w', (Below.refl _ _).grown h2 hB (fun k hk => (hown.lt k hk).1)⟩ ⟨by simpa using h1, fun x hx hne => h2.block x hx (fun e => hne e.symm), h3⟩)
theorem app_many (f : α → List Value) {P : Program} (w : World) (o : Oper) (t : TypeId)
    (B : Nat) (hB : B ≤ w.heap.size) (e : TypeId) (z : Value) (sz bytes : Nat) (ht : P.underlying t = some (.slice e)) (hinfo : (P.info? e).map (fun i => (i.zero, i.size, i.bytes)) = some (some z, sz, bytes)) (hzs : z.cells.size = sz) (hsz : 0 < sz)
    (hf : ∀ x, (f x).length = sz ∧ ∀ u ∈ f x, u.oneCell' = true)
    (v : Value) (l : List α) (hown : w.ownsRow B e sz v l.length (l.flatMap f))
    (b q : Nat) (m : List α) (c : Nat) (hr : Rd sz f w (some ⟨b, q, none⟩) m)
    (hbytes : (l.length + m.length) * bytes ≤ 140737488355328) (hl : l.length + m.length ≤ 1000000000000) :
    ∃ (v' : Value) (k : Exb B w), (Builtin.append_ #[t, t] o.type #[v, .slice (some ⟨b, q, none⟩) m.length c]).run P w = .ok v' k.v ∧ Apd B e sz v v' w k (l ++ m).length ((l ++ m).flatMap f) := by
  obtain ⟨i, hi, hz, hs', hb'⟩ := info_parts hinfo
  obtain ⟨v', w', hr, h1, h2, h3⟩ := run_app_where (P := P) w B t o.type e i z sz bytes ht hi hz hs' hb' hzs hsz v l.length (l.flatMap f) hown ⟨b, q, none⟩ m.length c (m.flatMap f) (flat_len (fun x => (hf x).1) m)
    (fun j u hj => by
      obtain ⟨k, hk, i, hi, rfl, hg⟩ := flat_get (fun x => (hf x).1) m j u hj
      obtain ⟨b', q', e', hbw, hc⟩ := hr.at_ (by omega)
      cases e'
      rw [show (⟨b, q, none⟩ : Addr).add (k * sz + i) = ⟨b, q + (k * sz + i), none⟩ from Go.WideShapes.add_plain .., ← Nat.add_assoc]; exact hc k hk i u hg)
    (fun u hu => by
      obtain ⟨x, _, hx⟩ := List.mem_flatMap.1 hu
      exact (hf x).2 u hx) (by simp only [maxLen]; omega) hbytes hB
  exact ⟨v', ⟨w', (Below.refl _ _).grown h2 hB (fun k hk => (hown.lt k hk).1)⟩, hr, ⟨by simpa using h1, fun x hx hne => h2.block x hx (fun e => hne e.symm), h3⟩⟩
/-- append of a slice that has an address -/
theorem wpList_appM (f : α → List Value) {P : Program} (w : World) {ops : Array Oper} {rest : List Oper} {o : Oper} {a : Act} {Q : Exit → Act → World → Prop}
    (hgd : o.guard = none) (s x : Operand) (t : TypeId) (ho : o.op = .call { callee := .builtin .append, args := #[s, x], argTypes := #[t, t] })
    (B : Nat) (hB : B ≤ w.heap.size) (e : TypeId) (z : Value) (sz bytes : Nat) (ht : P.underlying t = some (.slice e)) (hinfo : (P.info? e).map (fun i => (i.zero, i.size, i.bytes)) = some (some z, sz, bytes)) (hzs : z.cells.size = sz) (hsz : 0 < sz)
    (hf : ∀ x, (f x).length = sz ∧ ∀ u ∈ f x, u.oneCell' = true)
    (v : Value) (l : List α) (hs : a.eval s = v) (hown : w.ownsRow B e sz v l.length (l.flatMap f))
    (b q : Nat) (m : List α) (c : Nat) (hx : a.eval x = .slice (some ⟨b, q, none⟩) m.length c) (hr : Rd sz f w (some ⟨b, q, none⟩) m)
    (hbytes : (l.length + m.length) * bytes ≤ 140737488355328) (hl : l.length + m.length ≤ 1000000000000)
    (h : ∀ (v' : Value) (k : Exb B w), Apd B e sz v v' w k (l ++ m).length ((l ++ m).flatMap f) → wpList P ops Q rest (a.put o.dst v') k.v) :
    wpList P ops Q (o :: rest) a w := by
  obtain ⟨v', k, hrun, hA⟩ := app_many f w o t B hB e z sz bytes ht hinfo hzs hsz hf v l hown b q m c hr hbytes hl
  refine wpList_plain hgd fun K hK => ?_
  unfold Oper.wp execOp
  simp only [ho, resolve, invoke, builtin, Sem.run_bind, Sem.run_pure, Result.andThen_ok, List.map_toArray, List.map_cons, List.map_nil, hs, hx, hrun]
  exact hK _ _ (h v' k hA)
/-- .. as one step of a region that draws -/
theorem step_appM (f : α → List Value) {P : Program} {ops : Array Oper} {o : Oper} {a : Act} {w : World} {K : Act → World → Prop} {Q : Exit → Act → World → Prop} {E : Prop}
    (hgd : o.guard = none) (s x : Operand) (t : TypeId) (ho : o.op = .call { callee := .builtin .append, args := #[s, x], argTypes := #[t, t] })
    (B : Nat) (hB : B ≤ w.heap.size) (e : TypeId) (z : Value) (sz bytes : Nat) (ht : P.underlying t = some (.slice e)) (hinfo : (P.info? e).map (fun i => (i.zero, i.size, i.bytes)) = some (some z, sz, bytes)) (hzs : z.cells.size = sz) (hsz : 0 < sz)
    (hf : ∀ x, (f x).length = sz ∧ ∀ u ∈ f x, u.oneCell' = true)
    (v : Value) (l : List α) (hs : a.eval s = v) (hown : w.ownsRow B e sz v l.length (l.flatMap f))
    (b q : Nat) (m : List α) (c : Nat) (hx : a.eval x = .slice (some ⟨b, q, none⟩) m.length c) (hr : Rd sz f w (some ⟨b, q, none⟩) m)
    (hbytes : (l.length + m.length) * bytes ≤ 140737488355328) (hl : l.length + m.length ≤ 1000000000000)
    (h : ∀ (v' : Value) (k : Exb B w), Apd B e sz v v' w k (l ++ m).length ((l ++ m).flatMap f) → K (a.put o.dst v') k.v) :
    if Region.wanted o (yielded ops a.tmps) = true then Oper.wp P o a w K Q else E := by
  have hw : Region.wanted o (yielded ops a.tmps) = true := by simp [Region.wanted, hgd]
  rw [if_pos hw]
  obtain ⟨v', k, hrun, hA⟩ := app_many f w o t B hB e z sz bytes ht hinfo hzs hsz hf v l hown b q m c hr hbytes hl
  unfold Oper.wp execOp
  simp only [ho, resolve, invoke, builtin, Sem.run_bind, Sem.run_pure, Result.andThen_ok, List.map_toArray, List.map_cons, List.map_nil, hs, hx, hrun]
  exact h v' k hA
namespace Apd
variable {B : Nat} {e : TypeId} {sz : Nat} {v v' : Value} {w : World} {k : Exb B w} {n : Nat} {xs : List Value}
/-- a cell of another block stays -/
theorem cell (h : Apd B e sz v v' w k n xs) {b : Nat} [hb : LtW b w] (hne : v.ownBlock ≠ some b) (o : Nat) {u : Value} (hc : w.cell? ⟨b, o, none⟩ = some u) : k.v.cell? ⟨b, o, none⟩ = some u :=
  (World.cell?_of_block (a := ⟨b, o, none⟩) (h.keep b hb.h hne)).trans hc
theorem ne (h : Apd B e sz v v' w k n xs) {b : Nat} (hb : b < w.heap.size) (hne : v.ownBlock ≠ some b) : v'.ownBlock ≠ some b := by
  rcases h.at_ with h | h
  · rw [h]; exact hne
  · rw [h]; intro e; cases e; omega
end Apd
/-- a row's block lies below a new block -/
theorem own_ne {B : Nat} {e : TypeId} {sz : Nat} {v : Value} {j : World} {n : Nat} {xs : List Value} (h : j.ownsRow B e sz v n xs) {b : Nat} (hb : j.heap.size ≤ b) : v.ownBlock ≠ some b := fun e => by
  have := (h.lt _ e).2; omega
end Go.Proofs.YtonmeffhelaohaaDoor
namespace Go.Proofs.YtonmeffhelaohaaDoor
open Go.RowKit
variable {α : Type}
theorem step_appZ (f : α → List Value) {P : Program} {ops : Array Oper} {o : Oper} {a : Act} {w : World} {K : Act → World → Prop} {Q : Exit → Act → World → Prop} {E : Prop}
    (hgd : o.guard = none) (s x : Operand) (t : TypeId) (ho : o.op = .call { callee := .builtin .append, args := #[s, x], argTypes := #[t, t] })
    (B : Nat) (hB : B ≤ w.heap.size) (e : TypeId) (z : Value) (sz bytes : Nat) (ht : P.underlying t = some (.slice e)) (hinfo : (P.info? e).map (fun i => (i.zero, i.size, i.bytes)) = some (some z, sz, bytes)) (hzs : z.cells.size = sz) (hsz : 0 < sz)
    (hf : ∀ x, (f x).length = sz ∧ ∀ u ∈ f x, u.oneCell' = true)
    (v : Value) (l : List α) (hs : a.eval s = v) (hown : w.ownsRow B e sz v l.length (l.flatMap f))
    (y : α) (b c : Nat) (hx : a.eval x = .slice (some ⟨b, 0, none⟩) 1 c) (hcell : ∀ j u, (f y)[j]? = some u → w.cell? ⟨b, j, none⟩ = some u)
    (hbytes : (l.length + 1) * bytes ≤ 140737488355328) (hl : l.length ≤ 1000000000000)
    (h : ∀ (v' : Value) (k : Exb B w), Apd B e sz v v' w k (l ++ [y]).length ((l ++ [y]).flatMap f) → K (a.put o.dst v') k.v) :
    if Region.wanted o (yielded ops a.tmps) = true then Oper.wp P o a w K Q else E := by
  have hw : Region.wanted o (yielded ops a.tmps) = true := by simp [Region.wanted, hgd]
  rw [if_pos hw]
  obtain ⟨i, hi, hz, hs', hb'⟩ := info_parts hinfo
  obtain ⟨v', w', hr, h1, h2, h3⟩ := run_app_where (P := P) w B t o.type e i z sz bytes ht hi hz hs' hb' hzs hsz v l.length (l.flatMap f) hown ⟨b, 0, none⟩ 1 c (f y) (by rw [(hf y).1]; omega)
    (fun j u hj => by rw [show (⟨b, 0, none⟩ : Addr).add j = ⟨b, 0 + j, none⟩ from Go.WideShapes.add_plain .., Nat.zero_add]; exact hcell j u hj) (hf y).2 (by simp only [maxLen]; omega) hbytes hB
  unfold Oper.wp execOp
  simp only [ho, resolve, invoke, builtin, Sem.run_bind, Sem.run_pure, Result.andThen_ok, List.map_toArray, List.map_cons, List.map_nil, hs, hx, hr]
  exact h v' ⟨w', (Below.refl _ _).grown h2 hB (fun k hk => (hown.lt k hk).1)⟩ ⟨by simpa using h1, fun x hx hne => h2.block x hx (fun e => hne e.symm), h3⟩
/-- v is a row that append has built from block B on, and not in block T -/
class OwT (B T : Nat) (e : TypeId) (sz : Nat) (v : Value) (n : Nat) (xs : List Value) (w : World) : Prop where
  own : w.ownsRow B e sz v n xs
  ne : v.ownBlock ≠ some T
theorem ownsRow_congr {w w' : World} {B : Nat} {e : TypeId} {sz : Nat} {v : Value} {n : Nat} {xs : List Value} (h : w.ownsRow B e sz v n xs) (hb : ∀ g, v.ownBlock = some g → w'.heap[g]? = w.heap[g]?) : w'.ownsRow B e sz v n xs := by
  refine ⟨h.1, ?_⟩
  rcases h.2 with hn | ⟨g, cap, cur, rfl, hg, hgg, rest⟩
  · exact .inl hn
  · exact .inr ⟨g, cap, cur, rfl, hg, (hb g rfl).trans hgg, rest⟩
section
variable {B T : Nat} {e : TypeId} {sz : Nat} {v v' : Value} {n m : Nat} {xs ys : List Value} {w : World}
instance (priority := 900) owt_alloc [h : OwT B T e sz v n xs w] (o : Obj) : OwT B T e sz v n xs (w.alloc o) := ⟨h.own.alloc o, h.ne⟩
instance (priority := 900) owt_ex [h : OwT B T e sz v n xs w] (k : Ex w) : OwT B T e sz v n xs k.v := ⟨ownsRow_ex h.own k, h.ne⟩
instance (priority := 900) owt_drew [h : OwT B T e sz v n xs w] : OwT B T e sz v n xs w.drew := ⟨h.own, h.ne⟩
instance (priority := 900) owt_set [h : OwT B T e sz v n xs w] (o : Nat) (u : Value) : OwT B T e sz v n xs (w.setCell ⟨T, o, none⟩ u) :=
  ⟨ownsRow_congr h.own fun g hg => Below.heap_setCell _ _ _ _ (fun e => h.ne (by rw [hg, e])), h.ne⟩
instance (priority := 800) owt_setB {a : Nat} [h : OwT B T e sz v n xs w] [ha : LtN a B] (o : Nat) (u : Value) : OwT B T e sz v n xs (w.setCell ⟨a, o, none⟩ u) :=
  ⟨ownsRow_block h.own fun g hg _ => Below.heap_setCell _ _ _ _ (by have := ha.h; show g ≠ a; omega), h.ne⟩
theorem owT_h [h : OwT B T e sz v n xs w] : w.ownsRow B e sz v n xs := h.own
theorem Apd.owt {k : Exb B w} (h : Apd B e sz v v' w k m ys) (hw : OwT B T e sz v n xs w) (ht : T < w.heap.size) : OwT B T e sz v' m ys k.v := ⟨h.own, h.ne ht hw.ne⟩
/-- block T stays as it was -/
theorem Apd.blk {k : Exb B w} (h : Apd B e sz v v' w k m ys) (hw : OwT B T e sz v n xs w) (ht : T < w.heap.size) : k.v.heap[T]? = w.heap[T]? := h.keep T ht hw.ne
/-- a new row, and a block laid behind it -/
theorem OwT.new {j : World} (h : j.ownsRow B e sz v n xs) (hT : j.heap.size ≤ T) (hw : w.ownsRow B e sz v n xs) : OwT B T e sz v n xs w := ⟨hw, own_ne h hT⟩
end
/-- the cells of a flat list -/
theorem flat_at {α : Type} {sz : Nat} {f : α → List Value} (hf : ∀ x, (f x).length = sz) : ∀ (l : List α) (k : Nat) (h : k < l.length) (j : Nat), j < sz → (l.flatMap f)[k * sz + j]? = (f l[k])[j]?
  | [], k, h, _, _ => absurd h (by simp)
  | x :: l, 0, _, j, hj => by
    rw [List.flatMap_cons, Nat.zero_mul, Nat.zero_add, List.getElem?_append_left (by rw [hf]; exact hj)]
    rfl
  | x :: l, k + 1, h, j, hj => by
    have hk : k < l.length := by simpa using h
    rw [List.flatMap_cons, List.getElem?_append_right (by rw [hf, Nat.succ_mul]; omega), hf, show (k + 1) * sz + j - sz = k * sz + j by rw [Nat.succ_mul]; omega, flat_at hf l k hk j hj]
    rfl
/-- a row all of whose cells are those of a list -/
theorem owns_full {α : Type} {sz : Nat} {f : α → List Value} (hf : ∀ x, (f x).length = sz) (hsz : 0 < sz) {w : World} {B g : Nat} {e : TypeId} {N : Nat} {F : Nat → Value} (l : List α) (h : w.rowIs g e N F) (hB : B ≤ g) (hN : N = l.length * sz) (hm : l.length ≤ maxLen)
    (hc : ∀ (k : Nat) (hk : k < l.length) (i : Nat) (v : Value), (f l[k])[i]? = some v → i < sz → F (k * sz + i) = v) : w.ownsRow B e sz (.slice (some ⟨g, 0, none⟩) l.length l.length) l.length (l.flatMap f) := by
  obtain ⟨c, hb, hs, hc'⟩ := h
  refine ⟨flat_len hf l, .inr ⟨g, l.length, c, rfl, hB, hb, Nat.le_refl _, hm, by rw [hs, hN], ?_⟩⟩
  rw [List.take_of_length_le (by simp [hs, hN])]
  apply List.ext_getElem?
  intro t
  by_cases ht : t < N
  · rw [Array.getElem?_toList, hc' t ht]
    have hk : t / sz < l.length := by rw [Nat.div_lt_iff_lt_mul hsz]; omega
    have hi : t % sz < sz := Nat.mod_lt _ hsz
    have he : t / sz * sz + t % sz = t := by rw [Nat.mul_comm]; exact Nat.div_add_mod ..
    have h1 := flat_at hf l (t / sz) hk (t % sz) hi
    rw [he] at h1
    rw [h1]
    have h2 : (f l[t / sz])[t % sz]? = some ((f l[t / sz])[t % sz]'(by rw [hf]; exact hi)) := List.getElem?_eq_getElem _
    rw [h2, ← hc _ hk _ _ h2 hi, he]
  · rw [Array.getElem?_toList, Array.getElem?_eq_none (by omega), List.getElem?_eq_none (by rw [flat_len hf]; omega)]
end Go.Proofs.YtonmeffhelaohaaDoor
namespace Go.Proofs.YtonmeffhelaohaaDoor
open Go.RowKit
section
variable {α : Type} {sz : Nat} {f : α → List Value} {w : World} {b o : Nat} {l : List α}
theorem Rd.take (h : Rd sz f w (some ⟨b, o, none⟩) l) (i : Nat) : Rd sz f w (some ⟨b, o, none⟩) (l.take i) := ⟨by have := h.len; rw [List.length_take]; omega, fun h0 => by
  rw [List.length_take] at h0
  obtain ⟨b', o', e, hb, hc⟩ := h.at_ (by omega)
  refine ⟨b', o', e, hb, fun k hk j v hv => ?_⟩
  rw [List.length_take] at hk
  rw [List.getElem_take] at hv
  exact hc k (by omega) j v hv⟩
theorem Rd.drop (h : Rd sz f w (some ⟨b, o, none⟩) l) (i : Nat) : Rd sz f w (some ⟨b, o + i * sz, none⟩) (l.drop i) := ⟨by have := h.len; rw [List.length_drop]; omega, fun h0 => by
  rw [List.length_drop] at h0
  obtain ⟨b', o', e, hb, hc⟩ := h.at_ (by omega)
  cases e
  refine ⟨b, o + i * sz, rfl, hb, fun k hk j v hv => ?_⟩
  rw [List.length_drop] at hk
  rw [List.getElem_drop] at hv
  have := hc (i + k) (by omega) j v hv
  rwa [show o + (i + k) * sz + j = o + i * sz + k * sz + j by rw [Nat.add_mul]; omega] at this⟩
end
theorem own_cap {w : World} {B : Nat} {e : TypeId} {sz : Nat} {A : Option Addr} {n c : Nat} {xs : List Value} (h : w.ownsRow B e sz (.slice A n c) n xs) : n ≤ c ∧ ((A = none ∧ c = 0) ∨ ∃ b o, A = some ⟨b, o, none⟩) := by
  rcases h.2 with ⟨h1, h2⟩ | ⟨g, cap, cur, h1, -, -, h2, -⟩
  · cases h1; exact ⟨by omega, .inl ⟨rfl, rfl⟩⟩
  · cases h1; exact ⟨h2, .inr ⟨g, 0, rfl⟩⟩
/-- A is a plain address, or nil -/
class PlA (A : Option Addr) (c : Nat) : Prop where h : (A = none ∧ c = 0) ∨ ∃ b o, A = some ⟨b, o, none⟩
instance pla_some {b o c : Nat} : PlA (some ⟨b, o, none⟩) c := ⟨.inr ⟨b, o, rfl⟩⟩
instance pla_none : PlA none 0 := ⟨.inl ⟨rfl, rfl⟩⟩
end Go.Proofs.YtonmeffhelaohaaDoor
