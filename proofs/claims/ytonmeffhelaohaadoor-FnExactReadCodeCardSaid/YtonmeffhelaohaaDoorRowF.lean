/-
  Rows of the call's own, found by instances through allocations, stores and appends: a world that is as another below a block number ('Exb'), a row told by its cells ('RowF'), a row that append builds ('OwR'). Conditions: those typed.
-/
import Derived.Test.YtonmeffhelaohaaDoorApp
import Derived.Laws.AppendOwnNone
import Derived.Deep.RegionLaw
namespace Go.Proofs.YtonmeffhelaohaaDoor
open Go.RowKit
/-- a world that is as w below block B -/
structure Exb (B : Nat) (w : World) where
  v : World
  h : Below B w v
/-- a is less than b -/
class LtN (a b : Nat) : Prop where h : a < b
section
variable {w : World} {B b : Nat}
instance ltn_of [h : LtW b w] : LtN b w.heap.size := ⟨h.h⟩
instance (priority := 900) ltw_exb (k : Exb B w) [h : LtW b w] : LtW b k.v := ⟨Nat.lt_of_lt_of_le h.h k.h.size⟩
instance (priority := 900) leb_exb {C : Nat} (k : Exb B w) [h : LeB C w.heap.size] : LeB C k.v.heap.size := ⟨Nat.le_trans h.h k.h.size⟩
@[go_sem] theorem Exb.cell (k : Exb B w) (b o : Nat) [h : LtN b B] : k.v.cell? ⟨b, o, none⟩ = w.cell? ⟨b, o, none⟩ := k.h.cell (p := ⟨b, o, none⟩) h.h
@[go_sem] theorem Exb.frozen (k : Exb B w) (b o : Nat) [h : LtN b B] : k.v.frozen? ⟨b, o, none⟩ = w.frozen? ⟨b, o, none⟩ := k.h.frozen (p := ⟨b, o, none⟩) h.h
theorem Ok.exb {B0 : Nat} {a : World} (h : Ok B0 a w) (k : Exb B w) [hb : LeB B0 B] : Ok B0 a k.v := ⟨h.b.trans (k.h.mono hb.h), Nat.le_trans h.s k.h.size⟩
@[go_sem] theorem frozen_setI (w : World) (a o b p : Nat) (v : Value) : (w.setCell ⟨a, o, none⟩ v).frozen? ⟨b, p, none⟩ = w.frozen? ⟨b, p, none⟩ := World.frozen?_setCell ..
@[go_sem] theorem cell_nbI (w : World) (a o p : Nat) (v : Value) (h : o ≠ p) : (w.setCell ⟨a, o, none⟩ v).cell? ⟨a, p, none⟩ = w.cell? ⟨a, p, none⟩ :=
  World.cell?_setCell_other _ _ _ _ (fun e => h (by cases e; rfl))
end
instance (priority := 500) ltw_leb {w : World} {b : Nat} [h : LeB b w.heap.size] (o : Obj) : LtW b (w.alloc o) := ⟨by have := h.h; simp; omega⟩
instance (priority := 500) leb_alloc1 {w : World} {b : Nat} [h : LeB b w.heap.size] (o : Obj) : LeB (b + 1) (w.alloc o).heap.size := ⟨by have := h.h; simp; omega⟩
instance Up.set {w0 w : World} [h : Up w0 w] (b o : Nat) [hb : LeB w0.heap.size b] (v : Value) : Up w0 (w.setCell ⟨b, o, none⟩ v) := ⟨h.h.setCell hb.h v⟩
instance Up.exb {w0 w : World} {B : Nat} [h : Up w0 w] (k : Exb B w) [hb : LeB w0.heap.size B] : Up w0 k.v := ⟨h.h.trans (k.h.mono hb.h)⟩
theorem ex_up {w W1 W : World} (h : ∃ j : Ex W1, W = j.v) [hu : Up w W1] : ∃ k : Ex w, W = k.v := by
  obtain ⟨j, rfl⟩ := h
  exact ⟨(Ex.of hu.h).tr j, rfl⟩
/-- block b is a row of N cells that are as F tells -/
class RowF (e : outParam TypeId) (N : outParam Nat) (F : outParam (Nat → Value)) (w : World) (b : Nat) : Prop where h : w.rowIs b e N F
section
variable {e : TypeId} {N : Nat} {F : Nat → Value} {w : World} {b a B : Nat}
theorem RowF.lt (h : RowF e N F w b) : LtW b w := ⟨h.h.lt⟩
instance (priority := 900) rowf_alloc [h : RowF e N F w b] (o : Obj) : RowF e N F (w.alloc o) b := ⟨h.h.alloc o⟩
instance (priority := 900) rowf_ex [h : RowF e N F w b] (k : Ex w) : RowF e N F k.v b := ⟨h.h.of_block (k.block h.h.lt)⟩
instance (priority := 900) rowf_exb [h : RowF e N F w b] (k : Exb B w) [hb : LtN b B] : RowF e N F k.v b := ⟨h.h.of_block (k.h.block _ hb.h)⟩
instance (priority := 900) rowf_drew [h : RowF e N F w b] : RowF e N F w.drew b := ⟨h.h⟩
instance (priority := 800) rowf_far [h : RowF e N F w b] [hn : NeB a b] (o : Nat) (v : Value) : RowF e N F (w.setCell ⟨a, o, none⟩ v) b := ⟨h.h.setOther (fun e => hn.h e.symm) v⟩
instance (priority := 900) rowf_set [h : RowF e N F w b] (o : Nat) (v : Value) : RowF e N (fun j => if j = o then v else F j) (w.setCell ⟨b, o, none⟩ v) b := ⟨h.h.set o v⟩
end
instance (priority := 1000) rowf_new {w : World} (c : Array Value) (t : TypeId) : RowF t c.size (fun i => (c[i]?).getD undef) (w.alloc (.cells c t)) w.heap.size := ⟨World.rowIs_alloc _ _ _ _ fun i hi => by simp [hi]⟩
instance (priority := 1000) rowf_new1 {w : World} (o : Obj) (c : Array Value) (t : TypeId) : RowF t c.size (fun i => (c[i]?).getD undef) ((w.alloc o).alloc (.cells c t)) (w.heap.size + 1) := ⟨by have := World.rowIs_alloc (w.alloc o) c t (fun i => (c[i]?).getD undef) (fun i hi => by simp [hi]); simpa using this⟩
/-- the slice with base A reads as l, and lies from block B on -/
class RdB {α : Type} (B : Nat) (sz : Nat) (f : α → List Value) (w : World) (A : Option Addr) (l : List α) : Prop where
  rd : Rd sz f w A l
  ge : ∀ b o m, A = some ⟨b, o, m⟩ → B ≤ b
section
variable {α : Type} {B : Nat} {sz : Nat} {f : α → List Value} {w : World} {A : Option Addr} {l : List α} {a : Nat}
instance (priority := 900) rdb_ex [h : RdB B sz f w A l] (k : Ex w) : RdB B sz f k.v A l := ⟨haveI := h.rd; inferInstance, h.ge⟩
instance (priority := 900) rdb_alloc [h : RdB B sz f w A l] (o : Obj) : RdB B sz f (w.alloc o) A l := ⟨haveI := h.rd; inferInstance, h.ge⟩
instance (priority := 900) rdb_drew [h : RdB B sz f w A l] : RdB B sz f w.drew A l := ⟨haveI := h.rd; inferInstance, h.ge⟩
theorem Rd.same {w' : World} (h : Rd sz f w A l) (he : ∀ b o, A = some ⟨b, o, none⟩ → b < w.heap.size → w'.heap[b]? = w.heap[b]?) (hs : w.heap.size ≤ w'.heap.size) : Rd sz f w' A l :=
  ⟨h.len, fun h0 => by
    obtain ⟨b, o, e, hb, hc⟩ := h.at_ h0
    exact ⟨b, o, e, ⟨Nat.lt_of_lt_of_le hb.h hs⟩, fun i hi j v hv => (World.cell?_of_block (he b o e hb.h)).trans (hc i hi j v hv)⟩⟩
instance (priority := 900) rdb_set [h : RdB B sz f w A l] [ha : LtN a B] (o : Nat) (v : Value) : RdB B sz f (w.setCell ⟨a, o, none⟩ v) A l :=
  ⟨h.rd.same (fun b _ e _ => Below.heap_setCell _ _ _ _ (by have := ha.h; have := h.ge _ _ _ e; show b ≠ a; omega)) (by rw [size_setCell']; exact Nat.le_refl _), h.ge⟩
end
theorem rdB_keep {α : Type} {B B2 : Nat} {sz sz2 : Nat} {f : α → List Value} {W W' j : World} {D : Option Addr} {T : List α} {e : TypeId} {v : Value} {n : Nat} {xs : List Value} (hrd : RdB B sz f W D T) (hs : W.heap.size ≤ W'.heap.size)
    (hkeep : ∀ x, x < W.heap.size → v.ownBlock ≠ some x → W'.heap[x]? = W.heap[x]?) (hown : j.ownsRow B2 e sz2 v n xs) (hfr : ∀ b o m, D = some ⟨b, o, m⟩ → j.heap.size ≤ b) : RdB B sz f W' D T :=
  ⟨hrd.rd.same (fun b o h hb => hkeep b hb (fun e => by have := (hown.lt _ e).2; have := hfr b o none h; omega)) hs, hrd.ge⟩
theorem rdB_h {α : Type} {B : Nat} {sz : Nat} {f : α → List Value} {w : World} {A : Option Addr} {l : List α} [h : RdB B sz f w A l] : Rd sz f w A l := h.rd
/-- v is a row of n elements that append has built from block B on -/
class OwR (B : Nat) (e : TypeId) (sz : Nat) (v : Value) (n : Nat) (xs : List Value) (w : World) : Prop where h : w.ownsRow B e sz v n xs
theorem ownsRow_block {w w' : World} {B : Nat} {e : TypeId} {sz : Nat} {v : Value} {n : Nat} {xs : List Value} (h : w.ownsRow B e sz v n xs) (hb : ∀ g, B ≤ g → g < w.heap.size → w'.heap[g]? = w.heap[g]?) : w'.ownsRow B e sz v n xs := by
  refine ⟨h.1, ?_⟩
  rcases h.2 with hn | ⟨g, cap, cur, rfl, hg, hgg, rest⟩
  · exact .inl hn
  · exact .inr ⟨g, cap, cur, rfl, hg, (hb g hg (Array.getElem?_eq_some_iff.1 hgg).1).trans hgg, rest⟩
section
variable {B : Nat} {e : TypeId} {sz : Nat} {v : Value} {n : Nat} {xs : List Value} {w : World} {a : Nat}
instance (priority := 900) owr_alloc [h : OwR B e sz v n xs w] (o : Obj) : OwR B e sz v n xs (w.alloc o) := ⟨h.h.alloc o⟩
instance (priority := 900) owr_ex [h : OwR B e sz v n xs w] (k : Ex w) : OwR B e sz v n xs k.v := ⟨ownsRow_ex h.h k⟩
instance (priority := 900) owr_drew [h : OwR B e sz v n xs w] : OwR B e sz v n xs w.drew := ⟨h.h⟩
instance (priority := 900) owr_set [h : OwR B e sz v n xs w] [ha : LtN a B] (o : Nat) (u : Value) : OwR B e sz v n xs (w.setCell ⟨a, o, none⟩ u) :=
  ⟨ownsRow_block h.h fun g hg _ => Below.heap_setCell _ _ _ _ (by have := ha.h; show g ≠ a; omega)⟩
end
theorem rowF_h {e : TypeId} {N : Nat} {F : Nat → Value} {w : World} {b : Nat} [h : RowF e N F w b] : w.rowIs b e N F := h.h
theorem rowF_congr {e : TypeId} {N : Nat} {F : Nat → Value} {w : World} {b : Nat} (G : Nat → Value) [h : RowF e N F w b] (hc : ∀ i, i < N → F i = G i) : w.rowIs b e N G := h.h.congr hc
theorem owR_h {B : Nat} {e : TypeId} {sz : Nat} {v : Value} {n : Nat} {xs : List Value} {w : World} [h : OwR B e sz v n xs w] : w.ownsRow B e sz v n xs := h.h
variable {α : Type}
/-- append of one element to a row of the call's own; all below the row's base stays -/
theorem wpList_appB (f : α → List Value) {P : Program} (w : World) {ops : Array Oper} {rest : List Oper} {o : Oper} {a : Act} {Q : Exit → Act → World → Prop}
    (hg : o.guard = none) (s x : Operand) (t : TypeId) (hop : o.op = .call { callee := .builtin .append, args := #[s, x], argTypes := #[t, t] })
    (B : Nat) (hB : B ≤ w.heap.size) (e : TypeId) (z : Value) (sz bytes : Nat) (ht : P.underlying t = some (.slice e)) (hinfo : (P.info? e).map (fun i => (i.zero, i.size, i.bytes)) = some (some z, sz, bytes)) (hzs : z.cells.size = sz) (hsz : 0 < sz)
    (hf : ∀ x, (f x).length = sz ∧ ∀ u ∈ f x, u.oneCell' = true)
    (v : Value) (l : List α) (hs : a.eval s = v) (hown : w.ownsRow B e sz v l.length (l.flatMap f))
    (y : α) (b c : Nat) (hx : a.eval x = .slice (some ⟨b, 0, none⟩) 1 c) (hcell : ∀ j u, (f y)[j]? = some u → w.cell? ⟨b, j, none⟩ = some u)
    (hbytes : (l.length + 1) * bytes ≤ 140737488355328) (hl : l.length ≤ 1000000000000)
    (h : ∀ (v' : Value) (k : Exb B w), k.v.ownsRow B e sz v' (l ++ [y]).length ((l ++ [y]).flatMap f) → wpList P ops Q rest (a.put o.dst v') k.v) :
    wpList P ops Q (o :: rest) a w := by
  obtain ⟨i, hi, hz, hs', hb'⟩ := info_parts hinfo
  refine wpList_append_own w hg s x t hop B e i z sz bytes ht hi hz hs' hb' hzs hsz v l.length (l.flatMap f) hs hown ⟨b, 0, none⟩ 1 c (f y) hx (by rw [(hf y).1]; omega) (fun j u hj => ?_) (hf y).2 (by simp only [maxLen]; omega) hbytes hB ?_
  · rw [show (⟨b, 0, none⟩ : Addr).add j = ⟨b, 0 + j, none⟩ from Go.WideShapes.add_plain .., Nat.zero_add]; exact hcell j u hj
  · intro v' w' h1 h2 _
    refine h v' ⟨w', (Below.refl _ _).grown h2 hB (fun k hk => (hown.lt k hk).1)⟩ ?_
    simpa using h1
/-- .. as one step of a region that draws -/
theorem step_appB (f : α → List Value) {P : Program} {ops : Array Oper} {o : Oper} {a : Act} {w : World} {K : Act → World → Prop} {Q : Exit → Act → World → Prop} {E : Prop}
    (hg : o.guard = none) (s x : Operand) (t : TypeId) (hop : o.op = .call { callee := .builtin .append, args := #[s, x], argTypes := #[t, t] })
    (B : Nat) (hB : B ≤ w.heap.size) (e : TypeId) (z : Value) (sz bytes : Nat) (ht : P.underlying t = some (.slice e)) (hinfo : (P.info? e).map (fun i => (i.zero, i.size, i.bytes)) = some (some z, sz, bytes)) (hzs : z.cells.size = sz) (hsz : 0 < sz)
    (hf : ∀ x, (f x).length = sz ∧ ∀ u ∈ f x, u.oneCell' = true)
    (v : Value) (l : List α) (hs : a.eval s = v) (hown : w.ownsRow B e sz v l.length (l.flatMap f))
    (y : α) (b c : Nat) (hx : a.eval x = .slice (some ⟨b, 0, none⟩) 1 c) (hcell : ∀ j u, (f y)[j]? = some u → w.cell? ⟨b, j, none⟩ = some u)
    (hbytes : (l.length + 1) * bytes ≤ 140737488355328) (hl : l.length ≤ 1000000000000)
    (h : ∀ (v' : Value) (k : Exb B w), k.v.ownsRow B e sz v' (l ++ [y]).length ((l ++ [y]).flatMap f) → K (a.put o.dst v') k.v) :
    if Region.wanted o (yielded ops a.tmps) = true then Oper.wp P o a w K Q else E := by
  have hw : Region.wanted o (yielded ops a.tmps) = true := by simp [Region.wanted, hg]
  rw [if_pos hw]
  obtain ⟨i, hi, hz, hs', hb'⟩ := info_parts hinfo
  refine wp_append_own w s x t hop B e i z sz bytes ht hi hz hs' hb' hzs hsz v l.length (l.flatMap f) hs hown ⟨b, 0, none⟩ 1 c (f y) hx (by rw [(hf y).1]; omega) (fun j u hj => ?_) (hf y).2 (by simp only [maxLen]; omega) hbytes hB ?_
  · rw [show (⟨b, 0, none⟩ : Addr).add j = ⟨b, 0 + j, none⟩ from Go.WideShapes.add_plain .., Nat.zero_add]; exact hcell j u hj
  · intro v' w' h1 h2 _
    refine h v' ⟨w', (Below.refl _ _).grown h2 hB (fun k hk => (hown.lt k hk).1)⟩ ?_
    simpa using h1
/-- .. telling that but the row all stays -/
theorem step_appK (f : α → List Value) {P : Program} {ops : Array Oper} {o : Oper} {a : Act} {w : World} {K : Act → World → Prop} {Q : Exit → Act → World → Prop} {E : Prop}
    (hg : o.guard = none) (s x : Operand) (t : TypeId) (hop : o.op = .call { callee := .builtin .append, args := #[s, x], argTypes := #[t, t] })
    (B : Nat) (hB : B ≤ w.heap.size) (e : TypeId) (z : Value) (sz bytes : Nat) (ht : P.underlying t = some (.slice e)) (hinfo : (P.info? e).map (fun i => (i.zero, i.size, i.bytes)) = some (some z, sz, bytes)) (hzs : z.cells.size = sz) (hsz : 0 < sz)
    (hf : ∀ x, (f x).length = sz ∧ ∀ u ∈ f x, u.oneCell' = true)
    (v : Value) (l : List α) (hs : a.eval s = v) (hown : w.ownsRow B e sz v l.length (l.flatMap f))
    (y : α) (b c : Nat) (hx : a.eval x = .slice (some ⟨b, 0, none⟩) 1 c) (hcell : ∀ j u, (f y)[j]? = some u → w.cell? ⟨b, j, none⟩ = some u)
    (hbytes : (l.length + 1) * bytes ≤ 140737488355328) (hl : l.length ≤ 1000000000000)
    (h : ∀ (v' : Value) (k : Exb B w), k.v.ownsRow B e sz v' (l ++ [y]).length ((l ++ [y]).flatMap f) → (∀ x, x < w.heap.size → v.ownBlock ≠ some x → k.v.heap[x]? = w.heap[x]?) → K (a.put o.dst v') k.v) :
    if Region.wanted o (yielded ops a.tmps) = true then Oper.wp P o a w K Q else E := by
  have hw : Region.wanted o (yielded ops a.tmps) = true := by simp [Region.wanted, hg]
  rw [if_pos hw]
  obtain ⟨i, hi, hz, hs', hb'⟩ := info_parts hinfo
  refine wp_append_own w s x t hop B e i z sz bytes ht hi hz hs' hb' hzs hsz v l.length (l.flatMap f) hs hown ⟨b, 0, none⟩ 1 c (f y) hx (by rw [(hf y).1]; omega) (fun j u hj => ?_) (hf y).2 (by simp only [maxLen]; omega) hbytes hB ?_
  · rw [show (⟨b, 0, none⟩ : Addr).add j = ⟨b, 0 + j, none⟩ from Go.WideShapes.add_plain .., Nat.zero_add]; exact hcell j u hj
  · intro v' w' h1 h2 _
    refine h v' ⟨w', (Below.refl _ _).grown h2 hB (fun k hk => (hown.lt k hk).1)⟩ ?_ (fun x hx hne => h2.block x hx (fun e => hne e.symm))
    simpa using h1
theorem cellsN (w : World) (c : List Value) (t : TypeId) (i : Nat) (u : Value) (h : c[i]? = some u) : (w.alloc (.cells c.toArray t)).cell? ⟨w.heap.size, i, none⟩ = some u := by
  have hi := (List.getElem?_eq_some_iff.1 h).1
  have := (World.rowIs_alloc w c.toArray t (fun i => (c[i]?).getD undef) (fun i hi => by simp [show i < c.length by simpa using hi])).cell (i := i) (by simpa using hi)
  rw [this, h]; rfl
theorem cellsB {w : World} {c : List Value} {t : TypeId} {b : Nat} (hb : b = w.heap.size) (i : Nat) (u : Value) (h : c[i]? = some u) : (w.alloc (.cells c.toArray t)).cell? ⟨b, i, none⟩ = some u := by
  subst hb; exact cellsN w c t i u h
theorem made_one {z : Value} (hz : z.cells = #[z]) {n i : Nat} (h : i < n) : ((madeCells z.cells (n * 1))[i]?).getD undef = z := by
  rw [hz, Nat.mul_one]
  simp [madeCells, h, Nat.mod_one]
theorem flat_get {sz : Nat} {f : α → List Value} (hf : ∀ x, (f x).length = sz) : ∀ (l : List α) (j : Nat) (u : Value), (l.flatMap f)[j]? = some u → ∃ (k : Nat) (hk : k < l.length) (i : Nat), i < sz ∧ j = k * sz + i ∧ (f l[k])[i]? = some u
  | [], j, u, h => by simp at h
  | x :: l, j, u, h => by
    rw [List.flatMap_cons] at h
    rcases Nat.lt_or_ge j (f x).length with h1 | h1
    · rw [List.getElem?_append_left h1] at h
      exact ⟨0, by simp, j, by rw [← hf x]; exact h1, by omega, by simpa using h⟩
    · rw [List.getElem?_append_right h1] at h
      obtain ⟨k, hk, i, hi, he, hg⟩ := flat_get hf l _ u h
      refine ⟨k + 1, by simp; omega, i, hi, ?_, by simpa using hg⟩
      rw [hf] at he h1
      rw [Nat.succ_mul]
      omega
theorem flat_len {sz : Nat} {f : α → List Value} (hf : ∀ x, (f x).length = sz) (l : List α) : (l.flatMap f).length = l.length * sz := by
  induction l with
  | nil => simp
  | cons x l ih => rw [List.flatMap_cons, List.length_append, ih, hf, List.length_cons, Nat.succ_mul]; omega
/-- append of a slice to a row of the call's own -/
theorem wpList_appN (f : α → List Value) {P : Program} (w : World) {ops : Array Oper} {rest : List Oper} {o : Oper} {a : Act} {Q : Exit → Act → World → Prop}
    (hg : o.guard = none) (s x : Operand) (t : TypeId) (hop : o.op = .call { callee := .builtin .append, args := #[s, x], argTypes := #[t, t] })
    (B : Nat) (hB : B ≤ w.heap.size) (e : TypeId) (z : Value) (sz bytes : Nat) (ht : P.underlying t = some (.slice e)) (hinfo : (P.info? e).map (fun i => (i.zero, i.size, i.bytes)) = some (some z, sz, bytes)) (hzs : z.cells.size = sz) (hsz : 0 < sz)
    (hf : ∀ x, (f x).length = sz ∧ ∀ u ∈ f x, u.oneCell' = true)
    (v : Value) (l : List α) (hs : a.eval s = v) (hown : w.ownsRow B e sz v l.length (l.flatMap f))
    (A : Option Addr) (m : List α) (c : Nat) (hx : a.eval x = .slice A m.length c) (hr : Rd sz f w A m) (hn0 : A = none → c = 0)
    (hbytes : (l.length + m.length) * bytes ≤ 140737488355328) (hl : l.length + m.length ≤ 1000000000000)
    (h : ∀ (v' : Value) (k : Exb B w), k.v.ownsRow B e sz v' (l ++ m).length ((l ++ m).flatMap f) → wpList P ops Q rest (a.put o.dst v') k.v) :
    wpList P ops Q (o :: rest) a w := by
  obtain ⟨i, hi, hz, hs', hb'⟩ := info_parts hinfo
  by_cases h0 : 0 < m.length
  · obtain ⟨b, q, rfl, hbw, hc⟩ := hr.at_ h0
    refine wpList_append_own w hg s x t hop B e i z sz bytes ht hi hz hs' hb' hzs hsz v l.length (l.flatMap f) hs hown ⟨b, q, none⟩ m.length c (m.flatMap f) hx (flat_len (fun x => (hf x).1) m) (fun j u hj => ?_) (fun u hu => ?_) (by simp only [maxLen]; omega) hbytes hB ?_
    · obtain ⟨k, hk, i, hi, rfl, hg⟩ := flat_get (fun x => (hf x).1) m j u hj
      rw [show (⟨b, q, none⟩ : Addr).add (k * sz + i) = ⟨b, q + (k * sz + i), none⟩ from Go.WideShapes.add_plain .., ← Nat.add_assoc]; exact hc k hk i u hg
    · obtain ⟨x, _, hx⟩ := List.mem_flatMap.1 hu
      exact (hf x).2 u hx
    · intro v' w' h1 h2 _
      refine h v' ⟨w', (Below.refl _ _).grown h2 hB (fun k hk => (hown.lt k hk).1)⟩ ?_
      simpa using h1
  · have hm : m = [] := List.eq_nil_of_length_eq_zero (by omega)
    subst hm
    cases A with
    | some ad =>
      refine wpList_append_own w hg s x t hop B e i z sz bytes ht hi hz hs' hb' hzs hsz v l.length (l.flatMap f) hs hown ad 0 c [] hx (by simp) (fun j u hj => by simp at hj) (by simp) (by simp only [maxLen]; simp at hl; omega) (by simpa using hbytes) hB ?_
      intro v' w' h1 h2 _
      refine h v' ⟨w', (Below.refl _ _).grown h2 hB (fun k hk => (hown.lt k hk).1)⟩ ?_
      simpa using h1
    | none =>
      obtain rfl := hn0 rfl
      refine wpList_append_own_none hg s x t hop B e i sz ht hi v l.length (l.flatMap f) hs hown hx ?_
      refine h v ⟨w, Below.refl _ _⟩ ?_
      simpa using hown
end Go.Proofs.YtonmeffhelaohaaDoor
