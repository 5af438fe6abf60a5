/-
  Slices in memory: what it means that a slice reads as a list ('Rd'), that a block of the call's own holds a list ('Wr'), that a world differs in one block alone ('Mu'). Found by instances. Conditions: none beside those typed.
-/
import Derived.Test.YtonmeffhelaohaaDoorBase
import Derived.Deep.OwnRows
import Derived.Laws.AppendOwn
import Derived.Laws.OwnMore
import Derived.Laws.MakeOwn
import Derived.OwnWalk
namespace Go.Proofs.YtonmeffhelaohaaDoor
open Go.RowKit
variable {α : Type}
/-- the slice with base A reads as l, each element in sz cells -/
class Rd (sz : Nat) (f : α → List Value) (w : World) (A : Option Addr) (l : List α) : Prop where
  len : l.length ≤ 9223372036854775807
  at_ : 0 < l.length → ∃ b o, A = some ⟨b, o, none⟩ ∧ LtW b w ∧ ∀ (k : Nat) (h : k < l.length) (j : Nat) (v : Value), (f l[k])[j]? = some v → w.cell? ⟨b, o + k * sz + j, none⟩ = some v
/-- w extends w0 -/
class Up (w0 w : World) : Prop where h : Below w0.heap.size w0 w
instance Up.rf (w : World) : Up w w := ⟨Below.refl _ _⟩
instance Up.ex {w0 w : World} [h : Up w0 w] (k : Ex w) : Up w0 k.v := ⟨h.h.trans (k.h.mono h.h.size)⟩
instance Up.alloc {w0 w : World} [h : Up w0 w] (o : Obj) : Up w0 (w.alloc o) := ⟨h.h.trans ((Below.refl _ _).alloc h.h.size o)⟩
instance Up.drew {w0 w : World} [h : Up w0 w] : Up w0 w.drew := ⟨h.h.drew⟩
/-- the block of A is new behind w0 -/
class Fr (w0 : World) (A : Option Addr) : Prop where h : ∀ b o m, A = some ⟨b, o, m⟩ → w0.heap.size ≤ b
instance Fr.inone {w : World} : Fr w none := ⟨fun _ _ _ h => by cases h⟩
instance Fr.isome {w : World} {b o : Nat} [h : LeB w.heap.size b] : Fr w (some ⟨b, o, none⟩) := ⟨fun _ _ _ e => by cases e; exact h.h⟩
theorem Fr.mono {w0 w : World} {A : Option Addr} (h : Fr w A) [hu : Up w0 w] : Fr w0 A := ⟨fun b o m e => Nat.le_trans hu.h.size (h.h b o m e)⟩
section
variable {sz : Nat} {f : α → List Value} {w : World} {A : Option Addr} {l : List α} {b : Nat}
instance (priority := 900) Rd.ex [h : Rd sz f w A l] (k : Ex w) : Rd sz f k.v A l :=
  ⟨h.len, fun h0 => by
    obtain ⟨b, o, e, hb, hc⟩ := h.at_ h0
    exact ⟨b, o, e, inferInstance, fun i hi j v hv => (k.cell b _).trans (hc i hi j v hv)⟩⟩
instance (priority := 900) Rd.alloc [h : Rd sz f w A l] (o : Obj) : Rd sz f (w.alloc o) A l := Rd.ex (h := h) (Ex.of ((Below.refl _ _).alloc (Nat.le_refl _) o))
instance (priority := 900) Rd.drew [h : Rd sz f w A l] : Rd sz f w.drew A l := Rd.ex (h := h) (Ex.of (Below.refl _ _).drew)
instance Rd.nil {v : Option Addr} : Rd sz f w v ([] : List α) := ⟨by simp, fun h => absurd h (by simp)⟩
theorem Rd.congr {w' : World} (h : Rd sz f w A l) (he : ∀ x, x < w.heap.size → w'.heap[x]? = w.heap[x]?) (hs : w.heap.size ≤ w'.heap.size) : Rd sz f w' A l :=
  ⟨h.len, fun h0 => by
    obtain ⟨b, o, e, hb, hc⟩ := h.at_ h0
    exact ⟨b, o, e, ⟨Nat.lt_of_lt_of_le hb.h hs⟩, fun i hi j v hv => (World.cell?_of_block (he b hb.h)).trans (hc i hi j v hv)⟩⟩
/-- block b is a row of the call's own that holds l -/
class Wr (sz : Nat) (f : α → List Value) (w : World) (b : Nat) (l : List α) : Prop where
  len : l.length ≤ 9223372036854775807
  row : ∃ (e : TypeId) (N : Nat) (F : Nat → Value), l.length * sz ≤ N ∧ w.rowIs b e N F ∧ ∀ (k : Nat) (h : k < l.length) (j : Nat) (v : Value), (f l[k])[j]? = some v → j < sz → F (k * sz + j) = v
  fit : ∀ x ∈ l, (f x).length = sz
theorem Wr.lt (h : Wr sz f w b l) : LtW b w := ⟨by obtain ⟨e, N, F, _, hr, _⟩ := h.row; exact hr.lt⟩
theorem Wr.congr {w' : World} (h : Wr sz f w b l) (he : w'.heap[b]? = w.heap[b]?) : Wr sz f w' b l :=
  ⟨h.len, by obtain ⟨e, N, F, hN, hr, hc⟩ := h.row; exact ⟨e, N, F, hN, hr.of_block he, hc⟩, h.fit⟩
theorem Ex.block (k : Ex w) {i : Nat} (hi : i < w.heap.size) : k.v.heap[i]? = w.heap[i]? := k.h.block _ hi
instance (priority := 900) Wr.ex [h : Wr sz f w b l] (k : Ex w) : Wr sz f k.v b l := h.congr (k.block h.lt.h)
instance (priority := 900) Wr.alloc [h : Wr sz f w b l] (o : Obj) : Wr sz f (w.alloc o) b l := Wr.ex (h := h) (Ex.of ((Below.refl _ _).alloc (Nat.le_refl _) o))
instance (priority := 800) Wr.rd [h : Wr sz f w b l] : Rd sz f w (some ⟨b, 0, none⟩) l :=
  ⟨h.len, fun _ => by
    obtain ⟨e, N, F, hN, hr, hc⟩ := h.row
    refine ⟨b, 0, rfl, h.lt, fun k hk j v hv => ?_⟩
    have hj : j < sz := by
      have := (List.getElem?_eq_some_iff.1 hv).1
      rw [h.fit _ (List.getElem_mem hk)] at this
      exact this
    have hi : k * sz + j < l.length * sz := by
      have := Nat.mul_le_mul_right sz (Nat.succ_le_of_lt hk)
      rw [Nat.succ_mul] at this
      omega
    rw [Nat.zero_add, hr.cell (Nat.lt_of_lt_of_le hi hN), hc k hk j v hv hj]⟩
end
theorem Rd.up {sz : Nat} {f : α → List Value} {w0 w : World} {A : Option Addr} {l : List α} (h : Rd sz f w0 A l) [hu : Up w0 w] : Rd sz f w A l := Rd.ex (h := h) ⟨w, hu.h⟩
/-- the slice with base A is empty, or a row of the call's own -/
class Ow (sz : Nat) (f : α → List Value) (w : World) (A : Option Addr) (l : List α) : Prop where
  own : 0 < l.length → ∃ b, A = some ⟨b, 0, none⟩ ∧ Wr sz f w b l
section
variable {sz : Nat} {f : α → List Value} {w : World} {A : Option Addr} {l : List α} {b : Nat}
instance Ow.nil : Ow sz f w A ([] : List α) := ⟨fun h => absurd h (by simp)⟩
instance (priority := 850) Ow.wr [h : Wr sz f w b l] : Ow sz f w (some ⟨b, 0, none⟩) l := ⟨fun _ => ⟨b, rfl, h⟩⟩
instance (priority := 900) Ow.ex [h : Ow sz f w A l] (k : Ex w) : Ow sz f k.v A l := ⟨fun h0 => by obtain ⟨b, e, hw⟩ := h.own h0; exact ⟨b, e, inferInstance⟩⟩
instance (priority := 900) Ow.alloc [h : Ow sz f w A l] (o : Obj) : Ow sz f (w.alloc o) A l := ⟨fun h0 => by obtain ⟨b, e, hw⟩ := h.own h0; exact ⟨b, e, inferInstance⟩⟩
instance (priority := 800) Ow.rd [h : Ow sz f w A l] : Rd sz f w A l := by
  by_cases h0 : 0 < l.length
  · obtain ⟨b, rfl, hw⟩ := h.own h0
    infer_instance
  · have : l = [] := List.eq_nil_of_length_eq_zero (by omega)
    subst this
    exact Rd.nil
/-- as w, but for the block of A -/
structure But (A : Option Addr) (w w' : World) : Prop where
  size : w.heap.size ≤ w'.heap.size
  block : ∀ x, x < w.heap.size → (∀ o, A ≠ some ⟨x, o, none⟩) → w'.heap[x]? = w.heap[x]?
theorem Ow.but {w' : World} {B : Option Addr} (h : Ow sz f w A l) (hb : But B w w') (hne : ∀ x o o', A = some ⟨x, o, none⟩ → B ≠ some ⟨x, o', none⟩) : Ow sz f w' A l := ⟨fun h0 => by
  obtain ⟨b, e, hw⟩ := h.own h0
  exact ⟨b, e, hw.congr (hb.block b hw.lt.h fun o => hne b 0 o e)⟩⟩
/-- a row that append has built -/
theorem Ow.of_row {base e : Nat} {v : Value} (hf : ∀ x, (f x).length = sz) (h : w.ownsRow base e sz v l.length (l.flatMap f)) : ∃ A c, v = .slice A l.length c ∧ Ow sz f w A l ∧ ∀ b o m, A = some ⟨b, o, m⟩ → base ≤ b := by
  rcases h.2 with ⟨rfl, h0⟩ | ⟨g, cap, cur, rfl, hg, hgg, hn, hcm, hcs, htake⟩
  · have : l = [] := List.eq_nil_of_length_eq_zero h0
    subst this
    exact ⟨none, 0, rfl, inferInstance, fun _ _ _ h => by cases h⟩
  · refine ⟨some ⟨g, 0, none⟩, cap, rfl, ⟨fun _ => ⟨g, rfl, ⟨by simp only [maxLen] at hcm; omega, ⟨e, cap * sz, fun i => (cur[i]?).getD undef, Nat.mul_le_mul_right _ hn, ⟨cur, hgg, hcs, fun i hi => by simp [hcs, hi]⟩, fun k hk j v hv hj => ?_⟩, fun x _ => hf x⟩⟩⟩, fun _ _ _ h => by cases h; exact hg⟩
    have hflat : ∀ (l : List α) (k : Nat) (hk : k < l.length), (l.flatMap f)[k * sz + j]? = (f l[k])[j]? := by
      intro l
      induction l with
      | nil => intro k hk; simp at hk
      | cons x l ih =>
        intro k hk
        cases k with
        | zero => simp [List.getElem?_append_left (show j < (f x).length by rw [hf]; exact hj)]
        | succ k =>
          have := ih k (by simpa using hk)
          simp only [List.flatMap_cons, List.getElem_cons_succ]
          rw [List.getElem?_append_right (by rw [hf, Nat.succ_mul]; omega), hf, show (k + 1) * sz + j - sz = k * sz + j by rw [Nat.succ_mul]; omega]
          exact this
    have h1 := hflat l k hk
    rw [hv, ← htake, List.getElem?_take] at h1
    split at h1
    · simp at h1
      show (cur[k * sz + j]?).getD undef = v
      rw [h1]; rfl
    · cases h1
end
/-- make of n elements: a row of the call's own -/
theorem wpList_mk {P : Program} (w : World) {ops : Array Oper} {rest : List Oper} {o : Oper} {a : Act} {Q : Exit → Act → World → Prop}
    (hg : o.guard = none) (l c : Operand) (t : TypeId) (hop : o.op = Op.makeSlice t l c)
    (e : TypeId) (z : Value) (size bytes : Nat) (ht : P.underlying t = some (.slice e)) (hinfo : (P.info? e).map (fun i => (i.zero, i.size, i.bytes)) = some (some z, size, bytes))
    (n : Nat) (hl : a.eval l = .int .i64 (n : Int)) (hc : a.eval c = .int .i64 (n : Int)) (hb : bytes * n ≤ 281474976710656) (h63 : n ≤ 9223372036854775807)
    (hK : ∀ k : Ex w, LtW w.heap.size k.v → k.v.rowIs w.heap.size e (n * size) (fun i => ((madeCells z.cells (n * size))[i]?).getD undef) → wpList P ops Q rest (a.put o.dst (.slice (some ⟨w.heap.size, 0, none⟩) n n)) k.v) :
    wpList P ops Q (o :: rest) a w := by
  refine wpList_plain hg fun K hK' => ?_
  obtain ⟨i, hi, hz, hs, hb'⟩ := info_parts hinfo
  have hb2 : (i.bytes : Int) * (n : Int) ≤ 281474976710656 := by
    have h : ((i.bytes * n : Nat) : Int) ≤ 281474976710656 := by rw [hb']; omega
    rwa [Int.natCast_mul] at h
  have hrun := run_make (P := P) w t e i z ht hi hz .i64 .i64 n n (by omega) (Int.le_refl _) hb2 (by omega)
  simp only [Int.toNat_natCast, hs] at hrun
  unfold Oper.wp
  simp [execOp, hop, hl, hc, hrun, Result.andThen]
  refine hK' _ _ (hK (Ex.of ((Below.refl _ _).alloc (Nat.le_refl _) _)) ⟨by simp [Ex.of]⟩ ?_)
  have h2 := World.rowIs_alloc w (madeCells z.cells (n * size)) e (fun i => ((madeCells z.cells (n * size))[i]?).getD undef) (fun i hi => by simp [hi])
  rw [size_madeCells] at h2
  exact h2
theorem ex_and {w0 W : World} (p : World → Prop) (h : ∃ j : Ex w0, W = j.v) (hp : p W) : ∃ j : Ex w0, W = j.v ∧ p j.v := by obtain ⟨j, rfl⟩ := h; exact ⟨j, rfl, hp⟩
/-- the cells from p on, one after another -/
def setCells (w : World) (b p : Nat) : List Value → World
  | [] => w
  | v :: vs => setCells (w.setCell ⟨b, p, none⟩ v) b (p + 1) vs
theorem rowIs_setCells {b : Nat} {t : TypeId} {n : Nat} : ∀ (vs : List Value) (w : World) (p : Nat) (F : Nat → Value), w.rowIs b t n F →
    ∃ G : Nat → Value, (setCells w b p vs).rowIs b t n G ∧ (∀ j, (j < p ∨ p + vs.length ≤ j) → G j = F j) ∧ ∀ i v, vs[i]? = some v → G (p + i) = v
  | [], w, p, F, h => ⟨F, h, fun _ _ => rfl, fun i v hv => by simp at hv⟩
  | v :: vs, w, p, F, h => by
    obtain ⟨G, h1, h2, h3⟩ := rowIs_setCells vs _ (p + 1) _ (h.set p v)
    refine ⟨G, h1, fun j hj => ?_, fun i u hu => ?_⟩
    · rw [h2 j (by simp at hj; omega)]
      rw [if_neg (by simp at hj; omega)]
    · cases i with
      | zero =>
        simp at hu
        subst hu
        rw [h2 _ (by omega)]
        simp
      | succ i =>
        have := h3 i u (by simpa using hu)
        rw [show p + (i + 1) = p + 1 + i by omega]
        exact this
/-- the first q elements of l lie in the row b -/
def Filling (e : TypeId) (sz : Nat) (f : α → List Value) (w : World) (b : Nat) (l : List α) (q : Nat) : Prop :=
  ∃ (N : Nat) (F : Nat → Value), l.length * sz ≤ N ∧ w.rowIs b e N F ∧ ∀ (k : Nat) (h : k < l.length), k < q → ∀ (i : Nat) (v : Value), (f l[k])[i]? = some v → i < sz → F (k * sz + i) = v
namespace Filling
variable {e : TypeId} {sz : Nat} {f : α → List Value} {w : World} {b : Nat} {l : List α} {q : Nat}
theorem start {F : Nat → Value} {N : Nat} (h : w.rowIs b e N F) (hN : l.length * sz ≤ N) : Filling e sz f w b l 0 := ⟨N, F, hN, h, fun _ _ h => absurd h (by omega)⟩
theorem lt (h : Filling e sz f w b l q) : LtW b w := ⟨by obtain ⟨N, F, _, hr, _⟩ := h; exact hr.lt⟩
theorem ex (h : Filling e sz f w b l q) (k : Ex w) : Filling e sz f k.v b l q := by
  have := h.lt.h
  obtain ⟨N, F, hN, hr, hc⟩ := h
  exact ⟨N, F, hN, hr.of_block (k.block this), hc⟩
theorem step (h : Filling e sz f w b l q) (hq : q < l.length) (hl : (f l[q]).length = sz) : Filling e sz f (setCells w b (q * sz) (f l[q])) b l (q + 1) := by
  obtain ⟨N, F, hN, hr, hc⟩ := h
  obtain ⟨G, h1, h2, h3⟩ := rowIs_setCells (f l[q]) w (q * sz) F hr
  refine ⟨N, G, hN, h1, fun k hk hkq i v hv hi => ?_⟩
  rcases Nat.lt_or_ge k q with h | h
  · have := Nat.mul_le_mul_right sz (Nat.succ_le_of_lt h)
    rw [Nat.succ_mul] at this
    rw [h2 _ (.inl (by omega))]
    exact hc k hk h i v hv hi
  · obtain rfl : k = q := by omega
    exact h3 i v hv
theorem done (h : Filling e sz f w b l q) (hq : l.length ≤ q) (hn : l.length ≤ 9223372036854775807) (hf : ∀ x, (f x).length = sz) : Wr sz f w b l := by
  obtain ⟨N, F, hN, hr, hc⟩ := h
  exact ⟨hn, ⟨e, N, F, hN, hr, fun k hk j v hv hj => hc k hk (by omega) j v hv hj⟩, fun x _ => hf x⟩
theorem cell (h : Filling e sz f w b l q) (i : Nat) (hi : i < l.length * sz) : ∃ v, w.cell? ⟨b, i, none⟩ = some v ∧ w.frozen? ⟨b, i, none⟩ = false := by
  obtain ⟨N, F, hN, hr, _⟩ := h
  exact ⟨_, hr.cell (Nat.lt_of_lt_of_le hi hN), hr.frozen i⟩
end Filling
end Go.Proofs.YtonmeffhelaohaaDoor
