/-
  The source of choices that the reference's draws read; worlds in which all but that source lies on ('Dr'). Conditions: those typed at each theorem.
-/
import Derived.Test.YtonmeffhelaohaaDoorV5
import Derived.Laws.Shifts
import Derived.Laws.BitsAllLaws
namespace Go.Proofs.YtonmeffhelaohaaDoor
open Go.RowKit
/-- the cell of a byte -/
def byC (x : Int) : List Value := [.int .u8 x]
/-- the source lies in block b and has been asked n times at the most -/
class Src (w : World) (b : Nat) (n : outParam Nat) : Prop where
  h : ∃ (A : Option Addr) (l : List Int) (c p : Nat) (s : Int), b < w.heap.size ∧ p ≤ n ∧ l.length ≤ 9223372036854775807 ∧ (∀ x ∈ l, 0 ≤ x ∧ x ≤ 255) ∧
    w.cell? ⟨b, 0, none⟩ = some (.slice A l.length c) ∧ w.cell? ⟨b, 1, none⟩ = some (.int .i64 p) ∧ w.cell? ⟨b, 2, none⟩ = some (.int .u64 s) ∧
    (∀ o, w.frozen? ⟨b, o, none⟩ = false) ∧
    (0 < l.length → ∃ b' o, A = some ⟨b', o, none⟩ ∧ b' < b ∧ ∀ (k : Nat) (h : k < l.length), w.cell? ⟨b', o + k, none⟩ = some (.int .u8 l[k]))
theorem Src.lt {w : World} {b n : Nat} (h : Src w b n) : b < w.heap.size := by obtain ⟨A, l, c, p, s, h1, _⟩ := h.h; exact h1
theorem Src.ltw {w : World} {b n : Nat} (h : Src w b n) : LtW b w := ⟨h.lt⟩
theorem Src.mono {w : World} {b n m : Nat} (h : Src w b n) (hm : n ≤ m) : Src w b m := by
  obtain ⟨A, l, c, p, s, h1, h2, h3⟩ := h.h
  exact ⟨A, l, c, p, s, h1, Nat.le_trans h2 hm, h3⟩
/-- a world that is as w up to block b -/
theorem Src.keep {w w' : World} {b n : Nat} (h : Src w b n) (hk : ∀ x, x ≤ b → w'.heap[x]? = w.heap[x]?) : Src w' b n := by
  obtain ⟨A, l, c, p, s, h1, h2, h3, h4, h5, h6, h7, h8, h9⟩ := h.h
  have e : ∀ o, w'.cell? ⟨b, o, none⟩ = w.cell? ⟨b, o, none⟩ := fun o => World.cell?_of_block (hk b (Nat.le_refl _))
  refine ⟨A, l, c, p, s, ?_, h2, h3, h4, (e _).trans h5, (e _).trans h6, (e _).trans h7, fun o => ?_, fun h0 => ?_⟩
  · have : w'.heap[b]? ≠ none := by rw [hk b (Nat.le_refl _), Array.getElem?_eq_getElem h1]; simp
    rcases Nat.lt_or_ge b w'.heap.size with h | h
    · exact h
    · exact absurd (Array.getElem?_eq_none h) this
  · have := h8 o
    unfold World.frozen? at this ⊢
    rw [show w'.heap[(⟨b, o, none⟩ : Addr).block]? = w.heap[(⟨b, o, none⟩ : Addr).block]? from hk b (Nat.le_refl _)]
    exact this
  · obtain ⟨b', o, e1, e2, e3⟩ := h9 h0
    exact ⟨b', o, e1, e2, fun k hk' => (World.cell?_of_block (hk b' (by omega))).trans (e3 k hk')⟩
/-- A world in which all but the source in block b lies on. -/
structure Dr (b n : Nat) (w : World) where
  v : World
  lo : Below b w v
  size : w.heap.size ≤ v.heap.size
  keep : ∀ x, x < w.heap.size → x ≠ b → v.heap[x]? = w.heap[x]?
  src : Src v b n
section
variable {b n x : Nat} {w : World}
instance Dr.isrc (k : Dr b n w) : Src k.v b n := k.src
instance ltw_dr (k : Dr b n w) [h : LtW x w] : LtW x k.v := ⟨Nat.lt_of_lt_of_le h.h k.size⟩
instance leb_dr (k : Dr b n w) [h : LeB x w.heap.size] : LeB x k.v.heap.size := ⟨Nat.le_trans h.h k.size⟩
instance leb_src [h : LtW b w] : LeB (b + 1) w.heap.size := ⟨h.h⟩
@[go_sem] theorem Dr.cell (k : Dr b n w) (x o : Nat) [h : LtW x w] [hn : NeB x b] : k.v.cell? ⟨x, o, none⟩ = w.cell? ⟨x, o, none⟩ := World.cell?_of_block (k.keep x h.h hn.h)
@[go_sem] theorem Dr.frozen (k : Dr b n w) (x o : Nat) [h : LtW x w] [hn : NeB x b] : k.v.frozen? ⟨x, o, none⟩ = w.frozen? ⟨x, o, none⟩ := by
  unfold World.frozen?
  rw [show k.v.heap[(⟨x, o, none⟩ : Addr).block]? = w.heap[(⟨x, o, none⟩ : Addr).block]? from k.keep x h.h hn.h]
/-- the block of A is not b -/
class NaB (b : Nat) (A : Option Addr) : Prop where h : ∀ x o, A = some ⟨x, o, none⟩ → x ≠ b
instance NaB.inone : NaB b none := ⟨fun _ _ h => by cases h⟩
instance NaB.isome {o : Nat} [h : NeB x b] : NaB b (some ⟨x, o, none⟩) := ⟨fun _ _ e => by cases e; exact h.h⟩
variable {α : Type} {sz : Nat} {f : α → List Value} {l : List α} {A : Option Addr} {g : Nat}
instance (priority := 900) Rd.dr [h : Rd sz f w A l] (k : Dr b n w) [hn : NaB b A] : Rd sz f k.v A l :=
  ⟨h.len, fun h0 => by
    obtain ⟨x, o, e, hb, hc⟩ := h.at_ h0
    exact ⟨x, o, e, ⟨Nat.lt_of_lt_of_le hb.h k.size⟩, fun i hi j v hv => (World.cell?_of_block (k.keep x hb.h (hn.h x o e))).trans (hc i hi j v hv)⟩⟩
instance (priority := 900) Wr.dr [h : Wr sz f w g l] (k : Dr b n w) [hn : NeB g b] : Wr sz f k.v g l := h.congr (k.keep g h.lt.h hn.h)
instance (priority := 900) Ow.dr [h : Ow sz f w A l] (k : Dr b n w) [hn : NaB b A] : Ow sz f k.v A l := ⟨fun h0 => by
  obtain ⟨g, e, hw⟩ := h.own h0
  exact ⟨g, e, hw.congr (k.keep g hw.lt.h (hn.h g 0 e))⟩⟩
instance Up.dr {w0 : World} [h : Up w0 w] (k : Dr b n w) [hn : LeB w0.heap.size b] : Up w0 k.v := ⟨h.h.trans (k.lo.mono hn.h)⟩
instance (priority := 900) Src.ex [h : Src w b n] (k : Ex w) : Src k.v b n := h.keep fun x hx => k.h.block _ (Nat.lt_of_le_of_lt hx h.lt)
instance (priority := 900) Src.alloc [h : Src w b n] (o : Obj) : Src (w.alloc o) b n := Src.ex (h := h) (Ex.of ((Below.refl _ _).alloc (Nat.le_refl _) o))
instance (priority := 900) Src.drew [h : Src w b n] : Src w.drew b n := Src.ex (h := h) (Ex.of (Below.refl _ _).drew)
instance (priority := 900) Src.set [h : Src w b n] {o : Nat} {v : Value} [hn : LeB (b + 1) x] : Src (w.setCell ⟨x, o, none⟩ v) b n := h.keep fun y hy => by
  have := hn.h
  simp only [World.setCell, Array.getElem?_modify]
  rw [if_neg (show ¬ x = y by omega)]
def Dr.rf (w : World) (b n : Nat) (h : Src w b n) : Dr b n w := ⟨w, Below.refl _ _, Nat.le_refl _, fun _ _ _ => rfl, h⟩
def Dr.trans {m : Nat} (k : Dr b n w) (j : Dr b m k.v) : Dr b m w := ⟨j.v, k.lo.trans j.lo, Nat.le_trans k.size j.size, fun x hx hn => (j.keep x (Nat.lt_of_lt_of_le hx k.size) hn).trans (k.keep x hx hn), j.src⟩
instance src_ltw [h : Src w b n] : LtW b w := ⟨h.lt⟩
end
/-- w' is as w but for the source in block b -/
structure DrK (b : Nat) (w w' : World) : Prop where
  lo : Below b w w'
  size : w.heap.size ≤ w'.heap.size
  keep : ∀ x, x < w.heap.size → x ≠ b → w'.heap[x]? = w.heap[x]?
namespace DrK
variable {b n m : Nat} {a w : World}
theorem fin (h : DrK b a w) [s : Src w b n] (hm : n ≤ m) : ∃ k : Dr b m a, w = k.v := ⟨⟨w, h.lo, h.size, h.keep, s.mono hm⟩, rfl⟩
theorem fin2 (h : DrK b a w) [s : Src w b n] (hm : n ≤ m) {p : World → Prop} (hp : p w) : ∃ k : Dr b m a, w = k.v ∧ p k.v := ⟨⟨w, h.lo, h.size, h.keep, s.mono hm⟩, rfl, hp⟩
theorem rf (b : Nat) (w : World) : DrK b w w := ⟨Below.refl _ _, Nat.le_refl _, fun _ _ _ => rfl⟩
theorem ex (h : DrK b a w) [s : Src w b n] (k : Ex w) : DrK b a k.v :=
  ⟨h.lo.trans (k.h.mono (Nat.le_of_lt s.lt)), Nat.le_trans h.size k.size, fun x hx hn => (k.block (Nat.lt_of_lt_of_le hx h.size)).trans (h.keep x hx hn)⟩
theorem alloc (h : DrK b a w) [s : Src w b n] (o : Obj) : DrK b a (w.alloc o) := h.ex (Ex.of ((Below.refl _ _).alloc (Nat.le_refl _) o))
theorem drew (h : DrK b a w) [s : Src w b n] : DrK b a w.drew := h.ex (Ex.of (Below.refl _ _).drew)
theorem dr (h : DrK b a w) (k : Dr b m w) : DrK b a k.v :=
  ⟨h.lo.trans k.lo, Nat.le_trans h.size k.size, fun x hx hn => (k.keep x (Nat.lt_of_lt_of_le hx h.size) hn).trans (h.keep x hx hn)⟩
theorem set (h : DrK b a w) (x o : Nat) (v : Value) [s : Src a b n] [hn : LeB a.heap.size x] : DrK b a (w.setCell ⟨x, o, none⟩ v) := by
  have hx := hn.h
  have hb := s.lt
  refine ⟨h.lo.setCell (show b ≤ x by omega) v, by rw [size_setCell']; exact h.size, fun y hy hne => ?_⟩
  rw [← h.keep y hy hne]
  simp only [World.setCell, Array.getElem?_modify]
  rw [if_neg (show ¬ x = y by omega)]
theorem self (h : DrK b a w) (o : Nat) (v : Value) : DrK b a (w.setCell ⟨b, o, none⟩ v) := by
  refine ⟨h.lo.setCell (Nat.le_refl _) v, by rw [size_setCell']; exact h.size, fun x hx hn => ?_⟩
  rw [← h.keep x hx hn]
  simp only [World.setCell, Array.getElem?_modify]
  rw [if_neg (show ¬ b = x by omega)]
end DrK
end Go.Proofs.YtonmeffhelaohaaDoor
