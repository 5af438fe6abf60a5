/-
  Base lemmas of this family: worlds in which all that lay there lies on ('Ex'), the region rule over that class, small closers. Conditions: none.
-/
import Derived.WalkKit
import Derived.Deep.QuietTactic
import Derived.BigQuiet
import Derived.KernelRfl
import Derived.StillTail
namespace Go.Proofs.YtonmeffhelaohaaDoor
open Go.RowKit

/-- A world in which all that lay in 'w' lies on. -/
structure Ex (w : World) where
  v : World
  h : Below w.heap.size w v

namespace Ex
variable {w : World}
def of {w' : World} (h : Below w.heap.size w w') : Ex w := ⟨w', h⟩
def rf (w : World) : Ex w := ⟨w, Below.refl _ _⟩
instance : Nonempty (Ex w) := ⟨rf w⟩
def tr (k : Ex w) (j : Ex k.v) : Ex w := ⟨j.v, k.h.trans (j.h.mono k.h.size)⟩
theorem cellAt (k : Ex w) {p : Addr} (hb : p.block < w.heap.size) : k.v.cell? p = w.cell? p := k.h.cell hb
theorem size (k : Ex w) : w.heap.size ≤ k.v.heap.size := k.h.size
end Ex

/-- block b lies in w: found by instances, so that no depth bounds it -/
class LtW (b : Nat) (w : World) : Prop where h : b < w.heap.size
theorem size_setCell' (w : World) (p : Addr) (u : Value) : (w.setCell p u).heap.size = w.heap.size := by simp [World.setCell]
section
variable {b : Nat} {w : World}
instance ltw_new (o : Obj) : LtW w.heap.size (w.alloc o) := ⟨by simp⟩
instance ltw_new1 (o o' : Obj) : LtW (w.heap.size + 1) ((w.alloc o).alloc o') := ⟨by simp⟩
instance ltw_new2 (o1 o2 o3 : Obj) : LtW (w.heap.size + 1 + 1) (((w.alloc o1).alloc o2).alloc o3) := ⟨by simp⟩
instance ltw_new3 (o1 o2 o3 o4 : Obj) : LtW (w.heap.size + 1 + 1 + 1) ((((w.alloc o1).alloc o2).alloc o3).alloc o4) := ⟨by simp⟩
instance ltw_new4 (o1 o2 o3 o4 o5 : Obj) : LtW (w.heap.size + 1 + 1 + 1 + 1) (((((w.alloc o1).alloc o2).alloc o3).alloc o4).alloc o5) := ⟨by simp⟩
instance ltw_alloc (o : Obj) [h : LtW b w] : LtW b (w.alloc o) := ⟨by have := h.h; simp; omega⟩
instance ltw_ex (k : Ex w) [h : LtW b w] : LtW b k.v := ⟨Nat.lt_of_lt_of_le h.h k.h.size⟩
instance ltw_set (p : Addr) (u : Value) [h : LtW b w] : LtW b (w.setCell p u) := ⟨by rw [size_setCell']; exact h.h⟩
instance ltw_drew [h : LtW b w] : LtW b w.drew := ⟨h.h⟩
instance ltw_drewN (n : Nat) [h : LtW b w] : LtW b (w.drewN n) := ⟨h.h⟩
@[go_sem] theorem Ex.cell (k : Ex w) (b o : Nat) [h : LtW b w] : k.v.cell? ⟨b, o, none⟩ = w.cell? ⟨b, o, none⟩ := k.h.cell (p := ⟨b, o, none⟩) h.h
@[go_sem] theorem Ex.frozen (k : Ex w) (b o : Nat) [h : LtW b w] : k.v.frozen? ⟨b, o, none⟩ = w.frozen? ⟨b, o, none⟩ := k.h.frozen (p := ⟨b, o, none⟩) h.h
@[go_sem] theorem cell_allocI (x : Obj) (b o : Nat) [h : LtW b w] : (w.alloc x).cell? ⟨b, o, none⟩ = w.cell? ⟨b, o, none⟩ := World.cell?_alloc_lt w x ⟨b, o, none⟩ h.h
@[go_sem] theorem frozen_allocI (x : Obj) (b o : Nat) [h : LtW b w] : (w.alloc x).frozen? ⟨b, o, none⟩ = w.frozen? ⟨b, o, none⟩ := World.frozen?_alloc_old w x ⟨b, o, none⟩ (Nat.ne_of_lt h.h)
@[go_sem] theorem cell_setI (w : World) (b o : Nat) (v : Value) : (w.setCell ⟨b, o, none⟩ v).cell? ⟨b, o, none⟩ = (w.cell? ⟨b, o, none⟩).map fun _ => v := by
  cases hc : w.cell? ⟨b, o, none⟩ with
  | some u => simpa using World.cell?_setCell_same w ⟨b, o, none⟩ v hc
  | none =>
    simp only [Option.map_none]
    unfold World.cell? at hc ⊢
    simp only [World.setCell, Array.getElem?_modify, if_true]
    cases hh : w.heap[b]? with
    | none => rfl
    | some x => cases x <;> simp_all
end
/-- the two block numbers differ -/
class NeB (a b : Nat) : Prop where h : a ≠ b
section
variable {a b : Nat} {w : World}
instance neb_lt [h : LtW a w] : NeB a w.heap.size := ⟨Nat.ne_of_lt h.h⟩
instance neb_lt1 [h : LtW a w] : NeB a (w.heap.size + 1) := ⟨by have := h.h; omega⟩
instance neb_lt2 [h : LtW a w] : NeB a (w.heap.size + 1 + 1) := ⟨by have := h.h; omega⟩
instance neb_gt [h : LtW a w] : NeB w.heap.size a := ⟨Nat.ne_of_gt h.h⟩
instance neb_gt1 [h : LtW a w] : NeB (w.heap.size + 1) a := ⟨by have := h.h; omega⟩
instance neb_gt2 [h : LtW a w] : NeB (w.heap.size + 1 + 1) a := ⟨by have := h.h; omega⟩
@[go_sem] theorem cell_farI (w : World) (a o b p : Nat) (v : Value) [h : NeB a b] : (w.setCell ⟨a, o, none⟩ v).cell? ⟨b, p, none⟩ = w.cell? ⟨b, p, none⟩ :=
  World.cell?_setCell_other _ _ _ _ (fun e => h.h (by cases e; rfl))
end
/-- B is at most b -/
class LeB (B b : Nat) : Prop where h : B ≤ b
section
variable {B b : Nat} {w : World}
instance leb_rf : LeB B B := ⟨Nat.le_refl _⟩
instance leb_s [h : LeB B b] : LeB B (b + 1) := ⟨by have := h.h; omega⟩
instance leb_ex (k : Ex w) [h : LeB B w.heap.size] : LeB B k.v.heap.size := ⟨Nat.le_trans h.h k.h.size⟩
instance leb_alloc (o : Obj) [h : LeB B w.heap.size] : LeB B (w.alloc o).heap.size := ⟨by have := h.h; simp; omega⟩
instance leb_set (p : Addr) (u : Value) [h : LeB B w.heap.size] : LeB B (w.setCell p u).heap.size := ⟨by rw [size_setCell']; exact h.h⟩
instance leb_drew [h : LeB B w.heap.size] : LeB B w.drew.heap.size := ⟨h.h⟩
end
theorem calls_ex {P : Program} {f : FuncId} {args : Array Value} {w : World} {k : Ex w} {v : Value}
    (h : Calls P f args k.v fun e w' => e = .returned v ∧ ∃ j : Ex k.v, w' = j.v) :
    Calls P f args k.v fun e w'' => e = .returned v ∧ ∃ k' : Ex w, w'' = k'.v :=
  h.mono fun _ _ ⟨he, j, hj⟩ => ⟨he, k.tr j, hj⟩
theorem calls_ex_same {P : Program} {f : FuncId} {args : Array Value} {w : World} {k : Ex w} {v : Value}
    (h : Calls P f args k.v fun e w' => e = .returned v ∧ k.v = w') :
    Calls P f args k.v fun e w'' => e = .returned v ∧ ∃ k' : Ex w, w'' = k'.v :=
  h.mono fun _ _ ⟨he, hj⟩ => ⟨he, k, hj.symm⟩

theorem wp_region_ex {P : Program} {id : Nat} {Q : Exit → Act → World → Prop} {a : Act} {w : World} {l : List Oper} (hm : P.follows .mixedOrders = true) (hB : Region.lexB .any l.toArray = true)
    (h : wpQuiet P l.toArray (fun w' => ∃ k : Ex w, w' = k.v) (fun a' => ∀ w', (∃ k : Ex w, w' = k.v) → Q .normal a' w') l a) : (Code.region id l.toArray true).wp P Q a w :=
  wp_region_quiet (C := fun w' => ∃ k : Ex w, w' = k.v) hm hB ⟨⟨w.drew, (Below.refl _ _).drew⟩, rfl⟩ (by simpa using h)

/-! ### a quiet head, then a tail in one order -/
section
variable {P : Program} {ops : Array Oper} {md : Region.Mode} {C : World → Prop}
def anyQL (P : Program) (md : Region.Mode) (ops : Array Oper) (C : World → Prop) (n : Nat) (L : Array Bool → Act → Prop) : Nat → Array Bool → Act → Prop
  | 0, listed, a => L listed a
  | f + 1, listed, a =>
    Region.ready md ops listed ≠ [] ∧ ∀ i ∈ Region.ready md ops listed, i < n ∧ qOp P ops C i (anyQL P md ops C n L f (listed.setIfInBounds i true)) a

theorem any_of_headQ {n g : Nat} {L : Array Bool → Act → Prop} {Q' : Exit → Act → World → Prop} (hL : ∀ listed a w, C w → L listed a → wpAny P md ops Q' g listed a w) :
    ∀ (f : Nat) (listed : Array Bool) (a : Act) (w : World), C w → anyQL P md ops C n L f listed a → wpAny P md ops Q' (f + g) listed a w
  | 0, listed, a, w, hw, h => by rw [Nat.zero_add]; exact hL _ _ _ hw h
  | f + 1, listed, a, w, hw, h => by
    rw [show f + 1 + g = (f + g) + 1 by omega]
    exact ⟨fun h0 => absurd h0 h.1, fun i hi => wpOp_of_qOp hw (fun a' w' hw' h' => any_of_headQ hL f _ a' w' hw' h') (h.2 i hi).2⟩

theorem anyQL_first {n i : Nat} {oi : Oper} {v : Value} {L : Array Bool → Act → Prop} (hi : ops[i]? = some oi) (hsel : ∀ (j : Nat) (o : Oper) cs b, ops[j]? = some o → o.op ≠ .select cs b)
    (hs : Region.sinkB md ops n = true) (hc : Region.chainB md ops n = true) (hn : n < ops.size) (hin : i < n)
    (hdone : ∀ listed a, L listed a → ∀ j ∈ Region.ready md ops listed, n ≤ j) :
    ∀ (f : Nat) (listed : Array Bool) (a : Act), HeadInv md ops n listed →
      (∀ j oj, ops[j]? = some oj → j ≠ i → listed.getD j true = false → (∀ e ∈ oj.after, Region.binds md e = true → e.on ≠ i) → oi.apart ops oj = true) →
      i ∈ Region.ready md ops listed → YieldsIn P ops C oi v a →
      anyQL P md ops C n L f (listed.setIfInBounds i true) (a.put oi.dst v) → anyQL P md ops C n L (f + 1) listed a := by
  intro f
  induction f with
  | zero =>
    intro listed a inv _ hr hy H
    have hun := (mem_ready.1 hr).1
    refine ⟨fun h => (by rw [h] at hr; cases hr), fun j hj => ?_⟩
    have hjn : j < n := by
      rcases Nat.lt_or_ge j n with h | h
      · exact h
      · exact absurd hj (tail_waits hs hc hn inv _ i rfl hin hun j h)
    refine ⟨hjn, ?_⟩
    by_cases hji : j = i
    · subst hji; exact hy.qOp hi H
    · have := hdone _ _ H j (ready_mono hj hji)
      omega
  | succ f ih =>
    intro listed a inv hfree hr hy H
    have hun := (mem_ready.1 hr).1
    refine ⟨fun h => (by rw [h] at hr; cases hr), fun j hj => ?_⟩
    have hjn : j < n := by
      rcases Nat.lt_or_ge j n with h | h
      · exact h
      · exact absurd hj (tail_waits hs hc hn inv _ i rfl hin hun j h)
    refine ⟨hjn, ?_⟩
    by_cases hji : j = i
    · subst hji; exact hy.qOp hi H
    · have h1 := (H.2 j (ready_mono hj hji)).2
      obtain ⟨hjun, oj, hoj, hall⟩ := mem_ready.1 hj
      have hnot : ∀ e ∈ oj.after, Region.binds md e = true → e.on ≠ i := fun e he hb heq => by
        have h1 := hall e he hb
        rw [heq, getD_both hun] at h1
        cases h1
      have h2 := qOp_put hoj (hfree j oj hoj hji hjun hnot) (fun cs b => hsel i oi cs b hi) (fun cs b => hsel j oj cs b hoj) hy h1
      have hfree' : ∀ k ok, ops[k]? = some ok → k ≠ i → (listed.setIfInBounds j true).getD k true = false →
          (∀ e ∈ ok.after, Region.binds md e = true → e.on ≠ i) → oi.apart ops ok = true := fun k ok hk hki hun hno => by
        refine hfree k ok hk hki ?_ hno
        by_cases hjk : j = k
        · subst hjk; exact hjun
        · rw [getD_set_ne true hjk] at hun; exact hun
      refine qOp_mono (fun a' h3 => ih (listed.setIfInBounds j true) a' (inv.set hj hjn) hfree' (ready_mono hr (Ne.symm hji)) h3.1 ?_) h2
      rw [Array.setIfInBounds_comm _ _ hji]
      exact h3.2

theorem anyQL_lex {n g : Nat} {Lq : Act → Prop} (hsel : Region.noSelect ops = true) (hs : Region.sinkB md ops n = true) (hc : Region.chainB md ops n = true) (hn : n < ops.size) :
    ∀ (l : List Oper) (k : Nat) (listed : Array Bool) (a : Act), (∀ j, j < l.length → l[j]? = ops[k + j]?) → k + l.length = n → HeadInv md ops n listed →
    Region.lexHead md ops g l.length k listed = true → wpQuiet P ops C Lq l a →
    anyQL P md ops C n (fun listed' a' => Region.seqB md ops g n listed' = true ∧ Lq a') l.length listed a
  | [], k, listed, a, _, hk, _, hB, h => by
    have : k = n := by simpa using hk
    subst this
    exact ⟨by simpa [Region.lexHead] using hB, h⟩
  | o :: l, k, listed, a, hl, hk, inv, hB, h => by
    have h0 : ops[k]? = some o := by simpa using (hl 0 (by simp)).symm
    simp only [List.length_cons, Region.lexHead, Bool.and_eq_true] at hB
    obtain ⟨⟨hr, hf⟩, hB'⟩ := hB
    have hkn : k < n := by simp only [List.length_cons] at hk; omega
    have hr' : k ∈ Region.ready md ops listed := by simpa using hr
    have hst : qOp P ops C k (wpQuiet P ops C Lq l) a := by unfold qOp; simp only [h0]; exact h
    obtain ⟨v, hy, hK⟩ := yieldsIn_of_qOp h0 hst
    exact anyQL_first h0 (Region.noSelect_spec hsel) hs hc hn hkn (fun listed' a' hL => seqB_ready hL.1) l.length listed a inv (Region.free_spec h0 hf) hr' hy
      (anyQL_lex hsel hs hc hn l (k + 1) _ _ (fun j hj => by have := hl (j + 1) (by simp; omega); simpa [Nat.add_assoc, Nat.add_comm 1 j] using this) (by simp only [List.length_cons] at hk; omega) (inv.set hr' hkn) hB' hK)

/-- A region that draws: its first n operations quiet, the rest in their one order. -/
theorem wp_region_ex_tail {id : Nat} {Q : Exit → Act → World → Prop} {a : Act} {w : World} {l : List Oper} (n : Nat) (hm : P.follows .mixedOrders = true) (hB : Region.lexTailB .any l.toArray n = true)
    (h : wpQuiet P l.toArray (fun w' => ∃ k : Ex w, w' = k.v) (fun a' => ∀ k : Ex w, wpList P l.toArray Q (l.drop n) a' k.v) (l.take n) a) : (Code.region id l.toArray true).wp P Q a w := by
  simp only [Region.lexTailB, Bool.and_eq_true, decide_eq_true_eq] at hB
  obtain ⟨⟨⟨⟨hsel, hn⟩, hs⟩, hc⟩, hlex⟩ := hB
  have hn' : n < l.length := by simpa using hn
  have htl : (l.take n).length = n := by simp; omega
  have hdl : (l.drop n).length = l.toArray.size - n := by simp
  have inv0 : HeadInv .any l.toArray n (Array.replicate l.toArray.size false) :=
    ⟨by simp, fun j oj _ hl => (by rw [getD_replicate_false] at hl; cases hl), fun t _ ht => getD_in (by simpa using ht) (getD_replicate_false _ _)⟩
  have H := anyQL_lex (P := P) (C := fun w' => ∃ k : Ex w, w' = k.v) (md := .any) (g := l.toArray.size - n) hsel hs hc hn (l.take n) 0 _ a (fun j hj => by
    have hj' : j < n := by rw [htl] at hj; exact hj
    simp [hj']) (by simpa using htl) inv0 (by rw [htl]; exact hlex) h
  refine wp_region_any hm ?_
  have := any_of_headQ (Q' := Q) (g := l.toArray.size - n) (fun listed a' w' hw' hL => by
    obtain ⟨k, rfl⟩ := hw'
    have := wpAny_of_seq (md := .any) (Q' := Q) (l.drop n) n listed a' k.v (fun j => by simp [List.getElem?_drop]) (by rw [hdl]; exact hL.1) (hL.2 k)
    rwa [hdl] at this) _ _ _ { w with drawn := w.drawn + 1 } ⟨⟨w.drew, (Below.refl _ _).drew⟩, rfl⟩ H
  rw [htl, show n + (l.toArray.size - n) = l.toArray.size by omega] at this
  exact this
end

theorem ret_int {k : IntKind} {a b : Int} (h : a = b) : Ending.returned (.int k a) = .returned (.int k b) := by rw [h]
theorem ret_bool {a b : Bool} (h : a = b) : Ending.returned (.bool a) = .returned (.bool b) := by rw [h]
/-- 'Below', with the bound at hand. -/
structure Ok (B : Nat) (a w : World) : Prop where
  b : Below B a w
  s : B ≤ w.heap.size
namespace Ok
theorem rf (a : World) : Ok a.heap.size a a := ⟨Below.refl _ _, Nat.le_refl _⟩
variable {B : Nat} {a w : World}
theorem alloc (h : Ok B a w) (o : Obj) : Ok B a (w.alloc o) := ⟨h.b.alloc h.s o, by have := h.s; simp; omega⟩
theorem drew (h : Ok B a w) : Ok B a w.drew := ⟨h.b.drew, h.s⟩
theorem drewN (h : Ok B a w) (n : Nat) : Ok B a (w.drewN n) := ⟨h.b.trans ⟨rfl, rfl, rfl, Nat.le_refl _, fun _ _ => rfl⟩, h.s⟩
theorem ex (h : Ok B a w) (k : Ex w) : Ok B a k.v := ⟨h.b.trans (k.h.mono h.s), Nat.le_trans h.s k.size⟩
theorem setCell (h : Ok B a w) {p : Addr} (hp : B ≤ p.block) (u : Value) : Ok B a (w.setCell p u) := ⟨h.b.setCell hp u, by have := h.s; simpa [World.setCell] using this⟩
theorem setCellI (h : Ok B a w) (b o : Nat) [hb : LeB B b] (u : Value) : Ok B a (w.setCell ⟨b, o, none⟩ u) := h.setCell hb.h u
theorem below (h : Ok B a w) {w' : World} (hb : Below w.heap.size w w') : Ok B a w' := ⟨h.b.trans (hb.mono h.s), Nat.le_trans h.s hb.size⟩
theorem grown (h : Ok B a w) {w' : World} {row : Option Nat} (hg : w.grownBy w' row) (hr : ∀ k, row = some k → B ≤ k) : Ok B a w' := ⟨h.b.grown hg h.s hr, Nat.le_trans h.s hg.size⟩
theorem toEx (h : Ok w.heap.size w a) : ∃ k : Ex w, a = k.v := ⟨⟨a, h.b⟩, rfl⟩
end Ok
end Go.Proofs.YtonmeffhelaohaaDoor
