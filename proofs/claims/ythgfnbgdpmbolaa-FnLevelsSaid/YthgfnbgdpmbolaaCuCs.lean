/-
  The pairs of cues that clash: both. Conditions: those typed at each theorem.
-/
import Derived.Test.YthgfnbgdpmbolaaCuF
import Derived.Test.YthgfnbgdpmbolaaIss
namespace Go.Proofs.Ythgfnbgdpmbolaa
open Go.RowKit
/-- do the cues x and y (y not earlier) clash? -/
def clB (x y : Cu) : Bool := (x.tg.toList == y.tg.toList) && ((y.t == x.t) || decide (y.t < x.t + x.ln))
theorem clB_cases (x y : Cu) :
    (clB x y = false ∧ (x.tg.toList == y.tg.toList) = false) ∨ (clB x y = true ∧ (x.tg.toList == y.tg.toList) = true ∧ (y.t == x.t) = true) ∨
    (clB x y = true ∧ (x.tg.toList == y.tg.toList) = true ∧ (y.t == x.t) = false ∧ decide (y.t < x.t + x.ln) = true) ∨ (clB x y = false ∧ (x.tg.toList == y.tg.toList) = true ∧ (y.t == x.t) = false ∧ decide (y.t < x.t + x.ln) = false) := by
  unfold clB
  cases (x.tg.toList == y.tg.toList) <;> cases (y.t == x.t) <;> cases decide (y.t < x.t + x.ln) <;> simp
/-- the pair of i and k, if they clash -/
def clk (l : List Cu) (i k : Nat) : List (List Int) := if clB (cuG l i) (cuG l k) = true then [[(i : Int), (k : Int)]] else []
/-- the pairs of i with the m cues behind it -/
def clRow (l : List Cu) (i : Nat) : Nat → List (List Int)
  | 0 => []
  | m + 1 => clRow l i m ++ clk l i (i + 1 + m)
def clAll (l : List Cu) : Nat → List (List Int)
  | 0 => []
  | i + 1 => clAll l i ++ clRow l i (l.length - (i + 1))
theorem clRow_len (l : List Cu) (i : Nat) : ∀ m, (clRow l i m).length ≤ m
  | 0 => Nat.le_refl _
  | m + 1 => by
    have := clRow_len l i m
    have h2 : (clk l i (i + 1 + m)).length ≤ 1 := by unfold clk; split <;> simp
    unfold clRow
    rw [List.length_append]; omega
theorem clAll_len (l : List Cu) : ∀ i, (clAll l i).length ≤ i * l.length
  | 0 => by simp [clAll]
  | i + 1 => by
    have := clAll_len l i
    have h2 := clRow_len l i (l.length - (i + 1))
    unfold clAll
    rw [List.length_append, Nat.succ_mul]; omega
theorem clRow_two (l : List Cu) (i : Nat) : ∀ m, ∀ x ∈ clRow l i m, x.length = 2
  | 0, x, h => by simp [clRow] at h
  | m + 1, x, h => by
    unfold clRow at h
    rcases List.mem_append.1 h with h | h
    · exact clRow_two l i m x h
    · unfold clk at h
      split at h
      · rw [List.mem_singleton.1 h]; rfl
      · simp at h
theorem clAll_two (l : List Cu) : ∀ i, ∀ x ∈ clAll l i, x.length = 2
  | 0, x, h => by simp [clAll] at h
  | i + 1, x, h => by
    unfold clAll at h
    rcases List.mem_append.1 h with h | h
    · exact clAll_two l i x h
    · exact clRow_two l i _ x h
open Classical in
noncomputable def csV (l : List Cu) : List (List Int) := if vCs l = true then clAll l l.length else []
noncomputable def csE (l : List Cu) : Int := if vCs l = true then 0 else 1
theorem csV_len (l : List Cu) : (csV l).length ≤ 1024 := by
  unfold csV
  split
  · rename_i h
    have h1 := (vCs_of h).1
    have h2 := clAll_len l l.length
    have h3 : l.length * l.length ≤ 32 * 32 := Nat.mul_le_mul h1 h1
    omega
  · simp
theorem csV_two (l : List Cu) : ∀ x ∈ csV l, x.length = 2 := by
  unfold csV
  split
  · exact clAll_two l _
  · simp
/-! ### rows of pairs -/
/-- the cell of a pair that lies in block b -/
def prC (b : Nat) : List Value := [.slice (some ⟨b, 0, none⟩) 2 2]
/-- v is a row of pairs that append has built from block B on; the pairs lie in the blocks bs and read as V -/
class PrR (B : Nat) (e : TypeId) (v : Value) (bs : List Nat) (V : List (List Int)) (w : World) : Prop where
  own : w.ownsRow B e 1 v bs.length (bs.flatMap prC)
  len : bs.length = V.length
  nd : bs.Nodup
  ge : ∀ b ∈ bs, B ≤ b ∧ b < w.heap.size ∧ v.ownBlock ≠ some b
  con : ∀ k (h : k < bs.length), Wr 1 iC w bs[k] (V[k]'(by rw [← len]; exact h))
section
variable {B : Nat} {e : TypeId} {v v' : Value} {bs : List Nat} {V : List (List Int)} {w : World}
instance (priority := 900) prr_ex [h : PrR B e v bs V w] (k : Ex w) : PrR B e v bs V k.v :=
  ⟨ownsRow_ex h.own k, h.len, h.nd, fun b hb => ⟨(h.ge b hb).1, Nat.lt_of_lt_of_le (h.ge b hb).2.1 k.h.size, (h.ge b hb).2.2⟩, fun i hi => (h.con i hi).congr (k.block (h.ge _ (List.getElem_mem hi)).2.1)⟩
instance (priority := 900) prr_alloc [h : PrR B e v bs V w] (o : Obj) : PrR B e v bs V (w.alloc o) := prr_ex (h := h) (Ex.of ((Below.refl _ _).alloc (Nat.le_refl _) o))
instance (priority := 900) prr_drew [h : PrR B e v bs V w] : PrR B e v bs V w.drew := prr_ex (h := h) (Ex.of (Below.refl _ _).drew)
theorem prr_h [h : PrR B e v bs V w] : PrR B e v bs V w := h
theorem prr_own [h : PrR B e v bs V w] : w.ownsRow B e 1 v bs.length (bs.flatMap prC) := h.own
theorem PrR.nil (w : World) (B : Nat) (e : TypeId) : PrR B e (.slice none 0 0) [] [] w :=
  ⟨World.ownsRow_nil w B e 1, rfl, List.nodup_nil, fun b h => by simp at h, fun k h => by simp at h⟩
theorem PrR.made (w : World) {B : Nat} (hB : B ≤ w.heap.size) (e : TypeId) : PrR B e (.slice (some ⟨w.heap.size, 0, none⟩) 0 0) [] [] (w.alloc (.cells #[] e)) :=
  ⟨row_made w B hB e 1 prC, rfl, List.nodup_nil, fun b h => by simp at h, fun k h => by simp at h⟩
theorem PrR.step [h : PrR B e v bs V w] {p : Nat} (hp : w.heap.size = p) {t : TypeId} {i k : Int} (hB : B ≤ w.heap.size) {u : Obj} {kk : Exb B ((w.alloc (.cells #[.int .i64 i, .int .i64 k] t)).alloc u)}
    (hA : Apd B e 1 v v' ((w.alloc (.cells #[.int .i64 i, .int .i64 k] t)).alloc u) kk (bs ++ [p]).length ((bs ++ [p]).flatMap prC)) : PrR B e v' (bs ++ [p]) (V ++ [[i, k]]) kk.v := by
  subst hp
  have hkeep : ∀ b, b < w.heap.size + 1 → v.ownBlock ≠ some b → kk.v.heap[b]? = (w.alloc (.cells #[.int .i64 i, .int .i64 k] t)).heap[b]? := fun b hb hne => by
    rw [hA.keep b (by simp; omega) hne]
    exact Ex.block (w := w.alloc (.cells #[.int .i64 i, .int .i64 k] t)) (Ex.of ((Below.refl _ _).alloc (Nat.le_refl _) u)) (by simp; omega)
  have hvn : v.ownBlock ≠ some w.heap.size := fun e => by have := (h.own.lt _ e).2; omega
  have hsz : w.heap.size + 2 ≤ kk.v.heap.size := Nat.le_trans (by simp) kk.h.size
  have hv' : ∀ b, b < w.heap.size + 1 → v.ownBlock ≠ some b → v'.ownBlock ≠ some b := fun b hb hne => hA.ne (by simp; omega) hne
  refine ⟨hA.own, by simp [h.len], ?_, fun b hb => ?_, fun q hq => ?_⟩
  · rw [List.nodup_append]
    refine ⟨h.nd, by simp, fun a ha b hb => ?_⟩
    have := (h.ge a ha).2.1
    rw [List.mem_singleton.1 hb]; omega
  · rcases List.mem_append.1 hb with hb | hb
    · have := h.ge b hb
      exact ⟨this.1, by omega, hv' b (by omega) this.2.2⟩
    · rw [List.mem_singleton.1 hb]
      exact ⟨hB, by omega, hv' _ (by omega) hvn⟩
  · rcases Nat.lt_or_ge q bs.length with hlt | hge
    · rw [List.getElem_append_left hlt, List.getElem_append_left (by rw [← h.len]; exact hlt)] 
      have h1 := h.ge _ (List.getElem_mem hlt)
      exact ((h.con q hlt).congr (Ex.block (Ex.of ((Below.refl _ _).alloc (Nat.le_refl _) _)) h1.2.1)).congr (hkeep _ (by omega) h1.2.2)
    · have hq' : q = bs.length := by simp at hq; omega
      subst hq'
      have e1 : (bs ++ [w.heap.size])[bs.length] = w.heap.size := by simp
      have e2 : (V ++ [[i, k]])[bs.length]'(by simp [h.len]) = [i, k] := by simp [h.len]
      rw [e1, e2]
      have h2 : Wr 1 iC (w.alloc (.cells #[.int .i64 i, .int .i64 k] t)) w.heap.size [i, k] := by
        refine ⟨by simp, ⟨t, 2, fun j => ((#[Value.int .i64 i, .int .i64 k] : Array Value)[j]?).getD undef, by simp, World.rowIs_alloc w _ t _ (fun j hj => by rw [Array.getElem?_eq_getElem hj]; rfl), fun q hq j x hx hj => ?_⟩, fun x _ => rfl⟩
        obtain rfl : j = 0 := by omega
        have hq2 : q < 2 := hq
        rcases q with _ | _ | q
        · simp [iC] at hx ⊢; exact hx
        · simp [iC] at hx ⊢; exact hx
        · omega
      exact h2.congr (hkeep _ (by omega) hvn)
theorem PrR.mono {B' : Nat} (h : PrR B e v bs V w) (hB : B' ≤ B) : PrR B' e v bs V w :=
  ⟨⟨h.own.1, h.own.2.imp id fun ⟨g, cap, cur, h1, h2, h3⟩ => ⟨g, cap, cur, h1, Nat.le_trans hB h2, h3⟩⟩, h.len, h.nd, fun b hb => ⟨Nat.le_trans hB (h.ge b hb).1, (h.ge b hb).2⟩, h.con⟩
theorem PrR.form (h : PrR B e v bs V w) : ∃ A c, v = .slice A bs.length c := by
  obtain ⟨A, c, h1, -, -⟩ := Ow.of_row (f := prC) (fun _ => rfl) h.own
  exact ⟨A, c, h1⟩
/-- it reads as V -/
theorem PrR.iss {A : Option Addr} {n c : Nat} [h : PrR B e (.slice A n c) bs V w] (hn : n = bs.length) (hV2 : ∀ x ∈ V, x.length = 2) : Iss w A V := by
  subst hn
  obtain ⟨A', c', he, hO, -⟩ := Ow.of_row (f := prC) (fun _ => rfl) h.own
  injection he with e1 e2 e3
  subst e1
  have hrd : Rd 1 prC w A bs := inferInstance
  refine ⟨by have := hrd.len; rw [← h.len]; exact this, fun h0 => ?_⟩
  obtain ⟨b, o, e', hb, hc⟩ := hrd.at_ (by rw [h.len]; exact h0)
  refine ⟨b, o, e', hb, fun k hk => ?_⟩
  have hk' : k < bs.length := by rw [h.len]; exact hk
  have h1 := hc k hk' 0 _ rfl
  rw [Nat.mul_one] at h1
  refine ⟨some ⟨bs[k], 0, none⟩, 2, ?_, ?_⟩
  · rw [hV2 _ (List.getElem_mem hk)]; simpa using h1
  · have := h.con k hk'
    exact Wr.rd
end
end Go.Proofs.Ythgfnbgdpmbolaa
