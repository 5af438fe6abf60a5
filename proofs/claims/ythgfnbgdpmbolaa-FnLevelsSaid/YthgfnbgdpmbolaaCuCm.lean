/-
  Marking and checking a row of pairs. Conditions: those typed at each theorem.
-/
import Derived.Test.YthgfnbgdpmbolaaCuCs
namespace Go.Proofs.Ythgfnbgdpmbolaa
open Go.RowKit
section
variable {B : Nat} {e : TypeId} {v : Value} {bs : List Nat} {V : List (List Int)} {w : World}
/-- pair q written over -/
theorem PrR.mark {q : Nat} (h : PrR B e v bs V w) (hq : q < bs.length) {w' : World} {L : List Int} (hL : 0 < L.length) (hb : But (some ⟨bs[q], 0, none⟩) w w') (ho : Ow 1 iC w' (some ⟨bs[q], 0, none⟩) L) : PrR B e v bs (V.set q L) w' := by
  have hbk : ∀ x, x < w.heap.size → x ≠ bs[q] → w'.heap[x]? = w.heap[x]? := fun x hx hn => hb.block x hx fun o e => hn (by cases e; rfl)
  refine ⟨⟨h.own.1, ?_⟩, by simp [h.len], h.nd, fun b hb' => ⟨(h.ge b hb').1, Nat.lt_of_lt_of_le (h.ge b hb').2.1 hb.size, (h.ge b hb').2.2⟩, fun k hk => ?_⟩
  · rcases h.own.2 with h1 | ⟨g, cap, cur, rfl, h2, h3, h4⟩
    · exact .inl h1
    · refine .inr ⟨g, cap, cur, rfl, h2, ?_, h4⟩
      rw [hbk g (Array.getElem?_eq_some_iff.1 h3).1 (fun e => (h.ge _ (List.getElem_mem hq)).2.2 (by rw [← e]; rfl))]
      exact h3
  · by_cases hkq : k = q
    · subst hkq
      obtain ⟨b, he, hw⟩ := ho.own hL
      injection he with he
      injection he with he
      rw [List.getElem_set_self, he]
      exact hw
    · have hne : bs[k] ≠ bs[q] := fun e => hkq ((List.getElem_inj h.nd).1 e)
      rw [List.getElem_set_ne (Ne.symm hkq)]
      exact (h.con k hk).congr (hbk _ (h.ge _ (List.getElem_mem hk)).2.1 hne)
/-- in a world that differs in one block alone -/
theorem PrR.but {w' : World} {b : Nat} (h : PrR B e v bs V w) (hb : But (some ⟨b, 0, none⟩) w w') (hn : b < B) : PrR B e v bs V w' := by
  have hbk : ∀ x, x < w.heap.size → B ≤ x → w'.heap[x]? = w.heap[x]? := fun x hx hn' => hb.block x hx fun o e => by cases e; omega
  refine ⟨⟨h.own.1, ?_⟩, h.len, h.nd, fun b' hb' => ⟨(h.ge b' hb').1, Nat.lt_of_lt_of_le (h.ge b' hb').2.1 hb.size, (h.ge b' hb').2.2⟩, fun k hk => ?_⟩
  · rcases h.own.2 with h1 | ⟨g, cap, cur, rfl, h2, h3, h4⟩
    · exact .inl h1
    · refine .inr ⟨g, cap, cur, rfl, h2, ?_, h4⟩
      rw [hbk g (Array.getElem?_eq_some_iff.1 h3).1 h2]
      exact h3
  · have := h.ge _ (List.getElem_mem hk)
    exact (h.con k hk).congr (hbk _ this.2.1 this.1)
end
/-- V holds the marks of n pairs from k on -/
def PrMk (V : List (List Int)) (k : Int) (n : Nat) : Prop := (∀ x ∈ V, x.length = 2) ∧ ∀ i (h : i < V.length), i < n → V[i] = iMk 2 (k + 2 * (i : Int))
theorem PrMk.step {V : List (List Int)} {k : Int} {n : Nat} (h : PrMk V k n) (hn : n < V.length) : PrMk (V.set n (iMk 2 (k + 2 * (n : Int)))) k (n + 1) := by
  refine ⟨fun x hx => ?_, fun i hi hin => ?_⟩
  · rcases List.mem_or_eq_of_mem_set hx with hx | rfl
    · exact h.1 x hx
    · exact iMk_len _ _
  · rcases Nat.lt_or_ge i n with h1 | h1
    · rw [List.getElem_set_ne (by omega)]
      exact h.2 i _ h1
    · obtain rfl : i = n := by omega
      rw [List.getElem_set_self]
/-- the pair's place in the row -/
theorem PrR.at_ {B : Nat} {e : TypeId} {bs : List Nat} {V : List (List Int)} {w : World} {A : Option Addr} {n c : Nat} (h : PrR B e (.slice A n c) bs V w) {q : Nat} (hq : q < bs.length) :
    ∃ b o, A = some ⟨b, o, none⟩ ∧ LtW b w ∧ w.cell? ⟨b, o + q, none⟩ = some (.slice (some ⟨bs[q], 0, none⟩) 2 2) := by
  obtain ⟨A', c', he, hO, -⟩ := Ow.of_row (f := prC) (fun _ => rfl) h.own
  injection he with e1 e2 e3
  subst e1
  have hrd : Rd 1 prC w A bs := inferInstance
  obtain ⟨b, o, e', hb, hc⟩ := hrd.at_ (by omega)
  refine ⟨b, o, e', hb, ?_⟩
  have := hc q hq 0 _ rfl
  simpa using this
section
set_option maxHeartbeats 3200000
set_option maxRecDepth 20000
end
end Go.Proofs.Ythgfnbgdpmbolaa
