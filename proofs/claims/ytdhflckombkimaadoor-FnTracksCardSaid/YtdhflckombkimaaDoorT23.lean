/-
  SetKey: what both answer. Conditions: those typed at each theorem.
-/
import Derived.Test.YtdhflckombkimaaDoorT22
import Derived.Test.YtdhflckombkimaaDoorT13
namespace Go.Proofs.YtdhflckombkimaaDoor
open Go.RowKit
/-- is k a key that may be set? -/
def okKy (x : Ky) : Prop := (0 ≤ x.t ∧ x.t ≤ 7200000) ∧ (-1000000 ≤ x.v ∧ x.v ≤ 1000000)
instance (x : Ky) : Decidable (okKy x) := by unfold okKy; infer_instance
theorem okKy_not {x : Ky} (h : ¬ okKy x) : (x.t < 0 ∨ 7200000 < x.t) ∨ ((0 ≤ x.t ∧ x.t ≤ 7200000) ∧ (x.v < -1000000 ∨ 1000000 < x.v)) := by unfold okKy at h; omega
/-- the keys behind the first q, and whether x is among them -/
def stP (l : List Ky) (x : Ky) : Nat → List Ky × Bool
  | 0 => ([], false)
  | q + 1 => ((if (kyG l q).t = x.t then (if (stP l x q).2 = false ∧ x.t ≤ (kyG l q).t then (stP l x q).1 ++ [x] else (stP l x q).1) else (if (stP l x q).2 = false ∧ x.t ≤ (kyG l q).t then (stP l x q).1 ++ [x] else (stP l x q).1) ++ [kyG l q]), (stP l x q).2 || decide (x.t ≤ (kyG l q).t))
def stA (l : List Ky) (x : Ky) : List Ky := if (stP l x l.length).2 = true then (stP l x l.length).1 else (stP l x l.length).1 ++ [x]
theorem stP_lt {l : List Ky} {x : Ky} {q : Nat} {o : List Ky} (h : stP l x q = (o, false)) (hy : (kyG l q).t < x.t) : stP l x (q + 1) = (o ++ [kyG l q], false) := by
  simp only [stP, h]
  rw [if_neg (by omega), if_neg (by omega)]
  simp; omega
theorem stP_eq {l : List Ky} {x : Ky} {q : Nat} {o : List Ky} (h : stP l x q = (o, false)) (hy : (kyG l q).t = x.t) : stP l x (q + 1) = (o ++ [x], true) := by
  simp only [stP, h]
  rw [if_pos hy, if_pos ⟨trivial, by omega⟩]
  simp; omega
theorem stP_gt {l : List Ky} {x : Ky} {q : Nat} {o : List Ky} (h : stP l x q = (o, false)) (hy : x.t < (kyG l q).t) : stP l x (q + 1) = (o ++ [x] ++ [kyG l q], true) := by
  simp only [stP, h]
  rw [if_neg (by omega), if_pos ⟨trivial, by omega⟩]
  simp; omega
theorem stP_on {l : List Ky} {x : Ky} {q : Nat} {o : List Ky} (h : stP l x q = (o, true)) (hy : (kyG l q).t ≠ x.t) : stP l x (q + 1) = (o ++ [kyG l q], true) := by
  simp only [stP, h]
  rw [if_neg hy, if_neg (by simp)]
  simp
theorem stP_off {l : List Ky} {x : Ky} {q : Nat} {o : List Ky} (h : stP l x q = (o, true)) (hy : (kyG l q).t = x.t) : stP l x (q + 1) = (o, true) := by
  simp only [stP, h]
  rw [if_pos hy, if_neg (by simp)]
  simp
theorem stP_len (l : List Ky) (x : Ky) : ∀ q, (stP l x q).1.length ≤ q + (if (stP l x q).2 = true then 1 else 0)
  | 0 => by simp [stP]
  | q + 1 => by
    have ih := stP_len l x q
    obtain ⟨o, d, hp⟩ : ∃ o d, stP l x q = (o, d) := ⟨_, _, rfl⟩
    rw [hp] at ih
    cases d
    · rcases Int.lt_trichotomy (kyG l q).t x.t with h | h | h
      · rw [stP_lt hp h]; simp at ih ⊢; omega
      · rw [stP_eq hp h]; simp at ih ⊢; omega
      · rw [stP_gt hp h]; simp at ih ⊢; omega
    · by_cases h : (kyG l q).t = x.t
      · rw [stP_off hp h]; simp at ih ⊢; omega
      · rw [stP_on hp h]; simp at ih ⊢; omega
theorem stP_pos (l : List Ky) (x : Ky) : ∀ q, (stP l x q).2 = true → 1 ≤ (stP l x q).1.length
  | 0, h => by simp [stP] at h
  | q + 1, h => by
    have ih := stP_pos l x q
    obtain ⟨o, d, hp⟩ : ∃ o d, stP l x q = (o, d) := ⟨_, _, rfl⟩
    rw [hp] at ih
    cases d
    · rcases Int.lt_trichotomy (kyG l q).t x.t with h' | h' | h'
      · rw [stP_lt hp h'] at h; simp at h
      · rw [stP_eq hp h']; simp
      · rw [stP_gt hp h']; simp
    · by_cases h' : (kyG l q).t = x.t
      · rw [stP_off hp h']; exact ih rfl
      · rw [stP_on hp h']; simp
theorem stA_on {l : List Ky} {x : Ky} {o : List Ky} (h : stP l x l.length = (o, true)) : stA l x = o := by unfold stA; rw [h]; rfl
theorem stA_off {l : List Ky} {x : Ky} {o : List Ky} (h : stP l x l.length = (o, false)) : stA l x = o ++ [x] := by unfold stA; rw [h]; rfl
theorem stA_len (l : List Ky) (x : Ky) : (stA l x).length ≤ l.length + 1 := by
  have := stP_len l x l.length
  unfold stA
  split
  · rename_i h; rw [if_pos h] at this; exact this
  · rename_i h; rw [if_neg h] at this; simp; omega
theorem take_kyG {l : List Ky} {q : Nat} (h : q < l.length) : l.take (q + 1) = l.take q ++ [kyG l q] := by rw [kyG_at h, List.take_succ_eq_append_getElem h]
theorem stP_lo {l : List Ky} {x : Ky} {p : Nat} (hp : p ≤ l.length) (hb : ∀ j, j < p → (kyG l j).t < x.t) : ∀ q, q ≤ p → stP l x q = (l.take q, false)
  | 0, _ => by simp [stP]
  | q + 1, h => by rw [stP_lt (stP_lo hp hb q (by omega)) (hb q (by omega)), take_kyG (by omega)]
theorem drop_take_kyG {l : List Ky} {q p : Nat} (h : q < l.length) (hp : p ≤ q) : (l.take (q + 1)).drop p = (l.take q).drop p ++ [kyG l q] := by
  rw [take_kyG h, List.drop_append_of_le_length (by rw [List.length_take]; omega)]
theorem ris_kyG {l : List Ky} (hr : risK l) {p q : Nat} (h : p < q) (hq : q < l.length) : (kyG l p).t < (kyG l q).t := by rw [kyG_at hq, kyG_at (by omega)]; exact hr p q hq h
theorem stP_hit {l : List Ky} {x : Ky} {p : Nat} (hp : p < l.length) (hb : ∀ j, j < p → (kyG l j).t < x.t) (he : (kyG l p).t = x.t) (hr : risK l) :
    ∀ q, p < q → q ≤ l.length → stP l x q = (l.take p ++ [x] ++ (l.take q).drop (p + 1), true)
  | 0, h, _ => absurd h (by omega)
  | q + 1, h, hq => by
    by_cases hpq : p = q
    · subst hpq
      rw [stP_eq (stP_lo (by omega) hb p (Nat.le_refl _)) he]
      simp [List.drop_eq_nil_of_le]
    · rw [stP_on (stP_hit hp hb he hr q (by omega) (by omega)) (by have := ris_kyG hr (p := p) (q := q) (by omega) (by omega); omega), drop_take_kyG (by omega) (by omega), List.append_assoc]
theorem stP_ins {l : List Ky} {x : Ky} {p : Nat} (hp : p < l.length) (hb : ∀ j, j < p → (kyG l j).t < x.t) (he : x.t < (kyG l p).t) (hr : risK l) :
    ∀ q, p < q → q ≤ l.length → stP l x q = (l.take p ++ [x] ++ (l.take q).drop p, true)
  | 0, h, _ => absurd h (by omega)
  | q + 1, h, hq => by
    by_cases hpq : p = q
    · subst hpq
      rw [stP_gt (stP_lo (by omega) hb p (Nat.le_refl _)) he, drop_take_kyG hp (Nat.le_refl _)]
      simp [List.drop_eq_nil_of_le]
    · rw [stP_on (stP_ins hp hb he hr q (by omega) (by omega)) (by have := ris_kyG hr (p := p) (q := q) (by omega) (by omega); omega), drop_take_kyG (by omega) (by omega), List.append_assoc]
/-- key x in the place of key p -/
def repL (l : List Ky) (p : Nat) (x : Ky) : List Ky := l.take p ++ [x] ++ l.drop (p + 1)
theorem repL_len {l : List Ky} {p : Nat} (x : Ky) (hp : p < l.length) : (repL l p x).length = l.length := by unfold repL; simp; omega
theorem stA_hit {l : List Ky} {x : Ky} {p : Nat} (hp : p < l.length) (hb : ∀ j, j < p → (kyG l j).t < x.t) (he : (kyG l p).t = x.t) (hr : risK l) : stA l x = repL l p x := by
  unfold stA
  rw [stP_hit hp hb he hr l.length hp (Nat.le_refl _)]
  simp [repL]
theorem stA_ins {l : List Ky} {x : Ky} {p : Nat} (hp : p < l.length) (hb : ∀ j, j < p → (kyG l j).t < x.t) (he : x.t < (kyG l p).t) (hr : risK l) : stA l x = insL l p x := by
  unfold stA
  rw [stP_ins hp hb he hr l.length hp (Nat.le_refl _)]
  simp [insL]
theorem stA_end {l : List Ky} {x : Ky} (hb : ∀ j, j < l.length → (kyG l j).t < x.t) : stA l x = insL l l.length x := by
  unfold stA
  rw [stP_lo (Nat.le_refl _) hb l.length (Nat.le_refl _)]
  simp [insL]
/-- what SetKey answers -/
noncomputable def stR (nm : ByteArray) (l : List Ky) (x : Ky) : TR3 := if vT nm l = true then (if okKy x then (if 24 < (stA l x).length then trErr 5 else ⟨nm, stA l x, 0⟩) else trErr 2) else trErr 1
theorem stR_inv {nm : ByteArray} {l : List Ky} {x : Ky} (h : vT nm l = false) : stR nm l x = trErr 1 := by unfold stR; rw [h]; rfl
theorem stR_rng {nm : ByteArray} {l : List Ky} {x : Ky} (h : vT nm l = true) (hd : ¬ okKy x) : stR nm l x = trErr 2 := by unfold stR; rw [if_pos h, if_neg hd]
theorem stR_full {nm : ByteArray} {l : List Ky} {x : Ky} (h : vT nm l = true) (hd : okKy x) (hf : 24 < (stA l x).length) : stR nm l x = trErr 5 := by unfold stR; rw [if_pos h, if_pos hd, if_pos hf]
theorem stR_go {nm : ByteArray} {l : List Ky} {x : Ky} (h : vT nm l = true) (hd : okKy x) (hf : ¬ 24 < (stA l x).length) : stR nm l x = ⟨nm, stA l x, 0⟩ := by unfold stR; rw [if_pos h, if_pos hd, if_neg hf]
theorem stR_len (nm : ByteArray) (l : List Ky) (x : Ky) : (stR nm l x).l.length ≤ 24 := by
  unfold stR
  split
  · split
    · split
      · simp [trErr]
      · rename_i h; show (stA l x).length ≤ 24; omega
    · simp [trErr]
  · simp [trErr]
/-- the place of x among the keys, sought from the front -/
theorem st_part (l : List Ky) (t : Int) : (∃ q, q < l.length ∧ t ≤ (kyG l q).t ∧ ∀ j, j < q → (kyG l j).t < t) ∨ ∀ j, j < l.length → (kyG l j).t < t := by
  by_cases h : ∃ q, q < l.length ∧ t ≤ (kyG l q).t
  · obtain ⟨q, hq, he⟩ := h
    induction q using Nat.strongRecOn with
    | _ q ih =>
      by_cases h2 : ∃ j, j < q ∧ t ≤ (kyG l j).t
      · obtain ⟨j, hj, h3⟩ := h2
        exact ih j hj (by omega) h3
      · refine .inl ⟨q, hq, he, fun j hj => ?_⟩
        rcases Int.lt_or_le (kyG l j).t t with h | h
        · exact h
        · exact absurd ⟨j, hj, h⟩ h2
  · refine .inr fun j hj => ?_
    rcases Int.lt_or_le (kyG l j).t t with h1 | h1
    · exact h1
    · exact absurd ⟨j, hj, h1⟩ h
end Go.Proofs.YtdhflckombkimaaDoor
