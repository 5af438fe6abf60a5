/-
  Decimals read back, in plain words: a text is the decimal form of one number at most. Conditions: those typed at each theorem.
-/
import Derived.Lib.ParseIntB
import Derived.Lib.ItoaNum
import Derived.Test.YtonmeffhelaohaaDoorCore
namespace Go.Proofs.YtonmeffhelaohaaDoor
open Go.RowKit
/-- is c a digit? -/
def isD (c : UInt8) : Prop := 48 ≤ c.toNat ∧ c.toNat ≤ 57
instance (c : UInt8) : Decidable (isD c) := by unfold isD; infer_instance
/-- the number that digits spell -/
def dval : Nat → List UInt8 → Nat
  | a, [] => a
  | a, c :: r => dval (a * 10 + (c.toNat - 48)) r
theorem dval_app : ∀ (a : Nat) (l m : List UInt8), dval a (l ++ m) = dval (dval a l) m
  | _, [], _ => rfl
  | a, c :: r, m => dval_app (a * 10 + (c.toNat - 48)) r m
theorem dval_snoc (a : Nat) (l : List UInt8) (c : UInt8) : dval a (l ++ [c]) = dval a l * 10 + (c.toNat - 48) := by rw [dval_app]; rfl
theorem dval_ge : ∀ (l : List UInt8) (a : Nat), a ≤ dval a l
  | [], _ => Nat.le_refl _
  | c :: r, a => Nat.le_trans (by omega) (dval_ge r (a * 10 + (c.toNat - 48)))
theorem dval_lt : ∀ (l : List UInt8) (a : Nat), (∀ c ∈ l, isD c) → dval a l < (a + 1) * 10 ^ l.length
  | [], a, _ => by show a < (a + 1) * 10 ^ 0; rw [Nat.pow_zero]; omega
  | c :: r, a, h => by
    have h1 := h c (by simp)
    have h2 := dval_lt r (a * 10 + (c.toNat - 48)) (fun x hx => h x (by simp [hx]))
    have h3 : a * 10 + (c.toNat - 48) + 1 ≤ (a + 1) * 10 := by unfold isD at h1; omega
    have h4 := Nat.mul_le_mul_right (10 ^ r.length) h3
    show dval _ r < (a + 1) * 10 ^ (r.length + 1)
    rw [Nat.pow_succ, Nat.mul_comm (10 ^ r.length) 10, ← Nat.mul_assoc]
    omega
theorem dig_of {c : UInt8} (h : isD c) : UInt8.ofNat (48 + (c.toNat - 48)) = c := by
  unfold isD at h
  rw [show 48 + (c.toNat - 48) = c.toNat by omega]
  exact UInt8.ofNat_toNat
theorem dec_small {u : Nat} (h : u < 10) : Lib.decDigits u = [UInt8.ofNat (48 + u)] := by rw [Lib.decDigits, dif_pos h]
theorem dec_big {u : Nat} (h : ¬ u < 10) : Lib.decDigits u = Lib.decDigits (u / 10) ++ [UInt8.ofNat (48 + u % 10)] := by rw [Lib.decDigits, dif_neg h]
theorem ofn_nat {x : Nat} (h : x < 10) : (UInt8.ofNat (48 + x)).toNat = 48 + x := by rw [UInt8.toNat_ofNat']; omega
/-- digits without a leading zero are the decimal form of what they spell -/
theorem dec_dval : ∀ (n : Nat) (d : List UInt8), d.length = n → (∀ c ∈ d, isD c) → d ≠ [] → (d.head? = some 48 → d.length = 1) → Lib.decDigits (dval 0 d) = d := by
  intro n
  induction n with
  | zero => intro d h1 _ h3; exact absurd (List.eq_nil_of_length_eq_zero h1) h3
  | succ n ih =>
    intro d hn hd hne h0
    obtain ⟨a, c, rfl⟩ : ∃ a c, d = a ++ [c] := ⟨d.dropLast, d.getLast hne, (List.dropLast_concat_getLast hne).symm⟩
    have hc : isD c := hd c (by simp)
    have hc2 : c.toNat - 48 < 10 := by unfold isD at hc; omega
    rw [dval_snoc]
    cases a with
    | nil =>
      show Lib.decDigits (0 * 10 + (c.toNat - 48)) = [c]
      rw [show 0 * 10 + (c.toNat - 48) = c.toNat - 48 by omega, dec_small hc2, dig_of hc]
    | cons x t =>
      have hx : isD x := hd x (by simp)
      have hx48 : ¬ x = 48 := fun e => by subst e; have := h0 (by simp); simp at this
      have hxn : x.toNat ≠ 48 := fun e => hx48 (UInt8.toNat_inj.1 e)
      have hpos : 1 ≤ dval 0 (x :: t) := Nat.le_trans (show 1 ≤ 0 * 10 + (x.toNat - 48) by unfold isD at hx; omega) (dval_ge t _)
      rw [dec_big (by omega), show (dval 0 (x :: t) * 10 + (c.toNat - 48)) / 10 = dval 0 (x :: t) by omega, show (dval 0 (x :: t) * 10 + (c.toNat - 48)) % 10 = c.toNat - 48 by omega, dig_of hc]
      rw [ih (x :: t) (by simpa using hn) (fun y hy => hd y (by simp at hy ⊢; rcases hy with h | h; exact .inl h; exact .inr (.inl h))) (by simp) (fun e => by simp at e; exact absurd e hx48)]
/-- the decimal form spells its number -/
theorem dval_dec (u : Nat) : dval 0 (Lib.decDigits u) = u ∧ (∀ c ∈ Lib.decDigits u, isD c) ∧ Lib.decDigits u ≠ [] ∧ ((Lib.decDigits u).head? = some 48 → u = 0) := by
  induction u using Nat.strongRecOn with
  | _ u ih =>
    by_cases h : u < 10
    · rw [dec_small h]
      have hn := ofn_nat h
      refine ⟨?_, fun c hc => ?_, by simp, fun e => ?_⟩
      · show 0 * 10 + ((UInt8.ofNat (48 + u)).toNat - 48) = u
        omega
      · rw [List.mem_singleton.1 hc]; unfold isD; omega
      · have e : UInt8.ofNat (48 + u) = 48 := by simpa using e
        rw [e] at hn
        have : (48 : UInt8).toNat = 48 := rfl
        omega
    · obtain ⟨i1, i2, i3, i4⟩ := ih (u / 10) (by omega)
      have hn := ofn_nat (show u % 10 < 10 by omega)
      rw [dec_big h]
      refine ⟨?_, fun c hc => ?_, by simp, fun e => ?_⟩
      · rw [dval_snoc, i1, hn]; omega
      · rcases List.mem_append.1 hc with hc | hc
        · exact i2 c hc
        · rw [List.mem_singleton.1 hc]; unfold isD; omega
      · have e2 : (Lib.decDigits (u / 10)).head? = some 48 := by
          cases hd : Lib.decDigits (u / 10) with
          | nil => exact absurd hd i3
          | cons x t => rw [hd] at e; simpa using e
        have := i4 e2
        omega
/-- the number that a text spells: at most 18 digits, in decimal form -/
def rdD (l : List UInt8) : Option Int :=
  if l.head? = some 45 then (if (l.tail ≠ [] ∧ l.tail.length ≤ 18 ∧ ∀ c ∈ l.tail, isD c) ∧ ¬ l.tail.head? = some 48 then some (-(dval 0 l.tail : Int)) else none)
  else (if (l ≠ [] ∧ l.length ≤ 18 ∧ ∀ c ∈ l, isD c) ∧ ¬ (l.head? = some 48 ∧ 1 < l.length) then some (dval 0 l : Int) else none)
theorem p18 : (10 : Nat) ^ 18 = 1000000000000000000 := by decide
theorem dval_18 {l : List UInt8} (hd : ∀ c ∈ l, isD c) (h : l.length ≤ 18) : dval 0 l < 1000000000000000000 := by
  have h1 := dval_lt l 0 hd
  have h2 : (10 : Nat) ^ l.length ≤ 10 ^ 18 := Nat.pow_le_pow_right (by omega) h
  rw [p18] at h2
  omega
theorem rdD_some {l : List UInt8} {n : Int} (h : rdD l = some n) : Lib.itoa n = l ∧ -1000000000000000000 < n ∧ n < 1000000000000000000 := by
  unfold rdD at h
  split at h
  · rename_i h45
    split at h
    · rename_i hc
      obtain ⟨⟨h1, h2, h3⟩, h4⟩ := hc
      injection h with h
      obtain ⟨x, t, rfl⟩ : ∃ x t, l = x :: t := by cases l with
        | nil => simp at h45
        | cons x t => exact ⟨x, t, rfl⟩
      have hx : x = 45 := by simpa using h45
      subst hx
      simp only [List.tail_cons] at h1 h2 h3 h4 h
      have hb := dval_18 h3 h2
      have hd := dec_dval t.length t rfl h3 h1 (fun e => absurd e h4)
      have hp : 0 < dval 0 t := by
        rcases Nat.eq_zero_or_pos (dval 0 t) with e | e
        · rw [e] at hd
          rw [← hd] at h4
          exact absurd (by rw [dec_small (by omega)]; rfl) h4
        · exact e
      subst h
      refine ⟨?_, by omega, by omega⟩
      unfold Lib.itoa
      rw [if_pos (by omega), show (-(dval 0 t : Int)).natAbs = dval 0 t by omega, hd]
    · cases h
  · split at h
    · rename_i hc
      obtain ⟨⟨h1, h2, h3⟩, h4⟩ := hc
      injection h with h
      have hb := dval_18 h3 h2
      have hd := dec_dval l.length l rfl h3 h1 (fun e => by
        have : 0 < l.length := List.length_pos_iff.2 h1
        rcases Nat.lt_or_ge 1 l.length with h5 | h5
        · exact absurd ⟨e, h5⟩ h4
        · omega)
      subst h
      refine ⟨?_, by omega, by omega⟩
      unfold Lib.itoa
      rw [if_neg (by omega), show ((dval 0 l : Nat) : Int).toNat = dval 0 l by omega, hd]
    · cases h
/-- the digits of a decimal form -/
def digs (l : List UInt8) : List UInt8 := if l.head? = some 45 then l.tail else l
theorem dec_len18 {u : Nat} (h : (Lib.decDigits u).length ≤ 18) : u < 1000000000000000000 := by
  have := dval_18 (dval_dec u).2.1 h
  rw [(dval_dec u).1] at this
  exact this
theorem dec_len18' {u : Nat} (h : u < 1000000000000000000) : (Lib.decDigits u).length ≤ 18 := by
  obtain ⟨h1, h2, h3, h4⟩ := dval_dec u
  rcases Nat.lt_or_ge 18 (Lib.decDigits u).length with h5 | h5
  · exfalso
    obtain ⟨x, t, hx⟩ : ∃ x t, Lib.decDigits u = x :: t := by cases hd : Lib.decDigits u with
      | nil => exact absurd hd h3
      | cons x t => exact ⟨x, t, rfl⟩
    rw [hx] at h1 h2 h4 h5
    have hxd := h2 x (by simp)
    have hx48 : x ≠ 48 := fun e => by
      have := h4 (by simp [e])
      subst this
      rw [dec_small (by omega)] at hx
      have : t = [] := by simp at hx; exact hx.2.symm ▸ rfl
      subst this
      simp at h5
    have hxn : 49 ≤ x.toNat := by
      unfold isD at hxd
      rcases Nat.lt_or_ge x.toNat 49 with h6 | h6
      · have : x.toNat = 48 := by omega
        exact absurd (UInt8.toNat_inj.1 this) hx48
      · exact h6
    have hg : ∀ (t : List UInt8) (a : Nat), a * 10 ^ t.length ≤ dval a t := by
      intro t
      induction t with
      | nil => intro a; show a * 10 ^ 0 ≤ a; rw [Nat.pow_zero]; omega
      | cons c r ih =>
        intro a
        have := ih (a * 10 + (c.toNat - 48))
        show a * 10 ^ (r.length + 1) ≤ dval _ r
        refine Nat.le_trans ?_ this
        rw [Nat.pow_succ, Nat.mul_comm (10 ^ r.length) 10, ← Nat.mul_assoc]
        exact Nat.mul_le_mul_right _ (by omega)
    have h6 := hg t (0 * 10 + (x.toNat - 48))
    have h7 : (10 : Nat) ^ 18 ≤ 10 ^ t.length := Nat.pow_le_pow_right (by omega) (by simp at h5; omega)
    have h8 : dval (0 * 10 + (x.toNat - 48)) t = u := h1
    have h9 := Nat.mul_le_mul_right (10 ^ t.length) (show 1 ≤ 0 * 10 + (x.toNat - 48) by omega)
    rw [p18] at h7
    omega
  · exact h5
theorem rdD_itoa {n : Int} (h0 : -1000000000000000000 < n) (h1 : n < 1000000000000000000) : rdD (Lib.itoa n) = some n := by
  unfold Lib.itoa
  split
  · rename_i hn
    obtain ⟨g1, g2, g3, g4⟩ := dval_dec n.natAbs
    unfold rdD
    rw [if_pos (show (45 :: Lib.decDigits n.natAbs).head? = some 45 from rfl), if_pos ⟨⟨g3, dec_len18' (by omega), g2⟩, fun e => by have := g4 e; omega⟩]
    show some (-((dval 0 (Lib.decDigits n.natAbs) : Nat) : Int)) = some n
    rw [g1]
    congr 1
    omega
  · rename_i hn
    obtain ⟨g1, g2, g3, g4⟩ := dval_dec n.toNat
    unfold rdD
    rw [if_neg (fun e => ?_), if_pos ⟨⟨g3, dec_len18' (by omega), g2⟩, fun hh => by
      have := g4 hh.1
      have el := hh.2
      rw [this, dec_small (by omega)] at el
      simp at el⟩]
    · rw [g1]
      congr 1
      omega
    · obtain ⟨x, t, hx⟩ : ∃ x t, Lib.decDigits n.toNat = x :: t := by cases hd : Lib.decDigits n.toNat with
        | nil => exact absurd hd g3
        | cons x t => exact ⟨x, t, rfl⟩
      rw [hx] at e g2
      have hx45 : x = 45 := by simpa using e
      have := g2 x (by simp)
      rw [hx45] at this
      exact absurd this (by decide)
/-- no number of at most 18 digits has this text -/
theorem rdD_none {l : List UInt8} (h : rdD l = none) {v : Int} (hv : Lib.itoa v = l) : ¬ (digs l).length ≤ 18 := fun h18 => by
  subst hv
  have hv : -1000000000000000000 < v ∧ v < 1000000000000000000 := by
    unfold digs Lib.itoa at h18
    by_cases hn : v < 0
    · rw [if_pos hn] at h18
      rw [if_pos (show (45 :: Lib.decDigits v.natAbs).head? = some 45 from rfl)] at h18
      have := dec_len18 (u := v.natAbs) h18
      omega
    · rw [if_neg hn] at h18
      obtain ⟨g1, g2, g3, g4⟩ := dval_dec v.toNat
      rw [if_neg (fun e => by
        obtain ⟨x, t, hx⟩ : ∃ x t, Lib.decDigits v.toNat = x :: t := by cases hd : Lib.decDigits v.toNat with
          | nil => exact absurd hd g3
          | cons x t => exact ⟨x, t, rfl⟩
        rw [hx] at e g2
        have hx45 : x = 45 := by simpa using e
        have := g2 x (by simp)
        rw [hx45] at this
        exact absurd this (by decide))] at h18
      have := dec_len18 (u := v.toNat) h18
      omega
  rw [rdD_itoa hv.1 hv.2] at h
  cases h
theorem digs_itoa {n : Int} (h0 : -1000000000000000000 < n) (h1 : n < 1000000000000000000) : 1 ≤ (digs (Lib.itoa n)).length ∧ (digs (Lib.itoa n)).length ≤ 18 := by
  have h := rdD_itoa h0 h1
  unfold rdD at h
  unfold digs
  split at h
  · rename_i h45
    rw [if_pos h45]
    split at h
    · rename_i hc
      exact ⟨List.length_pos_iff.2 hc.1.1, hc.1.2.1⟩
    · cases h
  · rename_i h45
    rw [if_neg h45]
    split at h
    · rename_i hc
      exact ⟨List.length_pos_iff.2 hc.1.1, hc.1.2.1⟩
    · cases h
/-- ParseUint at digits -/
theorem parseM_dig {M : Nat} : ∀ (l : List UInt8) (a : Nat), (∀ c ∈ l, isD c) → dval a l ≤ M → dval a l < 18446744073709551616 → Lib.parseUintM M a l = .ok (dval a l)
  | [], a, _, _, _ => rfl
  | c :: r, a, hd, hM, h64 => by
    have hc := hd c (by simp)
    have hge := dval_ge r (a * 10 + (c.toNat - 48))
    have hM' : dval (a * 10 + (c.toNat - 48)) r ≤ M := hM
    have h64' : dval (a * 10 + (c.toNat - 48)) r < 18446744073709551616 := h64
    show Lib.parseUintM M a (c :: r) = .ok (dval (a * 10 + (c.toNat - 48)) r)
    rw [Lib.parseUintM, if_pos (show 48 ≤ c.toNat ∧ c.toNat ≤ 57 from hc), if_neg (by omega), if_neg (by omega)]
    exact parseM_dig r _ (fun x hx => hd x (by simp [hx])) hM' h64'
/-- ParseInt reads back what Decimal writes -/
theorem parse_itoa {n : Int} (h0 : -1000000000000000000 < n) (h1 : n < 1000000000000000000) : Lib.parseIntB 64 (Lib.itoa n) = .ok n := by
  unfold Lib.itoa
  split
  · rename_i hn
    obtain ⟨g1, g2, g3, g4⟩ := dval_dec n.natAbs
    have hp : Lib.parseUintB 64 (Lib.decDigits n.natAbs) = .ok n.natAbs := by
      unfold Lib.parseUintB
      rw [if_neg g3, parseM_dig _ _ g2 (by rw [g1]; have : (2 : Nat) ^ 64 - 1 = 18446744073709551615 := by decide
                                           omega) (by rw [g1]; omega), g1]
    unfold Lib.parseIntB
    simp only [show ((45 : UInt8).toNat = 43 ∨ (45 : UInt8).toNat = 45) = True by simp, if_true, hp]
    have h63 : (2 : Nat) ^ (64 - 1) = 9223372036854775808 := by decide
    rw [h63]
    rw [if_neg (by simp), if_neg (by omega), if_pos (by decide)]
    congr 1
    omega
  · rename_i hn
    obtain ⟨g1, g2, g3, g4⟩ := dval_dec n.toNat
    have hp : Lib.parseUintB 64 (Lib.decDigits n.toNat) = .ok n.toNat := by
      unfold Lib.parseUintB
      rw [if_neg g3, parseM_dig _ _ g2 (by rw [g1]; have : (2 : Nat) ^ 64 - 1 = 18446744073709551615 := by decide
                                           omega) (by rw [g1]; omega), g1]
    have h63 : (2 : Nat) ^ (64 - 1) = 9223372036854775808 := by decide
    obtain ⟨x, t, hx⟩ : ∃ x t, Lib.decDigits n.toNat = x :: t := by cases hd : Lib.decDigits n.toNat with
      | nil => exact absurd hd g3
      | cons x t => exact ⟨x, t, rfl⟩
    have hxd : isD x := g2 x (by rw [hx]; simp)
    unfold isD at hxd
    rw [hx] at hp ⊢
    unfold Lib.parseIntB
    simp only [show ¬ (x.toNat = 43 ∨ x.toNat = 45) by omega, if_false, hp, h63]
    rw [if_neg (by omega), if_neg (by omega), if_neg (by omega)]
    congr 1
    omega
theorem itoa_inj {a b : Int} (h : Lib.itoa a = Lib.itoa b) : a = b := by
  have hd : ∀ u v : Nat, Lib.decDigits u = Lib.decDigits v → u = v := fun u v e => by
    have h1 := (dval_dec u).1
    have h2 := (dval_dec v).1
    rw [e] at h1
    omega
  have hx : ∀ u v : Nat, Lib.decDigits u ≠ 45 :: Lib.decDigits v := fun u v e => by
    have := (dval_dec u).2.1 45 (by rw [e]; simp)
    exact absurd this (by decide)
  unfold Lib.itoa at h
  split at h
  · split at h
    · have := hd _ _ (List.cons.inj h).2
      omega
    · exact absurd h.symm (hx _ _)
  · split at h
    · exact absurd h (hx _ _)
    · have := hd _ _ h
      omega
end Go.Proofs.YtonmeffhelaohaaDoor
