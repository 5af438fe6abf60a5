/-
  Texts divided at a byte, in plain words. Conditions: those typed at each theorem.
-/
import Derived.Lib.SplitLaws
import Derived.Test.YtonmeffhelaohaaDoorV2
namespace Go.Proofs.YtonmeffhelaohaaDoor
open Go.RowKit
/-- the pieces of a text between the bytes c -/
def splC (c : UInt8) : List UInt8 → List (List UInt8)
  | [] => [[]]
  | x :: r => if x = c then [] :: splC c r else match splC c r with
    | [] => [[x]]
    | h :: t => (x :: h) :: t
theorem splC_ne (c : UInt8) : ∀ l, splC c l ≠ []
  | [] => by simp [splC]
  | x :: r => by
    unfold splC
    split
    · simp
    · split <;> simp
theorem splC_eq (c : UInt8) (r : List UInt8) : splC c (c :: r) = [] :: splC c r := by rw [splC, if_pos rfl]
theorem splC_cons {c x : UInt8} (h : x ≠ c) {r g : List UInt8} {t : List (List UInt8)} (hr : splC c r = g :: t) : splC c (x :: r) = (x :: g) :: t := by rw [splC, if_neg h, hr]
/-- the library's pieces are these -/
theorem splitK_spl (c : UInt8) : ∀ l : List UInt8, Lib.splitK [c] 0 (Lib.count l [c]) l = splC c l
  | [] => by rw [Lib.count_miss (by simp [Lib.index])]; rfl
  | x :: r => by
    have ih := splitK_spl c r
    by_cases h : x = c
    · subst h
      rw [Lib.count_cons_eq, splC_eq, ← ih, Nat.add_comm 1]
      have hix : Lib.index (x :: r) [x] = ((0 : Nat) : Int) := by rw [Lib.index]; simp [List.isPrefixOf]
      rw [Lib.splitK, hix]
      simp
    · have hp : ([c] : List UInt8).isPrefixOf (x :: r) = false := by simp [List.isPrefixOf, Ne.symm h]
      have hix : Lib.index (x :: r) [c] = if Lib.index r [c] == -1 then -1 else Lib.index r [c] + 1 := by rw [Lib.index, hp]; simp
      rw [Lib.count_cons_ne x c r h]
      by_cases hm : Lib.index r [c] = -1
      · rw [Lib.count_miss hm] at ih ⊢
        have ih : [r] = splC c r := ih
        show [x :: r] = _
        rw [splC_cons h ih.symm]
      · have hge := Lib.index_ge r [c]
        obtain ⟨j, hj⟩ : ∃ j : Nat, Lib.index r [c] = j := ⟨(Lib.index r [c]).toNat, by omega⟩
        have hix' : Lib.index (x :: r) [c] = ((j + 1 : Nat) : Int) := by rw [hix, if_neg (fun e => hm (beq_iff_eq.1 e)), hj]; omega
        rw [Lib.count_hit (by simp) hj, Nat.add_comm 1] at ih ⊢
        rw [Lib.splitK, hj] at ih
        rw [Lib.splitK, hix']
        have e1 : ¬ (((j : Nat) : Int) == -1) = true := by rw [beq_iff_eq]; omega
        have e2 : ¬ (((j + 1 : Nat) : Int) == -1) = true := by rw [beq_iff_eq]; omega
        rw [if_neg e1] at ih
        rw [if_neg e2, splC_cons h ih.symm]
        simp
/-- the pieces of a longer text -/
theorem splC_snoc (c x : UInt8) : ∀ (l : List UInt8) (o : List (List UInt8)) (g : List UInt8), splC c l = o ++ [g] → splC c (l ++ [x]) = if x = c then o ++ [g] ++ [[]] else o ++ [g ++ [x]]
  | [], o, g, h => by
    have h : [[]] = o ++ [g] := h
    obtain ⟨rfl, rfl⟩ : o = [] ∧ g = [] := by
      cases o with
      | nil => exact ⟨rfl, by simpa using h.symm⟩
      | cons y o => have := congrArg List.length h; simp at this
    show splC c [x] = _
    split
    · rename_i hx; subst hx; rw [splC_eq]; rfl
    · rename_i hx; rw [splC_cons hx (g := []) (t := []) rfl]; rfl
  | y :: l, o, g, h => by
    show splC c (y :: (l ++ [x])) = _
    by_cases hy : y = c
    · subst hy
      rw [splC_eq] at h ⊢
      cases o with
      | nil =>
        have h2 : splC y l = [] := by simp at h; exact h.2
        exact absurd h2 (splC_ne y l)
      | cons z o =>
        obtain ⟨rfl, h2⟩ := List.cons.inj h
        rw [splC_snoc y x l o g h2]
        split <;> simp
    · cases hl : splC c l with
      | nil => exact absurd hl (splC_ne c l)
      | cons z t =>
        rw [splC_cons hy hl] at h
        cases o with
        | nil =>
          obtain ⟨rfl, rfl⟩ : y :: z = g ∧ t = [] := by simpa using h
          have h3 := splC_snoc c x l [] z hl
          split
          · rename_i hx
            rw [if_pos hx] at h3
            rw [splC_cons hy h3]; rfl
          · rename_i hx
            rw [if_neg hx] at h3
            rw [splC_cons hy h3]; rfl
        | cons w o =>
          obtain ⟨rfl, rfl⟩ := List.cons.inj h
          have h3 := splC_snoc c x l (z :: o) g hl
          split
          · rename_i hx
            rw [if_pos hx] at h3
            rw [splC_cons hy h3]; rfl
          · rename_i hx
            rw [if_neg hx] at h3
            rw [splC_cons hy h3]; rfl
/-- no byte c in it: one piece -/
theorem splC_none (c : UInt8) : ∀ l : List UInt8, (∀ x ∈ l, x ≠ c) → splC c l = [l]
  | [], _ => rfl
  | x :: r, h => splC_cons (h x (by simp)) (splC_none c r fun y hy => h y (by simp [hy]))
/-- a first piece -/
theorem splC_app (c : UInt8) : ∀ (l r : List UInt8), (∀ x ∈ l, x ≠ c) → splC c (l ++ c :: r) = l :: splC c r
  | [], r, _ => splC_eq c r
  | x :: l, r, h => splC_cons (h x (by simp)) (splC_app c l r fun y hy => h y (by simp [hy]))
/-- joined again -/
def joinC (c : UInt8) : List (List UInt8) → List UInt8
  | [] => []
  | [g] => g
  | g :: h :: t => g ++ c :: joinC c (h :: t)
theorem joinC_cons (c : UInt8) (g : List UInt8) {t : List (List UInt8)} (h : t ≠ []) : joinC c (g :: t) = g ++ c :: joinC c t := by
  cases t with
  | nil => exact absurd rfl h
  | cons x t => rfl
theorem joinC_spl (c : UInt8) : ∀ l : List UInt8, joinC c (splC c l) = l
  | [] => rfl
  | x :: r => by
    have ih := joinC_spl c r
    by_cases h : x = c
    · subst h
      rw [splC_eq, joinC_cons x [] (splC_ne x r), ih]; rfl
    · cases hr : splC c r with
      | nil => exact absurd hr (splC_ne c r)
      | cons g t =>
        rw [splC_cons h hr]
        rw [hr] at ih
        cases t with
        | nil => exact congrArg (x :: ·) ih
        | cons y t => exact congrArg (x :: ·) ih
theorem splC_free (c : UInt8) : ∀ (l : List UInt8), ∀ g ∈ splC c l, ∀ x ∈ g, x ≠ c
  | [], g, hg, x, hx => by
    have : g = [] := by simpa [splC] using hg
    subst this; simp at hx
  | y :: r, g, hg, x, hx => by
    have ih := splC_free c r
    by_cases h : y = c
    · subst h
      rw [splC_eq] at hg
      rcases List.mem_cons.1 hg with rfl | hg
      · simp at hx
      · exact ih g hg x hx
    · cases hr : splC c r with
      | nil => exact absurd hr (splC_ne c r)
      | cons z t =>
        rw [splC_cons h hr] at hg
        rw [hr] at ih
        rcases List.mem_cons.1 hg with rfl | hg
        · rcases List.mem_cons.1 hx with rfl | hx
          · exact h
          · exact ih z (by simp) x hx
        · exact ih g (by simp [hg]) x hx
theorem splC_len (c : UInt8) : ∀ l : List UInt8, (splC c l).length ≤ l.length + 1
  | [] => by simp [splC]
  | x :: r => by
    have ih := splC_len c r
    unfold splC
    split
    · simp; omega
    · split
      · simp
      · rename_i h t he
        rw [he] at ih
        simp at ih ⊢; omega
end Go.Proofs.YtonmeffhelaohaaDoor
