/-
  The two searches of a cue's place agree. Conditions: those typed at each theorem.
-/
import Derived.Test.YthgfnbgdpmbolaaCuPc
import Derived.Test.YthgfnbgdpmbolaaCuPu
import Derived.Test.YthgfnbgdpmbolaaBLess
namespace Go.Proofs.Ythgfnbgdpmbolaa
open Go.RowKit
theorem befB_iff (x y : Cu) : befB x y = true ↔ x.t < y.t ∨ (x.t = y.t ∧ Op.bytesLess x.id.toList y.id.toList = true) := by
  unfold befB; simp
theorem befB_trans {x y z : Cu} (h1 : befB x y = true) (h2 : befB y z = true) : befB x z = true := by
  rw [befB_iff] at *
  rcases h1 with h1 | ⟨h1, h1'⟩ <;> rcases h2 with h2 | ⟨h2, h2'⟩
  · exact .inl (by omega)
  · exact .inl (by omega)
  · exact .inl (by omega)
  · exact .inr ⟨by omega, bl_trans _ _ _ h1' h2'⟩
theorem befB_asymm {x y : Cu} (h : befB x y = true) : befB y x = false := by
  cases h2 : befB y x
  · rfl
  · have := befB_trans h h2
    rw [befB_iff, bl_irrefl] at this
    rcases this with h | ⟨_, h⟩
    · omega
    · cases h
theorem befB_total {x y : Cu} (hid : (x.id.toList == y.id.toList) = false) (h : befB x y = false) : befB y x = true := by
  rw [beq_eq_false_iff_ne] at hid
  have h' : ¬ befB x y = true := by rw [h]; simp
  rw [befB_iff] at h' ⊢
  rcases bl_total x.id.toList y.id.toList with h1 | h1 | h1
  · exact absurd h1 hid
  · rcases Int.lt_trichotomy x.t y.t with h2 | h2 | h2
    · exact absurd (.inl h2) h'
    · exact absurd (.inr ⟨h2, h1⟩) h'
    · exact .inl h2
  · rcases Int.lt_trichotomy x.t y.t with h2 | h2 | h2
    · exact absurd (.inl h2) h'
    · exact .inr ⟨h2.symm, h1⟩
    · exact .inl h2
/-- rising cues -/
def Rise (l : List Cu) : Prop := ∀ i j, i < j → j < l.length → befB (cuG l i) (cuG l j) = true
theorem rise_of {l : List Cu} (h : vCs l = true) : Rise l := by
  obtain ⟨-, h⟩ := vCs_of h
  intro i j
  induction j with
  | zero => intro hij; omega
  | succ j ih =>
    intro hij hj
    have h1 := (h (j + 1) hj).2.1 (by omega)
    rw [Nat.add_sub_cancel] at h1
    rcases Nat.lt_or_ge i j with h2 | h2
    · exact befB_trans (ih h2 (by omega)) h1
    · obtain rfl : i = j := by omega
      exact h1
theorem putS_at {l : List Cu} {c : Cu} {p : Nat} (h1 : ∀ j, j < p → befB c (cuG l j) = false) : ∀ k, p ≤ k → (∀ j, p ≤ j → j < k → befB c (cuG l j) = true) → putS l c k = p := by
  intro k
  induction k with
  | zero => intro hp _; obtain rfl : p = 0 := by omega
            rfl
  | succ k ih =>
    intro hp h2
    rcases Nat.lt_or_ge k p with h | h
    · obtain rfl : p = k + 1 := by omega
      unfold putS
      rw [h1 k (by omega)]; rfl
    · unfold putS
      rw [h2 k h (by omega), if_pos rfl]
      exact ih h fun j hj hjk => h2 j hj (by omega)
theorem plI_le (l : List Cu) (c : Cu) : plI l c ≤ l.length := List.findIdx_le_length
theorem plI_lt {l : List Cu} {c : Cu} {j : Nat} (h : j < plI l c) : befB (cuG l j) c = true := by
  have hl : j < l.length := Nat.lt_of_lt_of_le h (plI_le l c)
  have := List.not_of_lt_findIdx (p := fun y : Cu => !befB y c) (xs := l) h
  rw [cuG_at hl]
  simpa using this
theorem plI_nb {l : List Cu} {c : Cu} (h : plI l c < l.length) : befB (cuG l (plI l c)) c = false := by
  have := List.findIdx_getElem (p := fun y : Cu => !befB y c) (xs := l) (w := h)
  rw [cuG_at h]
  cases hb : befB (l[plI l c]) c
  · rfl
  · have h2 : (!befB (l[plI l c]) c) = true := this
    rw [hb] at h2
    cases h2
theorem plI_putS {l : List Cu} {c : Cu} (hr : Rise l) (hm : ∀ j, j < l.length → ((cuG l j).id.toList == c.id.toList) = false) : putS l c l.length = plI l c := by
  refine putS_at (fun j hj => befB_asymm (plI_lt hj)) _ (plI_le l c) fun j hj hjl => ?_
  have hp : plI l c < l.length := by omega
  have h1 := befB_total (hm _ hp) (plI_nb hp)
  rcases Nat.lt_or_ge (plI l c) j with h | h
  · exact befB_trans h1 (hr _ _ h hjl)
  · have hj' : plI l c = j := by omega
    rwa [hj'] at h1
theorem ins_put {l : List Cu} {c : Cu} (hr : Rise l) (hm : ∀ j, j < l.length → ((cuG l j).id.toList == c.id.toList) = false) : insL l (plI l c) c = putL l c := by
  unfold insL putL; rw [plI_putS hr hm]
/-- the cues without one -/
theorem cuG_wo {l : List Cu} {q j : Nat} (hq : q < l.length) : cuG (woC l q) j = if j < q then cuG l j else cuG l (j + 1) := by
  unfold woC cuG
  rw [List.getD_eq_getElem?_getD]
  split
  · rename_i h
    rw [List.getElem?_append_left (by rw [List.length_take]; omega), List.getElem?_take, if_pos h, ← List.getD_eq_getElem?_getD]
  · rename_i h
    rw [List.getElem?_append_right (by rw [List.length_take]; omega), List.length_take, Nat.min_eq_left (by omega), List.getElem?_drop, ← List.getD_eq_getElem?_getD]
    congr 1; omega
theorem rise_wo {l : List Cu} {q : Nat} (hq : q < l.length) (hr : Rise l) : Rise (woC l q) := by
  intro i j hij hj
  rw [woC_len hq] at hj
  rw [cuG_wo hq, cuG_wo hq]
  split <;> split <;> exact hr _ _ (by omega) (by omega)
theorem miss_wo {l : List Cu} {q : Nat} (hq : q < l.length) (h : vCs l = true) {c : Cu} (hc : c.id = (cuG l q).id) : ∀ j, j < (woC l q).length → ((cuG (woC l q) j).id.toList == c.id.toList) = false := by
  obtain ⟨-, h⟩ := vCs_of h
  intro j hj
  rw [woC_len hq] at hj
  rw [cuG_wo hq, hc]
  split
  · rename_i hjq
    exact (h q hq).2.2 j hjq
  · have h1 := (h (j + 1) (by omega)).2.2 q (by omega)
    rw [beq_eq_false_iff_ne] at h1 ⊢
    exact fun e => h1 e.symm
end Go.Proofs.Ythgfnbgdpmbolaa
