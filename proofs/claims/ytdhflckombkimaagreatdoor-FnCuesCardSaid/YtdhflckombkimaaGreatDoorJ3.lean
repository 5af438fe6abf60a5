/-
  Rows of strings without doubles, in order: inserting one by one gives what sorting and compacting gives. Conditions: those typed at each theorem.
-/
import Derived.Lib.SlicesCompact
import Derived.Test.YtdhflckombkimaaGreatDoorJ2
namespace Go.Proofs.YtdhflckombkimaaGreatDoor
open Go.RowKit
/-- a string's bytes -/
abbrev Bs : Type := List UInt8
theorem bs_tri (a b : Bs) (h : ¬ a < b) (h2 : a ≠ b) : b < a := by
  rcases Decidable.em (b < a) with h3 | h3
  · exact h3
  · exact absurd (List.le_antisymm (List.not_lt.1 h3) (List.not_lt.1 h)) h2
theorem bs_lt {a b : Bs} (h : a ≤ b) (h2 : a ≠ b) : a < b := by
  rcases Decidable.em (a < b) with h3 | h3
  · exact h3
  · exact absurd (List.le_antisymm h (List.not_lt.1 h3)) h2
/-- x put to its place, once -/
def insK : List Bs → Bs → List Bs
  | [], x => [x]
  | y :: o, x => if y < x then y :: insK o x else if y = x then y :: o else x :: y :: o
theorem mem_insK {x z : Bs} : ∀ o, z ∈ insK o x ↔ z = x ∨ z ∈ o
  | [] => by simp [insK]
  | y :: o => by
    unfold insK
    split
    · rw [List.mem_cons, mem_insK o, List.mem_cons]
      constructor
      · rintro (h | h | h)
        · exact .inr (.inl h)
        · exact .inl h
        · exact .inr (.inr h)
      · rintro (h | h | h)
        · exact .inr (.inl h)
        · exact .inl h
        · exact .inr (.inr h)
    · split
      · rename_i h; subst h
        simp
      · simp
theorem ss_insK {x : Bs} : ∀ {o}, List.Pairwise (· < ·) o → List.Pairwise (· < ·) (insK o x)
  | [], _ => by simp [insK]
  | y :: o, h => by
    obtain ⟨h1, h2⟩ := List.pairwise_cons.1 h
    unfold insK
    split
    · rename_i hy
      refine List.pairwise_cons.2 ⟨fun z hz => ?_, ss_insK h2⟩
      rcases (mem_insK o).1 hz with rfl | hz
      · exact hy
      · exact h1 z hz
    · rename_i hy
      split
      · exact h
      · rename_i hne
        have hxy := bs_tri y x hy hne
        refine List.pairwise_cons.2 ⟨fun z hz => ?_, h⟩
        rcases List.mem_cons.1 hz with rfl | hz
        · exact hxy
        · exact List.lt_trans hxy (h1 z hz)
theorem insK_len (x : Bs) : ∀ o, (insK o x).length ≤ o.length + 1
  | [] => by simp [insK]
  | y :: o => by
    have := insK_len x o
    unfold insK
    split
    · simp; omega
    · split <;> simp
/-- by the place -/
theorem insK_at {x : Bs} : ∀ {o : List Bs} {k : Nat}, k ≤ o.length → (∀ j (h : j < o.length), j < k → o[j] < x) → (∀ h : k < o.length, ¬ o[k] < x) →
    ((∀ h : k < o.length, o[k] ≠ x) → insK o x = (o.take k ++ [x]) ++ o.drop k) ∧ (∀ h : k < o.length, o[k] = x → insK o x = o)
  | [], k, hk, _, _ => by
    obtain rfl : k = 0 := by simpa using hk
    exact ⟨fun _ => by simp [insK], fun h => by simp at h⟩
  | y :: o, 0, _, _, h2 => by
    have hy : ¬ y < x := h2 (by simp)
    refine ⟨fun h => ?_, fun _ h => ?_⟩
    · have : y ≠ x := h (by simp)
      unfold insK
      rw [if_neg hy, if_neg this]
      simp
    · have h : y = x := h
      unfold insK
      rw [if_neg hy, if_pos h]
  | y :: o, k + 1, hk, h1, h2 => by
    have hy : y < x := h1 0 (by simp) (by omega)
    have hk' : k ≤ o.length := by simpa using hk
    obtain ⟨a, b⟩ := insK_at (x := x) (o := o) (k := k) hk' (fun j h hj => h1 (j + 1) (by simp; omega) (by omega)) (fun h => h2 (by simp; omega))
    refine ⟨fun h => ?_, fun h e => ?_⟩
    · unfold insK
      rw [if_pos hy, a (fun h' => h (by simp; omega))]
      simp
    · unfold insK
      rw [if_pos hy, b (by simpa using h) e]
/-- two rows in order, without doubles, of the same members -/
theorem ss_ext : ∀ {a b : List Bs}, List.Pairwise (· < ·) a → List.Pairwise (· < ·) b → (∀ z, z ∈ a ↔ z ∈ b) → a = b
  | [], [], _, _, _ => rfl
  | [], y :: b, _, _, h => by have := (h y).2 (by simp); simp at this
  | x :: a, [], _, _, h => by have := (h x).1 (by simp); simp at this
  | x :: a, y :: b, ha, hb, h => by
    obtain ⟨a1, a2⟩ := List.pairwise_cons.1 ha
    obtain ⟨b1, b2⟩ := List.pairwise_cons.1 hb
    have hxy : x = y := by
      rcases List.mem_cons.1 ((h x).1 (by simp)) with e | e
      · exact e
      · rcases List.mem_cons.1 ((h y).2 (by simp)) with e' | e'
        · exact e'.symm
        · exact absurd (List.lt_trans (a1 y e') (b1 x e)) (List.lt_irrefl x)
    subst hxy
    refine congrArg (x :: ·) (ss_ext a2 b2 fun z => ⟨fun hz => ?_, fun hz => ?_⟩)
    · rcases List.mem_cons.1 ((h z).1 (by simp [hz])) with e | e
      · subst e; exact absurd (a1 z hz) (List.lt_irrefl z)
      · exact e
    · rcases List.mem_cons.1 ((h z).2 (by simp [hz])) with e | e
      · subst e; exact absurd (b1 z hz) (List.lt_irrefl z)
      · exact e
theorem pair_snoc {l : List Bs} {x : Bs} (h : List.Pairwise (· < ·) l) (h2 : ∀ z ∈ l, z < x) : List.Pairwise (· < ·) (l ++ [x]) :=
  List.pairwise_append.2 ⟨h, by simp, fun a ha b hb => by simp at hb; subst hb; exact h2 a ha⟩
theorem get_bang {d : Array Bs} {i : Nat} (h : i < d.size) : d[i]! = d[i] := by simp [h]
/-- compacting a row in order -/
theorem compact_ss {d : Array Bs} (hs : ∀ i j (hj : j < d.size) (h : i < j), d[i]'(by omega) ≤ d[j]) : ∀ m, m ≤ d.size →
    List.Pairwise (· < ·) (Lib.compactUpTo d m) ∧ (∀ z, z ∈ Lib.compactUpTo d m ↔ ∃ i, ∃ h : i < d.size, i < m ∧ d[i] = z)
  | 0, _ => by simp [Lib.compactUpTo]
  | m + 1, hm => by
    obtain ⟨ih1, ih2⟩ := compact_ss hs m (by omega)
    rw [Lib.compactUpTo_succ]
    by_cases hk : Lib.keeps d m = true
    · rw [if_pos hk, get_bang (by omega)]
      have hlt : ∀ z ∈ Lib.compactUpTo d m, z < d[m] := fun z hz => by
        obtain ⟨i, hi, him, rfl⟩ := (ih2 z).1 hz
        have hk' : m = 0 ∨ d[m]! ≠ d[m - 1]! := of_decide_eq_true hk
        rcases hk' with h0 | hne
        · omega
        · rw [get_bang (by omega), get_bang (by omega)] at hne
          have h1 : d[m - 1]'(by omega) < d[m] := bs_lt (hs (m - 1) m (by omega) (by omega)) (Ne.symm hne)
          rcases Nat.lt_or_ge i (m - 1) with h2 | h2
          · exact List.lt_of_le_of_lt (hs i (m - 1) (by omega) h2) h1
          · have h3 : i = m - 1 := by omega
            subst h3
            exact h1
      refine ⟨pair_snoc ih1 hlt, fun z => ?_⟩
      rw [List.mem_append, ih2 z, List.mem_singleton]
      constructor
      · rintro (⟨i, h, h1, h2⟩ | rfl)
        · exact ⟨i, h, by omega, h2⟩
        · exact ⟨m, by omega, by omega, rfl⟩
      · rintro ⟨i, h, h1, h2⟩
        rcases Nat.lt_or_ge i m with h3 | h3
        · exact .inl ⟨i, h, h3, h2⟩
        · have h4 : i = m := by omega
          subst h4
          exact .inr h2.symm
    · rw [if_neg hk, List.append_nil]
      refine ⟨ih1, fun z => ?_⟩
      rw [ih2 z]
      constructor
      · rintro ⟨i, h, h1, h2⟩
        exact ⟨i, h, by omega, h2⟩
      · rintro ⟨i, h, h1, h2⟩
        rcases Nat.lt_or_ge i m with h3 | h3
        · exact ⟨i, h, h3, h2⟩
        · have h4 : i = m := by omega
          subst h4
          have hk' : ¬ (i = 0 ∨ d[i]! ≠ d[i - 1]!) := fun hc => hk (decide_eq_true hc)
          have hi0 : i ≠ 0 := fun h => hk' (.inl h)
          have he : d[i]! = d[i - 1]! := Classical.byContradiction fun hc => hk' (.inr hc)
          rw [get_bang (by omega), get_bang (by omega)] at he
          exact ⟨i - 1, by omega, by omega, by rw [← he]; exact h2⟩
/-- the first k strings, put in one by one -/
def insAll (l : List Bs) : Nat → List Bs
  | 0 => []
  | k + 1 => insK (insAll l k) (l.getD k [])
theorem ss_insAll (l : List Bs) : ∀ k, List.Pairwise (· < ·) (insAll l k)
  | 0 => by simp [insAll]
  | k + 1 => ss_insK (ss_insAll l k)
theorem mem_insAll (l : List Bs) (z : Bs) : ∀ k, k ≤ l.length → (z ∈ insAll l k ↔ ∃ i, ∃ h : i < l.length, i < k ∧ l[i] = z)
  | 0, _ => by simp [insAll]
  | k + 1, hk => by
    unfold insAll
    rw [mem_insK, mem_insAll l z k (by omega)]
    have hg : l.getD k [] = l[k]'(by omega) := by simp [List.getD, show k < l.length by omega]
    rw [hg]
    constructor
    · rintro (rfl | ⟨i, h, h1, h2⟩)
      · exact ⟨k, by omega, by omega, rfl⟩
      · exact ⟨i, h, by omega, h2⟩
    · rintro ⟨i, h, h1, h2⟩
      rcases Nat.lt_or_ge i k with h3 | h3
      · exact .inr ⟨i, h, h3, h2⟩
      · have h4 : i = k := by omega
        subst h4
        exact .inl h2.symm
theorem insAll_len (l : List Bs) : ∀ k, (insAll l k).length ≤ k
  | 0 => by simp [insAll]
  | k + 1 => by
    have h1 := insAll_len l k
    have h2 := insK_len (l.getD k []) (insAll l k)
    unfold insAll
    omega
/-- the row sorted -/
def sortK (l : List Bs) : List Bs := l.mergeSort fun x y => decide (x ≤ y)
theorem sortK_len (l : List Bs) : (sortK l).length = l.length := (List.mergeSort_perm l _).length_eq
theorem sortK_le (l : List Bs) : List.Pairwise (· ≤ ·) (sortK l) := by
  have h := List.pairwise_mergeSort (le := fun x y : Bs => decide (x ≤ y)) (fun a b c h1 h2 => decide_eq_true (List.le_trans (of_decide_eq_true h1) (of_decide_eq_true h2))) (fun a b => by
    rcases List.le_total a b with h | h
    · simp [h]
    · simp [h]) l
  exact h.imp fun h => of_decide_eq_true h
theorem mem_iff_get {l : List Bs} {z : Bs} : z ∈ l ↔ ∃ i, ∃ h : i < l.length, l[i] = z := List.mem_iff_getElem
/-- the main law -/
theorem sort_compact (l : List Bs) : Lib.compact (sortK l) = insAll l l.length := by
  have hp := sortK_le l
  have hs : ∀ i j (hj : j < (sortK l).toArray.size) (h : i < j), (sortK l).toArray[i]'(by omega) ≤ (sortK l).toArray[j] := fun i j hj h => by
    have hj' : j < (sortK l).length := by simpa using hj
    have := List.pairwise_iff_getElem.1 hp i j (by omega) hj' h
    simpa using this
  obtain ⟨c1, c2⟩ := compact_ss hs (sortK l).length (by simp)
  refine ss_ext c1 (ss_insAll l _) fun z => ?_
  rw [mem_insAll l z _ (Nat.le_refl _)]
  have h1 : z ∈ Lib.compact (sortK l) ↔ z ∈ sortK l := by
    show z ∈ Lib.compactUpTo _ _ ↔ _
    rw [c2 z, mem_iff_get]
    constructor
    · rintro ⟨i, h, h1, h2⟩
      exact ⟨i, h1, by simpa using h2⟩
    · rintro ⟨i, h, h2⟩
      exact ⟨i, by simpa using h, h, by simpa using h2⟩
  have h2 : z ∈ sortK l ↔ z ∈ l := (List.mergeSort_perm l _).mem_iff
  rw [h1, h2, mem_iff_get]
  constructor
  · rintro ⟨i, h, e⟩
    exact ⟨i, h, h, e⟩
  · rintro ⟨i, h, _, e⟩
    exact ⟨i, h, e⟩
end Go.Proofs.YtdhflckombkimaaGreatDoor
