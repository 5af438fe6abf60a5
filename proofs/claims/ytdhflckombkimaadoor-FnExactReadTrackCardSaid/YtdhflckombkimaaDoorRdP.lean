/-
  Reading texts, in plain words: what the texts of numbers and names hold. Conditions: those typed at each theorem.
-/
import Derived.Test.YtdhflckombkimaaDoorRdW
import Derived.Test.YtdhflckombkimaaDoorName
namespace Go.Proofs.YtdhflckombkimaaDoor
open Go.RowKit
theorem joinC_two (c : UInt8) (g h : List UInt8) (t : List (List UInt8)) : joinC c (g :: h :: t) = g ++ c :: joinC c (h :: t) := rfl
/-- pieces that are joined are found again -/
theorem splC_join (c : UInt8) : ∀ (p : List (List UInt8)), p ≠ [] → (∀ g ∈ p, ∀ x ∈ g, x ≠ c) → splC c (joinC c p) = p
  | [], h, _ => absurd rfl h
  | [g], _, h => splC_none c g (h g (by simp))
  | g :: h :: t, _, hf => by
    rw [joinC_two, splC_app c g _ (hf g (by simp)), splC_join c (h :: t) (by simp) (fun x hx => hf x (by simp [hx]))]
theorem app_data (a b : ByteArray) : (a ++ b).data.toList = a.data.toList ++ b.data.toList := by simp
theorem decS_data (n : Int) : (decS n).data.toList = Lib.itoa n := rfl
theorem itoa_free (n : Int) : ∀ x ∈ Lib.itoa n, x ≠ 32 := by
  intro x hx e
  subst e
  unfold Lib.itoa at hx
  split at hx
  · rcases List.mem_cons.1 hx with h | h
    · cases h
    · exact absurd ((dval_dec _).2.1 _ h) (by decide)
  · exact absurd ((dval_dec _).2.1 _ hx) (by decide)
theorem name_free {s : ByteArray} (h : okN s) : ∀ x ∈ s.data.toList, x ≠ 32 := by
  intro x hx e
  subst e
  obtain ⟨-, -, -, h4⟩ := h
  obtain ⟨i, hi, he⟩ := List.getElem_of_mem hx
  have hl : s.data.toList.length = s.size := by simp
  have h5 := h4 i (by omega)
  have e2 : s[i]'(by omega) = 32 := by rw [← he]; rfl
  rw [e2] at h5
  have : (32 : UInt8).toNat = 32 := rfl
  rcases h5 with ⟨a, b⟩ | ⟨a, b⟩ <;> omega
theorem name_ne {s : ByteArray} (h : okN s) : s.data.toList ≠ [] := by
  obtain ⟨-, h0, -⟩ := h
  have hl : s.data.toList.length = s.size := by simp
  exact fun e => by rw [e] at hl; simp at hl; omega
theorem itoa_ne (n : Int) : Lib.itoa n ≠ [] := by
  unfold Lib.itoa
  split
  · simp
  · exact (dval_dec _).2.2.1
theorem rd_itoa {n : Int} (h0 : -1000000000000000000 < n) (h1 : n < 1000000000000000000) : rdV (baL (Lib.itoa n)) = n ∧ rdO (baL (Lib.itoa n)) = true := rd_yes (s := baL (Lib.itoa n)) (rdD_itoa h0 h1)
theorem rd_back {t : ByteArray} (h : rdO t = true) : Lib.itoa (rdV t) = t.data.toList := by
  unfold rdO at h
  cases hr : rdD t.data.toList with
  | none => rw [hr] at h; cases h
  | some n => rw [(rd_yes hr).1]; exact (rdD_some hr).1
theorem sp_data (s : ByteArray) : (spS 32 s).map (·.data.toList) = splC 32 s.data.toList := by
  unfold spS
  rw [List.map_map]
  conv => rhs; rw [← List.map_id (splC 32 s.data.toList)]
  exact List.map_congr_left fun x _ => rfl
theorem splC_size (c : UInt8) : ∀ (l : List UInt8), ∀ g ∈ splC c l, g.length ≤ l.length
  | [], g, hg => by
    have : g = [] := by simpa [splC] using hg
    subst this; simp
  | y :: r, g, hg => by
    have ih := splC_size c r
    by_cases h : y = c
    · subst h
      rw [splC_eq] at hg
      rcases List.mem_cons.1 hg with rfl | hg
      · simp
      · have := ih g hg; simp; omega
    · cases hr : splC c r with
      | nil => exact absurd hr (splC_ne c r)
      | cons z t =>
        rw [splC_cons h hr] at hg
        rw [hr] at ih
        rcases List.mem_cons.1 hg with rfl | hg
        · have := ih z (by simp); simp; omega
        · have := ih g (by simp [hg]); simp; omega
theorem sp_size {s g : ByteArray} (h : g ∈ spS 32 s) : g.size ≤ s.size := by
  obtain ⟨l, hl, rfl⟩ := List.mem_map.1 h
  have := splC_size 32 _ l hl
  have e1 : (baL l).size = l.length := by show l.toArray.size = _; simp
  have e2 : s.data.toList.length = s.size := by simp
  omega
theorem itoa_freeC {c : UInt8} (hc : ¬ isD c) (h45 : c ≠ 45) (n : Int) : ∀ x ∈ Lib.itoa n, x ≠ c := by
  intro x hx e
  subst e
  unfold Lib.itoa at hx
  split at hx
  · rcases List.mem_cons.1 hx with h | h
    · exact h45 h
    · exact hc ((dval_dec _).2.1 _ h)
  · exact hc ((dval_dec _).2.1 _ hx)
theorem joinC_snoc (c : UInt8) : ∀ p : List (List UInt8), p ≠ [] → ∀ g, joinC c (p ++ [g]) = joinC c p ++ c :: g
  | [], h, _ => absurd rfl h
  | [a], _, g => rfl
  | a :: b :: t, _, g => by
    have ih := joinC_snoc c (b :: t) (by simp) g
    show joinC c (a :: b :: (t ++ [g])) = _
    rw [joinC_two, joinC_two, show b :: (t ++ [g]) = (b :: t) ++ [g] from rfl, ih]
    simp
theorem idx_nil (c : UInt8) : Lib.index [] [c] = -1 := rfl
theorem idx_eq (c : UInt8) (r : List UInt8) : Lib.index (c :: r) [c] = 0 := by rw [Lib.index]; simp [List.isPrefixOf]
theorem idx_ne {c x : UInt8} (h : x ≠ c) (r : List UInt8) : Lib.index (x :: r) [c] = if Lib.index r [c] = -1 then -1 else Lib.index r [c] + 1 := by
  have hp : ([c] : List UInt8).isPrefixOf (x :: r) = false := by simp [List.isPrefixOf, Ne.symm h]
  rw [Lib.index, hp]
  simp
/-- the library's cut, by the pieces -/
theorem cut_spl (c : UInt8) : ∀ (l g : List UInt8) (t : List (List UInt8)), splC c l = g :: t → Lib.cut l [c] = (g, joinC c t, !t.isEmpty)
  | [], g, t, h => by
    obtain ⟨rfl, rfl⟩ : g = [] ∧ t = [] := by simpa [splC, eq_comm] using h
    unfold Lib.cut
    rw [idx_nil, if_neg (by omega)]
    rfl
  | x :: r, g, t, h => by
    by_cases hx : x = c
    · subst hx
      rw [splC_eq] at h
      obtain ⟨rfl, rfl⟩ := List.cons.inj h
      unfold Lib.cut
      rw [idx_eq, if_pos (by omega), joinC_spl]
      have := splC_ne x r
      cases hs : splC x r with
      | nil => exact absurd hs this
      | cons a b => rfl
    · cases hr : splC c r with
      | nil => exact absurd hr (splC_ne c r)
      | cons g0 t0 =>
        rw [splC_cons hx hr] at h
        obtain ⟨rfl, rfl⟩ := List.cons.inj h
        have ih := cut_spl c r g0 t0 hr
        have hge := Lib.index_ge r [c]
        unfold Lib.cut at ih ⊢
        rw [idx_ne hx]
        by_cases hm : Lib.index r [c] = -1
        · rw [hm, if_neg (by omega)] at ih
          rw [if_pos hm, if_neg (by omega)]
          simp only [Prod.mk.injEq] at ih ⊢
          exact ⟨by rw [ih.1], ih.2.1, ih.2.2⟩
        · rw [if_pos (by omega)] at ih
          rw [if_neg hm, if_pos (by omega)]
          simp only [Prod.mk.injEq] at ih ⊢
          obtain ⟨j, hj⟩ : ∃ j : Nat, Lib.index r [c] = j := ⟨(Lib.index r [c]).toNat, by omega⟩
          rw [hj] at ih ⊢
          rw [show ((j : Int) + 1).toNat = j + 1 by omega]
          rw [show ((j : Int)).toNat = j by omega] at ih
          refine ⟨by rw [List.take_succ_cons, ih.1], ?_, ih.2.2⟩
          rw [← ih.2.1, show j + 1 + [c].length = (j + [c].length) + 1 by omega, List.drop_succ_cons]
theorem rd_free {l : List UInt8} {n : Int} (h : rdD l = some n) {c : UInt8} (hc : ¬ isD c) (h45 : c ≠ 45) : ∀ x ∈ l, x ≠ c := by
  have := (rdD_some h).1
  rw [← this]
  exact itoa_freeC hc h45 n
theorem baL_list (l : List UInt8) : (baL l).data.toList = l := by unfold baL; simp
theorem len_one {α : Type} {r : List α} (h : r.length = 1) : ∃ v, r = [v] := by
  match r, h with
  | [v], _ => exact ⟨v, rfl⟩
theorem len_two {α : Type} {r : List α} (h : r.length = 2) : ∃ v n, r = [v, n] := by
  match r, h with
  | [v, n], _ => exact ⟨v, n, rfl⟩
theorem wd_size {s g : ByteArray} (h : g ∈ wdS s) : g.size ≤ s.size := sp_size (List.mem_filter.1 h).1
theorem wd_len (s : ByteArray) : (wdS s).length ≤ s.size + 1 := Nat.le_trans (List.length_filter_le _ _) (sp_le s)
end Go.Proofs.YtdhflckombkimaaDoor
