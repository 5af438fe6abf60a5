/-
  What AddCue hands back is valid. Conditions: those typed at each theorem.
-/
import Derived.Test.YthgfnbgdpmbolaaCuPl
import Derived.Test.YthgfnbgdpmbolaaCuAd
namespace Go.Proofs.Ythgfnbgdpmbolaa
open Go.RowKit
theorem cuG_ins {l : List Cu} {x : Cu} {p : Nat} (hp : p ≤ l.length) (j : Nat) : cuG (insL l p x) j = if j < p then cuG l j else if j = p then x else cuG l (j - 1) := by
  unfold insL cuG
  rw [List.getD_eq_getElem?_getD]
  have hlt : (l.take p).length = p := by rw [List.length_take]; omega
  have hl1 : (l.take p ++ [x]).length = p + 1 := by rw [List.length_append, hlt]; rfl
  split
  · rename_i h
    rw [List.getElem?_append_left (by omega), List.getElem?_append_left (by omega), List.getElem?_take, if_pos h, ← List.getD_eq_getElem?_getD]
  · split
    · rename_i h1 h2
      subst h2
      rw [List.getElem?_append_left (by omega), List.getElem?_append_right (by omega), hlt]
      simp
    · rename_i h1 h2
      rw [List.getElem?_append_right (by omega), hl1, List.getElem?_drop, ← List.getD_eq_getElem?_getD]
      congr 1; omega
theorem vCs_put {l : List Cu} {x : Cu} (hv : vCs l = true) (hx : vC x = true) (hb : ∀ j, j < l.length → ((cuG l j).id.toList == x.id.toList) = false) (hf : ¬ l.length = 32) : vCs (putL l x) = true := by
  have hr := rise_of hv
  have hle := plI_le l x
  obtain ⟨h32, hok⟩ := vCs_of hv
  have hlen := putL_len l x
  rw [← ins_put hr hb] at hlen ⊢
  refine vCs_mk (by omega) fun i hi => ⟨?_, fun h0 => ?_, fun j hj => ?_⟩
  · rw [cuG_ins hle]
    split
    · exact (hok i (by omega)).1
    · split
      · exact hx
      · exact (hok (i - 1) (by omega)).1
  · rw [cuG_ins hle, cuG_ins hle]
    rcases Nat.lt_trichotomy i (plI l x) with h | h | h
    · rw [if_pos (by omega), if_pos h]
      exact hr _ _ (by omega) (by omega)
    · rw [if_pos (by omega), if_neg (by omega), if_pos h]
      exact plI_lt (by omega)
    · rcases Nat.lt_or_ge (plI l x) (i - 1) with h1 | h1
      · rw [if_neg (by omega), if_neg (by omega), if_neg (by omega), if_neg (by omega)]
        exact hr _ _ (by omega) (by omega)
      · have hp : plI l x = i - 1 := by omega
        have hp2 : plI l x < l.length := by omega
        rw [if_neg (by omega), if_pos hp.symm, if_neg (by omega), if_neg (by omega), ← hp]
        exact befB_total (hb _ hp2) (plI_nb hp2)
  · rw [cuG_ins hle, cuG_ins hle]
    rcases Nat.lt_trichotomy i (plI l x) with h | h | h
    · rw [if_pos (by omega), if_pos h]
      exact (hok i (by omega)).2.2 j hj
    · rw [if_pos (by omega), if_neg (by omega), if_pos h]
      exact hb j (by omega)
    · rw [if_neg (show ¬ i < plI l x by omega), if_neg (show ¬ i = plI l x by omega)]
      rcases Nat.lt_trichotomy j (plI l x) with h1 | h1 | h1
      · rw [if_pos h1]
        exact (hok (i - 1) (by omega)).2.2 j (by omega)
      · rw [if_neg (by omega), if_pos h1]
        have := hb (i - 1) (by omega)
        rw [beq_eq_false_iff_ne] at this ⊢
        exact fun e => this e.symm
      · rw [if_neg (by omega), if_neg (by omega)]
        exact (hok (i - 1) (by omega)).2.2 (j - 1) (by omega)
theorem ad_vCs {l : List Cu} {x : Cu} (h : adE l x = 0) : adV l x = putL l x ∧ vCs (adV l x) = true := by
  unfold adE at h
  split at h
  · rename_i hv
    split at h
    · cases h
    · rename_i hn
      split at h
      · cases h
      · rename_i hf
        rcases cI_part l x.id with ⟨q, hq, he, hb⟩ | hb
        · rw [cIx_hit hq he hb] at hn
          exact absurd hq hn
        · have := (ad_go hv.1 hv.2 hb hf).1
          exact ⟨this, by rw [this]; exact vCs_put hv.1 hv.2 hb hf⟩
  · cases h
theorem putL_mem {l : List Cu} {x y : Cu} (h : y ∈ putL l x) : y = x ∨ y ∈ l := by
  unfold putL at h
  rcases List.mem_append.1 h with h | h
  · rcases List.mem_append.1 h with h | h
    · exact .inr (List.mem_of_mem_take h)
    · exact .inl (List.mem_singleton.1 h)
  · exact .inr (List.mem_of_mem_drop h)
theorem putL_oks {l : List Cu} {x : Cu} [hk : COks l] (hx : x.ok) : COks (putL l x) := ⟨fun y hy => by
  rcases putL_mem hy with rfl | h
  · exact hx
  · exact hk.h y h⟩
theorem vCs_take {l : List Cu} (h : vCs l = true) (n : Nat) : vCs (l.take n) = true := by
  obtain ⟨h1, h2⟩ := vCs_of h
  refine vCs_mk (by rw [List.length_take]; omega) fun i hi => ?_
  rw [List.length_take] at hi
  have := h2 i (by omega)
  refine ⟨?_, fun h0 => ?_, fun j hj => ?_⟩
  · rw [cuG_take (by omega)]; exact this.1
  · rw [cuG_take (by omega), cuG_take (by omega)]; exact this.2.1 h0
  · rw [cuG_take (by omega), cuG_take (by omega)]; exact this.2.2 j hj
end Go.Proofs.Ythgfnbgdpmbolaa
