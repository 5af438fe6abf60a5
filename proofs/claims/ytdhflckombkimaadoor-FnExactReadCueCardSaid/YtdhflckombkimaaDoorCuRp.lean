/-
  Cues restored from their texts, in plain words. Conditions: those typed at each theorem.
-/
import Derived.Test.YtdhflckombkimaaDoorCuTx
import Derived.Test.YtdhflckombkimaaDoorRdP
namespace Go.Proofs.YtdhflckombkimaaDoor
open Go.RowKit
def wSet : List UInt8 := [115, 101, 116]
def wFade : List UInt8 := [102, 97, 100, 101]
def wStop : List UInt8 := [115, 116, 111, 112]
/-- the pieces of a cue's text -/
def pcs (x : Cu) : List (List UInt8) := x.id.data.toList :: Lib.itoa x.t :: x.tg.data.toList :: (if x.act = 1 then [wSet, Lib.itoa x.v] else if x.act = 2 then [wFade, Lib.itoa x.v, Lib.itoa x.ln] else [wStop])
theorem cuTx_join (x : Cu) : (cuTx x).data.toList = joinC 32 (pcs x) := by
  unfold cuTx pcs cuS
  split
  · simp only [app_data, decS_data, joinC, wSet]; simp
  · split
    · simp only [app_data, decS_data, joinC, wFade]; simp
    · simp only [app_data, decS_data, joinC, wStop]; simp
theorem pcs_free {x : Cu} (h : okC x) : ∀ g ∈ pcs x, (∀ y ∈ g, y ≠ 32) ∧ g ≠ [] := by
  intro g hg
  obtain ⟨h1, h2, -⟩ := h
  unfold pcs at hg
  rcases List.mem_cons.1 hg with rfl | hg
  · exact ⟨name_free h1, name_ne h1⟩
  rcases List.mem_cons.1 hg with rfl | hg
  · exact ⟨itoa_free _, itoa_ne _⟩
  rcases List.mem_cons.1 hg with rfl | hg
  · exact ⟨name_free h2, name_ne h2⟩
  split at hg
  · rcases List.mem_cons.1 hg with rfl | hg
    · exact ⟨by decide, by decide⟩
    · obtain rfl := List.mem_singleton.1 hg
      exact ⟨itoa_free _, itoa_ne _⟩
  · split at hg
    · rcases List.mem_cons.1 hg with rfl | hg
      · exact ⟨by decide, by decide⟩
      rcases List.mem_cons.1 hg with rfl | hg
      · exact ⟨itoa_free _, itoa_ne _⟩
      · obtain rfl := List.mem_singleton.1 hg
        exact ⟨itoa_free _, itoa_ne _⟩
    · obtain rfl := List.mem_singleton.1 hg
      exact ⟨by decide, by decide⟩
/-- a cue's text falls into its pieces -/
theorem cu_pieces {x : Cu} (h : okC x) : splC 32 (cuTx x).data.toList = pcs x := by
  rw [cuTx_join]
  exact splC_join 32 _ (by unfold pcs; simp) fun g hg => (pcs_free h g hg).1
theorem cu_sp {x : Cu} (h : okC x) : spS 32 (cuTx x) = (pcs x).map baL := by unfold spS; rw [cu_pieces h]
theorem cu_wd {x : Cu} (h : okC x) : wdS (cuTx x) = (pcs x).map baL := by
  unfold wdS
  rw [cu_sp h, List.filter_eq_self]
  intro g hg
  obtain ⟨l, hl, rfl⟩ := List.mem_map.1 hg
  have := (pcs_free h l hl).2
  rw [ByteArray.toList_eq]
  show (!(l.toArray.toList).isEmpty) = true
  cases l with
  | nil => exact absurd rfl this
  | cons a t => rfl
/-- s is the text of the valid cue x -/
def IsT (s : ByteArray) (x : Cu) : Prop := okC x ∧ cuTx x = s
/-- what the words of a text say, whatever they are worth -/
def candW (W : List ByteArray) : Option Cu := match W with
  | i :: t :: g :: k :: r =>
    if k.data.toList = wSet ∧ r.length = 1 then some ⟨i, rdV t, 0, g, 1, rdV (r.getD 0 ⟨#[]⟩)⟩
    else if k.data.toList = wFade ∧ r.length = 2 then some ⟨i, rdV t, rdV (r.getD 1 ⟨#[]⟩), g, 2, rdV (r.getD 0 ⟨#[]⟩)⟩
    else if k.data.toList = wStop ∧ r.length = 0 then some ⟨i, rdV t, 0, g, 3, 0⟩
    else none
  | _ => none
/-- the pieces say the cue -/
theorem cand_pcs {x : Cu} (h : okC x) : candW ((pcs x).map baL) = some x := by
  obtain ⟨-, -, ⟨t0, t1⟩, ⟨v0, v1⟩, h5⟩ := h
  obtain ⟨i, t, ln, g, act, v⟩ := x
  dsimp only at *
  have et := (rd_itoa (n := t) (by omega) (by omega)).1
  have ev := (rd_itoa (n := v) (by omega) (by omega)).1
  rcases h5 with ⟨rfl, rfl⟩ | ⟨rfl, l0, l1⟩ | ⟨rfl, rfl, rfl⟩
  · simp [pcs, candW, baL]
    exact ⟨et, ev⟩
  · have el := (rd_itoa (n := ln) (by omega) (by omega)).1
    simp [pcs, candW, baL, wFade, wSet]
    exact ⟨et, el, ev⟩
  · simp [pcs, candW, baL, wFade, wSet, wStop]
    exact et
theorem isT_one {s : ByteArray} {x y : Cu} (hx : IsT s x) (hy : IsT s y) : x = y := by
  have h1 := cand_pcs hx.1
  rw [← cu_sp hx.1, hx.2, ← hy.2, cu_sp hy.1, cand_pcs hy.1] at h1
  exact (Option.some.inj h1).symm
theorem cand_cons (i t g k : ByteArray) (r : List ByteArray) : candW (i :: t :: g :: k :: r) = if k.data.toList = wSet ∧ r.length = 1 then some ⟨i, rdV t, 0, g, 1, rdV (r.getD 0 ⟨#[]⟩)⟩
    else if k.data.toList = wFade ∧ r.length = 2 then some ⟨i, rdV t, rdV (r.getD 1 ⟨#[]⟩), g, 2, rdV (r.getD 0 ⟨#[]⟩)⟩
    else if k.data.toList = wStop ∧ r.length = 0 then some ⟨i, rdV t, 0, g, 3, 0⟩
    else none := rfl
theorem len_one {α : Type} {r : List α} (h : r.length = 1) : ∃ v, r = [v] := by
  match r, h with
  | [v], _ => exact ⟨v, rfl⟩
theorem len_two {α : Type} {r : List α} (h : r.length = 2) : ∃ v n, r = [v, n] := by
  match r, h with
  | [v, n], _ => exact ⟨v, n, rfl⟩
theorem len_four {α : Type} {W : List α} (h : 4 ≤ W.length) : ∃ i t g k r, W = i :: t :: g :: k :: r := by
  match W, h with
  | i :: t :: g :: k :: r, _ => exact ⟨i, t, g, k, r, rfl⟩
  | [], h => simp at h
  | [_], h => simp at h
  | [_, _], h => simp at h
  | [_, _, _], h => simp at h
theorem cand_len {W : List ByteArray} {x : Cu} (h : candW W = some x) : 4 ≤ W.length := by
  match W, h with
  | i :: t :: g :: k :: r, _ => simp
  | [], h => cases h
  | [_], h => cases h
  | [_, _], h => cases h
  | [_, _, _], h => cases h
theorem cand_back {W : List ByteArray} {x : Cu} (h : candW W = some x) (h1 : rdO (W.getD 1 ⟨#[]⟩) = true) (h2 : ∀ y ∈ W.drop 4, rdO y = true) : W.map (·.data.toList) = pcs x := by
  obtain ⟨i, t, g, k, r, rfl⟩ := len_four (cand_len h)
  have ht := rd_back (t := t) h1
  have h2 : ∀ y ∈ r, rdO y = true := h2
  rw [cand_cons] at h
  by_cases c1 : k.data.toList = wSet ∧ r.length = 1
  · rw [if_pos c1] at h
    obtain ⟨hk, hr⟩ := c1
    obtain ⟨v, rfl⟩ := len_one hr
    have hv := rd_back (h2 v (by simp))
    obtain rfl := (Option.some.inj h).symm
    simp [pcs, hk, ht, hv]
  rw [if_neg c1] at h
  by_cases c2 : k.data.toList = wFade ∧ r.length = 2
  · rw [if_pos c2] at h
    obtain ⟨hk, hr⟩ := c2
    obtain ⟨v, n, rfl⟩ := len_two hr
    have hv := rd_back (h2 v (by simp))
    have hn := rd_back (h2 n (by simp))
    obtain rfl := (Option.some.inj h).symm
    simp [pcs, hk, ht, hv, hn]
  rw [if_neg c2] at h
  by_cases c3 : k.data.toList = wStop ∧ r.length = 0
  · rw [if_pos c3] at h
    obtain ⟨hk, hr⟩ := c3
    obtain rfl : r = [] := List.eq_nil_of_length_eq_zero hr
    obtain rfl := (Option.some.inj h).symm
    simp [pcs, hk, ht]
  rw [if_neg c3] at h
  cases h
/-- the reference reads just the texts of valid cues -/
theorem read_sp {s : ByteArray} {x : Cu} (h : candW (spS 32 s) = some x) (h1 : rdO ((spS 32 s).getD 1 ⟨#[]⟩) = true) (h2 : ∀ y ∈ (spS 32 s).drop 4, rdO y = true) (hx : okC x) : IsT s x := by
  refine ⟨hx, ba_ext ?_⟩
  have h3 := cand_back h h1 h2
  rw [sp_data] at h3
  rw [cuTx_join, ← h3, joinC_spl]
theorem isT_num {s : ByteArray} {x : Cu} (h : IsT s x) : candW (spS 32 s) = some x ∧ rdO ((spS 32 s).getD 1 ⟨#[]⟩) = true ∧ (∀ y ∈ (spS 32 s).drop 4, rdO y = true) ∧ wdS s = spS 32 s := by
  obtain ⟨hx, rfl⟩ := h
  have h0 := cand_pcs hx
  rw [cu_wd hx, cu_sp hx]
  refine ⟨h0, ?_, ?_, rfl⟩
  · obtain ⟨-, -, ⟨t0, t1⟩, -⟩ := hx
    exact (rd_itoa (n := x.t) (by omega) (by omega)).2
  · obtain ⟨-, -, ⟨t0, t1⟩, ⟨v0, v1⟩, h5⟩ := hx
    intro y hy
    have hv := (rd_itoa (n := x.v) (by omega) (by omega)).2
    unfold pcs at hy
    rcases h5 with ⟨ha, -⟩ | ⟨ha, l0, l1⟩ | ⟨ha, -, -⟩
    · rw [if_pos ha] at hy
      obtain rfl : y = baL (Lib.itoa x.v) := by simpa using hy
      exact hv
    · rw [if_neg (by omega), if_pos ha] at hy
      have hl := (rd_itoa (n := x.ln) (by omega) (by omega)).2
      have hy : y = baL (Lib.itoa x.v) ∨ y = baL (Lib.itoa x.ln) := by simpa using hy
      rcases hy with rfl | rfl
      · exact hv
      · exact hl
    · rw [if_neg (by omega), if_neg (by omega)] at hy
      simp at hy
open Classical in
/-- what is read -/
noncomputable def rqC (s : ByteArray) : Cu := if h : ∃ x, IsT s x then h.choose else ⟨⟨#[]⟩, 0, 0, ⟨#[]⟩, 0, 0⟩
open Classical in
noncomputable def rqB (s : ByteArray) : Bool := decide (∃ x, IsT s x)
open Classical in
theorem rq_yes {s : ByteArray} {x : Cu} (h : IsT s x) : rqC s = x ∧ rqB s = true := by
  have he : ∃ x, IsT s x := ⟨x, h⟩
  refine ⟨?_, decide_eq_true he⟩
  unfold rqC
  rw [dif_pos he]
  exact isT_one he.choose_spec h
open Classical in
theorem rq_no {s : ByteArray} (h : ¬ ∃ x, IsT s x) : rqC s = ⟨⟨#[]⟩, 0, 0, ⟨#[]⟩, 0, 0⟩ ∧ rqB s = false := by
  refine ⟨?_, decide_eq_false h⟩
  unfold rqC
  rw [dif_neg h]
end Go.Proofs.YtdhflckombkimaaDoor
