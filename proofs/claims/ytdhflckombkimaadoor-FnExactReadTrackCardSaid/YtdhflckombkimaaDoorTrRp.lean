/-
  Tracks restored from their texts, in plain words. Conditions: those typed at each theorem.
-/
import Derived.Test.YtdhflckombkimaaDoorTrX
import Derived.Test.YtdhflckombkimaaDoorRdP
import Derived.Test.YtdhflckombkimaaDoorRdM
namespace Go.Proofs.YtdhflckombkimaaDoor
open Go.RowKit
/-- a key's text, without the blank ahead -/
def kyW (x : Ky) : List UInt8 := Lib.itoa x.t ++ 58 :: Lib.itoa x.v
/-- the pieces of a track's text -/
def tkPcs (nm : ByteArray) (l : List Ky) : List (List UInt8) := nm.data.toList :: l.map kyW
theorem tkX_join (nm : ByteArray) (l : List Ky) : ∀ q, q ≤ l.length → (trX nm l q).data.toList = joinC 32 (tkPcs nm (l.take q))
  | 0, _ => by simp [trX, tkPcs, joinC]
  | q + 1, h => by
    have ih := tkX_join nm l q (by omega)
    rw [trX, app_data, ih, List.take_succ_eq_append_getElem (by omega), kyG_at (by omega)]
    unfold tkPcs
    rw [List.map_append, ← List.cons_append, show ([l[q]].map kyW) = [kyW l[q]] from rfl, joinC_snoc _ _ (by simp)]
    congr 1
    unfold kyS kyW
    simp only [app_data, decS_data]
    simp
theorem tk_join (nm : ByteArray) (l : List Ky) : (trX nm l l.length).data.toList = joinC 32 (tkPcs nm l) := by
  have := tkX_join nm l l.length (Nat.le_refl _)
  rwa [List.take_length] at this
theorem kyW_free (k : Ky) : (∀ y ∈ kyW k, y ≠ 32) ∧ kyW k ≠ [] := by
  unfold kyW
  refine ⟨fun y hy => ?_, fun e => by simp at e⟩
  rcases List.mem_append.1 hy with h | h
  · exact itoa_freeC (by decide) (by decide) _ y h
  · rcases List.mem_cons.1 h with rfl | h
    · decide
    · exact itoa_freeC (by decide) (by decide) _ y h
theorem tkPcs_free {nm : ByteArray} (h : okN nm) (l : List Ky) : ∀ g ∈ tkPcs nm l, (∀ y ∈ g, y ≠ 32) ∧ g ≠ [] := by
  intro g hg
  rcases List.mem_cons.1 hg with rfl | hg
  · exact ⟨name_free h, name_ne h⟩
  · obtain ⟨k, -, rfl⟩ := List.mem_map.1 hg
    exact kyW_free k
theorem tk_sp {nm : ByteArray} (h : okN nm) (l : List Ky) : spS 32 (trX nm l l.length) = (tkPcs nm l).map baL := by
  unfold spS
  rw [tk_join, splC_join 32 _ (by simp [tkPcs]) fun g hg => (tkPcs_free h l g hg).1]
theorem tk_wd {nm : ByteArray} (h : okN nm) (l : List Ky) : wdS (trX nm l l.length) = (tkPcs nm l).map baL := by
  unfold wdS
  rw [tk_sp h, List.filter_eq_self]
  intro g hg
  obtain ⟨x, hx, rfl⟩ := List.mem_map.1 hg
  have := (tkPcs_free h l x hx).2
  rw [ByteArray.toList_eq]
  show (!(x.toArray.toList).isEmpty) = true
  cases x with
  | nil => exact absurd rfl this
  | cons a t => rfl
/-- is a word a key? -/
def kyB (x : ByteArray) : Bool := match splC 58 x.data.toList with
  | [a, b] => (rdD a).isSome && (rdD b).isSome
  | _ => false
/-- the key that a word is -/
def kyV (x : ByteArray) : Ky := match splC 58 x.data.toList with
  | [a, b] => ⟨(rdD a).getD 0, (rdD b).getD 0⟩
  | _ => ⟨0, 0⟩
theorem ky_two {x : ByteArray} {a b : List UInt8} (h : splC 58 x.data.toList = [a, b]) : kyB x = (rdO (baL a) && rdO (baL b)) ∧ kyV x = ⟨rdV (baL a), rdV (baL b)⟩ := by
  unfold kyB kyV rdO rdV
  rw [h, baL_list, baL_list]
  exact ⟨rfl, rfl⟩
theorem ky_nottwo {x : ByteArray} (h : (splC 58 x.data.toList).length ≠ 2) : kyB x = false := by
  unfold kyB
  split
  · rename_i a b e; rw [e] at h; exact absurd rfl h
  · rfl
theorem ky_back {x : ByteArray} (h : kyB x = true) : x.data.toList = kyW (kyV x) := by
  have hj := joinC_spl 58 x.data.toList
  unfold kyB at h
  split at h
  · rename_i a b e
    rw [Bool.and_eq_true] at h
    have e2 := (ky_two e).2
    have ha := rd_back (t := baL a) (by unfold rdO; rw [baL_list]; exact h.1)
    have hb := rd_back (t := baL b) (by unfold rdO; rw [baL_list]; exact h.2)
    rw [baL_list] at ha hb
    rw [e2]
    unfold kyW
    dsimp only
    rw [ha, hb, ← hj, e]
    rfl
  · cases h
theorem ky_of {k : Ky} (h1 : -1000000000000000000 < k.t ∧ k.t < 1000000000000000000) (h2 : -1000000000000000000 < k.v ∧ k.v < 1000000000000000000) : kyB (baL (kyW k)) = true ∧ kyV (baL (kyW k)) = k := by
  have hs : splC 58 (baL (kyW k)).data.toList = [Lib.itoa k.t, Lib.itoa k.v] := by
    rw [baL_list]
    unfold kyW
    rw [splC_app 58 _ _ (itoa_freeC (by decide) (by decide) _), splC_none 58 _ (itoa_freeC (by decide) (by decide) _)]
  obtain ⟨e1, e2⟩ := ky_two hs
  obtain ⟨a1, a2⟩ := rd_itoa h1.1 h1.2
  obtain ⟨b1, b2⟩ := rd_itoa h2.1 h2.2
  rw [e1, e2, a1, a2, b1, b2]
  exact ⟨rfl, rfl⟩
/-- what lies ahead of the colon, and behind it -/
def cuA (x : ByteArray) : ByteArray := ⟨(Lib.cut x.data.toList [58]).1.toArray⟩
def cuZ (x : ByteArray) : ByteArray := ⟨(Lib.cut x.data.toList [58]).2.1.toArray⟩
theorem rdO_nil : rdO (baL []) = false := by decide
theorem ky_cut (x : ByteArray) : nuB [cuA x, cuZ x] = kyB x ∧ (kyB x = true → nuV [cuA x, cuZ x] = [(kyV x).t, (kyV x).v]) := by
  have hsp : ∃ g t, splC 58 x.data.toList = g :: t := by
    cases h : splC 58 x.data.toList with
    | nil => exact absurd h (splC_ne _ _)
    | cons g t => exact ⟨g, t, rfl⟩
  obtain ⟨g, t, hs⟩ := hsp
  have hc := cut_spl 58 _ g t hs
  have eA : cuA x = baL g := by unfold cuA; rw [hc]; rfl
  have eZ : cuZ x = baL (joinC 58 t) := by unfold cuZ; rw [hc]; rfl
  have eB : nuB [cuA x, cuZ x] = (rdO (baL g) && rdO (baL (joinC 58 t))) := by rw [eA, eZ]; simp [nuB]
  rw [eB]
  match t, hs, eZ with
  | [], hs, eZ =>
    have h1 := ky_nottwo (x := x) (by rw [hs]; simp)
    rw [h1, show joinC 58 [] = [] from rfl, rdO_nil, Bool.and_false]
    exact ⟨rfl, fun h => by cases h⟩
  | [b], hs, eZ =>
    obtain ⟨e1, e2⟩ := ky_two hs
    refine ⟨e1.symm, fun h => ?_⟩
    have hb : nuB [cuA x, cuZ x] = true := by rw [eB]; exact e1.symm.trans h
    unfold nuV
    rw [if_pos hb, eA, eZ, e2]
    rfl
  | b :: b2 :: t, hs, eZ =>
    have h1 := ky_nottwo (x := x) (by rw [hs]; simp)
    have h2 : rdO (baL (joinC 58 (b :: b2 :: t))) = false := by
      unfold rdO
      rw [baL_list]
      cases hr : rdD (joinC 58 (b :: b2 :: t)) with
      | none => rfl
      | some n =>
        refine absurd rfl (rd_free hr (c := 58) (by decide) (by decide) 58 ?_)
        rw [joinC_two]
        simp
    rw [h1, h2, Bool.and_false]
    exact ⟨rfl, fun h => by cases h⟩
/-- s is the text of the valid track -/
def IsK (s nm : ByteArray) (l : List Ky) : Prop := vT nm l = true ∧ trX nm l l.length = s
theorem okK_bnd {l : List Ky} (h : okK l) : ∀ k ∈ l, (-1000000000000000000 < k.t ∧ k.t < 1000000000000000000) ∧ (-1000000000000000000 < k.v ∧ k.v < 1000000000000000000) := by
  intro k hk
  obtain ⟨i, hi, rfl⟩ := List.getElem_of_mem hk
  have := h.vk.kg i hi
  rw [kyG_at hi] at this
  omega
theorem isK_words {s nm : ByteArray} {l : List Ky} (h : IsK s nm l) : spS 32 s = nm :: l.map (fun k => baL (kyW k)) ∧ wdS s = spS 32 s := by
  obtain ⟨hv, rfl⟩ := h
  obtain ⟨hn, hk⟩ := vT_of hv
  rw [tk_wd hn, tk_sp hn]
  refine ⟨?_, rfl⟩
  unfold tkPcs
  rw [List.map_cons, List.map_map]
  congr 1
theorem isK_keys {s nm : ByteArray} {l : List Ky} (h : IsK s nm l) : (l.map fun k => baL (kyW k)).all kyB = true ∧ (l.map fun k => baL (kyW k)).map kyV = l := by
  obtain ⟨hn, hk⟩ := vT_of h.1
  have hb := okK_bnd hk
  refine ⟨?_, ?_⟩
  · rw [List.all_eq_true]
    intro x hx
    obtain ⟨k, hk, rfl⟩ := List.mem_map.1 hx
    exact (ky_of (hb k hk).1 (hb k hk).2).1
  · rw [List.map_map]
    conv => rhs; rw [← List.map_id l]
    exact List.map_congr_left fun k hk => (ky_of (hb k hk).1 (hb k hk).2).2
theorem isK_one {s nm nm' : ByteArray} {l l' : List Ky} (h : IsK s nm l) (h' : IsK s nm' l') : nm = nm' ∧ l = l' := by
  have h1 := (isK_words h).1
  rw [(isK_words h').1] at h1
  obtain ⟨e1, e2⟩ := List.cons.inj h1
  refine ⟨e1.symm, ?_⟩
  rw [← (isK_keys h).2, ← (isK_keys h').2, e2]
/-- the reference reads just the texts of valid tracks -/
theorem isK_sp {s nm : ByteArray} {r : List ByteArray} (h : spS 32 s = nm :: r) (hb : r.all kyB = true) (hv : vT nm (r.map kyV) = true) : IsK s nm (r.map kyV) := by
  refine ⟨hv, ba_ext ?_⟩
  rw [tk_join]
  have h1 := sp_data s
  rw [h] at h1
  have : tkPcs nm (r.map kyV) = (nm :: r).map (·.data.toList) := by
    unfold tkPcs
    rw [List.map_cons, List.map_map]
    congr 1
    exact List.map_congr_left fun x hx => (ky_back (List.all_eq_true.1 hb x hx)).symm
  rw [this, h1, joinC_spl]
/-- the words of a valid track's text -/
theorem isK_get {s nm : ByteArray} {r : List ByteArray} {n : ByteArray} {l : List Ky} (h : spS 32 s = nm :: r ∨ wdS s = nm :: r) (hk : IsK s n l) : nm = n ∧ r.all kyB = true ∧ r.map kyV = l ∧ vT nm (r.map kyV) = true := by
  obtain ⟨h1, h2⟩ := isK_words hk
  obtain ⟨h3, h4⟩ := isK_keys hk
  have h5 : spS 32 s = nm :: r := by
    rcases h with h | h
    · exact h
    · exact h2.symm.trans h
  rw [h5] at h1
  obtain ⟨rfl, rfl⟩ := List.cons.inj h1
  exact ⟨rfl, h3, h4, by rw [h4]; exact hk.1⟩
theorem isK_no {s nm : ByteArray} {r : List ByteArray} (h : spS 32 s = nm :: r ∨ wdS s = nm :: r) (hb : r.all kyB = false ∨ vT nm (r.map kyV) = false) : ∀ n l, ¬ IsK s n l := fun n l hk => by
  obtain ⟨-, h1, -, h2⟩ := isK_get h hk
  rcases hb with hb | hb
  · rw [h1] at hb; cases hb
  · rw [h2] at hb; cases hb
theorem all_not {r : List ByteArray} {q : Nat} (hq : q < r.length) (h : kyB r[q] = false) : r.all kyB = false := by
  cases hb : r.all kyB with
  | false => rfl
  | true => rw [List.all_eq_true.1 hb _ (List.getElem_mem hq)] at h; cases h
open Classical in
/-- what is read -/
noncomputable def rkP (s : ByteArray) : Option (ByteArray × List Ky) := if h : ∃ p : ByteArray × List Ky, IsK s p.1 p.2 then some h.choose else none
noncomputable def rkN (s : ByteArray) : ByteArray := match rkP s with | some p => p.1 | none => ⟨#[]⟩
noncomputable def rkL (s : ByteArray) : List Ky := match rkP s with | some p => p.2 | none => []
noncomputable def rkB (s : ByteArray) : Bool := (rkP s).isSome
theorem rk_yes {s nm : ByteArray} {l : List Ky} (h : IsK s nm l) : rkN s = nm ∧ rkL s = l ∧ rkB s = true := by
  have he : ∃ p : ByteArray × List Ky, IsK s p.1 p.2 := ⟨(nm, l), h⟩
  have hp : rkP s = some he.choose := by unfold rkP; rw [dif_pos he]
  obtain ⟨e1, e2⟩ := isK_one he.choose_spec h
  unfold rkN rkL rkB
  rw [hp]
  exact ⟨e1, e2, rfl⟩
theorem rk_no {s : ByteArray} (h : ∀ nm l, ¬ IsK s nm l) : rkN s = ⟨#[]⟩ ∧ rkL s = [] ∧ rkB s = false := by
  have hp : rkP s = none := by unfold rkP; rw [dif_neg (fun ⟨p, hp⟩ => h _ _ hp)]
  unfold rkN rkL rkB
  rw [hp]
  exact ⟨rfl, rfl, rfl⟩
theorem rk_len (s : ByteArray) : (rkL s).length ≤ 24 ∧ (rkN s).size ≤ 10 := by
  by_cases h : ∃ n l, IsK s n l
  · obtain ⟨n, l, hk⟩ := h
    obtain ⟨e1, e2, -⟩ := rk_yes hk
    obtain ⟨h1, h2⟩ := vT_of hk.1
    rw [e1, e2]
    exact ⟨h2.1.2, h1.1⟩
  · obtain ⟨e1, e2, -⟩ := rk_no (s := s) fun n l hk => h ⟨n, l, hk⟩
    rw [e1, e2]
    exact ⟨by simp, by decide⟩
/-- what a call that reads a track leaves -/
def RkPost (s : ByteArray) (w : World) (e : Ending) (w' : World) : Prop :=
  ∃ A' c', e = .returned (.tuple #[.agg #[.string (rkN s), .slice A' (rkL s).length c'], .bool (rkB s)]) ∧ ∃ k : Ex w, w' = k.v ∧ Ow 2 kC k.v A' (rkL s) ∧ Fr w A' ∧ Inw k.v A'
theorem rkPost_no {s : ByteArray} {w : World} {e : Ending} {w' : World} (h : rkN s = ⟨#[]⟩ ∧ rkL s = [] ∧ rkB s = false) (he : e = .returned (.tuple #[.agg #[.string ⟨#[]⟩, .slice none 0 0], .bool false])) (hw : ∃ k : Ex w, w' = k.v) : RkPost s w e w' := by
  obtain ⟨k, rfl⟩ := hw
  obtain ⟨h1, h2, h3⟩ := h
  unfold RkPost
  rw [h1, h2, h3]
  exact ⟨none, 0, he, k, rfl, Ow.nil, inferInstance, fun _ _ _ h => by cases h⟩
theorem rkPost_ok {s nm : ByteArray} {l : List Ky} {w : World} {e : Ending} {w' : World} {g c n : Nat} (h : rkN s = nm ∧ rkL s = l ∧ rkB s = true) (hn : l.length = n) (he : e = .returned (.tuple #[.agg #[.string nm, .slice (some ⟨g, 0, none⟩) n c], .bool true])) (hw : ∃ k : Ex w, w' = k.v) (ho : Wr 2 kC w' g l) (hg : LeB w.heap.size g) : RkPost s w e w' := by
  subst hn
  obtain ⟨k, rfl⟩ := hw
  obtain ⟨h1, h2, h3⟩ := h
  unfold RkPost
  rw [h1, h2, h3]
  exact ⟨_, c, he, k, rfl, inferInstance, inferInstance, fun b o m h => by cases h; exact ho.lt.h⟩
theorem sp_sizeC {c : UInt8} {s g : ByteArray} (h : g ∈ spS c s) : g.size ≤ s.size := by
  obtain ⟨l, hl, rfl⟩ := List.mem_map.1 h
  have := splC_size c _ l hl
  have e1 : (baL l).size = l.length := by show l.toArray.size = _; simp
  have e2 : s.data.toList.length = s.size := by simp
  omega
end Go.Proofs.YtdhflckombkimaaDoor
