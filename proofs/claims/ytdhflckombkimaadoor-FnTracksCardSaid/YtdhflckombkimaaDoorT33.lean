/-
  Tracks restored from their texts, in plain words. Conditions: those typed at each theorem.
  ReadTrack: the reference. Conditions: those typed at each theorem.
-/
import Derived.Test.YtdhflckombkimaaDoorT31
import Derived.Test.YtdhflckombkimaaDoorT32
import Derived.Test.YtdhflckombkimaaDoorT22
import Derived.Test.YtdhflckombkimaaDoorT30
import Derived.Deep.Cut
import Derived.BigQuiet
namespace Go.Proofs.YtdhflckombkimaaDoor
open Go.RowKit
/-- a key's text, without the blank ahead -/
def kyW (x : Ky) : List UInt8 := Lib.itoa x.t ++ 58 :: Lib.itoa x.v
/-- the pieces of a track's text -/
def tkPcs (nm : ByteArray) (l : List Ky) : List (List UInt8) := nm.data.toList :: l.map kyW
theorem tkX_join (nm : ByteArray) (l : List Ky) : ∀ q, q ≤ l.length → (trX nm l q).data.toList = joinC 32 (tkPcs nm (l.take q))
  | 0, _ => by simp [trX, tkPcs, joinC]
  | q + 1, h => by
    have ih := tkX_join nm l q (by omega)
    rw [trX, app_data, ih, List.take_succ_eq_append_getElem (by omega), kyG_at (by omega)]
    unfold tkPcs
    rw [List.map_append, ← List.cons_append, show ([l[q]].map kyW) = [kyW l[q]] from rfl, joinC_snoc _ _ (by simp)]
    congr 1
    unfold kyS kyW
    simp only [app_data, decS_data]
    simp
theorem tk_join (nm : ByteArray) (l : List Ky) : (trX nm l l.length).data.toList = joinC 32 (tkPcs nm l) := by
  have := tkX_join nm l l.length (Nat.le_refl _)
  rwa [List.take_length] at this
theorem kyW_free (k : Ky) : (∀ y ∈ kyW k, y ≠ 32) ∧ kyW k ≠ [] := by
  unfold kyW
  refine ⟨fun y hy => ?_, fun e => by simp at e⟩
  rcases List.mem_append.1 hy with h | h
  · exact itoa_freeC (by decide) (by decide) _ y h
  · rcases List.mem_cons.1 h with rfl | h
    · decide
    · exact itoa_freeC (by decide) (by decide) _ y h
theorem tkPcs_free {nm : ByteArray} (h : okN nm) (l : List Ky) : ∀ g ∈ tkPcs nm l, (∀ y ∈ g, y ≠ 32) ∧ g ≠ [] := by
  intro g hg
  rcases List.mem_cons.1 hg with rfl | hg
  · exact ⟨name_free h, name_ne h⟩
  · obtain ⟨k, -, rfl⟩ := List.mem_map.1 hg
    exact kyW_free k
theorem tk_sp {nm : ByteArray} (h : okN nm) (l : List Ky) : spS 32 (trX nm l l.length) = (tkPcs nm l).map baL := by
  unfold spS
  rw [tk_join, splC_join 32 _ (by simp [tkPcs]) fun g hg => (tkPcs_free h l g hg).1]
theorem tk_wd {nm : ByteArray} (h : okN nm) (l : List Ky) : wdS (trX nm l l.length) = (tkPcs nm l).map baL := by
  unfold wdS
  rw [tk_sp h, List.filter_eq_self]
  intro g hg
  obtain ⟨x, hx, rfl⟩ := List.mem_map.1 hg
  have := (tkPcs_free h l x hx).2
  rw [ByteArray.toList_eq]
  show (!(x.toArray.toList).isEmpty) = true
  cases x with
  | nil => exact absurd rfl this
  | cons a t => rfl
/-- is a word a key? -/
def kyB (x : ByteArray) : Bool := match splC 58 x.data.toList with
  | [a, b] => (rdD a).isSome && (rdD b).isSome
  | _ => false
/-- the key that a word is -/
def kyV (x : ByteArray) : Ky := match splC 58 x.data.toList with
  | [a, b] => ⟨(rdD a).getD 0, (rdD b).getD 0⟩
  | _ => ⟨0, 0⟩
theorem ky_two {x : ByteArray} {a b : List UInt8} (h : splC 58 x.data.toList = [a, b]) : kyB x = (rdO (baL a) && rdO (baL b)) ∧ kyV x = ⟨rdV (baL a), rdV (baL b)⟩ := by
  unfold kyB kyV rdO rdV
  rw [h, baL_list, baL_list]
  exact ⟨rfl, rfl⟩
theorem ky_nottwo {x : ByteArray} (h : (splC 58 x.data.toList).length ≠ 2) : kyB x = false := by
  unfold kyB
  split
  · rename_i a b e; rw [e] at h; exact absurd rfl h
  · rfl
theorem ky_back {x : ByteArray} (h : kyB x = true) : x.data.toList = kyW (kyV x) := by
  have hj := joinC_spl 58 x.data.toList
  unfold kyB at h
  split at h
  · rename_i a b e
    rw [Bool.and_eq_true] at h
    have e2 := (ky_two e).2
    have ha := rd_back (t := baL a) (by unfold rdO; rw [baL_list]; exact h.1)
    have hb := rd_back (t := baL b) (by unfold rdO; rw [baL_list]; exact h.2)
    rw [baL_list] at ha hb
    rw [e2]
    unfold kyW
    dsimp only
    rw [ha, hb, ← hj, e]
    rfl
  · cases h
theorem ky_of {k : Ky} (h1 : -1000000000000000000 < k.t ∧ k.t < 1000000000000000000) (h2 : -1000000000000000000 < k.v ∧ k.v < 1000000000000000000) : kyB (baL (kyW k)) = true ∧ kyV (baL (kyW k)) = k := by
  have hs : splC 58 (baL (kyW k)).data.toList = [Lib.itoa k.t, Lib.itoa k.v] := by
    rw [baL_list]
    unfold kyW
    rw [splC_app 58 _ _ (itoa_freeC (by decide) (by decide) _), splC_none 58 _ (itoa_freeC (by decide) (by decide) _)]
  obtain ⟨e1, e2⟩ := ky_two hs
  obtain ⟨a1, a2⟩ := rd_itoa h1.1 h1.2
  obtain ⟨b1, b2⟩ := rd_itoa h2.1 h2.2
  rw [e1, e2, a1, a2, b1, b2]
  exact ⟨rfl, rfl⟩
/-- what lies ahead of the colon, and behind it -/
def cuA (x : ByteArray) : ByteArray := ⟨(Lib.cut x.data.toList [58]).1.toArray⟩
def cuZ (x : ByteArray) : ByteArray := ⟨(Lib.cut x.data.toList [58]).2.1.toArray⟩
theorem rdO_nil : rdO (baL []) = false := by decide
theorem ky_cut (x : ByteArray) : nuB [cuA x, cuZ x] = kyB x ∧ (kyB x = true → nuV [cuA x, cuZ x] = [(kyV x).t, (kyV x).v]) := by
  have hsp : ∃ g t, splC 58 x.data.toList = g :: t := by
    cases h : splC 58 x.data.toList with
    | nil => exact absurd h (splC_ne _ _)
    | cons g t => exact ⟨g, t, rfl⟩
  obtain ⟨g, t, hs⟩ := hsp
  have hc := cut_spl 58 _ g t hs
  have eA : cuA x = baL g := by unfold cuA; rw [hc]; rfl
  have eZ : cuZ x = baL (joinC 58 t) := by unfold cuZ; rw [hc]; rfl
  have eB : nuB [cuA x, cuZ x] = (rdO (baL g) && rdO (baL (joinC 58 t))) := by rw [eA, eZ]; simp [nuB]
  rw [eB]
  match t, hs, eZ with
  | [], hs, eZ =>
    have h1 := ky_nottwo (x := x) (by rw [hs]; simp)
    rw [h1, show joinC 58 [] = [] from rfl, rdO_nil, Bool.and_false]
    exact ⟨rfl, fun h => by cases h⟩
  | [b], hs, eZ =>
    obtain ⟨e1, e2⟩ := ky_two hs
    refine ⟨e1.symm, fun h => ?_⟩
    have hb : nuB [cuA x, cuZ x] = true := by rw [eB]; exact e1.symm.trans h
    unfold nuV
    rw [if_pos hb, eA, eZ, e2]
    rfl
  | b :: b2 :: t, hs, eZ =>
    have h1 := ky_nottwo (x := x) (by rw [hs]; simp)
    have h2 : rdO (baL (joinC 58 (b :: b2 :: t))) = false := by
      unfold rdO
      rw [baL_list]
      cases hr : rdD (joinC 58 (b :: b2 :: t)) with
      | none => rfl
      | some n =>
        refine absurd rfl (rd_free hr (c := 58) (by decide) (by decide) 58 ?_)
        rw [joinC_two]
        simp
    rw [h1, h2, Bool.and_false]
    exact ⟨rfl, fun h => by cases h⟩
/-- s is the text of the valid track -/
def IsK (s nm : ByteArray) (l : List Ky) : Prop := vT nm l = true ∧ trX nm l l.length = s
theorem okK_bnd {l : List Ky} (h : okK l) : ∀ k ∈ l, (-1000000000000000000 < k.t ∧ k.t < 1000000000000000000) ∧ (-1000000000000000000 < k.v ∧ k.v < 1000000000000000000) := by
  intro k hk
  obtain ⟨i, hi, rfl⟩ := List.getElem_of_mem hk
  have := h.vk.kg i hi
  rw [kyG_at hi] at this
  omega
theorem isK_words {s nm : ByteArray} {l : List Ky} (h : IsK s nm l) : spS 32 s = nm :: l.map (fun k => baL (kyW k)) ∧ wdS s = spS 32 s := by
  obtain ⟨hv, rfl⟩ := h
  obtain ⟨hn, hk⟩ := vT_of hv
  rw [tk_wd hn, tk_sp hn]
  refine ⟨?_, rfl⟩
  unfold tkPcs
  rw [List.map_cons, List.map_map]
  congr 1
theorem isK_keys {s nm : ByteArray} {l : List Ky} (h : IsK s nm l) : (l.map fun k => baL (kyW k)).all kyB = true ∧ (l.map fun k => baL (kyW k)).map kyV = l := by
  obtain ⟨hn, hk⟩ := vT_of h.1
  have hb := okK_bnd hk
  refine ⟨?_, ?_⟩
  · rw [List.all_eq_true]
    intro x hx
    obtain ⟨k, hk, rfl⟩ := List.mem_map.1 hx
    exact (ky_of (hb k hk).1 (hb k hk).2).1
  · rw [List.map_map]
    conv => rhs; rw [← List.map_id l]
    exact List.map_congr_left fun k hk => (ky_of (hb k hk).1 (hb k hk).2).2
theorem isK_one {s nm nm' : ByteArray} {l l' : List Ky} (h : IsK s nm l) (h' : IsK s nm' l') : nm = nm' ∧ l = l' := by
  have h1 := (isK_words h).1
  rw [(isK_words h').1] at h1
  obtain ⟨e1, e2⟩ := List.cons.inj h1
  refine ⟨e1.symm, ?_⟩
  rw [← (isK_keys h).2, ← (isK_keys h').2, e2]
/-- the reference reads just the texts of valid tracks -/
theorem isK_sp {s nm : ByteArray} {r : List ByteArray} (h : spS 32 s = nm :: r) (hb : r.all kyB = true) (hv : vT nm (r.map kyV) = true) : IsK s nm (r.map kyV) := by
  refine ⟨hv, ba_ext ?_⟩
  rw [tk_join]
  have h1 := sp_data s
  rw [h] at h1
  have : tkPcs nm (r.map kyV) = (nm :: r).map (·.data.toList) := by
    unfold tkPcs
    rw [List.map_cons, List.map_map]
    congr 1
    exact List.map_congr_left fun x hx => (ky_back (List.all_eq_true.1 hb x hx)).symm
  rw [this, h1, joinC_spl]
/-- the words of a valid track's text -/
theorem isK_get {s nm : ByteArray} {r : List ByteArray} {n : ByteArray} {l : List Ky} (h : spS 32 s = nm :: r ∨ wdS s = nm :: r) (hk : IsK s n l) : nm = n ∧ r.all kyB = true ∧ r.map kyV = l ∧ vT nm (r.map kyV) = true := by
  obtain ⟨h1, h2⟩ := isK_words hk
  obtain ⟨h3, h4⟩ := isK_keys hk
  have h5 : spS 32 s = nm :: r := by
    rcases h with h | h
    · exact h
    · exact h2.symm.trans h
  rw [h5] at h1
  obtain ⟨rfl, rfl⟩ := List.cons.inj h1
  exact ⟨rfl, h3, h4, by rw [h4]; exact hk.1⟩
theorem isK_no {s nm : ByteArray} {r : List ByteArray} (h : spS 32 s = nm :: r ∨ wdS s = nm :: r) (hb : r.all kyB = false ∨ vT nm (r.map kyV) = false) : ∀ n l, ¬ IsK s n l := fun n l hk => by
  obtain ⟨-, h1, -, h2⟩ := isK_get h hk
  rcases hb with hb | hb
  · rw [h1] at hb; cases hb
  · rw [h2] at hb; cases hb
theorem all_not {r : List ByteArray} {q : Nat} (hq : q < r.length) (h : kyB r[q] = false) : r.all kyB = false := by
  cases hb : r.all kyB with
  | false => rfl
  | true => rw [List.all_eq_true.1 hb _ (List.getElem_mem hq)] at h; cases h
open Classical in
/-- what is read -/
noncomputable def rkP (s : ByteArray) : Option (ByteArray × List Ky) := if h : ∃ p : ByteArray × List Ky, IsK s p.1 p.2 then some h.choose else none
noncomputable def rkN (s : ByteArray) : ByteArray := match rkP s with | some p => p.1 | none => ⟨#[]⟩
noncomputable def rkL (s : ByteArray) : List Ky := match rkP s with | some p => p.2 | none => []
noncomputable def rkB (s : ByteArray) : Bool := (rkP s).isSome
theorem rk_yes {s nm : ByteArray} {l : List Ky} (h : IsK s nm l) : rkN s = nm ∧ rkL s = l ∧ rkB s = true := by
  have he : ∃ p : ByteArray × List Ky, IsK s p.1 p.2 := ⟨(nm, l), h⟩
  have hp : rkP s = some he.choose := by unfold rkP; rw [dif_pos he]
  obtain ⟨e1, e2⟩ := isK_one he.choose_spec h
  unfold rkN rkL rkB
  rw [hp]
  exact ⟨e1, e2, rfl⟩
theorem rk_no {s : ByteArray} (h : ∀ nm l, ¬ IsK s nm l) : rkN s = ⟨#[]⟩ ∧ rkL s = [] ∧ rkB s = false := by
  have hp : rkP s = none := by unfold rkP; rw [dif_neg (fun ⟨p, hp⟩ => h _ _ hp)]
  unfold rkN rkL rkB
  rw [hp]
  exact ⟨rfl, rfl, rfl⟩
theorem rk_len (s : ByteArray) : (rkL s).length ≤ 24 ∧ (rkN s).size ≤ 10 := by
  by_cases h : ∃ n l, IsK s n l
  · obtain ⟨n, l, hk⟩ := h
    obtain ⟨e1, e2, -⟩ := rk_yes hk
    obtain ⟨h1, h2⟩ := vT_of hk.1
    rw [e1, e2]
    exact ⟨h2.1.2, h1.1⟩
  · obtain ⟨e1, e2, -⟩ := rk_no (s := s) fun n l hk => h ⟨n, l, hk⟩
    rw [e1, e2]
    exact ⟨by simp, by decide⟩
/-- what a call that reads a track leaves -/
def RkPost (s : ByteArray) (w : World) (e : Ending) (w' : World) : Prop :=
  ∃ A' c', e = .returned (.tuple #[.agg #[.string (rkN s), .slice A' (rkL s).length c'], .bool (rkB s)]) ∧ ∃ k : Ex w, w' = k.v ∧ Ow 2 kC k.v A' (rkL s) ∧ Fr w A' ∧ Inw k.v A'
theorem rkPost_no {s : ByteArray} {w : World} {e : Ending} {w' : World} (h : rkN s = ⟨#[]⟩ ∧ rkL s = [] ∧ rkB s = false) (he : e = .returned (.tuple #[.agg #[.string ⟨#[]⟩, .slice none 0 0], .bool false])) (hw : ∃ k : Ex w, w' = k.v) : RkPost s w e w' := by
  obtain ⟨k, rfl⟩ := hw
  obtain ⟨h1, h2, h3⟩ := h
  unfold RkPost
  rw [h1, h2, h3]
  exact ⟨none, 0, he, k, rfl, Ow.nil, inferInstance, fun _ _ _ h => by cases h⟩
theorem rkPost_ok {s nm : ByteArray} {l : List Ky} {w : World} {e : Ending} {w' : World} {g c n : Nat} (h : rkN s = nm ∧ rkL s = l ∧ rkB s = true) (hn : l.length = n) (he : e = .returned (.tuple #[.agg #[.string nm, .slice (some ⟨g, 0, none⟩) n c], .bool true])) (hw : ∃ k : Ex w, w' = k.v) (ho : Wr 2 kC w' g l) (hg : LeB w.heap.size g) : RkPost s w e w' := by
  subst hn
  obtain ⟨k, rfl⟩ := hw
  obtain ⟨h1, h2, h3⟩ := h
  unfold RkPost
  rw [h1, h2, h3]
  exact ⟨_, c, he, k, rfl, inferInstance, inferInstance, fun b o m h => by cases h; exact ho.lt.h⟩
theorem sp_sizeC {c : UInt8} {s g : ByteArray} (h : g ∈ spS c s) : g.size ≤ s.size := by
  obtain ⟨l, hl, rfl⟩ := List.mem_map.1 h
  have := splC_size c _ l hl
  have e1 : (baL l).size = l.length := by show l.toArray.size = _; simp
  have e2 : s.data.toList.length = s.size := by simp
  omega
end Go.Proofs.YtdhflckombkimaaDoor
namespace Go.Proofs.YtdhflckombkimaaDoor
open Go.RowKit
theorem ky_spS {y : ByteArray} {a c : ByteArray} (h : spS 58 y = [a, c]) : kyB y = (rdO a && rdO c) ∧ kyV y = ⟨rdV a, rdV c⟩ := by
  unfold spS at h
  obtain ⟨a', c', h1⟩ := len_two (r := splC 58 y.data.toList) (by have := congrArg List.length h; simpa using this)
  rw [h1] at h
  simp only [List.map_cons, List.map_nil, List.cons.injEq, and_true] at h
  obtain ⟨rfl, rfl⟩ := h
  exact ky_two h1
theorem ky_spN {y : ByteArray} (h : (spS 58 y).length ≠ 2) : kyB y = false := ky_nottwo (by unfold spS at h; simpa using h)
section
set_option maxHeartbeats 3200000
set_option maxRecDepth 20000
theorem sReadT_any (s : ByteArray) (w : World) (hs : s.size ≤ 1048576) :
    Calls Tryd.prog 41 #[.string s] w (RkPost s w) := by
  have HZ : Hid (∀ g ∈ spS 32 s, g.size ≤ 1048576) := hid fun g hg => Nat.le_trans (sp_size hg) hs
  have hle := sp_le s
  have hne : 0 < (spS 32 s).length := by unfold spS; rw [List.length_map]; exact List.length_pos_iff.2 (splC_ne 32 _)
  obtain ⟨nm, r, hLr⟩ : ∃ nm r, spS 32 s = nm :: r := by
    cases hx : spS 32 s with
    | nil => rw [hx] at hne; simp at hne
    | cons x r => exact ⟨x, r, rfl⟩
  have HNO : Hid ((r.all kyB = false ∨ vT nm (r.map kyV) = false) → rkN s = ⟨#[]⟩ ∧ rkL s = [] ∧ rkB s = false) := hid fun h => rk_no (isK_no (.inl hLr) h)
  have HYES : Hid (r.all kyB = true → vT nm (r.map kyV) = true → rkN s = nm ∧ rkL s = r.map kyV ∧ rkB s = true) := hid fun h1 h2 => rk_yes (isK_sp hLr h1 h2)
  have HLR := hid hLr
  have hnz : nm.size ≤ 1048576 := HZ.out nm (by rw [hLr]; simp)
  have ZR : Hid (∀ y ∈ r, y.size ≤ 1048576) := hid fun y hy => HZ.out y (by rw [hLr]; simp [hy])
  have HLN : Hid ((spS 32 s).length = r.length + 1) := hid (by rw [hLr]; simp)
  clear HZ hne hLr
  go_enter Tryd.func41, Tryd.ntmps41
  go_upto_region 2 with ((go_at_call 71; go_loud ((refine (sSplit_any s 32 _ hs).mono ?_); rintro e w' ⟨A, c, rfl, k, rfl, ho⟩; haveI ho := ho)))
  have HA := hid ((inferInstance : Rd 1 sC k.v A (spS 32 s)).at_)
  obtain ⟨L, hL⟩ : ∃ L, spS 32 s = L := ⟨_, rfl⟩
  rw [hL] at HLR hle HA ho HLN ⊢
  clear hL
  obtain ⟨b, o, rfl, hbw, hc⟩ := HA.out (by have := HLN.out; omega)
  have hat : ∀ (j : Nat) (y : ByteArray), L[j]? = some y → k.v.cell? ⟨b, o + j, none⟩ = some (.string y) := fun j y hj => by
    obtain ⟨hjl, rfl⟩ := List.getElem?_eq_some_iff.1 hj
    have := hc j hjl 0 _ rfl
    simpa using this
  have c0 := hat 0 nm (by rw [HLR.out]; rfl)
  rw [Nat.add_zero] at c0
  have HR : Hid (∀ (j : Nat) (y : ByteArray), r[j]? = some y → k.v.cell? ⟨b, o + (1 + j), none⟩ = some (.string y)) := hid fun j y hj => hat (1 + j) y (by rw [HLR.out, Nat.add_comm 1]; exact hj)
  have l0 : (0 : Int) < (L.length : Int) := by have := HLN.out; omega
  have lN : 0 < L.length := by have := HLN.out; omega
  have lE : L ≠ [] := List.length_pos_iff.1 lN
  have hrl : r.length ≤ 1048576 := by have := HLN.out; omega
  clear hat hc HA
  go_wp2_with (fail)
  clear l0 lN lE c0
  have hB0 : Hid (Bld k.v.heap.size k.v.heap.size nm (.slice none 0 0) (([] : List ByteArray).map kyV) (k.v.alloc (.cells #[.string nm, .slice none 0 0] 30))) := hid ⟨inferInstance, Nat.le_refl _, by simp [go_sem], by simp [go_sem], by simp [go_sem], by simp [go_sem], ⟨World.ownsRow_nil _ _ _ _, fun h => by cases h⟩⟩
  go_loopw [6, 7, 8, 9, 10, 11] (fun i _ _ _ _ _ wr => ∃ q : Nat, q ≤ r.length ∧ i = .int .i64 (1 + (q : Int)) ∧ (r.take q).all kyB = true ∧ ∃ v, ∃ j : Ex k.v, wr = j.v ∧ Bld k.v.heap.size k.v.heap.size nm v ((r.take q).map kyV) j.v) (fun i _ _ _ _ _ _ => r.length + 1 - (intOf i).toNat)
  case atStart => exact ⟨0, Nat.zero_le _, rfl, rfl, _, ex_and (fun W => Bld k.v.heap.size k.v.heap.size nm (.slice none 0 0) (([] : List ByteArray).map kyV) W) (by (refine Ok.toEx ?_; (repeat (first | (with_reducible exact Ok.rf _) | (with_reducible refine Ok.alloc ?_ _) | (with_reducible refine Ok.ex ?_ _) | (with_reducible refine Ok.drew ?_) | (with_reducible refine Ok.setCellI ?_ _ _ _) | (with_reducible refine Ok.exb ?_ _))))) hB0.out⟩
  case round =>
    obtain ⟨q, hq, rfl, hall, v, j0, rfl, hBd⟩ := hrel
    obtain ⟨ks, hks⟩ : ∃ ks, (r.take q).map kyV = ks := ⟨_, rfl⟩
    rw [hks] at hBd
    have HKS := hid hks
    have HALL := hid hall
    have hkl : ks.length ≤ 1048576 := by rw [← hks, List.length_map, List.length_take]; omega
    clear hks hall
    haveI hBi := hBd
    have x0 := hBd.c0
    have x1 := hBd.c1
    have x2 := hBd.f0
    have x3 := hBd.f1
    haveI hot := hBd.own
    haveI hlt1 := hBd.lt
    clear hBd
    obtain ⟨A1, d1, rfl, hO1, hF1⟩ := Ow.of_row (f := kC) (fun _ => rfl) hot.own
    by_cases hlt : q < r.length
    · clear hO1 hF1
      have cy := HR.out q r[q] (List.getElem?_eq_getElem hlt)
      have hys := ZR.out _ (List.getElem_mem hlt)
      have HQ : Hid (kyB r[q] = false → r.all kyB = false) := hid (all_not hlt)
      have HT1 : Hid (r.take (q + 1) = r.take q ++ [r[q]]) := hid (List.take_append_getElem hlt).symm
      have HM2 : Hid ((r.take (q + 1)).map kyV = ks ++ [kyV r[q]]) := hid (by rw [HT1.out, List.map_append, HKS.out]; rfl)
      have HA2 : Hid (kyB r[q] = true → (r.take (q + 1)).all kyB = true) := hid fun h => by rw [HT1.out, List.all_append, HALL.out]; simpa using h
      have q1 : (1 : Int) + (q : Int) < (L.length : Int) := by have := HLN.out; omega
      have q2 : (0 : Int) ≤ 1 + (q : Int) := by omega
      have q3 : (1 + (q : Int)).toNat = 1 + q := by omega
      generalize r[q] = y at *
      by_cases h2 : (spS 58 y).length = 2
      · obtain ⟨a, z, haz⟩ := len_two h2
        obtain ⟨hkb, hkv⟩ := ky_spS haz
        have has : a.size ≤ 1048576 := Nat.le_trans (sp_sizeC (c := 58) (s := y) (by rw [haz]; simp)) hys
        have hzs : z.size ≤ 1048576 := Nat.le_trans (sp_sizeC (c := 58) (s := y) (by rw [haz]; simp)) hys
        have HAZ := hid haz
        obtain ⟨ba, hba⟩ : ∃ b, rdO a = b := ⟨_, rfl⟩
        obtain ⟨bz, hbz⟩ : ∃ b, rdO z = b := ⟨_, rfl⟩
        rw [hba, hbz] at hkb
        have HBA := hid hba
        have HBZ := hid hbz
        have HKB := hid hkb
        have HKV := hid hkv
        clear h2 haz hkb hkv hba hbz
        cases ba
        · have HN := hid (HNO.out (.inl (HQ.out (by rw [HKB.out]; rfl))))
          go_wp2_with (first | (go_at_call 71; go_loud ((refine (sSplit_any y 58 _ hys).mono ?_); rw [HAZ.out]; rintro e w' ⟨A3, c3, rfl, k3, rfl, ho3⟩; obtain ⟨g3, rfl, hw3⟩ := ho3.own (Nat.succ_pos _); obtain ⟨b8, o8, e8, hb8, hc8⟩ := (inferInstance : Rd 1 sC k3.v (some ⟨g3, 0, none⟩) [a, z]).at_ (Nat.succ_pos _); cases e8; have y0 : k3.v.cell? ⟨g3, 0, none⟩ = some (.string a) := hc8 0 (by simp) 0 _ rfl; have y1 : k3.v.cell? ⟨g3, 1, none⟩ = some (.string z) := hc8 1 (by simp) 0 _ rfl; clear hc8)) | (go_at_call 72; go_loud ((with_reducible refine (sNum_any a _ has).mono ?_); rw [HBA.out]; rintro e w' ⟨rfl, rfl⟩)) | (go_at_call 72; go_loud ((with_reducible refine (sNum_any z _ hzs).mono ?_); rw [HBZ.out]; rintro e w' ⟨rfl, rfl⟩)))
          (refine bodyPost_ret (v := _) (by simp [results, Tryd.results41, go_sem]; rfl) rfl ?_; refine rkPost_no HN.out rfl ?_; (refine Ok.toEx ?_; (repeat (first | (with_reducible exact Ok.rf _) | (with_reducible refine Ok.alloc ?_ _) | (with_reducible refine Ok.ex ?_ _) | (with_reducible refine Ok.drew ?_) | (with_reducible refine Ok.setCellI ?_ _ _ _) | (with_reducible refine Ok.exb ?_ _)))))
        · cases bz
          · have HN := hid (HNO.out (.inl (HQ.out (by rw [HKB.out]; rfl))))
            go_wp2_with (first | (go_at_call 71; go_loud ((refine (sSplit_any y 58 _ hys).mono ?_); rw [HAZ.out]; rintro e w' ⟨A3, c3, rfl, k3, rfl, ho3⟩; obtain ⟨g3, rfl, hw3⟩ := ho3.own (Nat.succ_pos _); obtain ⟨b8, o8, e8, hb8, hc8⟩ := (inferInstance : Rd 1 sC k3.v (some ⟨g3, 0, none⟩) [a, z]).at_ (Nat.succ_pos _); cases e8; have y0 : k3.v.cell? ⟨g3, 0, none⟩ = some (.string a) := hc8 0 (by simp) 0 _ rfl; have y1 : k3.v.cell? ⟨g3, 1, none⟩ = some (.string z) := hc8 1 (by simp) 0 _ rfl; clear hc8)) | (go_at_call 72; go_loud ((with_reducible refine (sNum_any a _ has).mono ?_); rw [HBA.out]; rintro e w' ⟨rfl, rfl⟩)) | (go_at_call 72; go_loud ((with_reducible refine (sNum_any z _ hzs).mono ?_); rw [HBZ.out]; rintro e w' ⟨rfl, rfl⟩)))
            (refine bodyPost_ret (v := _) (by simp [results, Tryd.results41, go_sem]; rfl) rfl ?_; refine rkPost_no HN.out rfl ?_; (refine Ok.toEx ?_; (repeat (first | (with_reducible exact Ok.rf _) | (with_reducible refine Ok.alloc ?_ _) | (with_reducible refine Ok.ex ?_ _) | (with_reducible refine Ok.drew ?_) | (with_reducible refine Ok.setCellI ?_ _ _ _) | (with_reducible refine Ok.exb ?_ _)))))
          · go_wp2_with (first | (go_at_call 71; go_loud ((refine (sSplit_any y 58 _ hys).mono ?_); rw [HAZ.out]; rintro e w' ⟨A3, c3, rfl, k3, rfl, ho3⟩; obtain ⟨g3, rfl, hw3⟩ := ho3.own (Nat.succ_pos _); obtain ⟨b8, o8, e8, hb8, hc8⟩ := (inferInstance : Rd 1 sC k3.v (some ⟨g3, 0, none⟩) [a, z]).at_ (Nat.succ_pos _); cases e8; have y0 : k3.v.cell? ⟨g3, 0, none⟩ = some (.string a) := hc8 0 (by simp) 0 _ rfl; have y1 : k3.v.cell? ⟨g3, 1, none⟩ = some (.string z) := hc8 1 (by simp) 0 _ rfl; clear hc8)) | (go_at_call 72; go_loud ((with_reducible refine (sNum_any a _ has).mono ?_); rw [HBA.out]; rintro e w' ⟨rfl, rfl⟩)) | (go_at_call 72; go_loud ((with_reducible refine (sNum_any z _ hzs).mono ?_); rw [HBZ.out]; rintro e w' ⟨rfl, rfl⟩)) | (at_builtin; go_loud (refine wpList_appZ kC _ rfl _ _ _ rfl k.v.heap.size ?_ _ _ _ _ Tryd.underlying28 infoKey rfl (by omega) (fun _ => ⟨rfl, by simp [kC, Value.oneCell']⟩) (.slice A1 ks.length d1) ks rfl ?_ (⟨rdV a, rdV z⟩ : Ky) _ _ rfl (cellsB ?_) ?_ ?_ ?_; (· exact LeB.h); (· exact owT_h (T := k.v.heap.size)); (· simp); (· omega); (· omega); intro v' k' hA; obtain ⟨A2, d2, rfl, hO2, hF2⟩ := Ow.of_row (f := kC) (fun _ => rfl) hA.own; have hB2 := (fun h => Bld.app (T := k.v.heap.size) (nm := nm) (l := ks) h hA) inferInstance; have z1 : k'.v.cell? ⟨k.v.heap.size, 1, none⟩ = some (.slice A1 ks.length d1) := (World.cell?_of_block (a := ⟨k.v.heap.size, 1, none⟩) (hA.keep k.v.heap.size LtW.h hot.ne)).trans (by simp [go_sem, x1]); have z2 : k'.v.frozen? ⟨k.v.heap.size, 1, none⟩ = false := (fz_block (hA.keep k.v.heap.size LtW.h hot.ne)).trans (by simp [go_sem, x3]); have z0 : k'.v.cell? ⟨k.v.heap.size, 0, none⟩ = some (.string nm) := (World.cell?_of_block (a := ⟨k.v.heap.size, 0, none⟩) (hA.keep k.v.heap.size LtW.h hot.ne)).trans (by simp [go_sem, x0]); haveI zl : LtW k.v.heap.size k'.v := ⟨Nat.lt_of_lt_of_le (LtW.h (w := _)) k'.h.size⟩; clear hA hO2 hF2)))
            go_roundw
            case rel => exact ⟨q + 1, by omega, by go_num, HA2.out (by rw [HKB.out]; rfl), _, ex_and (fun W => Bld k.v.heap.size k.v.heap.size nm _ ((r.take (q + 1)).map kyV) W) (by (refine Ok.toEx ?_; (repeat (first | (with_reducible exact Ok.rf _) | (with_reducible refine Ok.alloc ?_ _) | (with_reducible refine Ok.ex ?_ _) | (with_reducible refine Ok.drew ?_) | (with_reducible refine Ok.setCellI ?_ _ _ _) | (with_reducible refine Ok.exb ?_ _))))) (by rw [HM2.out, HKV.out]; simp only [List.length_append, List.length_singleton] at hB2 ⊢; exact hB2)⟩
            case measure => simp [intOf]; omega
      · have HN := hid (HNO.out (.inl (HQ.out (ky_spN h2))))
        have h2i : ¬ ((spS 58 y).length : Int) = 2 := by omega
        clear h2
        go_wp2_with ((go_at_call 71; go_loud ((refine (sSplit_any y 58 _ hys).mono ?_); rintro e w' ⟨A3, c3, rfl, k3, rfl, ho3⟩; haveI ho3 := ho3)))
        (refine bodyPost_ret (v := _) (by simp [results, Tryd.results41, go_sem]; rfl) rfl ?_; refine rkPost_no HN.out rfl ?_; (refine Ok.toEx ?_; (repeat (first | (with_reducible exact Ok.rf _) | (with_reducible refine Ok.alloc ?_ _) | (with_reducible refine Ok.ex ?_ _) | (with_reducible refine Ok.drew ?_) | (with_reducible refine Ok.setCellI ?_ _ _ _) | (with_reducible refine Ok.exb ?_ _)))))
    · obtain rfl : q = r.length := by omega
      rw [List.take_length] at HKS HALL
      have q1 : ¬ (1 : Int) + (r.length : Int) < (L.length : Int) := by have := HLN.out; omega
      have hs1 : nm.size ≤ maxLen := by simp only [maxLen]; omega
      cases hv : vT nm ks
      · have HV := hid hv
        have HN := hid (HNO.out (.inr (by rw [HKS.out]; exact hv)))
        clear hv
        go_wp2_with ((go_at_call 70; go_loud ((refine (one_any nm A1 d1 ks _ _ hs1 hkl ?_ ?_).mono ?_); (· simp [go_sem, x0]); (· simp [go_sem, x1]); rw [HV.out]; rintro e w' ⟨rfl, k8, rfl⟩)))
        (refine bodyPost_ret (v := _) (by simp [results, Tryd.results41, go_sem]; rfl) rfl ?_; refine rkPost_no HN.out rfl ?_; (refine Ok.toEx ?_; (repeat (first | (with_reducible exact Ok.rf _) | (with_reducible refine Ok.alloc ?_ _) | (with_reducible refine Ok.ex ?_ _) | (with_reducible refine Ok.drew ?_) | (with_reducible refine Ok.setCellI ?_ _ _ _) | (with_reducible refine Ok.exb ?_ _)))))
      · have HV := hid hv
        have HN := hid (HYES.out HALL.out (by rw [HKS.out]; exact hv))
        rw [HKS.out] at HN
        have hk1 : 0 < ks.length := (vT_of hv).2.1.1
        clear hv
        obtain ⟨g, rfl, hw9⟩ := hO1.own hk1
        have hg := hF1 _ _ _ rfl
        have hkw := (inferInstance : LtW w.heap.size k.v).h
        haveI : NeB w.heap.size g := ⟨by omega⟩
        clear hk1
        go_wp2_with ((go_at_call 70; go_loud ((refine (one_any nm (some ⟨g, 0, none⟩) d1 ks _ _ hs1 hkl ?_ ?_).mono ?_); (· simp [go_sem, x0]); (· simp [go_sem, x1]); rw [HV.out]; rintro e w' ⟨rfl, k8, rfl⟩)))
        refine bodyPost_ret (v := _) (by first | (simp [results, Tryd.results41, go_sem]; done) | (simp [results, Tryd.results41, go_sem]; rfl)) rfl ?_
        refine rkPost_ok HN.out rfl (by rfl) ?_ (by infer_instance) ⟨by omega⟩
        (refine Ok.toEx ?_; (repeat (first | (with_reducible exact Ok.rf _) | (with_reducible refine Ok.alloc ?_ _) | (with_reducible refine Ok.ex ?_ _) | (with_reducible refine Ok.drew ?_) | (with_reducible refine Ok.setCellI ?_ _ _ _) | (with_reducible refine Ok.exb ?_ _))))
end
end Go.Proofs.YtdhflckombkimaaDoor
