/-
  Scripts restored from their texts, in plain words. Conditions: those typed at each theorem.
  A line read from its text: both. Conditions: those typed at each theorem.
-/
import Derived.Test.YtonmeffhelaohaaDoorV32
import Derived.Test.YtonmeffhelaohaaDoorV34
import Derived.Test.YtonmeffhelaohaaDoorV33
import Derived.BigQuiet
namespace Go.Proofs.YtonmeffhelaohaaDoor
open Go.RowKit
def wLabel : List UInt8 := [108, 97, 98, 101, 108]
def wWait : List UInt8 := [119, 97, 105, 116]
def wFire : List UInt8 := [102, 105, 114, 101]
def wJump : List UInt8 := [106, 117, 109, 112]
def wEnd : List UInt8 := [101, 110, 100]
/-- the pieces of a line's text -/
def lnPcs (x : Ln) : List (List UInt8) := if x.kind = 1 then [wLabel, x.name.data.toList] else if x.kind = 2 then [wWait, Lib.itoa x.value] else if x.kind = 3 then [wFire, x.name.data.toList] else if x.kind = 4 then [wJump, x.name.data.toList, Lib.itoa x.value] else [wEnd]
theorem ln_join (x : Ln) : (lnB x).data.toList = joinC 32 (lnPcs x) := by
  unfold lnB lnPcs
  split
  · simp only [app_data, joinC, wLabel]; simp
  · split
    · simp only [app_data, decS_data, joinC, wWait]; simp
    · split
      · simp only [app_data, joinC, wFire]; simp
      · split
        · simp only [app_data, decS_data, joinC, wJump]; simp
        · simp only [joinC, wEnd]
theorem name_freeC {s : ByteArray} (h : okN s) {c : UInt8} (hc : c.toNat < 48) : ∀ x ∈ s.data.toList, x ≠ c := by
  intro x hx e
  subst e
  obtain ⟨-, -, -, h4⟩ := h
  obtain ⟨i, hi, he⟩ := List.getElem_of_mem hx
  have hl : s.data.toList.length = s.size := by simp
  have h5 := h4 i (by omega)
  have e2 : s[i]'(by omega) = x := by rw [← he]; rfl
  rw [e2] at h5
  rcases h5 with ⟨a, b⟩ | ⟨a, b⟩ <;> omega
theorem vOne_name {x : Ln} (h : vOne x = true) : (x.kind = 1 ∧ okN x.name ∧ x.value = 0) ∨ (x.kind = 2 ∧ x.name = ⟨#[]⟩ ∧ 1 ≤ x.value ∧ x.value ≤ 7200000) ∨ (x.kind = 3 ∧ okN x.name ∧ x.value = 0) ∨ (x.kind = 4 ∧ okN x.name ∧ 1 ≤ x.value ∧ x.value ≤ 100) ∨ (x.kind = 5 ∧ x.name = ⟨#[]⟩ ∧ x.value = 0) := by
  have he : ∀ {s : ByteArray}, s.toList = [] → s = ⟨#[]⟩ := fun {s} e => ba_ext (by rw [ByteArray.toList_eq] at e; rw [e])
  rcases vOne_cases x with ⟨a, b⟩ | ⟨a, b⟩ | ⟨a, b⟩ | ⟨a, b⟩ | ⟨a, b⟩ | b
  · rcases b with b | b | b
    · exact .inl ⟨a, b.2.1, b.2.2⟩
    · rw [h] at b; cases b.1
    · rw [h] at b; cases b.1
  · rcases b with b | b | b
    · exact .inr (.inr (.inl ⟨a, b.2.1, b.2.2⟩))
    · rw [h] at b; cases b.1
    · rw [h] at b; cases b.1
  · rcases b with b | b | b
    · exact .inr (.inl ⟨a, he b.2.2.1, b.2.2.2.1, b.2.2.2.2⟩)
    · rw [h] at b; cases b.1
    · rw [h] at b; cases b.1
  · rcases b with b | b | b
    · exact .inr (.inr (.inr (.inl ⟨a, b.2.1, b.2.2.1, b.2.2.2⟩)))
    · rw [h] at b; cases b.1
    · rw [h] at b; cases b.1
  · rcases b with b | b | b
    · exact .inr (.inr (.inr (.inr ⟨a, he b.2.2.1, b.2.2.2⟩)))
    · rw [h] at b; cases b.1
    · rw [h] at b; cases b.1
  · rw [h] at b; cases b.1
theorem lnPcs_free {x : Ln} (h : vOne x = true) : ∀ g ∈ lnPcs x, (∀ y ∈ g, y ≠ 32 ∧ y ≠ 10) ∧ g ≠ [] := by
  have hi : ∀ n : Int, (∀ y ∈ Lib.itoa n, y ≠ 32 ∧ y ≠ 10) ∧ Lib.itoa n ≠ [] := fun n => ⟨fun y hy => ⟨itoa_freeC (by decide) (by decide) n y hy, itoa_freeC (by decide) (by decide) n y hy⟩, itoa_ne n⟩
  have hn : ∀ {s : ByteArray}, okN s → (∀ y ∈ s.data.toList, y ≠ 32 ∧ y ≠ 10) ∧ s.data.toList ≠ [] := fun {s} k => ⟨fun y hy => ⟨name_freeC k (by decide) y hy, name_freeC k (by decide) y hy⟩, name_ne k⟩
  intro g hg
  unfold lnPcs at hg
  rcases vOne_name h with ⟨a, b, -⟩ | ⟨a, -⟩ | ⟨a, b, -⟩ | ⟨a, b, -⟩ | ⟨a, -⟩
  · rw [if_pos a] at hg
    rcases List.mem_cons.1 hg with rfl | hg
    · exact ⟨by decide, by decide⟩
    · obtain rfl := List.mem_singleton.1 hg; exact hn b
  · rw [if_neg (by omega), if_pos a] at hg
    rcases List.mem_cons.1 hg with rfl | hg
    · exact ⟨by decide, by decide⟩
    · obtain rfl := List.mem_singleton.1 hg; exact hi _
  · rw [if_neg (by omega), if_neg (by omega), if_pos a] at hg
    rcases List.mem_cons.1 hg with rfl | hg
    · exact ⟨by decide, by decide⟩
    · obtain rfl := List.mem_singleton.1 hg; exact hn b
  · rw [if_neg (by omega), if_neg (by omega), if_neg (by omega), if_pos a] at hg
    rcases List.mem_cons.1 hg with rfl | hg
    · exact ⟨by decide, by decide⟩
    rcases List.mem_cons.1 hg with rfl | hg
    · exact hn b
    · obtain rfl := List.mem_singleton.1 hg; exact hi _
  · rw [if_neg (by omega), if_neg (by omega), if_neg (by omega), if_neg (by omega)] at hg
    obtain rfl := List.mem_singleton.1 hg; exact ⟨by decide, by decide⟩
theorem lnPcs_ne (x : Ln) : lnPcs x ≠ [] := by unfold lnPcs; split <;> (try split) <;> (try split) <;> (try split) <;> simp
theorem ln_sp {x : Ln} (h : vOne x = true) : spS 32 (lnB x) = (lnPcs x).map baL := by
  unfold spS
  rw [ln_join, splC_join 32 _ (lnPcs_ne x) fun g hg y hy => ((lnPcs_free h g hg).1 y hy).1]
theorem ln_wd {x : Ln} (h : vOne x = true) : wdS (lnB x) = spS 32 (lnB x) := by
  unfold wdS
  rw [ln_sp h, List.filter_eq_self]
  intro g hg
  obtain ⟨y, hy, rfl⟩ := List.mem_map.1 hg
  have := (lnPcs_free h y hy).2
  rw [ByteArray.toList_eq]
  show (!(y.toArray.toList).isEmpty) = true
  cases y with
  | nil => exact absurd rfl this
  | cons a t => rfl
theorem join_free {c : UInt8} {p : List (List UInt8)} (hc : c ≠ 32) : (∀ g ∈ p, ∀ y ∈ g, y ≠ c) → ∀ y ∈ joinC 32 p, y ≠ c := by
  induction p with
  | nil => intro _ y hy; simp [joinC] at hy
  | cons g t ih =>
    intro h y hy
    cases t with
    | nil => exact h g (by simp) y hy
    | cons b t =>
      rw [joinC_two] at hy
      rcases List.mem_append.1 hy with hy | hy
      · exact h g (by simp) y hy
      · rcases List.mem_cons.1 hy with rfl | hy
        · exact Ne.symm hc
        · exact ih (fun g hg => h g (by simp at hg ⊢; rcases hg with e | e; exact .inr (.inl e); exact .inr (.inr e))) y hy
/-- a valid line's text holds no line end -/
theorem ln_free {x : Ln} (h : vOne x = true) : ∀ y ∈ (lnB x).data.toList, y ≠ 10 := by
  rw [ln_join]
  exact join_free (by decide) fun g hg y hy => ((lnPcs_free h g hg).1 y hy).2
/-- the line that words say, if they say one -/
def lnR : List ByteArray → Option Ln
  | [a] => if a.data.toList = wEnd then some ⟨5, ⟨#[]⟩, 0⟩ else none
  | [a, b] => if a.data.toList = wLabel then some ⟨1, b, 0⟩ else if a.data.toList = wFire then some ⟨3, b, 0⟩ else if a.data.toList = wWait then (if rdO b then some ⟨2, ⟨#[]⟩, rdV b⟩ else none) else none
  | [a, b, c] => if a.data.toList = wJump then (if rdO c then some ⟨4, b, rdV c⟩ else none) else none
  | _ => none
theorem ln_read {x : Ln} (h : vOne x = true) : lnR (spS 32 (lnB x)) = some x := by
  rw [ln_sp h]
  obtain ⟨k, nm, v⟩ := x
  rcases vOne_name h with ⟨a, b, c⟩ | ⟨a, b, c, d⟩ | ⟨a, b, c⟩ | ⟨a, b, c, d⟩ | ⟨a, b, c⟩ <;> dsimp only at *
  · subst a; subst c
    simp [lnPcs, lnR, baL, wLabel]
  · subst a; subst b
    obtain ⟨e1, e2⟩ := rd_itoa (n := v) (by omega) (by omega)
    have e1 : rdV ⟨(Lib.itoa v).toArray⟩ = v := e1
    have e2 : rdO ⟨(Lib.itoa v).toArray⟩ = true := e2
    simp [lnPcs, lnR, baL, wLabel, wFire, wWait, e1, e2]
  · subst a; subst c
    simp [lnPcs, lnR, baL, wLabel, wFire]
  · subst a
    obtain ⟨e1, e2⟩ := rd_itoa (n := v) (by omega) (by omega)
    have e1 : rdV ⟨(Lib.itoa v).toArray⟩ = v := e1
    have e2 : rdO ⟨(Lib.itoa v).toArray⟩ = true := e2
    simp [lnPcs, lnR, baL, wJump, e1, e2]
  · subst a; subst b; subst c
    simp [lnPcs, lnR, baL, wEnd]
theorem lnR_1 (a : ByteArray) : lnR [a] = if a.data.toList = wEnd then some ⟨5, ⟨#[]⟩, 0⟩ else none := rfl
theorem lnR_2 (a b : ByteArray) : lnR [a, b] = if a.data.toList = wLabel then some ⟨1, b, 0⟩ else if a.data.toList = wFire then some ⟨3, b, 0⟩ else if a.data.toList = wWait then (if rdO b then some ⟨2, ⟨#[]⟩, rdV b⟩ else none) else none := rfl
theorem lnR_3 (a b c : ByteArray) : lnR [a, b, c] = if a.data.toList = wJump then (if rdO c then some ⟨4, b, rdV c⟩ else none) else none := rfl
theorem lnR_join {W : List ByteArray} {x : Ln} (h : lnR W = some x) : (lnB x).data.toList = joinC 32 (W.map (·.data.toList)) := by
  rw [ln_join]
  match W, h with
  | [], h => cases h
  | [a], h =>
    rw [lnR_1] at h
    split at h
    · rename_i e
      obtain rfl := Option.some.inj h
      simp [lnPcs, joinC, e]
    · cases h
  | [a, b], h =>
    rw [lnR_2] at h
    split at h
    · rename_i e
      obtain rfl := Option.some.inj h
      simp [lnPcs, joinC, e]
    · split at h
      · rename_i e
        obtain rfl := Option.some.inj h
        simp [lnPcs, joinC, e]
      · split at h
        · rename_i e
          split at h
          · rename_i e2
            obtain rfl := Option.some.inj h
            have := rd_back e2
            simp [lnPcs, joinC, e, this]
          · cases h
        · cases h
  | [a, b, c], h =>
    rw [lnR_3] at h
    split at h
    · rename_i e
      split at h
      · rename_i e2
        obtain rfl := Option.some.inj h
        have := rd_back e2
        simp [lnPcs, joinC, e, this]
      · cases h
    · cases h
  | _ :: _ :: _ :: _ :: _, h => cases h
theorem lnR_sp {y : ByteArray} {x : Ln} (h : lnR (spS 32 y) = some x) : lnB x = y := by
  refine ba_ext ?_
  rw [lnR_join h, sp_data, joinC_spl]
/-- the text of lines, as bytes -/
def scL (l : List Ln) : List UInt8 := l.flatMap fun x => (lnB x).data.toList ++ [10]
theorem scX_take (l : List Ln) : ∀ q, q ≤ l.length → (scX l q).data.toList = scL (l.take q)
  | 0, _ => by simp [scX, scL]
  | q + 1, h => by
    rw [scX_succ (by omega), List.take_succ_eq_append_getElem (by omega)]
    unfold scL
    rw [List.flatMap_append]
    have ih := scX_take l q (by omega)
    unfold scL at ih
    rw [← ih]
    simp only [app_data]
    simp
theorem scX_data (l : List Ln) : (scX l l.length).data.toList = scL l := by
  have := scX_take l l.length (Nat.le_refl _)
  rwa [List.take_length] at this
theorem scL_cons (x : Ln) (l : List Ln) : scL (x :: l) = (lnB x).data.toList ++ 10 :: scL l := by unfold scL; simp
theorem scL_spl : ∀ (l : List Ln), (∀ x ∈ l, vOne x = true) → splC 10 (scL l) = l.map (fun x => (lnB x).data.toList) ++ [[]]
  | [], _ => rfl
  | x :: l, h => by
    rw [scL_cons, splC_app 10 _ _ (ln_free (h x (by simp))), scL_spl l fun y hy => h y (by simp [hy])]
    rfl
theorem joinC_end (c : UInt8) : ∀ p : List (List UInt8), joinC c (p ++ [[]]) = p.flatMap fun g => g ++ [c]
  | [] => rfl
  | g :: t => by
    show joinC c (g :: (t ++ [[]])) = _
    rw [joinC_cons c g (by simp), joinC_end c t]
    simp
/-- s is the text of the valid script l -/
def IsS (s : ByteArray) (l : List Ln) : Prop := vL l = true ∧ scX l l.length = s
theorem okL_one {l : List Ln} (h : vL l = true) : ∀ x ∈ l, vOne x = true := by
  intro x hx
  obtain ⟨i, hi, rfl⟩ := List.getElem_of_mem hx
  exact ((vL_ofX h).2 i hi).1
theorem isS_data {s : ByteArray} {l : List Ln} (h : IsS s l) : s.data.toList = scL l := by rw [← h.2, scX_data]
theorem isS_sp {s : ByteArray} {l : List Ln} (h : IsS s l) : spS 10 s = l.map lnB ++ [⟨#[]⟩] := by
  unfold spS
  rw [isS_data h, scL_spl l (okL_one h.1), List.map_append, List.map_map]
  congr 1
/-- what the reference has read is the script -/
theorem isS_of {s : ByteArray} {l : List Ln} (hv : vL l = true) (h : spS 10 s = l.map lnB ++ [⟨#[]⟩]) : IsS s l := by
  refine ⟨hv, ba_ext ?_⟩
  rw [scX_data]
  have h1 : (spS 10 s).map (·.data.toList) = splC 10 s.data.toList := by
    unfold spS
    rw [List.map_map]
    conv => rhs; rw [← List.map_id (splC 10 s.data.toList)]
    exact List.map_congr_left fun x _ => rfl
  rw [h, List.map_append, List.map_map] at h1
  rw [← joinC_spl 10 s.data.toList, ← h1]
  show _ = joinC 10 (l.map (fun x => (lnB x).data.toList) ++ [[]])
  rw [joinC_end, List.flatMap_map]
  rfl
theorem scL_drop {l : List Ln} {q : Nat} (h : q < l.length) : scL (l.drop q) = (lnB l[q]).data.toList ++ 10 :: scL (l.drop (q + 1)) := by
  rw [List.drop_eq_getElem_cons h, scL_cons]
theorem isS_one {s : ByteArray} {l l' : List Ln} (h : IsS s l) (h' : IsS s l') : l = l' := by
  have e : l.map lnB ++ [⟨#[]⟩] = l'.map lnB ++ [⟨#[]⟩] := (isS_sp h).symm.trans (isS_sp h')
  have e : l.map lnB = l'.map lnB := List.append_cancel_right e
  have r : ∀ {l : List Ln}, vL l = true → (l.map lnB).map (fun y => lnR (spS 32 y)) = l.map some := fun {l} hv => by
    rw [List.map_map]
    exact List.map_congr_left fun x hx => ln_read (okL_one hv x hx)
  have e2 := r h.1
  rw [e, r h'.1] at e2
  exact (List.map_inj_right fun _ _ h => Option.some.inj h).1 e2.symm
open Classical in
/-- what is read -/
noncomputable def rsP (s : ByteArray) : Option (List Ln) := if h : ∃ l, IsS s l then some h.choose else none
noncomputable def rsL (s : ByteArray) : List Ln := (rsP s).getD []
noncomputable def rsB (s : ByteArray) : Bool := (rsP s).isSome
theorem rs_yes {s : ByteArray} {l : List Ln} (h : IsS s l) : rsL s = l ∧ rsB s = true := by
  have he : ∃ l, IsS s l := ⟨l, h⟩
  have hp : rsP s = some he.choose := by unfold rsP; rw [dif_pos he]
  unfold rsL rsB
  rw [hp]
  exact ⟨isS_one he.choose_spec h, rfl⟩
theorem rs_no {s : ByteArray} (h : ∀ l, ¬ IsS s l) : rsL s = [] ∧ rsB s = false := by
  have hp : rsP s = none := by unfold rsP; rw [dif_neg (fun ⟨l, hl⟩ => h l hl)]
  unfold rsL rsB
  rw [hp]
  exact ⟨rfl, rfl⟩
/-- what the program has read so far: the lines out, the bytes R being left -/
def SoFar (s : ByteArray) (out : List Ln) (R : List UInt8) : Prop := ∀ l, IsS s l → out.length ≤ l.length ∧ out = l.take out.length ∧ R = scL (l.drop out.length)
theorem soFar_0 (s : ByteArray) : SoFar s [] s.data.toList := fun l h => ⟨by simp, by simp, by rw [isS_data h]; rfl⟩
theorem soFar_end {s : ByteArray} {out : List Ln} (h : SoFar s out []) {l : List Ln} (hl : IsS s l) : out = l := by
  obtain ⟨h1, h2, h3⟩ := h l hl
  rcases Nat.lt_or_ge out.length l.length with h4 | h4
  · rw [scL_drop h4] at h3; simp at h3
  · rw [h2, List.take_of_length_le h4]
/-- the next line -/
theorem soFar_line {s : ByteArray} {out : List Ln} {R : List UInt8} (h : SoFar s out R) (hR : R ≠ []) {l : List Ln} (hl : IsS s l) : ∃ x T, R = (lnB x).data.toList ++ 10 :: T ∧ (∀ y ∈ (lnB x).data.toList, y ≠ 10) ∧ lnR (wdS (lnB x)) = some x ∧ (out ++ [x]).length ≤ l.length ∧ out ++ [x] = l.take (out ++ [x]).length ∧ T = scL (l.drop (out ++ [x]).length) := by
  obtain ⟨h1, h2, h3⟩ := h l hl
  rcases Nat.lt_or_ge out.length l.length with h4 | h4
  · rw [scL_drop h4] at h3
    have hv := okL_one hl.1 _ (List.getElem_mem h4)
    refine ⟨l[out.length], _, h3, ln_free hv, by rw [ln_wd hv]; exact ln_read hv, by simp; omega, ?_, by simp⟩
    rw [List.length_append, List.length_singleton, List.take_succ_eq_append_getElem h4, ← h2]
  · rw [List.drop_eq_nil_of_le h4] at h3
    exact absurd h3 hR
end Go.Proofs.YtonmeffhelaohaaDoor
namespace Go.Proofs.YtonmeffhelaohaaDoor
open Go.RowKit
/-- which word is it? -/
theorem w6 (a : ByteArray) :
    (a.toList = [108, 97, 98, 101, 108] ∧ ¬ a.toList = [119, 97, 105, 116] ∧ ¬ a.toList = [102, 105, 114, 101] ∧ ¬ a.toList = [106, 117, 109, 112] ∧ ¬ a.toList = [101, 110, 100]) ∨
    (a.toList = [119, 97, 105, 116] ∧ ¬ a.toList = [108, 97, 98, 101, 108] ∧ ¬ a.toList = [102, 105, 114, 101] ∧ ¬ a.toList = [106, 117, 109, 112] ∧ ¬ a.toList = [101, 110, 100]) ∨
    (a.toList = [102, 105, 114, 101] ∧ ¬ a.toList = [108, 97, 98, 101, 108] ∧ ¬ a.toList = [119, 97, 105, 116] ∧ ¬ a.toList = [106, 117, 109, 112] ∧ ¬ a.toList = [101, 110, 100]) ∨
    (a.toList = [106, 117, 109, 112] ∧ ¬ a.toList = [108, 97, 98, 101, 108] ∧ ¬ a.toList = [119, 97, 105, 116] ∧ ¬ a.toList = [102, 105, 114, 101] ∧ ¬ a.toList = [101, 110, 100]) ∨
    (a.toList = [101, 110, 100] ∧ ¬ a.toList = [108, 97, 98, 101, 108] ∧ ¬ a.toList = [119, 97, 105, 116] ∧ ¬ a.toList = [102, 105, 114, 101] ∧ ¬ a.toList = [106, 117, 109, 112]) ∨
    (¬ a.toList = [108, 97, 98, 101, 108] ∧ ¬ a.toList = [119, 97, 105, 116] ∧ ¬ a.toList = [102, 105, 114, 101] ∧ ¬ a.toList = [106, 117, 109, 112] ∧ ¬ a.toList = [101, 110, 100]) := by
  by_cases h1 : a.toList = [108, 97, 98, 101, 108]
  · rw [h1]; decide
  by_cases h2 : a.toList = [119, 97, 105, 116]
  · rw [h2]; decide
  by_cases h3 : a.toList = [102, 105, 114, 101]
  · rw [h3]; decide
  by_cases h4 : a.toList = [106, 117, 109, 112]
  · rw [h4]; decide
  by_cases h5 : a.toList = [101, 110, 100]
  · rw [h5]; decide
  exact .inr (.inr (.inr (.inr (.inr ⟨h1, h2, h3, h4, h5⟩))))
theorem bqn {a b : List UInt8} (h : ¬ a = b) : (a == b) = false := by rw [beq_eq_false_iff_ne]; exact h
theorem bqp {a b : List UInt8} (h : a = b) : (a == b) = true := by rw [h]; simp
/-- what a call that reads a line leaves -/
def LnPost (W : List ByteArray) (w : World) (e : Ending) (w' : World) : Prop :=
  ∃ (x : Ln) (b : Bool), e = .returned (.tuple #[.agg #[.int .i64 x.kind, .string x.name, .int .i64 x.value], .bool b]) ∧ (b = true → lnR W = some x) ∧ (b = false → lnR W = none) ∧ ∃ k : Ex w, w' = k.v
theorem lnPost_yes {W : List ByteArray} (x : Ln) {w : World} {e : Ending} {w' : World} (h : lnR W = some x) (he : e = .returned (.tuple #[.agg #[.int .i64 x.kind, .string x.name, .int .i64 x.value], .bool true])) (hw : ∃ k : Ex w, w' = k.v) : LnPost W w e w' := ⟨x, true, he, fun _ => h, fun h => by (cases h), hw⟩
theorem lnPost_no {W : List ByteArray} (x : Ln) {w : World} {e : Ending} {w' : World} (h : lnR W = none) (he : e = .returned (.tuple #[.agg #[.int .i64 x.kind, .string x.name, .int .i64 x.value], .bool false])) (hw : ∃ k : Ex w, w' = k.v) : LnPost W w e w' := ⟨x, false, he, fun h => by (cases h), fun _ => h, hw⟩
theorem lnR_big {L : List ByteArray} (h : 4 ≤ L.length) : lnR L = none := by
  match L, h with
  | _ :: _ :: _ :: _ :: _, _ => rfl
  | [], h => simp at h
  | [_], h => simp at h
  | [_, _], h => simp at h
  | [_, _, _], h => simp at h
theorem tl_d {a : ByteArray} {l : List UInt8} (h : a.toList = l) : a.data.toList = l := (ByteArray.toList_eq ..).symm.trans h
theorem tl_n {a : ByteArray} {l : List UInt8} (h : ¬ a.toList = l) : ¬ a.data.toList = l := fun k => h ((ByteArray.toList_eq ..).trans k)
theorem r1_end {a : ByteArray} (h : a.toList = [101, 110, 100]) : lnR [a] = some ⟨5, ⟨#[]⟩, 0⟩ := by
  rw [lnR_1, if_pos (show a.data.toList = wEnd from tl_d h)]
theorem r1_no {a : ByteArray} (h : ¬ a.toList = [101, 110, 100]) : lnR [a] = none := by
  rw [lnR_1, if_neg (show ¬ a.data.toList = wEnd from tl_n h)]
theorem r2_label {a z : ByteArray} (h : a.toList = [108, 97, 98, 101, 108]) : lnR [a, z] = some ⟨1, z, 0⟩ := by
  rw [lnR_2, if_pos (show a.data.toList = wLabel from tl_d h)]
theorem r2_fire {a z : ByteArray} (h : a.toList = [102, 105, 114, 101]) : lnR [a, z] = some ⟨3, z, 0⟩ := by
  rw [lnR_2, if_neg (show ¬ a.data.toList = wLabel by rw [tl_d h]; decide), if_pos (show a.data.toList = wFire from tl_d h)]
theorem r2_wait {a z : ByteArray} (h : a.toList = [119, 97, 105, 116]) (hb : rdO z = true) : lnR [a, z] = some ⟨2, ⟨#[]⟩, rdV z⟩ := by
  rw [lnR_2, if_neg (show ¬ a.data.toList = wLabel by rw [tl_d h]; decide), if_neg (show ¬ a.data.toList = wFire by rw [tl_d h]; decide), if_pos (show a.data.toList = wWait from tl_d h), if_pos hb]
theorem r2_waitN {a z : ByteArray} (h : a.toList = [119, 97, 105, 116]) (hb : rdO z = false) : lnR [a, z] = none := by
  rw [lnR_2, if_neg (show ¬ a.data.toList = wLabel by rw [tl_d h]; decide), if_neg (show ¬ a.data.toList = wFire by rw [tl_d h]; decide), if_pos (show a.data.toList = wWait from tl_d h), if_neg (by rw [hb]; exact Bool.false_ne_true)]
theorem r2_no {a z : ByteArray} (h1 : ¬ a.toList = [108, 97, 98, 101, 108]) (h2 : ¬ a.toList = [119, 97, 105, 116]) (h3 : ¬ a.toList = [102, 105, 114, 101]) : lnR [a, z] = none := by
  rw [lnR_2, if_neg (show ¬ a.data.toList = wLabel from tl_n h1), if_neg (show ¬ a.data.toList = wFire from tl_n h3), if_neg (show ¬ a.data.toList = wWait from tl_n h2)]
theorem r3_jump {a z y : ByteArray} (h : a.toList = [106, 117, 109, 112]) (hb : rdO y = true) : lnR [a, z, y] = some ⟨4, z, rdV y⟩ := by
  rw [lnR_3, if_pos (show a.data.toList = wJump from tl_d h), if_pos hb]
theorem r3_jumpN {a z y : ByteArray} (h : a.toList = [106, 117, 109, 112]) (hb : rdO y = false) : lnR [a, z, y] = none := by
  rw [lnR_3, if_pos (show a.data.toList = wJump from tl_d h), if_neg (by rw [hb]; exact Bool.false_ne_true)]
theorem r3_no {a z y : ByteArray} (h : ¬ a.toList = [106, 117, 109, 112]) : lnR [a, z, y] = none := by
  rw [lnR_3, if_neg (show ¬ a.data.toList = wJump from tl_n h)]
theorem len_cases (L : List ByteArray) : L = [] ∨ (∃ a, L = [a]) ∨ (∃ a z, L = [a, z]) ∨ (∃ a z y, L = [a, z, y]) ∨ 4 ≤ L.length := by
  match L with
  | [] => exact .inl rfl
  | [a] => exact .inr (.inl ⟨a, rfl⟩)
  | [a, z] => exact .inr (.inr (.inl ⟨a, z, rfl⟩))
  | [a, z, y] => exact .inr (.inr (.inr (.inl ⟨a, z, y, rfl⟩)))
  | _ :: _ :: _ :: _ :: _ => exact .inr (.inr (.inr (.inr (by simp))))
section
set_option maxHeartbeats 3200000
set_option maxRecDepth 20000
theorem sLine_any (s : ByteArray) (w : World) (hs : s.size ≤ 1048576) :
    Calls Tryd.prog 50 #[.string s] w (LnPost (spS 32 s) w) := by
  have hne : spS 32 s ≠ [] := by unfold spS; simp [splC_ne]
  have HZ : Hid (∀ g ∈ spS 32 s, g.size ≤ 1048576) := hid fun g hg => Nat.le_trans (sp_size hg) hs
  obtain ⟨L, hL⟩ : ∃ L, spS 32 s = L := ⟨_, rfl⟩
  have HL := hid hL
  rw [hL] at hne HZ ⊢
  clear hL
  rcases len_cases L with rfl | ⟨a, rfl⟩ | ⟨a, z, rfl⟩ | ⟨a, z, y, rfl⟩ | h4
  · exact absurd rfl hne
  · clear hne
    (rcases w6 a with h | h | h | h | h | h; (· (obtain ⟨p1, p2, p3, p4, p5⟩ := h; ((first | have q1 := bqn p1 | have q1 := bqp p1); have q2 := bqn p2; have q3 := bqn p3; have q4 := bqn p4; have q5 := bqn p5); have HN : Hid (lnR [a] = none) := hid (by first | exact r1_end p1 | exact r1_no p5 | exact r2_label p1 | exact r2_fire p1 | exact r2_no (by assumption) (by assumption) (by assumption) | exact r3_no (by assumption)); go_enter Tryd.func50, Tryd.ntmps50; go_wp2_with ((go_at_call 49; go_loud ((refine (sSplit_any s 32 _ hs).mono ?_); rw [HL.out]; rintro e w' ⟨A, c, rfl, k, rfl, ho⟩; obtain ⟨g, rfl, hw⟩ := ho.own (Nat.succ_pos _); obtain ⟨b8, o8, e8, hb8, hc8⟩ := (inferInstance : Rd 1 sC k.v (some ⟨g, 0, none⟩) [a]).at_ (Nat.succ_pos _); cases e8; have c0 : k.v.cell? ⟨g, 0, none⟩ = some (.string a) := hc8 0 (by simp) 0 _ rfl; clear hc8))); ((refine bodyPost_ret (v := _) (by simp [results, Tryd.results50, go_sem]; rfl) rfl ?_); refine lnPost_no ⟨0, ⟨#[]⟩, 0⟩ HN.out rfl ?_; (refine Ok.toEx ?_; (repeat (first | (with_reducible exact Ok.rf _) | (with_reducible refine Ok.alloc ?_ _) | (with_reducible refine Ok.ex ?_ _) | (with_reducible refine Ok.drew ?_) | (with_reducible refine Ok.setCellI ?_ _ _ _) | (with_reducible refine Ok.exb ?_ _))))))); (· (obtain ⟨p1, p2, p3, p4, p5⟩ := h; ((first | have q1 := bqn p1 | have q1 := bqp p1); have q2 := bqn p2; have q3 := bqn p3; have q4 := bqn p4; have q5 := bqn p5); have HN : Hid (lnR [a] = none) := hid (by first | exact r1_end p1 | exact r1_no p5 | exact r2_label p1 | exact r2_fire p1 | exact r2_no (by assumption) (by assumption) (by assumption) | exact r3_no (by assumption)); go_enter Tryd.func50, Tryd.ntmps50; go_wp2_with ((go_at_call 49; go_loud ((refine (sSplit_any s 32 _ hs).mono ?_); rw [HL.out]; rintro e w' ⟨A, c, rfl, k, rfl, ho⟩; obtain ⟨g, rfl, hw⟩ := ho.own (Nat.succ_pos _); obtain ⟨b8, o8, e8, hb8, hc8⟩ := (inferInstance : Rd 1 sC k.v (some ⟨g, 0, none⟩) [a]).at_ (Nat.succ_pos _); cases e8; have c0 : k.v.cell? ⟨g, 0, none⟩ = some (.string a) := hc8 0 (by simp) 0 _ rfl; clear hc8))); ((refine bodyPost_ret (v := _) (by simp [results, Tryd.results50, go_sem]; rfl) rfl ?_); refine lnPost_no ⟨0, ⟨#[]⟩, 0⟩ HN.out rfl ?_; (refine Ok.toEx ?_; (repeat (first | (with_reducible exact Ok.rf _) | (with_reducible refine Ok.alloc ?_ _) | (with_reducible refine Ok.ex ?_ _) | (with_reducible refine Ok.drew ?_) | (with_reducible refine Ok.setCellI ?_ _ _ _) | (with_reducible refine Ok.exb ?_ _))))))); (· (obtain ⟨p1, p2, p3, p4, p5⟩ := h; ((first | have q1 := bqn p1 | have q1 := bqp p1); have q2 := bqn p2; have q3 := bqn p3; have q4 := bqn p4; have q5 := bqn p5); have HN : Hid (lnR [a] = none) := hid (by first | exact r1_end p1 | exact r1_no p5 | exact r2_label p1 | exact r2_fire p1 | exact r2_no (by assumption) (by assumption) (by assumption) | exact r3_no (by assumption)); go_enter Tryd.func50, Tryd.ntmps50; go_wp2_with ((go_at_call 49; go_loud ((refine (sSplit_any s 32 _ hs).mono ?_); rw [HL.out]; rintro e w' ⟨A, c, rfl, k, rfl, ho⟩; obtain ⟨g, rfl, hw⟩ := ho.own (Nat.succ_pos _); obtain ⟨b8, o8, e8, hb8, hc8⟩ := (inferInstance : Rd 1 sC k.v (some ⟨g, 0, none⟩) [a]).at_ (Nat.succ_pos _); cases e8; have c0 : k.v.cell? ⟨g, 0, none⟩ = some (.string a) := hc8 0 (by simp) 0 _ rfl; clear hc8))); ((refine bodyPost_ret (v := _) (by simp [results, Tryd.results50, go_sem]; rfl) rfl ?_); refine lnPost_no ⟨0, ⟨#[]⟩, 0⟩ HN.out rfl ?_; (refine Ok.toEx ?_; (repeat (first | (with_reducible exact Ok.rf _) | (with_reducible refine Ok.alloc ?_ _) | (with_reducible refine Ok.ex ?_ _) | (with_reducible refine Ok.drew ?_) | (with_reducible refine Ok.setCellI ?_ _ _ _) | (with_reducible refine Ok.exb ?_ _))))))); (· (obtain ⟨p1, p2, p3, p4, p5⟩ := h; ((first | have q1 := bqn p1 | have q1 := bqp p1); have q2 := bqn p2; have q3 := bqn p3; have q4 := bqn p4; have q5 := bqn p5); have HN : Hid (lnR [a] = none) := hid (by first | exact r1_end p1 | exact r1_no p5 | exact r2_label p1 | exact r2_fire p1 | exact r2_no (by assumption) (by assumption) (by assumption) | exact r3_no (by assumption)); go_enter Tryd.func50, Tryd.ntmps50; go_wp2_with ((go_at_call 49; go_loud ((refine (sSplit_any s 32 _ hs).mono ?_); rw [HL.out]; rintro e w' ⟨A, c, rfl, k, rfl, ho⟩; obtain ⟨g, rfl, hw⟩ := ho.own (Nat.succ_pos _); obtain ⟨b8, o8, e8, hb8, hc8⟩ := (inferInstance : Rd 1 sC k.v (some ⟨g, 0, none⟩) [a]).at_ (Nat.succ_pos _); cases e8; have c0 : k.v.cell? ⟨g, 0, none⟩ = some (.string a) := hc8 0 (by simp) 0 _ rfl; clear hc8))); ((refine bodyPost_ret (v := _) (by simp [results, Tryd.results50, go_sem]; rfl) rfl ?_); refine lnPost_no ⟨0, ⟨#[]⟩, 0⟩ HN.out rfl ?_; (refine Ok.toEx ?_; (repeat (first | (with_reducible exact Ok.rf _) | (with_reducible refine Ok.alloc ?_ _) | (with_reducible refine Ok.ex ?_ _) | (with_reducible refine Ok.drew ?_) | (with_reducible refine Ok.setCellI ?_ _ _ _) | (with_reducible refine Ok.exb ?_ _))))))); (· (obtain ⟨p1, p2, p3, p4, p5⟩ := h; ((first | have q1 := bqn p1 | have q1 := bqp p1); have q2 := bqn p2; have q3 := bqn p3; have q4 := bqn p4; have q5 := bqn p5); have HN : Hid (lnR [a] = some ⟨5, ⟨#[]⟩, 0⟩) := hid (by first | exact r1_end p1 | exact r1_no p5 | exact r2_label p1 | exact r2_fire p1 | exact r2_no (by assumption) (by assumption) (by assumption) | exact r3_no (by assumption)); go_enter Tryd.func50, Tryd.ntmps50; go_wp2_with ((go_at_call 49; go_loud ((refine (sSplit_any s 32 _ hs).mono ?_); rw [HL.out]; rintro e w' ⟨A, c, rfl, k, rfl, ho⟩; obtain ⟨g, rfl, hw⟩ := ho.own (Nat.succ_pos _); obtain ⟨b8, o8, e8, hb8, hc8⟩ := (inferInstance : Rd 1 sC k.v (some ⟨g, 0, none⟩) [a]).at_ (Nat.succ_pos _); cases e8; have c0 : k.v.cell? ⟨g, 0, none⟩ = some (.string a) := hc8 0 (by simp) 0 _ rfl; clear hc8))); ((refine bodyPost_ret (v := _) (by simp [results, Tryd.results50, go_sem]; rfl) rfl ?_); refine lnPost_yes ⟨5, ⟨#[]⟩, 0⟩ HN.out rfl ?_; (refine Ok.toEx ?_; (repeat (first | (with_reducible exact Ok.rf _) | (with_reducible refine Ok.alloc ?_ _) | (with_reducible refine Ok.ex ?_ _) | (with_reducible refine Ok.drew ?_) | (with_reducible refine Ok.setCellI ?_ _ _ _) | (with_reducible refine Ok.exb ?_ _))))))); (· (obtain ⟨p1, p2, p3, p4, p5⟩ := h; ((first | have q1 := bqn p1 | have q1 := bqp p1); have q2 := bqn p2; have q3 := bqn p3; have q4 := bqn p4; have q5 := bqn p5); have HN : Hid (lnR [a] = none) := hid (by first | exact r1_end p1 | exact r1_no p5 | exact r2_label p1 | exact r2_fire p1 | exact r2_no (by assumption) (by assumption) (by assumption) | exact r3_no (by assumption)); go_enter Tryd.func50, Tryd.ntmps50; go_wp2_with ((go_at_call 49; go_loud ((refine (sSplit_any s 32 _ hs).mono ?_); rw [HL.out]; rintro e w' ⟨A, c, rfl, k, rfl, ho⟩; obtain ⟨g, rfl, hw⟩ := ho.own (Nat.succ_pos _); obtain ⟨b8, o8, e8, hb8, hc8⟩ := (inferInstance : Rd 1 sC k.v (some ⟨g, 0, none⟩) [a]).at_ (Nat.succ_pos _); cases e8; have c0 : k.v.cell? ⟨g, 0, none⟩ = some (.string a) := hc8 0 (by simp) 0 _ rfl; clear hc8))); ((refine bodyPost_ret (v := _) (by simp [results, Tryd.results50, go_sem]; rfl) rfl ?_); refine lnPost_no ⟨0, ⟨#[]⟩, 0⟩ HN.out rfl ?_; (refine Ok.toEx ?_; (repeat (first | (with_reducible exact Ok.rf _) | (with_reducible refine Ok.alloc ?_ _) | (with_reducible refine Ok.ex ?_ _) | (with_reducible refine Ok.drew ?_) | (with_reducible refine Ok.setCellI ?_ _ _ _) | (with_reducible refine Ok.exb ?_ _))))))))
  · clear hne
    (rcases w6 a with h | h | h | h | h | h; (· (obtain ⟨p1, p2, p3, p4, p5⟩ := h; ((first | have q1 := bqn p1 | have q1 := bqp p1); have q2 := bqn p2; have q3 := bqn p3; have q4 := bqn p4; have q5 := bqn p5); have HN : Hid (lnR [a, z] = some ⟨1, z, 0⟩) := hid (by first | exact r1_end p1 | exact r1_no p5 | exact r2_label p1 | exact r2_fire p1 | exact r2_no (by assumption) (by assumption) (by assumption) | exact r3_no (by assumption)); go_enter Tryd.func50, Tryd.ntmps50; go_wp2_with ((go_at_call 49; go_loud ((refine (sSplit_any s 32 _ hs).mono ?_); rw [HL.out]; rintro e w' ⟨A, c, rfl, k, rfl, ho⟩; obtain ⟨g, rfl, hw⟩ := ho.own (Nat.succ_pos _); obtain ⟨b8, o8, e8, hb8, hc8⟩ := (inferInstance : Rd 1 sC k.v (some ⟨g, 0, none⟩) [a, z]).at_ (Nat.succ_pos _); cases e8; have c0 : k.v.cell? ⟨g, 0, none⟩ = some (.string a) := hc8 0 (by simp) 0 _ rfl; have c1 : k.v.cell? ⟨g, 1, none⟩ = some (.string z) := hc8 1 (by simp) 0 _ rfl; clear hc8))); ((refine bodyPost_ret (v := _) (by simp [results, Tryd.results50, go_sem]; rfl) rfl ?_); refine lnPost_yes ⟨1, z, 0⟩ HN.out rfl ?_; (refine Ok.toEx ?_; (repeat (first | (with_reducible exact Ok.rf _) | (with_reducible refine Ok.alloc ?_ _) | (with_reducible refine Ok.ex ?_ _) | (with_reducible refine Ok.drew ?_) | (with_reducible refine Ok.setCellI ?_ _ _ _) | (with_reducible refine Ok.exb ?_ _))))))); (· (obtain ⟨p1, p2, p3, p4, p5⟩ := h; ((first | have q1 := bqn p1 | have q1 := bqp p1); have q2 := bqn p2; have q3 := bqn p3; have q4 := bqn p4; have q5 := bqn p5); have hzs := (HZ.out z (by simp)); obtain ⟨bb, hbb⟩ : ∃ b, rdO z = b := ⟨_, rfl⟩; have HB := hid hbb; clear hbb; cases bb; (· have HN : Hid (lnR [a, z] = none) := hid (by first | exact r2_wait p1 HB.out | exact r2_waitN p1 HB.out | exact r3_jump p1 HB.out | exact r3_jumpN p1 HB.out); go_enter Tryd.func50, Tryd.ntmps50; go_wp2_with ((first | (go_at_call 49; go_loud ((refine (sSplit_any s 32 _ hs).mono ?_); rw [HL.out]; rintro e w' ⟨A, c, rfl, k, rfl, ho⟩; obtain ⟨g, rfl, hw⟩ := ho.own (Nat.succ_pos _); obtain ⟨b8, o8, e8, hb8, hc8⟩ := (inferInstance : Rd 1 sC k.v (some ⟨g, 0, none⟩) [a, z]).at_ (Nat.succ_pos _); cases e8; have c0 : k.v.cell? ⟨g, 0, none⟩ = some (.string a) := hc8 0 (by simp) 0 _ rfl; have c1 : k.v.cell? ⟨g, 1, none⟩ = some (.string z) := hc8 1 (by simp) 0 _ rfl; clear hc8)) | (go_at_call 69; go_loud ((with_reducible refine (sNum_any z _ hzs).mono ?_); rw [HB.out]; rintro e w' ⟨rfl, rfl⟩)))); ((refine bodyPost_ret (v := _) (by simp [results, Tryd.results50, go_sem]; rfl) rfl ?_); refine lnPost_no ⟨2, ⟨#[]⟩, rdV z⟩ HN.out rfl ?_; (refine Ok.toEx ?_; (repeat (first | (with_reducible exact Ok.rf _) | (with_reducible refine Ok.alloc ?_ _) | (with_reducible refine Ok.ex ?_ _) | (with_reducible refine Ok.drew ?_) | (with_reducible refine Ok.setCellI ?_ _ _ _) | (with_reducible refine Ok.exb ?_ _)))))); (· have HN : Hid (lnR [a, z] = some ⟨2, ⟨#[]⟩, rdV z⟩) := hid (by first | exact r2_wait p1 HB.out | exact r2_waitN p1 HB.out | exact r3_jump p1 HB.out | exact r3_jumpN p1 HB.out); go_enter Tryd.func50, Tryd.ntmps50; go_wp2_with ((first | (go_at_call 49; go_loud ((refine (sSplit_any s 32 _ hs).mono ?_); rw [HL.out]; rintro e w' ⟨A, c, rfl, k, rfl, ho⟩; obtain ⟨g, rfl, hw⟩ := ho.own (Nat.succ_pos _); obtain ⟨b8, o8, e8, hb8, hc8⟩ := (inferInstance : Rd 1 sC k.v (some ⟨g, 0, none⟩) [a, z]).at_ (Nat.succ_pos _); cases e8; have c0 : k.v.cell? ⟨g, 0, none⟩ = some (.string a) := hc8 0 (by simp) 0 _ rfl; have c1 : k.v.cell? ⟨g, 1, none⟩ = some (.string z) := hc8 1 (by simp) 0 _ rfl; clear hc8)) | (go_at_call 69; go_loud ((with_reducible refine (sNum_any z _ hzs).mono ?_); rw [HB.out]; rintro e w' ⟨rfl, rfl⟩)))); ((refine bodyPost_ret (v := _) (by simp [results, Tryd.results50, go_sem]; rfl) rfl ?_); refine lnPost_yes ⟨2, ⟨#[]⟩, rdV z⟩ HN.out rfl ?_; (refine Ok.toEx ?_; (repeat (first | (with_reducible exact Ok.rf _) | (with_reducible refine Ok.alloc ?_ _) | (with_reducible refine Ok.ex ?_ _) | (with_reducible refine Ok.drew ?_) | (with_reducible refine Ok.setCellI ?_ _ _ _) | (with_reducible refine Ok.exb ?_ _)))))))); (· (obtain ⟨p1, p2, p3, p4, p5⟩ := h; ((first | have q1 := bqn p1 | have q1 := bqp p1); have q2 := bqn p2; have q3 := bqn p3; have q4 := bqn p4; have q5 := bqn p5); have HN : Hid (lnR [a, z] = some ⟨3, z, 0⟩) := hid (by first | exact r1_end p1 | exact r1_no p5 | exact r2_label p1 | exact r2_fire p1 | exact r2_no (by assumption) (by assumption) (by assumption) | exact r3_no (by assumption)); go_enter Tryd.func50, Tryd.ntmps50; go_wp2_with ((go_at_call 49; go_loud ((refine (sSplit_any s 32 _ hs).mono ?_); rw [HL.out]; rintro e w' ⟨A, c, rfl, k, rfl, ho⟩; obtain ⟨g, rfl, hw⟩ := ho.own (Nat.succ_pos _); obtain ⟨b8, o8, e8, hb8, hc8⟩ := (inferInstance : Rd 1 sC k.v (some ⟨g, 0, none⟩) [a, z]).at_ (Nat.succ_pos _); cases e8; have c0 : k.v.cell? ⟨g, 0, none⟩ = some (.string a) := hc8 0 (by simp) 0 _ rfl; have c1 : k.v.cell? ⟨g, 1, none⟩ = some (.string z) := hc8 1 (by simp) 0 _ rfl; clear hc8))); ((refine bodyPost_ret (v := _) (by simp [results, Tryd.results50, go_sem]; rfl) rfl ?_); refine lnPost_yes ⟨3, z, 0⟩ HN.out rfl ?_; (refine Ok.toEx ?_; (repeat (first | (with_reducible exact Ok.rf _) | (with_reducible refine Ok.alloc ?_ _) | (with_reducible refine Ok.ex ?_ _) | (with_reducible refine Ok.drew ?_) | (with_reducible refine Ok.setCellI ?_ _ _ _) | (with_reducible refine Ok.exb ?_ _))))))); (· (obtain ⟨p1, p2, p3, p4, p5⟩ := h; ((first | have q1 := bqn p1 | have q1 := bqp p1); have q2 := bqn p2; have q3 := bqn p3; have q4 := bqn p4; have q5 := bqn p5); have HN : Hid (lnR [a, z] = none) := hid (by first | exact r1_end p1 | exact r1_no p5 | exact r2_label p1 | exact r2_fire p1 | exact r2_no (by assumption) (by assumption) (by assumption) | exact r3_no (by assumption)); go_enter Tryd.func50, Tryd.ntmps50; go_wp2_with ((go_at_call 49; go_loud ((refine (sSplit_any s 32 _ hs).mono ?_); rw [HL.out]; rintro e w' ⟨A, c, rfl, k, rfl, ho⟩; obtain ⟨g, rfl, hw⟩ := ho.own (Nat.succ_pos _); obtain ⟨b8, o8, e8, hb8, hc8⟩ := (inferInstance : Rd 1 sC k.v (some ⟨g, 0, none⟩) [a, z]).at_ (Nat.succ_pos _); cases e8; have c0 : k.v.cell? ⟨g, 0, none⟩ = some (.string a) := hc8 0 (by simp) 0 _ rfl; have c1 : k.v.cell? ⟨g, 1, none⟩ = some (.string z) := hc8 1 (by simp) 0 _ rfl; clear hc8))); ((refine bodyPost_ret (v := _) (by simp [results, Tryd.results50, go_sem]; rfl) rfl ?_); refine lnPost_no ⟨0, ⟨#[]⟩, 0⟩ HN.out rfl ?_; (refine Ok.toEx ?_; (repeat (first | (with_reducible exact Ok.rf _) | (with_reducible refine Ok.alloc ?_ _) | (with_reducible refine Ok.ex ?_ _) | (with_reducible refine Ok.drew ?_) | (with_reducible refine Ok.setCellI ?_ _ _ _) | (with_reducible refine Ok.exb ?_ _))))))); (· (obtain ⟨p1, p2, p3, p4, p5⟩ := h; ((first | have q1 := bqn p1 | have q1 := bqp p1); have q2 := bqn p2; have q3 := bqn p3; have q4 := bqn p4; have q5 := bqn p5); have HN : Hid (lnR [a, z] = none) := hid (by first | exact r1_end p1 | exact r1_no p5 | exact r2_label p1 | exact r2_fire p1 | exact r2_no (by assumption) (by assumption) (by assumption) | exact r3_no (by assumption)); go_enter Tryd.func50, Tryd.ntmps50; go_wp2_with ((go_at_call 49; go_loud ((refine (sSplit_any s 32 _ hs).mono ?_); rw [HL.out]; rintro e w' ⟨A, c, rfl, k, rfl, ho⟩; obtain ⟨g, rfl, hw⟩ := ho.own (Nat.succ_pos _); obtain ⟨b8, o8, e8, hb8, hc8⟩ := (inferInstance : Rd 1 sC k.v (some ⟨g, 0, none⟩) [a, z]).at_ (Nat.succ_pos _); cases e8; have c0 : k.v.cell? ⟨g, 0, none⟩ = some (.string a) := hc8 0 (by simp) 0 _ rfl; have c1 : k.v.cell? ⟨g, 1, none⟩ = some (.string z) := hc8 1 (by simp) 0 _ rfl; clear hc8))); ((refine bodyPost_ret (v := _) (by simp [results, Tryd.results50, go_sem]; rfl) rfl ?_); refine lnPost_no ⟨0, ⟨#[]⟩, 0⟩ HN.out rfl ?_; (refine Ok.toEx ?_; (repeat (first | (with_reducible exact Ok.rf _) | (with_reducible refine Ok.alloc ?_ _) | (with_reducible refine Ok.ex ?_ _) | (with_reducible refine Ok.drew ?_) | (with_reducible refine Ok.setCellI ?_ _ _ _) | (with_reducible refine Ok.exb ?_ _))))))); (· (obtain ⟨p1, p2, p3, p4, p5⟩ := h; ((first | have q1 := bqn p1 | have q1 := bqp p1); have q2 := bqn p2; have q3 := bqn p3; have q4 := bqn p4; have q5 := bqn p5); have HN : Hid (lnR [a, z] = none) := hid (by first | exact r1_end p1 | exact r1_no p5 | exact r2_label p1 | exact r2_fire p1 | exact r2_no (by assumption) (by assumption) (by assumption) | exact r3_no (by assumption)); go_enter Tryd.func50, Tryd.ntmps50; go_wp2_with ((go_at_call 49; go_loud ((refine (sSplit_any s 32 _ hs).mono ?_); rw [HL.out]; rintro e w' ⟨A, c, rfl, k, rfl, ho⟩; obtain ⟨g, rfl, hw⟩ := ho.own (Nat.succ_pos _); obtain ⟨b8, o8, e8, hb8, hc8⟩ := (inferInstance : Rd 1 sC k.v (some ⟨g, 0, none⟩) [a, z]).at_ (Nat.succ_pos _); cases e8; have c0 : k.v.cell? ⟨g, 0, none⟩ = some (.string a) := hc8 0 (by simp) 0 _ rfl; have c1 : k.v.cell? ⟨g, 1, none⟩ = some (.string z) := hc8 1 (by simp) 0 _ rfl; clear hc8))); ((refine bodyPost_ret (v := _) (by simp [results, Tryd.results50, go_sem]; rfl) rfl ?_); refine lnPost_no ⟨0, ⟨#[]⟩, 0⟩ HN.out rfl ?_; (refine Ok.toEx ?_; (repeat (first | (with_reducible exact Ok.rf _) | (with_reducible refine Ok.alloc ?_ _) | (with_reducible refine Ok.ex ?_ _) | (with_reducible refine Ok.drew ?_) | (with_reducible refine Ok.setCellI ?_ _ _ _) | (with_reducible refine Ok.exb ?_ _))))))))
  · clear hne
    (rcases w6 a with h | h | h | h | h | h; (· (obtain ⟨p1, p2, p3, p4, p5⟩ := h; ((first | have q1 := bqn p1 | have q1 := bqp p1); have q2 := bqn p2; have q3 := bqn p3; have q4 := bqn p4; have q5 := bqn p5); have HN : Hid (lnR [a, z, y] = none) := hid (by first | exact r1_end p1 | exact r1_no p5 | exact r2_label p1 | exact r2_fire p1 | exact r2_no (by assumption) (by assumption) (by assumption) | exact r3_no (by assumption)); go_enter Tryd.func50, Tryd.ntmps50; go_wp2_with ((go_at_call 49; go_loud ((refine (sSplit_any s 32 _ hs).mono ?_); rw [HL.out]; rintro e w' ⟨A, c, rfl, k, rfl, ho⟩; obtain ⟨g, rfl, hw⟩ := ho.own (Nat.succ_pos _); obtain ⟨b8, o8, e8, hb8, hc8⟩ := (inferInstance : Rd 1 sC k.v (some ⟨g, 0, none⟩) [a, z, y]).at_ (Nat.succ_pos _); cases e8; have c0 : k.v.cell? ⟨g, 0, none⟩ = some (.string a) := hc8 0 (by simp) 0 _ rfl; have c1 : k.v.cell? ⟨g, 1, none⟩ = some (.string z) := hc8 1 (by simp) 0 _ rfl; have c2 : k.v.cell? ⟨g, 2, none⟩ = some (.string y) := hc8 2 (by simp) 0 _ rfl; clear hc8))); ((refine bodyPost_ret (v := _) (by simp [results, Tryd.results50, go_sem]; rfl) rfl ?_); refine lnPost_no ⟨0, ⟨#[]⟩, 0⟩ HN.out rfl ?_; (refine Ok.toEx ?_; (repeat (first | (with_reducible exact Ok.rf _) | (with_reducible refine Ok.alloc ?_ _) | (with_reducible refine Ok.ex ?_ _) | (with_reducible refine Ok.drew ?_) | (with_reducible refine Ok.setCellI ?_ _ _ _) | (with_reducible refine Ok.exb ?_ _))))))); (· (obtain ⟨p1, p2, p3, p4, p5⟩ := h; ((first | have q1 := bqn p1 | have q1 := bqp p1); have q2 := bqn p2; have q3 := bqn p3; have q4 := bqn p4; have q5 := bqn p5); have HN : Hid (lnR [a, z, y] = none) := hid (by first | exact r1_end p1 | exact r1_no p5 | exact r2_label p1 | exact r2_fire p1 | exact r2_no (by assumption) (by assumption) (by assumption) | exact r3_no (by assumption)); go_enter Tryd.func50, Tryd.ntmps50; go_wp2_with ((go_at_call 49; go_loud ((refine (sSplit_any s 32 _ hs).mono ?_); rw [HL.out]; rintro e w' ⟨A, c, rfl, k, rfl, ho⟩; obtain ⟨g, rfl, hw⟩ := ho.own (Nat.succ_pos _); obtain ⟨b8, o8, e8, hb8, hc8⟩ := (inferInstance : Rd 1 sC k.v (some ⟨g, 0, none⟩) [a, z, y]).at_ (Nat.succ_pos _); cases e8; have c0 : k.v.cell? ⟨g, 0, none⟩ = some (.string a) := hc8 0 (by simp) 0 _ rfl; have c1 : k.v.cell? ⟨g, 1, none⟩ = some (.string z) := hc8 1 (by simp) 0 _ rfl; have c2 : k.v.cell? ⟨g, 2, none⟩ = some (.string y) := hc8 2 (by simp) 0 _ rfl; clear hc8))); ((refine bodyPost_ret (v := _) (by simp [results, Tryd.results50, go_sem]; rfl) rfl ?_); refine lnPost_no ⟨0, ⟨#[]⟩, 0⟩ HN.out rfl ?_; (refine Ok.toEx ?_; (repeat (first | (with_reducible exact Ok.rf _) | (with_reducible refine Ok.alloc ?_ _) | (with_reducible refine Ok.ex ?_ _) | (with_reducible refine Ok.drew ?_) | (with_reducible refine Ok.setCellI ?_ _ _ _) | (with_reducible refine Ok.exb ?_ _))))))); (· (obtain ⟨p1, p2, p3, p4, p5⟩ := h; ((first | have q1 := bqn p1 | have q1 := bqp p1); have q2 := bqn p2; have q3 := bqn p3; have q4 := bqn p4; have q5 := bqn p5); have HN : Hid (lnR [a, z, y] = none) := hid (by first | exact r1_end p1 | exact r1_no p5 | exact r2_label p1 | exact r2_fire p1 | exact r2_no (by assumption) (by assumption) (by assumption) | exact r3_no (by assumption)); go_enter Tryd.func50, Tryd.ntmps50; go_wp2_with ((go_at_call 49; go_loud ((refine (sSplit_any s 32 _ hs).mono ?_); rw [HL.out]; rintro e w' ⟨A, c, rfl, k, rfl, ho⟩; obtain ⟨g, rfl, hw⟩ := ho.own (Nat.succ_pos _); obtain ⟨b8, o8, e8, hb8, hc8⟩ := (inferInstance : Rd 1 sC k.v (some ⟨g, 0, none⟩) [a, z, y]).at_ (Nat.succ_pos _); cases e8; have c0 : k.v.cell? ⟨g, 0, none⟩ = some (.string a) := hc8 0 (by simp) 0 _ rfl; have c1 : k.v.cell? ⟨g, 1, none⟩ = some (.string z) := hc8 1 (by simp) 0 _ rfl; have c2 : k.v.cell? ⟨g, 2, none⟩ = some (.string y) := hc8 2 (by simp) 0 _ rfl; clear hc8))); ((refine bodyPost_ret (v := _) (by simp [results, Tryd.results50, go_sem]; rfl) rfl ?_); refine lnPost_no ⟨0, ⟨#[]⟩, 0⟩ HN.out rfl ?_; (refine Ok.toEx ?_; (repeat (first | (with_reducible exact Ok.rf _) | (with_reducible refine Ok.alloc ?_ _) | (with_reducible refine Ok.ex ?_ _) | (with_reducible refine Ok.drew ?_) | (with_reducible refine Ok.setCellI ?_ _ _ _) | (with_reducible refine Ok.exb ?_ _))))))); (· (obtain ⟨p1, p2, p3, p4, p5⟩ := h; ((first | have q1 := bqn p1 | have q1 := bqp p1); have q2 := bqn p2; have q3 := bqn p3; have q4 := bqn p4; have q5 := bqn p5); have hzs := (HZ.out y (by simp)); obtain ⟨bb, hbb⟩ : ∃ b, rdO y = b := ⟨_, rfl⟩; have HB := hid hbb; clear hbb; cases bb; (· have HN : Hid (lnR [a, z, y] = none) := hid (by first | exact r2_wait p1 HB.out | exact r2_waitN p1 HB.out | exact r3_jump p1 HB.out | exact r3_jumpN p1 HB.out); go_enter Tryd.func50, Tryd.ntmps50; go_wp2_with ((first | (go_at_call 49; go_loud ((refine (sSplit_any s 32 _ hs).mono ?_); rw [HL.out]; rintro e w' ⟨A, c, rfl, k, rfl, ho⟩; obtain ⟨g, rfl, hw⟩ := ho.own (Nat.succ_pos _); obtain ⟨b8, o8, e8, hb8, hc8⟩ := (inferInstance : Rd 1 sC k.v (some ⟨g, 0, none⟩) [a, z, y]).at_ (Nat.succ_pos _); cases e8; have c0 : k.v.cell? ⟨g, 0, none⟩ = some (.string a) := hc8 0 (by simp) 0 _ rfl; have c1 : k.v.cell? ⟨g, 1, none⟩ = some (.string z) := hc8 1 (by simp) 0 _ rfl; have c2 : k.v.cell? ⟨g, 2, none⟩ = some (.string y) := hc8 2 (by simp) 0 _ rfl; clear hc8)) | (go_at_call 69; go_loud ((with_reducible refine (sNum_any y _ hzs).mono ?_); rw [HB.out]; rintro e w' ⟨rfl, rfl⟩)))); ((refine bodyPost_ret (v := _) (by simp [results, Tryd.results50, go_sem]; rfl) rfl ?_); refine lnPost_no ⟨4, z, rdV y⟩ HN.out rfl ?_; (refine Ok.toEx ?_; (repeat (first | (with_reducible exact Ok.rf _) | (with_reducible refine Ok.alloc ?_ _) | (with_reducible refine Ok.ex ?_ _) | (with_reducible refine Ok.drew ?_) | (with_reducible refine Ok.setCellI ?_ _ _ _) | (with_reducible refine Ok.exb ?_ _)))))); (· have HN : Hid (lnR [a, z, y] = some ⟨4, z, rdV y⟩) := hid (by first | exact r2_wait p1 HB.out | exact r2_waitN p1 HB.out | exact r3_jump p1 HB.out | exact r3_jumpN p1 HB.out); go_enter Tryd.func50, Tryd.ntmps50; go_wp2_with ((first | (go_at_call 49; go_loud ((refine (sSplit_any s 32 _ hs).mono ?_); rw [HL.out]; rintro e w' ⟨A, c, rfl, k, rfl, ho⟩; obtain ⟨g, rfl, hw⟩ := ho.own (Nat.succ_pos _); obtain ⟨b8, o8, e8, hb8, hc8⟩ := (inferInstance : Rd 1 sC k.v (some ⟨g, 0, none⟩) [a, z, y]).at_ (Nat.succ_pos _); cases e8; have c0 : k.v.cell? ⟨g, 0, none⟩ = some (.string a) := hc8 0 (by simp) 0 _ rfl; have c1 : k.v.cell? ⟨g, 1, none⟩ = some (.string z) := hc8 1 (by simp) 0 _ rfl; have c2 : k.v.cell? ⟨g, 2, none⟩ = some (.string y) := hc8 2 (by simp) 0 _ rfl; clear hc8)) | (go_at_call 69; go_loud ((with_reducible refine (sNum_any y _ hzs).mono ?_); rw [HB.out]; rintro e w' ⟨rfl, rfl⟩)))); ((refine bodyPost_ret (v := _) (by simp [results, Tryd.results50, go_sem]; rfl) rfl ?_); refine lnPost_yes ⟨4, z, rdV y⟩ HN.out rfl ?_; (refine Ok.toEx ?_; (repeat (first | (with_reducible exact Ok.rf _) | (with_reducible refine Ok.alloc ?_ _) | (with_reducible refine Ok.ex ?_ _) | (with_reducible refine Ok.drew ?_) | (with_reducible refine Ok.setCellI ?_ _ _ _) | (with_reducible refine Ok.exb ?_ _)))))))); (· (obtain ⟨p1, p2, p3, p4, p5⟩ := h; ((first | have q1 := bqn p1 | have q1 := bqp p1); have q2 := bqn p2; have q3 := bqn p3; have q4 := bqn p4; have q5 := bqn p5); have HN : Hid (lnR [a, z, y] = none) := hid (by first | exact r1_end p1 | exact r1_no p5 | exact r2_label p1 | exact r2_fire p1 | exact r2_no (by assumption) (by assumption) (by assumption) | exact r3_no (by assumption)); go_enter Tryd.func50, Tryd.ntmps50; go_wp2_with ((go_at_call 49; go_loud ((refine (sSplit_any s 32 _ hs).mono ?_); rw [HL.out]; rintro e w' ⟨A, c, rfl, k, rfl, ho⟩; obtain ⟨g, rfl, hw⟩ := ho.own (Nat.succ_pos _); obtain ⟨b8, o8, e8, hb8, hc8⟩ := (inferInstance : Rd 1 sC k.v (some ⟨g, 0, none⟩) [a, z, y]).at_ (Nat.succ_pos _); cases e8; have c0 : k.v.cell? ⟨g, 0, none⟩ = some (.string a) := hc8 0 (by simp) 0 _ rfl; have c1 : k.v.cell? ⟨g, 1, none⟩ = some (.string z) := hc8 1 (by simp) 0 _ rfl; have c2 : k.v.cell? ⟨g, 2, none⟩ = some (.string y) := hc8 2 (by simp) 0 _ rfl; clear hc8))); ((refine bodyPost_ret (v := _) (by simp [results, Tryd.results50, go_sem]; rfl) rfl ?_); refine lnPost_no ⟨0, ⟨#[]⟩, 0⟩ HN.out rfl ?_; (refine Ok.toEx ?_; (repeat (first | (with_reducible exact Ok.rf _) | (with_reducible refine Ok.alloc ?_ _) | (with_reducible refine Ok.ex ?_ _) | (with_reducible refine Ok.drew ?_) | (with_reducible refine Ok.setCellI ?_ _ _ _) | (with_reducible refine Ok.exb ?_ _))))))); (· (obtain ⟨p1, p2, p3, p4, p5⟩ := h; ((first | have q1 := bqn p1 | have q1 := bqp p1); have q2 := bqn p2; have q3 := bqn p3; have q4 := bqn p4; have q5 := bqn p5); have HN : Hid (lnR [a, z, y] = none) := hid (by first | exact r1_end p1 | exact r1_no p5 | exact r2_label p1 | exact r2_fire p1 | exact r2_no (by assumption) (by assumption) (by assumption) | exact r3_no (by assumption)); go_enter Tryd.func50, Tryd.ntmps50; go_wp2_with ((go_at_call 49; go_loud ((refine (sSplit_any s 32 _ hs).mono ?_); rw [HL.out]; rintro e w' ⟨A, c, rfl, k, rfl, ho⟩; obtain ⟨g, rfl, hw⟩ := ho.own (Nat.succ_pos _); obtain ⟨b8, o8, e8, hb8, hc8⟩ := (inferInstance : Rd 1 sC k.v (some ⟨g, 0, none⟩) [a, z, y]).at_ (Nat.succ_pos _); cases e8; have c0 : k.v.cell? ⟨g, 0, none⟩ = some (.string a) := hc8 0 (by simp) 0 _ rfl; have c1 : k.v.cell? ⟨g, 1, none⟩ = some (.string z) := hc8 1 (by simp) 0 _ rfl; have c2 : k.v.cell? ⟨g, 2, none⟩ = some (.string y) := hc8 2 (by simp) 0 _ rfl; clear hc8))); ((refine bodyPost_ret (v := _) (by simp [results, Tryd.results50, go_sem]; rfl) rfl ?_); refine lnPost_no ⟨0, ⟨#[]⟩, 0⟩ HN.out rfl ?_; (refine Ok.toEx ?_; (repeat (first | (with_reducible exact Ok.rf _) | (with_reducible refine Ok.alloc ?_ _) | (with_reducible refine Ok.ex ?_ _) | (with_reducible refine Ok.drew ?_) | (with_reducible refine Ok.setCellI ?_ _ _ _) | (with_reducible refine Ok.exb ?_ _))))))))
  · have HN := hid (lnR_big h4)
    obtain ⟨a, r, hr⟩ : ∃ a r, L = a :: r := by
      cases L with
      | nil => exact absurd rfl hne
      | cons a r => exact ⟨a, r, rfl⟩
    have lN : 0 < L.length := by omega
    have HA0 : Hid (L[0]'lN = a) := hid (by subst hr; rfl)
    have l0 : (0 : Int) < (L.length : Int) := by omega
    have l1 : ¬ (L.length : Int) = 1 := by omega
    have l2 : ¬ (L.length : Int) = 2 := by omega
    have l3 : ¬ (L.length : Int) = 3 := by omega
    have b1 : ((L.length : Int) == 1) = false := by rw [beq_eq_false_iff_ne]; exact l1
    have b2 : ((L.length : Int) == 2) = false := by rw [beq_eq_false_iff_ne]; exact l2
    have b3 : ((L.length : Int) == 3) = false := by rw [beq_eq_false_iff_ne]; exact l3
    clear hr h4
    rcases w6 a with h | h | h | h | h | h
    all_goals
      obtain ⟨p1, p2, p3, p4, p5⟩ := h
      ((first | have q1 := bqn p1 | have q1 := bqp p1); have q2 := bqn p2; have q3 := bqn p3; have q4 := bqn p4; have q5 := bqn p5)
      go_enter Tryd.func50, Tryd.ntmps50
      go_wp2_with ((go_at_call 49; go_loud ((refine (sSplit_any s 32 _ hs).mono ?_); rw [HL.out]; rintro e w' ⟨A, c, rfl, k, rfl, ho⟩; obtain ⟨g, rfl, hw⟩ := ho.own lN; obtain ⟨b8, o8, e8, hb8, hc8⟩ := (inferInstance : Rd 1 sC k.v (some ⟨g, 0, none⟩) L).at_ lN; cases e8; have c0 : k.v.cell? ⟨g, 0, none⟩ = some (.string a) := (by have := hc8 0 lN 0 _ rfl; rw [HA0.out] at this; simpa using this); clear hc8)))
      ((refine bodyPost_ret (v := _) (by simp [results, Tryd.results50, go_sem]; rfl) rfl ?_); refine lnPost_no ⟨0, ⟨#[]⟩, 0⟩ HN.out rfl ?_; (refine Ok.toEx ?_; (repeat (first | (with_reducible exact Ok.rf _) | (with_reducible refine Ok.alloc ?_ _) | (with_reducible refine Ok.ex ?_ _) | (with_reducible refine Ok.drew ?_) | (with_reducible refine Ok.setCellI ?_ _ _ _) | (with_reducible refine Ok.exb ?_ _)))))
theorem iLine_any (s : ByteArray) (w : World) [Tb w] [Es w] [Er w] [Ml w] (hs : s.size ≤ 1048576) :
    Calls Tryd.prog 28 #[.string s] w (LnPost (wdS s) w) := by
  have HZ : Hid (∀ g ∈ wdS s, g.size ≤ 1048576) := hid fun g hg => Nat.le_trans (wd_size hg) hs
  obtain ⟨L, hL⟩ : ∃ L, wdS s = L := ⟨_, rfl⟩
  have HL := hid hL
  rw [hL] at HZ ⊢
  clear hL
  rcases len_cases L with rfl | ⟨a, rfl⟩ | ⟨a, z, rfl⟩ | ⟨a, z, y, rfl⟩ | h4
  · have HN : Hid (lnR [] = none) := hid rfl
    go_enter Tryd.func28, Tryd.ntmps28
    go_wp2_with ((go_at_call 54; go_loud ((refine (iSplit_any s _ hs).mono ?_); rw [HL.out]; rintro e w' ⟨A, c, rfl, k, rfl, ho, -⟩)))
    ((refine bodyPost_ret (v := _) (by simp [results, Tryd.results28, go_sem]; rfl) rfl ?_); refine lnPost_no ⟨0, ⟨#[]⟩, 0⟩ HN.out rfl ?_; (refine Ok.toEx ?_; (repeat (first | (with_reducible exact Ok.rf _) | (with_reducible refine Ok.alloc ?_ _) | (with_reducible refine Ok.ex ?_ _) | (with_reducible refine Ok.drew ?_) | (with_reducible refine Ok.setCellI ?_ _ _ _) | (with_reducible refine Ok.exb ?_ _)))))
  · (rcases w6 a with h | h | h | h | h | h; (· (obtain ⟨p1, p2, p3, p4, p5⟩ := h; ((first | have q1 := bqn p1 | have q1 := bqp p1); have q2 := bqn p2; have q3 := bqn p3; have q4 := bqn p4; have q5 := bqn p5); have HN : Hid (lnR [a] = none) := hid (by first | exact r1_end p1 | exact r1_no p5 | exact r2_label p1 | exact r2_fire p1 | exact r2_no (by assumption) (by assumption) (by assumption) | exact r3_no (by assumption)); go_enter Tryd.func28, Tryd.ntmps28; go_wp2_with ((go_at_call 54; go_loud ((refine (iSplit_any s _ hs).mono ?_); rw [HL.out]; rintro e w' ⟨A, c, rfl, k, rfl, ho, -⟩; obtain ⟨g, rfl, hw⟩ := ho.own (Nat.succ_pos _); obtain ⟨b8, o8, e8, hb8, hc8⟩ := (inferInstance : Rd 1 sC k.v (some ⟨g, 0, none⟩) [a]).at_ (Nat.succ_pos _); cases e8; have c0 : k.v.cell? ⟨g, 0, none⟩ = some (.string a) := hc8 0 (by simp) 0 _ rfl; clear hc8))); ((refine bodyPost_ret (v := _) (by simp [results, Tryd.results28, go_sem]; rfl) rfl ?_); refine lnPost_no ⟨0, ⟨#[]⟩, 0⟩ HN.out rfl ?_; (refine Ok.toEx ?_; (repeat (first | (with_reducible exact Ok.rf _) | (with_reducible refine Ok.alloc ?_ _) | (with_reducible refine Ok.ex ?_ _) | (with_reducible refine Ok.drew ?_) | (with_reducible refine Ok.setCellI ?_ _ _ _) | (with_reducible refine Ok.exb ?_ _))))))); (· (obtain ⟨p1, p2, p3, p4, p5⟩ := h; ((first | have q1 := bqn p1 | have q1 := bqp p1); have q2 := bqn p2; have q3 := bqn p3; have q4 := bqn p4; have q5 := bqn p5); have HN : Hid (lnR [a] = none) := hid (by first | exact r1_end p1 | exact r1_no p5 | exact r2_label p1 | exact r2_fire p1 | exact r2_no (by assumption) (by assumption) (by assumption) | exact r3_no (by assumption)); go_enter Tryd.func28, Tryd.ntmps28; go_wp2_with ((go_at_call 54; go_loud ((refine (iSplit_any s _ hs).mono ?_); rw [HL.out]; rintro e w' ⟨A, c, rfl, k, rfl, ho, -⟩; obtain ⟨g, rfl, hw⟩ := ho.own (Nat.succ_pos _); obtain ⟨b8, o8, e8, hb8, hc8⟩ := (inferInstance : Rd 1 sC k.v (some ⟨g, 0, none⟩) [a]).at_ (Nat.succ_pos _); cases e8; have c0 : k.v.cell? ⟨g, 0, none⟩ = some (.string a) := hc8 0 (by simp) 0 _ rfl; clear hc8))); ((refine bodyPost_ret (v := _) (by simp [results, Tryd.results28, go_sem]; rfl) rfl ?_); refine lnPost_no ⟨0, ⟨#[]⟩, 0⟩ HN.out rfl ?_; (refine Ok.toEx ?_; (repeat (first | (with_reducible exact Ok.rf _) | (with_reducible refine Ok.alloc ?_ _) | (with_reducible refine Ok.ex ?_ _) | (with_reducible refine Ok.drew ?_) | (with_reducible refine Ok.setCellI ?_ _ _ _) | (with_reducible refine Ok.exb ?_ _))))))); (· (obtain ⟨p1, p2, p3, p4, p5⟩ := h; ((first | have q1 := bqn p1 | have q1 := bqp p1); have q2 := bqn p2; have q3 := bqn p3; have q4 := bqn p4; have q5 := bqn p5); have HN : Hid (lnR [a] = none) := hid (by first | exact r1_end p1 | exact r1_no p5 | exact r2_label p1 | exact r2_fire p1 | exact r2_no (by assumption) (by assumption) (by assumption) | exact r3_no (by assumption)); go_enter Tryd.func28, Tryd.ntmps28; go_wp2_with ((go_at_call 54; go_loud ((refine (iSplit_any s _ hs).mono ?_); rw [HL.out]; rintro e w' ⟨A, c, rfl, k, rfl, ho, -⟩; obtain ⟨g, rfl, hw⟩ := ho.own (Nat.succ_pos _); obtain ⟨b8, o8, e8, hb8, hc8⟩ := (inferInstance : Rd 1 sC k.v (some ⟨g, 0, none⟩) [a]).at_ (Nat.succ_pos _); cases e8; have c0 : k.v.cell? ⟨g, 0, none⟩ = some (.string a) := hc8 0 (by simp) 0 _ rfl; clear hc8))); ((refine bodyPost_ret (v := _) (by simp [results, Tryd.results28, go_sem]; rfl) rfl ?_); refine lnPost_no ⟨0, ⟨#[]⟩, 0⟩ HN.out rfl ?_; (refine Ok.toEx ?_; (repeat (first | (with_reducible exact Ok.rf _) | (with_reducible refine Ok.alloc ?_ _) | (with_reducible refine Ok.ex ?_ _) | (with_reducible refine Ok.drew ?_) | (with_reducible refine Ok.setCellI ?_ _ _ _) | (with_reducible refine Ok.exb ?_ _))))))); (· (obtain ⟨p1, p2, p3, p4, p5⟩ := h; ((first | have q1 := bqn p1 | have q1 := bqp p1); have q2 := bqn p2; have q3 := bqn p3; have q4 := bqn p4; have q5 := bqn p5); have HN : Hid (lnR [a] = none) := hid (by first | exact r1_end p1 | exact r1_no p5 | exact r2_label p1 | exact r2_fire p1 | exact r2_no (by assumption) (by assumption) (by assumption) | exact r3_no (by assumption)); go_enter Tryd.func28, Tryd.ntmps28; go_wp2_with ((go_at_call 54; go_loud ((refine (iSplit_any s _ hs).mono ?_); rw [HL.out]; rintro e w' ⟨A, c, rfl, k, rfl, ho, -⟩; obtain ⟨g, rfl, hw⟩ := ho.own (Nat.succ_pos _); obtain ⟨b8, o8, e8, hb8, hc8⟩ := (inferInstance : Rd 1 sC k.v (some ⟨g, 0, none⟩) [a]).at_ (Nat.succ_pos _); cases e8; have c0 : k.v.cell? ⟨g, 0, none⟩ = some (.string a) := hc8 0 (by simp) 0 _ rfl; clear hc8))); ((refine bodyPost_ret (v := _) (by simp [results, Tryd.results28, go_sem]; rfl) rfl ?_); refine lnPost_no ⟨0, ⟨#[]⟩, 0⟩ HN.out rfl ?_; (refine Ok.toEx ?_; (repeat (first | (with_reducible exact Ok.rf _) | (with_reducible refine Ok.alloc ?_ _) | (with_reducible refine Ok.ex ?_ _) | (with_reducible refine Ok.drew ?_) | (with_reducible refine Ok.setCellI ?_ _ _ _) | (with_reducible refine Ok.exb ?_ _))))))); (· (obtain ⟨p1, p2, p3, p4, p5⟩ := h; ((first | have q1 := bqn p1 | have q1 := bqp p1); have q2 := bqn p2; have q3 := bqn p3; have q4 := bqn p4; have q5 := bqn p5); have HN : Hid (lnR [a] = some ⟨5, ⟨#[]⟩, 0⟩) := hid (by first | exact r1_end p1 | exact r1_no p5 | exact r2_label p1 | exact r2_fire p1 | exact r2_no (by assumption) (by assumption) (by assumption) | exact r3_no (by assumption)); go_enter Tryd.func28, Tryd.ntmps28; go_wp2_with ((go_at_call 54; go_loud ((refine (iSplit_any s _ hs).mono ?_); rw [HL.out]; rintro e w' ⟨A, c, rfl, k, rfl, ho, -⟩; obtain ⟨g, rfl, hw⟩ := ho.own (Nat.succ_pos _); obtain ⟨b8, o8, e8, hb8, hc8⟩ := (inferInstance : Rd 1 sC k.v (some ⟨g, 0, none⟩) [a]).at_ (Nat.succ_pos _); cases e8; have c0 : k.v.cell? ⟨g, 0, none⟩ = some (.string a) := hc8 0 (by simp) 0 _ rfl; clear hc8))); ((refine bodyPost_ret (v := _) (by simp [results, Tryd.results28, go_sem]; rfl) rfl ?_); refine lnPost_yes ⟨5, ⟨#[]⟩, 0⟩ HN.out rfl ?_; (refine Ok.toEx ?_; (repeat (first | (with_reducible exact Ok.rf _) | (with_reducible refine Ok.alloc ?_ _) | (with_reducible refine Ok.ex ?_ _) | (with_reducible refine Ok.drew ?_) | (with_reducible refine Ok.setCellI ?_ _ _ _) | (with_reducible refine Ok.exb ?_ _))))))); (· (obtain ⟨p1, p2, p3, p4, p5⟩ := h; ((first | have q1 := bqn p1 | have q1 := bqp p1); have q2 := bqn p2; have q3 := bqn p3; have q4 := bqn p4; have q5 := bqn p5); have HN : Hid (lnR [a] = none) := hid (by first | exact r1_end p1 | exact r1_no p5 | exact r2_label p1 | exact r2_fire p1 | exact r2_no (by assumption) (by assumption) (by assumption) | exact r3_no (by assumption)); go_enter Tryd.func28, Tryd.ntmps28; go_wp2_with ((go_at_call 54; go_loud ((refine (iSplit_any s _ hs).mono ?_); rw [HL.out]; rintro e w' ⟨A, c, rfl, k, rfl, ho, -⟩; obtain ⟨g, rfl, hw⟩ := ho.own (Nat.succ_pos _); obtain ⟨b8, o8, e8, hb8, hc8⟩ := (inferInstance : Rd 1 sC k.v (some ⟨g, 0, none⟩) [a]).at_ (Nat.succ_pos _); cases e8; have c0 : k.v.cell? ⟨g, 0, none⟩ = some (.string a) := hc8 0 (by simp) 0 _ rfl; clear hc8))); ((refine bodyPost_ret (v := _) (by simp [results, Tryd.results28, go_sem]; rfl) rfl ?_); refine lnPost_no ⟨0, ⟨#[]⟩, 0⟩ HN.out rfl ?_; (refine Ok.toEx ?_; (repeat (first | (with_reducible exact Ok.rf _) | (with_reducible refine Ok.alloc ?_ _) | (with_reducible refine Ok.ex ?_ _) | (with_reducible refine Ok.drew ?_) | (with_reducible refine Ok.setCellI ?_ _ _ _) | (with_reducible refine Ok.exb ?_ _))))))))
  · (rcases w6 a with h | h | h | h | h | h; (· (obtain ⟨p1, p2, p3, p4, p5⟩ := h; ((first | have q1 := bqn p1 | have q1 := bqp p1); have q2 := bqn p2; have q3 := bqn p3; have q4 := bqn p4; have q5 := bqn p5); have HN : Hid (lnR [a, z] = some ⟨1, z, 0⟩) := hid (by first | exact r1_end p1 | exact r1_no p5 | exact r2_label p1 | exact r2_fire p1 | exact r2_no (by assumption) (by assumption) (by assumption) | exact r3_no (by assumption)); go_enter Tryd.func28, Tryd.ntmps28; go_wp2_with ((go_at_call 54; go_loud ((refine (iSplit_any s _ hs).mono ?_); rw [HL.out]; rintro e w' ⟨A, c, rfl, k, rfl, ho, -⟩; obtain ⟨g, rfl, hw⟩ := ho.own (Nat.succ_pos _); obtain ⟨b8, o8, e8, hb8, hc8⟩ := (inferInstance : Rd 1 sC k.v (some ⟨g, 0, none⟩) [a, z]).at_ (Nat.succ_pos _); cases e8; have c0 : k.v.cell? ⟨g, 0, none⟩ = some (.string a) := hc8 0 (by simp) 0 _ rfl; have c1 : k.v.cell? ⟨g, 1, none⟩ = some (.string z) := hc8 1 (by simp) 0 _ rfl; clear hc8))); ((refine bodyPost_ret (v := _) (by simp [results, Tryd.results28, go_sem]; rfl) rfl ?_); refine lnPost_yes ⟨1, z, 0⟩ HN.out rfl ?_; (refine Ok.toEx ?_; (repeat (first | (with_reducible exact Ok.rf _) | (with_reducible refine Ok.alloc ?_ _) | (with_reducible refine Ok.ex ?_ _) | (with_reducible refine Ok.drew ?_) | (with_reducible refine Ok.setCellI ?_ _ _ _) | (with_reducible refine Ok.exb ?_ _))))))); (· (obtain ⟨p1, p2, p3, p4, p5⟩ := h; ((first | have q1 := bqn p1 | have q1 := bqp p1); have q2 := bqn p2; have q3 := bqn p3; have q4 := bqn p4; have q5 := bqn p5); have hzs := (HZ.out z (by simp)); obtain ⟨bb, hbb⟩ : ∃ b, rdO z = b := ⟨_, rfl⟩; have HB := hid hbb; clear hbb; cases bb; (· have HN : Hid (lnR [a, z] = none) := hid (by first | exact r2_wait p1 HB.out | exact r2_waitN p1 HB.out | exact r3_jump p1 HB.out | exact r3_jumpN p1 HB.out); go_enter Tryd.func28, Tryd.ntmps28; go_wp2_with ((first | (go_at_call 54; go_loud ((refine (iSplit_any s _ hs).mono ?_); rw [HL.out]; rintro e w' ⟨A, c, rfl, k, rfl, ho, -⟩; obtain ⟨g, rfl, hw⟩ := ho.own (Nat.succ_pos _); obtain ⟨b8, o8, e8, hb8, hc8⟩ := (inferInstance : Rd 1 sC k.v (some ⟨g, 0, none⟩) [a, z]).at_ (Nat.succ_pos _); cases e8; have c0 : k.v.cell? ⟨g, 0, none⟩ = some (.string a) := hc8 0 (by simp) 0 _ rfl; have c1 : k.v.cell? ⟨g, 1, none⟩ = some (.string z) := hc8 1 (by simp) 0 _ rfl; clear hc8)) | (go_at_call 55; go_loud ((with_reducible refine (iNum_any z _ hzs).mono ?_); rw [HB.out]; rintro e w' ⟨rfl, kn, rfl⟩)))); ((refine bodyPost_ret (v := _) (by simp [results, Tryd.results28, go_sem]; rfl) rfl ?_); refine lnPost_no ⟨2, ⟨#[]⟩, rdV z⟩ HN.out rfl ?_; (refine Ok.toEx ?_; (repeat (first | (with_reducible exact Ok.rf _) | (with_reducible refine Ok.alloc ?_ _) | (with_reducible refine Ok.ex ?_ _) | (with_reducible refine Ok.drew ?_) | (with_reducible refine Ok.setCellI ?_ _ _ _) | (with_reducible refine Ok.exb ?_ _)))))); (· have HN : Hid (lnR [a, z] = some ⟨2, ⟨#[]⟩, rdV z⟩) := hid (by first | exact r2_wait p1 HB.out | exact r2_waitN p1 HB.out | exact r3_jump p1 HB.out | exact r3_jumpN p1 HB.out); go_enter Tryd.func28, Tryd.ntmps28; go_wp2_with ((first | (go_at_call 54; go_loud ((refine (iSplit_any s _ hs).mono ?_); rw [HL.out]; rintro e w' ⟨A, c, rfl, k, rfl, ho, -⟩; obtain ⟨g, rfl, hw⟩ := ho.own (Nat.succ_pos _); obtain ⟨b8, o8, e8, hb8, hc8⟩ := (inferInstance : Rd 1 sC k.v (some ⟨g, 0, none⟩) [a, z]).at_ (Nat.succ_pos _); cases e8; have c0 : k.v.cell? ⟨g, 0, none⟩ = some (.string a) := hc8 0 (by simp) 0 _ rfl; have c1 : k.v.cell? ⟨g, 1, none⟩ = some (.string z) := hc8 1 (by simp) 0 _ rfl; clear hc8)) | (go_at_call 55; go_loud ((with_reducible refine (iNum_any z _ hzs).mono ?_); rw [HB.out]; rintro e w' ⟨rfl, kn, rfl⟩)))); ((refine bodyPost_ret (v := _) (by simp [results, Tryd.results28, go_sem]; rfl) rfl ?_); refine lnPost_yes ⟨2, ⟨#[]⟩, rdV z⟩ HN.out rfl ?_; (refine Ok.toEx ?_; (repeat (first | (with_reducible exact Ok.rf _) | (with_reducible refine Ok.alloc ?_ _) | (with_reducible refine Ok.ex ?_ _) | (with_reducible refine Ok.drew ?_) | (with_reducible refine Ok.setCellI ?_ _ _ _) | (with_reducible refine Ok.exb ?_ _)))))))); (· (obtain ⟨p1, p2, p3, p4, p5⟩ := h; ((first | have q1 := bqn p1 | have q1 := bqp p1); have q2 := bqn p2; have q3 := bqn p3; have q4 := bqn p4; have q5 := bqn p5); have HN : Hid (lnR [a, z] = some ⟨3, z, 0⟩) := hid (by first | exact r1_end p1 | exact r1_no p5 | exact r2_label p1 | exact r2_fire p1 | exact r2_no (by assumption) (by assumption) (by assumption) | exact r3_no (by assumption)); go_enter Tryd.func28, Tryd.ntmps28; go_wp2_with ((go_at_call 54; go_loud ((refine (iSplit_any s _ hs).mono ?_); rw [HL.out]; rintro e w' ⟨A, c, rfl, k, rfl, ho, -⟩; obtain ⟨g, rfl, hw⟩ := ho.own (Nat.succ_pos _); obtain ⟨b8, o8, e8, hb8, hc8⟩ := (inferInstance : Rd 1 sC k.v (some ⟨g, 0, none⟩) [a, z]).at_ (Nat.succ_pos _); cases e8; have c0 : k.v.cell? ⟨g, 0, none⟩ = some (.string a) := hc8 0 (by simp) 0 _ rfl; have c1 : k.v.cell? ⟨g, 1, none⟩ = some (.string z) := hc8 1 (by simp) 0 _ rfl; clear hc8))); ((refine bodyPost_ret (v := _) (by simp [results, Tryd.results28, go_sem]; rfl) rfl ?_); refine lnPost_yes ⟨3, z, 0⟩ HN.out rfl ?_; (refine Ok.toEx ?_; (repeat (first | (with_reducible exact Ok.rf _) | (with_reducible refine Ok.alloc ?_ _) | (with_reducible refine Ok.ex ?_ _) | (with_reducible refine Ok.drew ?_) | (with_reducible refine Ok.setCellI ?_ _ _ _) | (with_reducible refine Ok.exb ?_ _))))))); (· (obtain ⟨p1, p2, p3, p4, p5⟩ := h; ((first | have q1 := bqn p1 | have q1 := bqp p1); have q2 := bqn p2; have q3 := bqn p3; have q4 := bqn p4; have q5 := bqn p5); have HN : Hid (lnR [a, z] = none) := hid (by first | exact r1_end p1 | exact r1_no p5 | exact r2_label p1 | exact r2_fire p1 | exact r2_no (by assumption) (by assumption) (by assumption) | exact r3_no (by assumption)); go_enter Tryd.func28, Tryd.ntmps28; go_wp2_with ((go_at_call 54; go_loud ((refine (iSplit_any s _ hs).mono ?_); rw [HL.out]; rintro e w' ⟨A, c, rfl, k, rfl, ho, -⟩; obtain ⟨g, rfl, hw⟩ := ho.own (Nat.succ_pos _); obtain ⟨b8, o8, e8, hb8, hc8⟩ := (inferInstance : Rd 1 sC k.v (some ⟨g, 0, none⟩) [a, z]).at_ (Nat.succ_pos _); cases e8; have c0 : k.v.cell? ⟨g, 0, none⟩ = some (.string a) := hc8 0 (by simp) 0 _ rfl; have c1 : k.v.cell? ⟨g, 1, none⟩ = some (.string z) := hc8 1 (by simp) 0 _ rfl; clear hc8))); ((refine bodyPost_ret (v := _) (by simp [results, Tryd.results28, go_sem]; rfl) rfl ?_); refine lnPost_no ⟨0, ⟨#[]⟩, 0⟩ HN.out rfl ?_; (refine Ok.toEx ?_; (repeat (first | (with_reducible exact Ok.rf _) | (with_reducible refine Ok.alloc ?_ _) | (with_reducible refine Ok.ex ?_ _) | (with_reducible refine Ok.drew ?_) | (with_reducible refine Ok.setCellI ?_ _ _ _) | (with_reducible refine Ok.exb ?_ _))))))); (· (obtain ⟨p1, p2, p3, p4, p5⟩ := h; ((first | have q1 := bqn p1 | have q1 := bqp p1); have q2 := bqn p2; have q3 := bqn p3; have q4 := bqn p4; have q5 := bqn p5); have HN : Hid (lnR [a, z] = none) := hid (by first | exact r1_end p1 | exact r1_no p5 | exact r2_label p1 | exact r2_fire p1 | exact r2_no (by assumption) (by assumption) (by assumption) | exact r3_no (by assumption)); go_enter Tryd.func28, Tryd.ntmps28; go_wp2_with ((go_at_call 54; go_loud ((refine (iSplit_any s _ hs).mono ?_); rw [HL.out]; rintro e w' ⟨A, c, rfl, k, rfl, ho, -⟩; obtain ⟨g, rfl, hw⟩ := ho.own (Nat.succ_pos _); obtain ⟨b8, o8, e8, hb8, hc8⟩ := (inferInstance : Rd 1 sC k.v (some ⟨g, 0, none⟩) [a, z]).at_ (Nat.succ_pos _); cases e8; have c0 : k.v.cell? ⟨g, 0, none⟩ = some (.string a) := hc8 0 (by simp) 0 _ rfl; have c1 : k.v.cell? ⟨g, 1, none⟩ = some (.string z) := hc8 1 (by simp) 0 _ rfl; clear hc8))); ((refine bodyPost_ret (v := _) (by simp [results, Tryd.results28, go_sem]; rfl) rfl ?_); refine lnPost_no ⟨0, ⟨#[]⟩, 0⟩ HN.out rfl ?_; (refine Ok.toEx ?_; (repeat (first | (with_reducible exact Ok.rf _) | (with_reducible refine Ok.alloc ?_ _) | (with_reducible refine Ok.ex ?_ _) | (with_reducible refine Ok.drew ?_) | (with_reducible refine Ok.setCellI ?_ _ _ _) | (with_reducible refine Ok.exb ?_ _))))))); (· (obtain ⟨p1, p2, p3, p4, p5⟩ := h; ((first | have q1 := bqn p1 | have q1 := bqp p1); have q2 := bqn p2; have q3 := bqn p3; have q4 := bqn p4; have q5 := bqn p5); have HN : Hid (lnR [a, z] = none) := hid (by first | exact r1_end p1 | exact r1_no p5 | exact r2_label p1 | exact r2_fire p1 | exact r2_no (by assumption) (by assumption) (by assumption) | exact r3_no (by assumption)); go_enter Tryd.func28, Tryd.ntmps28; go_wp2_with ((go_at_call 54; go_loud ((refine (iSplit_any s _ hs).mono ?_); rw [HL.out]; rintro e w' ⟨A, c, rfl, k, rfl, ho, -⟩; obtain ⟨g, rfl, hw⟩ := ho.own (Nat.succ_pos _); obtain ⟨b8, o8, e8, hb8, hc8⟩ := (inferInstance : Rd 1 sC k.v (some ⟨g, 0, none⟩) [a, z]).at_ (Nat.succ_pos _); cases e8; have c0 : k.v.cell? ⟨g, 0, none⟩ = some (.string a) := hc8 0 (by simp) 0 _ rfl; have c1 : k.v.cell? ⟨g, 1, none⟩ = some (.string z) := hc8 1 (by simp) 0 _ rfl; clear hc8))); ((refine bodyPost_ret (v := _) (by simp [results, Tryd.results28, go_sem]; rfl) rfl ?_); refine lnPost_no ⟨0, ⟨#[]⟩, 0⟩ HN.out rfl ?_; (refine Ok.toEx ?_; (repeat (first | (with_reducible exact Ok.rf _) | (with_reducible refine Ok.alloc ?_ _) | (with_reducible refine Ok.ex ?_ _) | (with_reducible refine Ok.drew ?_) | (with_reducible refine Ok.setCellI ?_ _ _ _) | (with_reducible refine Ok.exb ?_ _))))))))
  · (rcases w6 a with h | h | h | h | h | h; (· (obtain ⟨p1, p2, p3, p4, p5⟩ := h; ((first | have q1 := bqn p1 | have q1 := bqp p1); have q2 := bqn p2; have q3 := bqn p3; have q4 := bqn p4; have q5 := bqn p5); have HN : Hid (lnR [a, z, y] = none) := hid (by first | exact r1_end p1 | exact r1_no p5 | exact r2_label p1 | exact r2_fire p1 | exact r2_no (by assumption) (by assumption) (by assumption) | exact r3_no (by assumption)); go_enter Tryd.func28, Tryd.ntmps28; go_wp2_with ((go_at_call 54; go_loud ((refine (iSplit_any s _ hs).mono ?_); rw [HL.out]; rintro e w' ⟨A, c, rfl, k, rfl, ho, -⟩; obtain ⟨g, rfl, hw⟩ := ho.own (Nat.succ_pos _); obtain ⟨b8, o8, e8, hb8, hc8⟩ := (inferInstance : Rd 1 sC k.v (some ⟨g, 0, none⟩) [a, z, y]).at_ (Nat.succ_pos _); cases e8; have c0 : k.v.cell? ⟨g, 0, none⟩ = some (.string a) := hc8 0 (by simp) 0 _ rfl; have c1 : k.v.cell? ⟨g, 1, none⟩ = some (.string z) := hc8 1 (by simp) 0 _ rfl; have c2 : k.v.cell? ⟨g, 2, none⟩ = some (.string y) := hc8 2 (by simp) 0 _ rfl; clear hc8))); ((refine bodyPost_ret (v := _) (by simp [results, Tryd.results28, go_sem]; rfl) rfl ?_); refine lnPost_no ⟨0, ⟨#[]⟩, 0⟩ HN.out rfl ?_; (refine Ok.toEx ?_; (repeat (first | (with_reducible exact Ok.rf _) | (with_reducible refine Ok.alloc ?_ _) | (with_reducible refine Ok.ex ?_ _) | (with_reducible refine Ok.drew ?_) | (with_reducible refine Ok.setCellI ?_ _ _ _) | (with_reducible refine Ok.exb ?_ _))))))); (· (obtain ⟨p1, p2, p3, p4, p5⟩ := h; ((first | have q1 := bqn p1 | have q1 := bqp p1); have q2 := bqn p2; have q3 := bqn p3; have q4 := bqn p4; have q5 := bqn p5); have HN : Hid (lnR [a, z, y] = none) := hid (by first | exact r1_end p1 | exact r1_no p5 | exact r2_label p1 | exact r2_fire p1 | exact r2_no (by assumption) (by assumption) (by assumption) | exact r3_no (by assumption)); go_enter Tryd.func28, Tryd.ntmps28; go_wp2_with ((go_at_call 54; go_loud ((refine (iSplit_any s _ hs).mono ?_); rw [HL.out]; rintro e w' ⟨A, c, rfl, k, rfl, ho, -⟩; obtain ⟨g, rfl, hw⟩ := ho.own (Nat.succ_pos _); obtain ⟨b8, o8, e8, hb8, hc8⟩ := (inferInstance : Rd 1 sC k.v (some ⟨g, 0, none⟩) [a, z, y]).at_ (Nat.succ_pos _); cases e8; have c0 : k.v.cell? ⟨g, 0, none⟩ = some (.string a) := hc8 0 (by simp) 0 _ rfl; have c1 : k.v.cell? ⟨g, 1, none⟩ = some (.string z) := hc8 1 (by simp) 0 _ rfl; have c2 : k.v.cell? ⟨g, 2, none⟩ = some (.string y) := hc8 2 (by simp) 0 _ rfl; clear hc8))); ((refine bodyPost_ret (v := _) (by simp [results, Tryd.results28, go_sem]; rfl) rfl ?_); refine lnPost_no ⟨0, ⟨#[]⟩, 0⟩ HN.out rfl ?_; (refine Ok.toEx ?_; (repeat (first | (with_reducible exact Ok.rf _) | (with_reducible refine Ok.alloc ?_ _) | (with_reducible refine Ok.ex ?_ _) | (with_reducible refine Ok.drew ?_) | (with_reducible refine Ok.setCellI ?_ _ _ _) | (with_reducible refine Ok.exb ?_ _))))))); (· (obtain ⟨p1, p2, p3, p4, p5⟩ := h; ((first | have q1 := bqn p1 | have q1 := bqp p1); have q2 := bqn p2; have q3 := bqn p3; have q4 := bqn p4; have q5 := bqn p5); have HN : Hid (lnR [a, z, y] = none) := hid (by first | exact r1_end p1 | exact r1_no p5 | exact r2_label p1 | exact r2_fire p1 | exact r2_no (by assumption) (by assumption) (by assumption) | exact r3_no (by assumption)); go_enter Tryd.func28, Tryd.ntmps28; go_wp2_with ((go_at_call 54; go_loud ((refine (iSplit_any s _ hs).mono ?_); rw [HL.out]; rintro e w' ⟨A, c, rfl, k, rfl, ho, -⟩; obtain ⟨g, rfl, hw⟩ := ho.own (Nat.succ_pos _); obtain ⟨b8, o8, e8, hb8, hc8⟩ := (inferInstance : Rd 1 sC k.v (some ⟨g, 0, none⟩) [a, z, y]).at_ (Nat.succ_pos _); cases e8; have c0 : k.v.cell? ⟨g, 0, none⟩ = some (.string a) := hc8 0 (by simp) 0 _ rfl; have c1 : k.v.cell? ⟨g, 1, none⟩ = some (.string z) := hc8 1 (by simp) 0 _ rfl; have c2 : k.v.cell? ⟨g, 2, none⟩ = some (.string y) := hc8 2 (by simp) 0 _ rfl; clear hc8))); ((refine bodyPost_ret (v := _) (by simp [results, Tryd.results28, go_sem]; rfl) rfl ?_); refine lnPost_no ⟨0, ⟨#[]⟩, 0⟩ HN.out rfl ?_; (refine Ok.toEx ?_; (repeat (first | (with_reducible exact Ok.rf _) | (with_reducible refine Ok.alloc ?_ _) | (with_reducible refine Ok.ex ?_ _) | (with_reducible refine Ok.drew ?_) | (with_reducible refine Ok.setCellI ?_ _ _ _) | (with_reducible refine Ok.exb ?_ _))))))); (· (obtain ⟨p1, p2, p3, p4, p5⟩ := h; ((first | have q1 := bqn p1 | have q1 := bqp p1); have q2 := bqn p2; have q3 := bqn p3; have q4 := bqn p4; have q5 := bqn p5); have hzs := (HZ.out y (by simp)); obtain ⟨bb, hbb⟩ : ∃ b, rdO y = b := ⟨_, rfl⟩; have HB := hid hbb; clear hbb; cases bb; (· have HN : Hid (lnR [a, z, y] = none) := hid (by first | exact r2_wait p1 HB.out | exact r2_waitN p1 HB.out | exact r3_jump p1 HB.out | exact r3_jumpN p1 HB.out); go_enter Tryd.func28, Tryd.ntmps28; go_wp2_with ((first | (go_at_call 54; go_loud ((refine (iSplit_any s _ hs).mono ?_); rw [HL.out]; rintro e w' ⟨A, c, rfl, k, rfl, ho, -⟩; obtain ⟨g, rfl, hw⟩ := ho.own (Nat.succ_pos _); obtain ⟨b8, o8, e8, hb8, hc8⟩ := (inferInstance : Rd 1 sC k.v (some ⟨g, 0, none⟩) [a, z, y]).at_ (Nat.succ_pos _); cases e8; have c0 : k.v.cell? ⟨g, 0, none⟩ = some (.string a) := hc8 0 (by simp) 0 _ rfl; have c1 : k.v.cell? ⟨g, 1, none⟩ = some (.string z) := hc8 1 (by simp) 0 _ rfl; have c2 : k.v.cell? ⟨g, 2, none⟩ = some (.string y) := hc8 2 (by simp) 0 _ rfl; clear hc8)) | (go_at_call 55; go_loud ((with_reducible refine (iNum_any y _ hzs).mono ?_); rw [HB.out]; rintro e w' ⟨rfl, kn, rfl⟩)))); ((refine bodyPost_ret (v := _) (by simp [results, Tryd.results28, go_sem]; rfl) rfl ?_); refine lnPost_no ⟨4, z, rdV y⟩ HN.out rfl ?_; (refine Ok.toEx ?_; (repeat (first | (with_reducible exact Ok.rf _) | (with_reducible refine Ok.alloc ?_ _) | (with_reducible refine Ok.ex ?_ _) | (with_reducible refine Ok.drew ?_) | (with_reducible refine Ok.setCellI ?_ _ _ _) | (with_reducible refine Ok.exb ?_ _)))))); (· have HN : Hid (lnR [a, z, y] = some ⟨4, z, rdV y⟩) := hid (by first | exact r2_wait p1 HB.out | exact r2_waitN p1 HB.out | exact r3_jump p1 HB.out | exact r3_jumpN p1 HB.out); go_enter Tryd.func28, Tryd.ntmps28; go_wp2_with ((first | (go_at_call 54; go_loud ((refine (iSplit_any s _ hs).mono ?_); rw [HL.out]; rintro e w' ⟨A, c, rfl, k, rfl, ho, -⟩; obtain ⟨g, rfl, hw⟩ := ho.own (Nat.succ_pos _); obtain ⟨b8, o8, e8, hb8, hc8⟩ := (inferInstance : Rd 1 sC k.v (some ⟨g, 0, none⟩) [a, z, y]).at_ (Nat.succ_pos _); cases e8; have c0 : k.v.cell? ⟨g, 0, none⟩ = some (.string a) := hc8 0 (by simp) 0 _ rfl; have c1 : k.v.cell? ⟨g, 1, none⟩ = some (.string z) := hc8 1 (by simp) 0 _ rfl; have c2 : k.v.cell? ⟨g, 2, none⟩ = some (.string y) := hc8 2 (by simp) 0 _ rfl; clear hc8)) | (go_at_call 55; go_loud ((with_reducible refine (iNum_any y _ hzs).mono ?_); rw [HB.out]; rintro e w' ⟨rfl, kn, rfl⟩)))); ((refine bodyPost_ret (v := _) (by simp [results, Tryd.results28, go_sem]; rfl) rfl ?_); refine lnPost_yes ⟨4, z, rdV y⟩ HN.out rfl ?_; (refine Ok.toEx ?_; (repeat (first | (with_reducible exact Ok.rf _) | (with_reducible refine Ok.alloc ?_ _) | (with_reducible refine Ok.ex ?_ _) | (with_reducible refine Ok.drew ?_) | (with_reducible refine Ok.setCellI ?_ _ _ _) | (with_reducible refine Ok.exb ?_ _)))))))); (· (obtain ⟨p1, p2, p3, p4, p5⟩ := h; ((first | have q1 := bqn p1 | have q1 := bqp p1); have q2 := bqn p2; have q3 := bqn p3; have q4 := bqn p4; have q5 := bqn p5); have HN : Hid (lnR [a, z, y] = none) := hid (by first | exact r1_end p1 | exact r1_no p5 | exact r2_label p1 | exact r2_fire p1 | exact r2_no (by assumption) (by assumption) (by assumption) | exact r3_no (by assumption)); go_enter Tryd.func28, Tryd.ntmps28; go_wp2_with ((go_at_call 54; go_loud ((refine (iSplit_any s _ hs).mono ?_); rw [HL.out]; rintro e w' ⟨A, c, rfl, k, rfl, ho, -⟩; obtain ⟨g, rfl, hw⟩ := ho.own (Nat.succ_pos _); obtain ⟨b8, o8, e8, hb8, hc8⟩ := (inferInstance : Rd 1 sC k.v (some ⟨g, 0, none⟩) [a, z, y]).at_ (Nat.succ_pos _); cases e8; have c0 : k.v.cell? ⟨g, 0, none⟩ = some (.string a) := hc8 0 (by simp) 0 _ rfl; have c1 : k.v.cell? ⟨g, 1, none⟩ = some (.string z) := hc8 1 (by simp) 0 _ rfl; have c2 : k.v.cell? ⟨g, 2, none⟩ = some (.string y) := hc8 2 (by simp) 0 _ rfl; clear hc8))); ((refine bodyPost_ret (v := _) (by simp [results, Tryd.results28, go_sem]; rfl) rfl ?_); refine lnPost_no ⟨0, ⟨#[]⟩, 0⟩ HN.out rfl ?_; (refine Ok.toEx ?_; (repeat (first | (with_reducible exact Ok.rf _) | (with_reducible refine Ok.alloc ?_ _) | (with_reducible refine Ok.ex ?_ _) | (with_reducible refine Ok.drew ?_) | (with_reducible refine Ok.setCellI ?_ _ _ _) | (with_reducible refine Ok.exb ?_ _))))))); (· (obtain ⟨p1, p2, p3, p4, p5⟩ := h; ((first | have q1 := bqn p1 | have q1 := bqp p1); have q2 := bqn p2; have q3 := bqn p3; have q4 := bqn p4; have q5 := bqn p5); have HN : Hid (lnR [a, z, y] = none) := hid (by first | exact r1_end p1 | exact r1_no p5 | exact r2_label p1 | exact r2_fire p1 | exact r2_no (by assumption) (by assumption) (by assumption) | exact r3_no (by assumption)); go_enter Tryd.func28, Tryd.ntmps28; go_wp2_with ((go_at_call 54; go_loud ((refine (iSplit_any s _ hs).mono ?_); rw [HL.out]; rintro e w' ⟨A, c, rfl, k, rfl, ho, -⟩; obtain ⟨g, rfl, hw⟩ := ho.own (Nat.succ_pos _); obtain ⟨b8, o8, e8, hb8, hc8⟩ := (inferInstance : Rd 1 sC k.v (some ⟨g, 0, none⟩) [a, z, y]).at_ (Nat.succ_pos _); cases e8; have c0 : k.v.cell? ⟨g, 0, none⟩ = some (.string a) := hc8 0 (by simp) 0 _ rfl; have c1 : k.v.cell? ⟨g, 1, none⟩ = some (.string z) := hc8 1 (by simp) 0 _ rfl; have c2 : k.v.cell? ⟨g, 2, none⟩ = some (.string y) := hc8 2 (by simp) 0 _ rfl; clear hc8))); ((refine bodyPost_ret (v := _) (by simp [results, Tryd.results28, go_sem]; rfl) rfl ?_); refine lnPost_no ⟨0, ⟨#[]⟩, 0⟩ HN.out rfl ?_; (refine Ok.toEx ?_; (repeat (first | (with_reducible exact Ok.rf _) | (with_reducible refine Ok.alloc ?_ _) | (with_reducible refine Ok.ex ?_ _) | (with_reducible refine Ok.drew ?_) | (with_reducible refine Ok.setCellI ?_ _ _ _) | (with_reducible refine Ok.exb ?_ _))))))))
  · have HN := hid (lnR_big h4)
    have l1 : ¬ (L.length : Int) = 1 := by omega
    have l2 : ¬ (L.length : Int) = 2 := by omega
    have l3 : ¬ (L.length : Int) = 3 := by omega
    have b1 : ((L.length : Int) == 1) = false := by rw [beq_eq_false_iff_ne]; exact l1
    have b2 : ((L.length : Int) == 2) = false := by rw [beq_eq_false_iff_ne]; exact l2
    have b3 : ((L.length : Int) == 3) = false := by rw [beq_eq_false_iff_ne]; exact l3
    clear h4
    go_enter Tryd.func28, Tryd.ntmps28
    go_wp2_with ((go_at_call 54; go_loud ((refine (iSplit_any s _ hs).mono ?_); rw [HL.out]; rintro e w' ⟨A, c, rfl, k, rfl, ho, -⟩)))
    ((refine bodyPost_ret (v := _) (by simp [results, Tryd.results28, go_sem]; rfl) rfl ?_); refine lnPost_no ⟨0, ⟨#[]⟩, 0⟩ HN.out rfl ?_; (refine Ok.toEx ?_; (repeat (first | (with_reducible exact Ok.rf _) | (with_reducible refine Ok.alloc ?_ _) | (with_reducible refine Ok.ex ?_ _) | (with_reducible refine Ok.drew ?_) | (with_reducible refine Ok.setCellI ?_ _ _ _) | (with_reducible refine Ok.exb ?_ _)))))
end
end Go.Proofs.YtonmeffhelaohaaDoor
