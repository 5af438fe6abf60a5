/-
  A track handed back if it is one: l14Done, checkedTrack, l14Own; ShiftTrack. Conditions: those typed at each theorem.
-/
import Derived.Test.YtdhflckombkimaaDoorTrI
namespace Go.Proofs.YtdhflckombkimaaDoor
open Go.RowKit
/-- a track and a code -/
structure TR3 where
  nm : ByteArray
  l : List Ky
  co : Int
def trErr (c : Int) : TR3 := ⟨⟨#[]⟩, [], c⟩
noncomputable def trChk (nm : ByteArray) (l : List Ky) : TR3 := if vT nm l = true then ⟨nm, l, 0⟩ else trErr 6
theorem trChk_yes {nm : ByteArray} {l : List Ky} (h : vT nm l = true) : trChk nm l = ⟨nm, l, 0⟩ := by unfold trChk; rw [if_pos h]
theorem trChk_no {nm : ByteArray} {l : List Ky} (h : vT nm l = false) : trChk nm l = trErr 6 := by unfold trChk; rw [if_neg (by rw [h]; simp)]
theorem trChk_len (nm : ByteArray) (l : List Ky) : (trChk nm l).l.length ≤ 24 := by
  cases h : vT nm l
  · rw [trChk_no h]; simp [trErr]
  · rw [trChk_yes h]; exact (vT_of h).2.1.2
/-- what a function that hands back a track leaves -/
def TrPost (R : TR3) (w : World) (e : Ending) (w' : World) : Prop :=
  ∃ A' c', e = .returned (.tuple #[.agg #[.string R.nm, .slice A' R.l.length c'], .int .i64 R.co]) ∧ ∃ k : Ex w, w' = k.v ∧ Ow 2 kC k.v A' R.l ∧ Fr w A' ∧ Inw k.v A'
theorem trPost_err {c : Int} {w : World} {e : Ending} {w' : World} (he : e = .returned (.tuple #[.agg #[.string ⟨#[]⟩, .slice none 0 0], .int .i64 c])) (hw : ∃ k : Ex w, w' = k.v) : TrPost (trErr c) w e w' := by
  obtain ⟨k, rfl⟩ := hw
  exact ⟨none, 0, he, k, rfl, Ow.nil, inferInstance, fun _ _ _ h => by cases h⟩
theorem trPost_ok {nm : ByteArray} {l : List Ky} {co : Int} {w : World} {e : Ending} {w' : World} {g c : Nat} (he : e = .returned (.tuple #[.agg #[.string nm, .slice (some ⟨g, 0, none⟩) l.length c], .int .i64 co])) (hw : ∃ k : Ex w, w' = k.v) (ho : Wr 2 kC w' g l) (hg : LeB w.heap.size g) :
    TrPost ⟨nm, l, co⟩ w e w' := by
  obtain ⟨k, rfl⟩ := hw
  exact ⟨_, c, he, k, rfl, inferInstance, inferInstance, fun b o m h => by cases h; exact ho.lt.h⟩
def shiftK (l : List Ky) (d : Int) : List Ky := l.map fun k => ⟨k.t + d, k.v⟩
noncomputable def shiftR (nm : ByteArray) (l : List Ky) (d : Int) : TR3 := if vT nm l = true then (if -7200000 ≤ d ∧ d ≤ 7200000 then trChk nm (shiftK l d) else trErr 2) else trErr 1
theorem shiftK_len (l : List Ky) (d : Int) : (shiftK l d).length = l.length := by simp [shiftK]
/-- the keys with the first q moved -/
def shF (l : List Ky) (d : Int) (q : Nat) : Nat → Ky := fun k => if k < q then ⟨(kyG l k).t + d, (kyG l k).v⟩ else kyG l k
theorem shF_step (l : List Ky) (d : Int) (q : Nat) : updT (shF l d q) q ((kyG l q).t + d) = shF l d (q + 1) := by
  funext k
  unfold updT shF
  by_cases h : k = q
  · subst h; simp
  · by_cases h2 : k < q
    · simp [h, h2, show k < q + 1 by omega]
    · simp [h, h2, show ¬ k < q + 1 by omega]
theorem shF_at (l : List Ky) (d : Int) (q : Nat) : shF l d q q = kyG l q := by simp [shF]
theorem shF_zero (l : List Ky) (d : Int) : shF l d 0 = kyG l := by funext k; simp [shF]
theorem shF_end {l : List Ky} {d : Int} {k : Nat} (hk : k < (shiftK l d).length) : (shiftK l d)[k] = shF l d l.length k := by
  have hk' : k < l.length := by rwa [shiftK_len] at hk
  simp [shiftK, shF, hk', kyG_at hk']
section
set_option maxHeartbeats 3200000
set_option maxRecDepth 20000
end
end Go.Proofs.YtdhflckombkimaaDoor
