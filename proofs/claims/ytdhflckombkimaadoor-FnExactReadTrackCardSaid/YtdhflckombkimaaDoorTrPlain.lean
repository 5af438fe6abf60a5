/-
  Keys of tracks, in plain words: what a valid track is, and its value at a time. Conditions: those typed at each theorem.
-/
import Derived.Test.YtdhflckombkimaaDoorName
import Derived.Test.YtdhflckombkimaaDoorRow
namespace Go.Proofs.YtdhflckombkimaaDoor
open Go.RowKit
structure Ky where
  t : Int
  v : Int
/-- the cells of a key -/
def kC (x : Ky) : List Value := [.int .i64 x.t, .int .i64 x.v]
instance : Inhabited Ky := ⟨⟨0, 0⟩⟩
/-- is key i one that a track may have there? -/
def kAt (l : List Ky) (i : Nat) (h : i < l.length) : Prop := (0 ≤ l[i].t ∧ l[i].t ≤ 7200000) ∧ (-1000000 ≤ l[i].v ∧ l[i].v ≤ 1000000) ∧ ∀ _ : 0 < i, l[i - 1].t < l[i].t
theorem kAt_cases (l : List Ky) (i : Nat) (h : i < l.length) :
    (kAt l i h ∧ (0 ≤ l[i].t ∧ l[i].t ≤ 7200000) ∧ (-1000000 ≤ l[i].v ∧ l[i].v ≤ 1000000) ∧ (i = 0 ∨ 0 < i ∧ l[i - 1].t < l[i].t)) ∨
    (¬ kAt l i h ∧ (l[i].t < 0 ∨ 7200000 < l[i].t)) ∨
    (¬ kAt l i h ∧ (0 ≤ l[i].t ∧ l[i].t ≤ 7200000) ∧ (l[i].v < -1000000 ∨ 1000000 < l[i].v)) ∨
    (¬ kAt l i h ∧ (0 ≤ l[i].t ∧ l[i].t ≤ 7200000) ∧ (-1000000 ≤ l[i].v ∧ l[i].v ≤ 1000000) ∧ 0 < i ∧ l[i].t ≤ l[i - 1].t) := by
  unfold kAt
  by_cases h1 : 0 ≤ l[i].t ∧ l[i].t ≤ 7200000
  · by_cases h2 : -1000000 ≤ l[i].v ∧ l[i].v ≤ 1000000
    · by_cases h0 : 0 < i
      · by_cases h3 : l[i - 1].t < l[i].t
        · exact .inl ⟨⟨h1, h2, fun _ => h3⟩, h1, h2, .inr ⟨h0, h3⟩⟩
        · exact .inr (.inr (.inr ⟨fun h => h3 (h.2.2 h0), h1, h2, h0, by omega⟩))
      · exact .inl ⟨⟨h1, h2, fun h => absurd h h0⟩, h1, h2, .inl (by omega)⟩
    · exact .inr (.inr (.inl ⟨fun h => h2 h.2.1, h1, by omega⟩))
  · exact .inr (.inl ⟨fun h => h1 h.1, by omega⟩)
/-- keys of a valid track -/
def okK (l : List Ky) : Prop := (1 ≤ l.length ∧ l.length ≤ 24) ∧ ∀ i (h : i < l.length), kAt l i h
theorem okK_mono {l : List Ky} (h : okK l) : ∀ (j i : Nat) (hj : j < l.length) (hi : i < j), (l[i]'(by omega)).t < l[j].t
  | 0, _, _, hi => absurd hi (by omega)
  | j + 1, i, hj, hi => by
    have h1 : l[j].t < l[j + 1].t := (h.2 (j + 1) hj).2.2 (by omega)
    rcases Nat.lt_or_ge i j with h2 | h2
    · have := okK_mono h j i (by omega) h2
      omega
    · obtain rfl : i = j := by omega
      exact h1
open Classical in
/-- is it a track? -/
noncomputable def vT (nm : ByteArray) (l : List Ky) : Bool := decide (okN nm ∧ okK l)
open Classical in
theorem vT_yes {nm : ByteArray} {l : List Ky} (h1 : okN nm) (h2 : okK l) : vT nm l = true := decide_eq_true ⟨h1, h2⟩
open Classical in
theorem vT_of {nm : ByteArray} {l : List Ky} (h : vT nm l = true) : okN nm ∧ okK l := of_decide_eq_true h
open Classical in
theorem vT_no {nm : ByteArray} {l : List Ky} (h : ¬ (okN nm ∧ okK l)) : vT nm l = false := decide_eq_false h
open Classical in
theorem vT_not {nm : ByteArray} {l : List Ky} (h : vT nm l = false) : ¬ (okN nm ∧ okK l) := of_decide_eq_false h
/-- why a track is none -/
theorem vT_why {nm : ByteArray} {l : List Ky} (h : vT nm l = false) : ¬ okN nm ∨ (okN nm ∧ l.length < 1) ∨ (okN nm ∧ 1 ≤ l.length ∧ 24 < l.length) ∨ (okN nm ∧ 1 ≤ l.length ∧ l.length ≤ 24 ∧ ¬ ∀ i (h : i < l.length), kAt l i h) := by
  have h := vT_not h
  unfold okK at h
  by_cases h1 : okN nm
  · by_cases h2 : l.length < 1
    · exact .inr (.inl ⟨h1, h2⟩)
    · by_cases h3 : 24 < l.length
      · exact .inr (.inr (.inl ⟨h1, by omega, h3⟩))
      · exact .inr (.inr (.inr ⟨h1, by omega, by omega, fun h4 => h ⟨h1, ⟨by omega, by omega⟩, h4⟩⟩))
  · exact .inl h1
end Go.Proofs.YtdhflckombkimaaDoor
