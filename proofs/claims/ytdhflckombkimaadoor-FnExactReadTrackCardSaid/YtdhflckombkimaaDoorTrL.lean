/-
  ShiftTrack. Conditions: those typed at each theorem.
-/
import Derived.Test.YtdhflckombkimaaDoorTrK
namespace Go.Proofs.YtdhflckombkimaaDoor
open Go.RowKit
theorem shiftR_inv {nm : ByteArray} {l : List Ky} {d : Int} (h : vT nm l = false) : shiftR nm l d = trErr 1 := by unfold shiftR; rw [h]; rfl
theorem shiftR_rng {nm : ByteArray} {l : List Ky} {d : Int} (h : vT nm l = true) (hd : ¬ (-7200000 ≤ d ∧ d ≤ 7200000)) : shiftR nm l d = trErr 2 := by unfold shiftR; rw [if_pos h, if_neg hd]
theorem shiftR_go {nm : ByteArray} {l : List Ky} {d : Int} (h : vT nm l = true) (hd : -7200000 ≤ d ∧ d ≤ 7200000) : shiftR nm l d = trChk nm (shiftK l d) := by unfold shiftR; rw [if_pos h, if_pos hd]
theorem shiftR_len (nm : ByteArray) (l : List Ky) (d : Int) : (shiftR nm l d).l.length ≤ 24 := by
  unfold shiftR
  split
  · split
    · exact trChk_len _ _
    · simp [trErr]
  · simp [trErr]
section
set_option maxHeartbeats 3200000
set_option maxRecDepth 20000
theorem trPostN_ok {nm : ByteArray} {l : List Ky} {co : Int} {w : World} {e : Ending} {w' : World} {g c n : Nat} (hn : l.length = n) (he : e = .returned (.tuple #[.agg #[.string nm, .slice (some ⟨g, 0, none⟩) n c], .int .i64 co])) (hw : ∃ k : Ex w, w' = k.v) (ho : Wr 2 kC w' g l) (hg : LeB w.heap.size g) :
    TrPost ⟨nm, l, co⟩ w e w' := by
  subst hn; exact trPost_ok he hw ho hg
end
end Go.Proofs.YtdhflckombkimaaDoor
