/-
  The laws' helpers over slices of string: comparison, marking, holding. Conditions: those typed at each theorem.
  The laws' helpers over slices of impl.Cue: comparison, marking, holding. Conditions: those typed at each theorem.
-/
import Derived.Test.YtdhflckombkimaaGreatDoorJ8
import Derived.Test.YtdhflckombkimaaGreatDoorJ11
import Derived.Test.YtdhflckombkimaaGreatDoorJ12
import Derived.Test.YtdhflckombkimaaGreatDoorJ6
namespace Go.Proofs.YtdhflckombkimaaGreatDoor
open Go.RowKit
section
set_option maxHeartbeats 3200000
set_option maxRecDepth 20000
theorem rdAtString {w : World} {A : Option Addr} {l : List ByteArray} (h : Rd 1 sC w A l) : 0 < l.length → ∃ b o, A = some ⟨b, o, none⟩ ∧ LtW b w ∧ ∀ (k : Nat) (h : k < l.length), w.cell? ⟨b, o + k, none⟩ = some (.string l[k]) := fun h0 => by
  obtain ⟨b, o, e, hb, hc⟩ := h.at_ h0
  exact ⟨b, o, e, hb, fun k hk => (by have := hc k hk 0 _ rfl; rwa [Nat.mul_one] at this)⟩
/-- what marking lays -/
def mkString (n : Nat) (k : Int) : List ByteArray := (List.range n).map fun (i : Nat) => (mTxt (k + (i : Int)))
theorem mkString_len (n : Nat) (k : Int) : (mkString n k).length = n := by simp [mkString]
theorem mkString_get {n : Nat} {k : Int} {i : Nat} (h : i < (mkString n k).length) : (mkString n k)[i] = (mTxt (k + (i : Int))) := by simp [mkString]
end
end Go.Proofs.YtdhflckombkimaaGreatDoor
namespace Go.Proofs.YtdhflckombkimaaGreatDoor
open Go.RowKit
section
set_option maxHeartbeats 3200000
set_option maxRecDepth 20000
theorem rdAtCue {w : World} {A : Option Addr} {l : List Cu} (h : Rd 6 cC w A l) : 0 < l.length → ∃ b o, A = some ⟨b, o, none⟩ ∧ LtW b w ∧ ∀ (k : Nat) (h : k < l.length), w.cell? ⟨b, o + k * 6, none⟩ = some (.string l[k].id) ∧ w.cell? ⟨b, o + k * 6 + 1, none⟩ = some (.int .i64 l[k].t) ∧ w.cell? ⟨b, o + k * 6 + 2, none⟩ = some (.int .i64 l[k].ln) ∧ w.cell? ⟨b, o + k * 6 + 3, none⟩ = some (.string l[k].tg) ∧ w.cell? ⟨b, o + k * 6 + 4, none⟩ = some (.int .i64 l[k].act) ∧ w.cell? ⟨b, o + k * 6 + 5, none⟩ = some (.int .i64 l[k].v) := fun h0 => by
  obtain ⟨b, o, e, hb, hc⟩ := h.at_ h0
  exact ⟨b, o, e, hb, fun k hk => ⟨hc k hk 0 _ rfl, hc k hk 1 _ rfl, hc k hk 2 _ rfl, hc k hk 3 _ rfl, hc k hk 4 _ rfl, hc k hk 5 _ rfl⟩⟩
/-- what marking lays -/
def mkCue (n : Nat) (k : Int) : List Cu := (List.range n).map fun (i : Nat) => ⟨(mTxt (k + 6 * (i : Int))), (k + 6 * (i : Int) + 1), (k + 6 * (i : Int) + 1 + 1), (mTxt (k + 6 * (i : Int) + 1 + 1 + 1)), (k + 6 * (i : Int) + 1 + 1 + 1 + 1), (k + 6 * (i : Int) + 1 + 1 + 1 + 1 + 1)⟩
theorem mkCue_len (n : Nat) (k : Int) : (mkCue n k).length = n := by simp [mkCue]
theorem mkCue_get {n : Nat} {k : Int} {i : Nat} (h : i < (mkCue n k).length) : (mkCue n k)[i] = ⟨(mTxt (k + 6 * (i : Int))), (k + 6 * (i : Int) + 1), (k + 6 * (i : Int) + 1 + 1), (mTxt (k + 6 * (i : Int) + 1 + 1 + 1)), (k + 6 * (i : Int) + 1 + 1 + 1 + 1), (k + 6 * (i : Int) + 1 + 1 + 1 + 1 + 1)⟩ := by simp [mkCue]
end
end Go.Proofs.YtdhflckombkimaaGreatDoor
