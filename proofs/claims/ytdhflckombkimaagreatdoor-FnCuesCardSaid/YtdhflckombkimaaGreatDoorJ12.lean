/-
  markText: a text for a number. Conditions: those typed at each theorem.
-/
import Derived.Test.YtdhflckombkimaaGreatDoorJ2
import Derived.Test.YtdhflckombkimaaGreatDoorJ6
import Derived.Laws.BytesArg
namespace Go.Proofs.YtdhflckombkimaaGreatDoor
open Go.RowKit
/-- the digits of q ahead of s -/
def mD : Nat → Int → ByteArray → ByteArray
  | 0, _, s => s
  | f + 1, q, s => if 0 < q then mD f (q / 10) (strOfNums [48 + q % 10] ++ s) else s
theorem mD_go {f : Nat} {q : Int} {s : ByteArray} (h : 0 < q) : mD (f + 1) q s = mD f (q / 10) (strOfNums [48 + q % 10] ++ s) := by simp [mD, h]
theorem mD_end {f : Nat} {q : Int} {s : ByteArray} (h : ¬ 0 < q) : mD f q s = s := by cases f <;> simp [mD, h]
/-- the text for a number -/
def mTxt (k : Int) : ByteArray := ⟨#[109]⟩ ++ mD k.toNat k ⟨#[]⟩
theorem mD_size : ∀ (f : Nat) (q : Int) (s : ByteArray), (mD f q s).size ≤ f + s.size
  | 0, _, s => by simp [mD]
  | f + 1, q, s => by
    unfold mD
    split
    · have := mD_size f (q / 10) (strOfNums [48 + q % 10] ++ s)
      rw [ByteArray.size_append, strOfNums_size] at this
      simp at this
      omega
    · omega
section
set_option maxHeartbeats 1600000
set_option maxRecDepth 20000
end
end Go.Proofs.YtdhflckombkimaaGreatDoor
