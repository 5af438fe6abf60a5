/-
  slices.Grow of nil, slices.Concat of two; JoinTracks of the program. Conditions: those typed at each theorem.
-/
import Derived.Test.YtebapdgajjimpaaTrNd
import Derived.Test.YtebapdgajjimpaaAppB
import Derived.Lib.AppendZeros
namespace Go.Proofs.Ytebapdgajjimpaa
open Go.RowKit
/-- by how much the second track moves -/
def joinBy (a b : List Ky) (gap : Int) : Int := (kyG a (a.length - 1)).t + gap - (kyG b 0).t
noncomputable def joinR (n1 : ByteArray) (a : List Ky) (n2 : ByteArray) (b : List Ky) (gap : Int) : TR3 :=
  if vT n1 a = true ∧ vT n2 b = true then (if 1 ≤ gap ∧ gap ≤ 7200000 then (if 24 < a.length + b.length then trErr 5 else trChk n1 (a ++ shiftK b (joinBy a b gap))) else trErr 2) else trErr 1
theorem joinR_inv {n1 n2 : ByteArray} {a b : List Ky} {gap : Int} (h : vT n1 a = false ∨ vT n2 b = false) : joinR n1 a n2 b gap = trErr 1 := by unfold joinR; rw [if_neg]; rintro ⟨h1, h2⟩; rcases h with h | h <;> simp_all
theorem joinR_rng {n1 n2 : ByteArray} {a b : List Ky} {gap : Int} (h1 : vT n1 a = true) (h2 : vT n2 b = true) (h : ¬ (1 ≤ gap ∧ gap ≤ 7200000)) : joinR n1 a n2 b gap = trErr 2 := by unfold joinR; rw [if_pos ⟨h1, h2⟩, if_neg h]
theorem joinR_full {n1 n2 : ByteArray} {a b : List Ky} {gap : Int} (h1 : vT n1 a = true) (h2 : vT n2 b = true) (h : 1 ≤ gap ∧ gap ≤ 7200000) (hf : 24 < a.length + b.length) : joinR n1 a n2 b gap = trErr 5 := by unfold joinR; rw [if_pos ⟨h1, h2⟩, if_pos h, if_pos hf]
theorem joinR_go {n1 n2 : ByteArray} {a b : List Ky} {gap : Int} (h1 : vT n1 a = true) (h2 : vT n2 b = true) (h : 1 ≤ gap ∧ gap ≤ 7200000) (hf : ¬ 24 < a.length + b.length) : joinR n1 a n2 b gap = trChk n1 (a ++ shiftK b (joinBy a b gap)) := by unfold joinR; rw [if_pos ⟨h1, h2⟩, if_pos h, if_neg hf]
theorem joinR_len (n1 : ByteArray) (a : List Ky) (n2 : ByteArray) (b : List Ky) (gap : Int) : (joinR n1 a n2 b gap).l.length ≤ 24 := by
  unfold joinR
  split
  · split
    · split
      · simp [trErr]
      · exact trChk_len _ _
    · simp [trErr]
  · simp [trErr]
/-- the slices put together -/
def ccF (x y : List Ky) : Nat → List Ky
  | 0 => []
  | 1 => x
  | _ => x ++ y
section
set_option maxHeartbeats 3200000
set_option maxRecDepth 20000
end
end Go.Proofs.Ytebapdgajjimpaa
