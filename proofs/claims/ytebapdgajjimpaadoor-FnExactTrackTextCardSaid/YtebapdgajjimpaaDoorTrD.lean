/-
  Contracts of SameTrack, and its law. Conditions: those typed at each theorem.
-/
import Derived.Test.YtebapdgajjimpaaDoorTrC
import Derived.Laws.StructEq
namespace Go.Proofs.YtebapdgajjimpaaDoor
open Go.RowKit
/-- are two keys equal? -/
def eqKy (x y : Ky) : Bool := (x.t == y.t) && (x.v == y.v)
/-- are two lists of keys equal? -/
def sameK (a b : List Ky) : Bool := a.length == b.length && decide (∀ k (h : k < a.length) (h' : k < b.length), eqKy a[k] b[k] = true)
theorem sameK_no1 {a b : List Ky} (h : a.length ≠ b.length) : sameK a b = false := by simp [sameK, h]
theorem sameK_no2 {a b : List Ky} {k : Nat} (h : k < a.length) (h' : k < b.length) (he : eqKy a[k] b[k] = false) : sameK a b = false := by
  unfold sameK
  rw [decide_eq_false (fun H => by rw [H k h h'] at he; cases he)]
  simp
theorem sameK_yes {a b : List Ky} (h : a.length = b.length) (he : ∀ k (h : k < a.length) (h' : k < b.length), eqKy a[k] b[k] = true) : sameK a b = true := by
  unfold sameK
  rw [decide_eq_true he]
  simp [h]
theorem eqKy_cases (x y : Ky) : (eqKy x y = true ∧ (x.t == y.t) = true ∧ (x.v == y.v) = true) ∨ (eqKy x y = false ∧ ((x.t == y.t) = false ∨ ((x.t == y.t) = true ∧ (x.v == y.v) = false))) := by
  unfold eqKy
  cases (x.t == y.t) <;> cases (x.v == y.v) <;> simp
/-- are two tracks equal? -/
def sameT (n1 : ByteArray) (a : List Ky) (n2 : ByteArray) (b : List Ky) : Bool := (n1.toList == n2.toList) && sameK a b
section
set_option maxHeartbeats 3200000
end
end Go.Proofs.YtebapdgajjimpaaDoor
