/-
  Contracts of the comparison of scripts, and its law. Conditions: those typed at each theorem.
-/
import Derived.Test.YtpapphhbogngcaaScD
import Derived.Laws.StructEq
namespace Go.Proofs.Ytpapphhbogngcaa
open Go.RowKit
/-- are two lines equal? -/
def eqLn (x y : Ln) : Bool := (x.kind == y.kind) && (x.name.toList == y.name.toList) && (x.value == y.value)
/-- are two scripts equal? -/
def sameL (a b : List Ln) : Bool := a.length == b.length && decide (∀ k (h : k < a.length) (h' : k < b.length), eqLn a[k] b[k] = true)
theorem sameL_no1 {a b : List Ln} (h : a.length ≠ b.length) : sameL a b = false := by simp [sameL, h]
theorem sameL_no2 {a b : List Ln} {k : Nat} (h : k < a.length) (h' : k < b.length) (he : eqLn a[k] b[k] = false) : sameL a b = false := by
  unfold sameL
  rw [decide_eq_false (fun H => by rw [H k h h'] at he; cases he)]
  simp
theorem sameL_yes {a b : List Ln} (h : a.length = b.length) (he : ∀ k (h : k < a.length) (h' : k < b.length), eqLn a[k] b[k] = true) : sameL a b = true := by
  unfold sameL
  rw [decide_eq_true he]
  simp [h]
theorem eqLn_cases (x y : Ln) : (eqLn x y = true ∧ (x.kind == y.kind) = true ∧ (x.name.toList == y.name.toList) = true ∧ (x.value == y.value) = true) ∨
    (eqLn x y = false ∧ ((x.kind == y.kind) = false ∨ ((x.kind == y.kind) = true ∧ (x.name.toList == y.name.toList) = false) ∨ ((x.kind == y.kind) = true ∧ (x.name.toList == y.name.toList) = true ∧ (x.value == y.value) = false))) := by
  unfold eqLn
  cases (x.kind == y.kind) <;> cases (x.name.toList == y.name.toList) <;> cases (x.value == y.value) <;> simp
section
set_option maxHeartbeats 3200000
end
end Go.Proofs.Ytpapphhbogngcaa
