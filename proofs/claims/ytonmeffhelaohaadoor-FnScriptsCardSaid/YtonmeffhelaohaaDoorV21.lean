/-
  Contracts of SameTrack, and its law. Conditions: those typed at each theorem.
  Law of SameTrack. Conditions: those typed at each theorem.
  Contracts of the value of keys at a time. Conditions: those typed at each theorem.
-/
import Derived.Test.YtonmeffhelaohaaDoorV17
import Derived.Laws.StructEq
namespace Go.Proofs.YtonmeffhelaohaaDoor
open Go.RowKit
/-- are two keys equal? -/
def eqKy (x y : Ky) : Bool := (x.t == y.t) && (x.v == y.v)
/-- are two lists of keys equal? -/
def sameK (a b : List Ky) : Bool := a.length == b.length && decide (∀ k (h : k < a.length) (h' : k < b.length), eqKy a[k] b[k] = true)
theorem sameK_no1 {a b : List Ky} (h : a.length ≠ b.length) : sameK a b = false := by simp [sameK, h]
theorem sameK_no2 {a b : List Ky} {k : Nat} (h : k < a.length) (h' : k < b.length) (he : eqKy a[k] b[k] = false) : sameK a b = false := by
  unfold sameK
  rw [decide_eq_false (fun H => by rw [H k h h'] at he; cases he)]
  simp
theorem sameK_yes {a b : List Ky} (h : a.length = b.length) (he : ∀ k (h : k < a.length) (h' : k < b.length), eqKy a[k] b[k] = true) : sameK a b = true := by
  unfold sameK
  rw [decide_eq_true he]
  simp [h]
theorem eqKy_cases (x y : Ky) : (eqKy x y = true ∧ (x.t == y.t) = true ∧ (x.v == y.v) = true) ∨ (eqKy x y = false ∧ ((x.t == y.t) = false ∨ ((x.t == y.t) = true ∧ (x.v == y.v) = false))) := by
  unfold eqKy
  cases (x.t == y.t) <;> cases (x.v == y.v) <;> simp
/-- are two tracks equal? -/
def sameT (n1 : ByteArray) (a : List Ky) (n2 : ByteArray) (b : List Ky) : Bool := (n1.toList == n2.toList) && sameK a b
section
set_option maxHeartbeats 3200000
end
end Go.Proofs.YtonmeffhelaohaaDoor
namespace Go.Proofs.YtonmeffhelaohaaDoor
open Go.RowKit
section
set_option maxHeartbeats 3200000
set_option maxRecDepth 20000
end
end Go.Proofs.YtonmeffhelaohaaDoor
namespace Go.Proofs.YtonmeffhelaohaaDoor
open Go.RowKit
theorem prod_bd {a b A B : Int} (h1 : -A ≤ a) (h2 : a ≤ A) (h3 : 0 ≤ b) (h4 : b ≤ B) (hA : 0 ≤ A) : -(A * B) ≤ a * b ∧ a * b ≤ A * B := by
  have e1 : a * b ≤ A * b := Int.mul_le_mul_of_nonneg_right h2 h3
  have e2 : A * b ≤ A * B := Int.mul_le_mul_of_nonneg_left h4 hA
  have e3 : (-A) * b ≤ a * b := Int.mul_le_mul_of_nonneg_right h1 h3
  rw [Int.neg_mul] at e3
  omega
/-- keys whose value can be told -/
structure VK (l : List Ky) : Prop where
  n : 1 ≤ l.length ∧ l.length ≤ 24
  t : ∀ i (h : i < l.length), 0 ≤ l[i].t ∧ l[i].t ≤ 7200000
  v : ∀ i (h : i < l.length), -1000000 ≤ l[i].v ∧ l[i].v ≤ 1000000
  ris : risK l
theorem okK.vk {l : List Ky} (h : okK l) : VK l := ⟨h.1, fun i hi => (h.2 i hi).1, fun i hi => (h.2 i hi).2.1, h.ris⟩
theorem segv_prod {a b : Ky} {t : Int} (h1 : -1000000 ≤ a.v ∧ a.v ≤ 1000000) (h2 : -1000000 ≤ b.v ∧ b.v ≤ 1000000) (h3 : 0 ≤ a.t) (h4 : a.t ≤ t) (h5 : t ≤ 7200000) :
    -14400000000000 ≤ (b.v - a.v) * (t - a.t) ∧ (b.v - a.v) * (t - a.t) ≤ 14400000000000 := by
  have := prod_bd (a := b.v - a.v) (b := t - a.t) (A := 2000000) (B := 7200000) (by omega) (by omega) (by omega) (by omega) (by omega)
  omega
section
set_option maxHeartbeats 3200000
set_option maxRecDepth 20000
end
end Go.Proofs.YtonmeffhelaohaaDoor
