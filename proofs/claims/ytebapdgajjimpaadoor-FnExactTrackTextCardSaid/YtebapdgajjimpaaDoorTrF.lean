/-
  Contracts of the value of keys at a time. Conditions: those typed at each theorem.
-/
import Derived.Test.YtebapdgajjimpaaDoorTrE
namespace Go.Proofs.YtebapdgajjimpaaDoor
open Go.RowKit
theorem prod_bd {a b A B : Int} (h1 : -A ≤ a) (h2 : a ≤ A) (h3 : 0 ≤ b) (h4 : b ≤ B) (hA : 0 ≤ A) : -(A * B) ≤ a * b ∧ a * b ≤ A * B := by
  have e1 : a * b ≤ A * b := Int.mul_le_mul_of_nonneg_right h2 h3
  have e2 : A * b ≤ A * B := Int.mul_le_mul_of_nonneg_left h4 hA
  have e3 : (-A) * b ≤ a * b := Int.mul_le_mul_of_nonneg_right h1 h3
  rw [Int.neg_mul] at e3
  omega
/-- keys whose value can be told -/
structure VK (l : List Ky) : Prop where
  n : 1 ≤ l.length ∧ l.length ≤ 24
  t : ∀ i (h : i < l.length), 0 ≤ l[i].t ∧ l[i].t ≤ 7200000
  v : ∀ i (h : i < l.length), -1000000 ≤ l[i].v ∧ l[i].v ≤ 1000000
  ris : risK l
theorem okK.vk {l : List Ky} (h : okK l) : VK l := ⟨h.1, fun i hi => (h.2 i hi).1, fun i hi => (h.2 i hi).2.1, h.ris⟩
theorem segv_prod {a b : Ky} {t : Int} (h1 : -1000000 ≤ a.v ∧ a.v ≤ 1000000) (h2 : -1000000 ≤ b.v ∧ b.v ≤ 1000000) (h3 : 0 ≤ a.t) (h4 : a.t ≤ t) (h5 : t ≤ 7200000) :
    -14400000000000 ≤ (b.v - a.v) * (t - a.t) ∧ (b.v - a.v) * (t - a.t) ≤ 14400000000000 := by
  have := prod_bd (a := b.v - a.v) (b := t - a.t) (A := 2000000) (B := 7200000) (by omega) (by omega) (by omega) (by omega) (by omega)
  omega
section
set_option maxHeartbeats 3200000
set_option maxRecDepth 20000
end
end Go.Proofs.YtebapdgajjimpaaDoor
