/-
  Contracts of FastestOf, and its law. Conditions: those typed at each theorem.
-/
import Derived.Test.YtonmeffhelaohaaDoorV26
import Derived.IntWalk
namespace Go.Proofs.YtonmeffhelaohaaDoor
open Go.RowKit
def aI (n : Int) : Int := if n < 0 then -n else n
theorem aI_bd {n M : Int} (h1 : -M ≤ n) (h2 : n ≤ M) : 0 ≤ aI n ∧ aI n ≤ M := by unfold aI; split <;> omega
def upI (a b : Int) : Int := (a + b - 1) / b
theorem upI_bd {a b M : Int} (h1 : 0 ≤ a) (h2 : a ≤ M) (h3 : 0 < b) : 0 ≤ upI a b ∧ upI a b ≤ M := by
  unfold upI
  refine ⟨Int.ediv_nonneg (by omega) (by omega), ?_⟩
  have h4 : (a + b - 1) / b < M + 1 := by
    refine Int.ediv_lt_of_lt_mul h3 ?_
    have : M * 1 ≤ M * b := Int.mul_le_mul_of_nonneg_left (by omega) (by omega)
    rw [Int.add_mul, Int.one_mul]
    omega
  omega
/-- how fast a track changes between two keys -/
def spd (a b : Ky) : Int := upI (aI (b.v - a.v) * 1000) (b.t - a.t)
def kyG (l : List Ky) (k : Nat) : Ky := l.getD k default
theorem kyG_at {l : List Ky} {k : Nat} (h : k < l.length) : kyG l k = l[k] := by simp [kyG, List.getD, h]
/-- where the first k parts change fastest, and how fast -/
def fsP (l : List Ky) : Nat → Int × Int
  | 0 => (0, -1)
  | k + 1 => if (fsP l k).2 < spd (kyG l k) (kyG l (k + 1)) then ((k : Int), spd (kyG l k) (kyG l (k + 1))) else fsP l k
theorem fsP_on {l : List Ky} {k : Nat} (h : (fsP l k).2 < spd (kyG l k) (kyG l (k + 1))) : fsP l (k + 1) = ((k : Int), spd (kyG l k) (kyG l (k + 1))) := by simp [fsP, h]
theorem fsP_off {l : List Ky} {k : Nat} (h : ¬ (fsP l k).2 < spd (kyG l k) (kyG l (k + 1))) : fsP l (k + 1) = fsP l k := by simp [fsP, h]
/-- what FastestOf answers -/
noncomputable def fsR (nm : ByteArray) (l : List Ky) : Int × Int × Int := if vT nm l = true then (if l.length = 1 then (0, 0, 6) else ((fsP l (l.length - 1)).1, (fsP l (l.length - 1)).2, 0)) else (0, 0, 1)
theorem Rd.kg {w : World} {A : Option Addr} {l : List Ky} (h : Rd 2 kC w A l) : 0 < l.length → ∃ b o, A = some ⟨b, o, none⟩ ∧ LtW b w ∧ ∀ (k : Nat) (_ : k < l.length), KyAt w b (o + k * 2) (kyG l k) := fun h0 => by
  obtain ⟨b, o, e, hb, hc⟩ := h.k h0
  exact ⟨b, o, e, hb, fun k hk => by rw [kyG_at hk]; exact hc k hk⟩
theorem VK.kg {l : List Ky} (h : VK l) (k : Nat) (hk : k < l.length) : (0 ≤ (kyG l k).t ∧ (kyG l k).t ≤ 7200000) ∧ (-1000000 ≤ (kyG l k).v ∧ (kyG l k).v ≤ 1000000) := by
  rw [kyG_at hk]; exact ⟨h.t k hk, h.v k hk⟩
theorem VK.kgr {l : List Ky} (h : VK l) (k : Nat) (hk : k + 1 < l.length) : (kyG l k).t < (kyG l (k + 1)).t := by
  rw [kyG_at hk, kyG_at (by omega)]; exact h.ris k (k + 1) hk (by omega)
theorem spd_bd {a b : Ky} (ha : -1000000 ≤ a.v ∧ a.v ≤ 1000000) (hb : -1000000 ≤ b.v ∧ b.v ≤ 1000000) (ht : a.t < b.t) : (0 ≤ aI (b.v - a.v) ∧ aI (b.v - a.v) ≤ 2000000) ∧ 0 ≤ spd a b ∧ spd a b ≤ 2000000000 := by
  have h1 := aI_bd (n := b.v - a.v) (M := 2000000) (by omega) (by omega)
  exact ⟨h1, upI_bd (by omega) (by omega) (by omega)⟩
section
set_option maxHeartbeats 3200000
set_option maxRecDepth 20000
end
end Go.Proofs.YtonmeffhelaohaaDoor
