/-
  JoinTracks of the specification. Conditions: those typed at each theorem.
-/
import Derived.Test.YtebapdgajjimpaaTrJi
import Derived.Test.YtebapdgajjimpaaTrCs
namespace Go.Proofs.Ytebapdgajjimpaa
open Go.RowKit
/-- the first track with k keys of the second behind it -/
def jnP (a b : List Ky) (st tb : Int) : Nat → List Ky
  | 0 => a
  | k + 1 => jnP a b st tb k ++ [⟨st + (kyG b k).t - tb, (kyG b k).v⟩]
theorem jnP_len (a b : List Ky) (st tb : Int) : ∀ k, (jnP a b st tb k).length = a.length + k
  | 0 => rfl
  | k + 1 => by rw [jnP, List.length_append, jnP_len a b st tb k]; rfl
theorem jnP_take (a b : List Ky) (st tb D : Int) (h : D = st - tb) : ∀ k, k ≤ b.length → jnP a b st tb k = a ++ (shiftK b D).take k
  | 0, _ => by simp [jnP]
  | k + 1, hk => by
    have hk' : k < (shiftK b D).length := by rw [shiftK_len]; omega
    rw [jnP, jnP_take a b st tb D h k (by omega), List.append_assoc, List.take_succ_eq_append_getElem hk']
    congr 2
    have hkb : k < b.length := by omega
    simp only [shiftK, List.getElem_map, kyG_at hkb]
    subst h
    congr 2
    omega
theorem jnP_end (a b : List Ky) (st tb D : Int) (h : D = st - tb) : jnP a b st tb b.length = a ++ shiftK b D := by
  rw [jnP_take a b st tb D h _ (Nat.le_refl _), List.take_of_length_le (by rw [shiftK_len]; exact Nat.le_refl _)]
theorem ownsRow_low {w : World} {B B' : Nat} {e : TypeId} {sz : Nat} {v : Value} {n : Nat} {xs : List Value} (h : w.ownsRow B e sz v n xs) (hb : B' ≤ B) : w.ownsRow B' e sz v n xs :=
  ⟨h.1, h.2.imp id fun ⟨g, cap, cur, h1, h2, h3⟩ => ⟨g, cap, cur, h1, Nat.le_trans hb h2, h3⟩⟩
section
set_option maxHeartbeats 6400000
set_option maxRecDepth 20000
end
end Go.Proofs.Ytebapdgajjimpaa
