/-
  CueNamed, ShowEnd: both. Conditions: those typed at each theorem.
-/
import Derived.Test.YthgfnbgdpmbolaaCuE
namespace Go.Proofs.Ythgfnbgdpmbolaa
open Go.RowKit
noncomputable def cnV (l : List Cu) (nm : ByteArray) : Int := if vCs l = true then (if cII l nm < 0 then 0 else cII l nm) else 0
noncomputable def cnE (l : List Cu) (nm : ByteArray) : Int := if vCs l = true then (if cII l nm < 0 then 3 else 0) else 1
theorem cn_inv {l : List Cu} {nm : ByteArray} (h : vCs l = false) : cnV l nm = 0 ∧ cnE l nm = 1 := by unfold cnV cnE; rw [h]; exact ⟨rfl, rfl⟩
theorem cn_miss {l : List Cu} {nm : ByteArray} (h : vCs l = true) (hm : cII l nm = -1) : cnV l nm = 0 ∧ cnE l nm = 3 := by unfold cnV cnE; rw [if_pos h, if_pos h, hm]; exact ⟨rfl, rfl⟩
theorem cn_hit {l : List Cu} {nm : ByteArray} {q : Nat} (h : vCs l = true) (hm : cII l nm = q) : cnV l nm = q ∧ cnE l nm = 0 := by unfold cnV cnE; rw [if_pos h, if_pos h, hm, if_neg (by omega), if_neg (by omega)]; exact ⟨rfl, rfl⟩
/-- the end of the first k -/
def seP (l : List Cu) : Nat → Int
  | 0 => 0
  | k + 1 => max (seP l k) ((cuG l k).t + (cuG l k).ln)
noncomputable def seV (l : List Cu) : Int := if vCs l = true then seP l l.length else 0
noncomputable def seE (l : List Cu) : Int := if vCs l = true then 0 else 1
theorem se_inv {l : List Cu} (h : vCs l = false) : seV l = 0 ∧ seE l = 1 := by unfold seV seE; rw [h]; exact ⟨rfl, rfl⟩
theorem se_go {l : List Cu} (h : vCs l = true) : seV l = seP l l.length ∧ seE l = 0 := by unfold seV seE; rw [if_pos h, if_pos h]; exact ⟨rfl, rfl⟩
/-- what a valid cue's numbers are -/
theorem vC_num {x : Cu} (h : vC x = true) : (0 ≤ x.t ∧ x.t ≤ 7200000) ∧ (0 ≤ x.v ∧ x.v ≤ 1000) ∧ (0 ≤ x.ln ∧ x.t + x.ln ≤ 7200000) := by
  obtain ⟨-, -, h3, h4, h5⟩ := vC_of h
  refine ⟨h3, h4, ?_⟩
  rcases h5 with ⟨-, h⟩ | ⟨-, h⟩ | ⟨-, h, -⟩ <;> omega
theorem seP_bd {l : List Cu} (h : vCs l = true) : ∀ k, k ≤ l.length → 0 ≤ seP l k ∧ seP l k ≤ 7200000
  | 0, _ => by simp [seP]
  | k + 1, hk => by
    have h1 := seP_bd h k (by omega)
    have h2 := vC_num ((vCs_of h).2 k (by omega)).1
    unfold seP
    omega
section
set_option maxHeartbeats 3200000
set_option maxRecDepth 20000
end
end Go.Proofs.Ythgfnbgdpmbolaa
