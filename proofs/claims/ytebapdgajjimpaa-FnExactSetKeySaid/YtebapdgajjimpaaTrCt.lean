/-
  CutTrack, both. Conditions: those typed at each theorem.
-/
import Derived.Test.YtebapdgajjimpaaTrNd
import Derived.Test.YtebapdgajjimpaaAppB
namespace Go.Proofs.Ytebapdgajjimpaa
open Go.RowKit
/-- the keys between two times, of the first k, with one ahead -/
def cutP (l : List Ky) (f u : Int) : Nat → List Ky
  | 0 => [⟨0, vAt l f⟩]
  | k + 1 => cutP l f u k ++ (if f < (kyG l k).t ∧ (kyG l k).t < u then [⟨(kyG l k).t - f, (kyG l k).v⟩] else [])
theorem cutP_on {l : List Ky} {f u : Int} {k : Nat} (h1 : f < (kyG l k).t) (h2 : (kyG l k).t < u) : cutP l f u (k + 1) = cutP l f u k ++ [⟨(kyG l k).t - f, (kyG l k).v⟩] := by simp [cutP, h1, h2]
theorem cutP_off {l : List Ky} {f u : Int} {k : Nat} (h : ¬ (f < (kyG l k).t ∧ (kyG l k).t < u)) : cutP l f u (k + 1) = cutP l f u k := by simp [cutP, h]
theorem cutP_len (l : List Ky) (f u : Int) : ∀ k, (cutP l f u k).length ≤ k + 1
  | 0 => by simp [cutP]
  | k + 1 => by
    have := cutP_len l f u k
    unfold cutP
    split <;> simp <;> omega
def cutA (l : List Ky) (f u : Int) : List Ky := cutP l f u l.length ++ [⟨u - f, vAt l u⟩]
theorem cutA_len (l : List Ky) (f u : Int) : 1 ≤ (cutA l f u).length ∧ (cutA l f u).length ≤ l.length + 2 := by
  have := cutP_len l f u l.length
  unfold cutA
  rw [List.length_append]
  exact ⟨by simp, by simp; omega⟩
def cutOk (f u : Int) : Prop := (0 ≤ f ∧ f ≤ 7200000) ∧ (0 ≤ u ∧ u ≤ 7200000) ∧ f < u
instance (f u : Int) : Decidable (cutOk f u) := by unfold cutOk; infer_instance
theorem cutOk_not {f u : Int} (h : ¬ cutOk f u) : (f < 0 ∨ 7200000 < f) ∨ ((0 ≤ f ∧ f ≤ 7200000) ∧ (u < 0 ∨ 7200000 < u)) ∨ ((0 ≤ f ∧ f ≤ 7200000) ∧ (0 ≤ u ∧ u ≤ 7200000) ∧ u ≤ f) := by unfold cutOk at h; omega
/-- what CutTrack answers -/
noncomputable def cutR (nm : ByteArray) (l : List Ky) (f u : Int) : TR3 := if vT nm l = true then (if cutOk f u then (if 24 < (cutA l f u).length then trErr 5 else ⟨nm, cutA l f u, 0⟩) else trErr 2) else trErr 1
theorem cutR_inv {nm : ByteArray} {l : List Ky} {f u : Int} (h : vT nm l = false) : cutR nm l f u = trErr 1 := by unfold cutR; rw [h]; rfl
theorem cutR_rng {nm : ByteArray} {l : List Ky} {f u : Int} (h : vT nm l = true) (hd : ¬ cutOk f u) : cutR nm l f u = trErr 2 := by unfold cutR; rw [if_pos h, if_neg hd]
theorem cutR_full {nm : ByteArray} {l : List Ky} {f u : Int} (h : vT nm l = true) (hd : cutOk f u) (hf : 24 < (cutA l f u).length) : cutR nm l f u = trErr 5 := by unfold cutR; rw [if_pos h, if_pos hd, if_pos hf]
theorem cutR_go {nm : ByteArray} {l : List Ky} {f u : Int} (h : vT nm l = true) (hd : cutOk f u) (hf : ¬ 24 < (cutA l f u).length) : cutR nm l f u = ⟨nm, cutA l f u, 0⟩ := by unfold cutR; rw [if_pos h, if_pos hd, if_neg hf]
theorem cutR_len (nm : ByteArray) (l : List Ky) (f u : Int) : (cutR nm l f u).l.length ≤ 24 := by
  unfold cutR
  split
  · split
    · split
      · simp [trErr]
      · rename_i h; show (cutA l f u).length ≤ 24; omega
    · simp [trErr]
  · simp [trErr]
theorem row_one (w : World) (e : TypeId) (x : Ky) : (w.alloc (.cells #[.int .i64 x.t, .int .i64 x.v] e)).ownsRow w.heap.size e 2 (.slice (some ⟨w.heap.size, 0, none⟩) 1 1) [x].length ([x].flatMap kC) :=
  ⟨by simp [kC], .inr ⟨w.heap.size, 1, #[.int .i64 x.t, .int .i64 x.v], rfl, Nat.le_refl _, heap_alloc_new w _, Nat.le_refl _, by simp [maxLen], rfl, by simp [kC]⟩⟩
section
set_option maxHeartbeats 3200000
set_option maxRecDepth 20000
end
end Go.Proofs.Ytebapdgajjimpaa
