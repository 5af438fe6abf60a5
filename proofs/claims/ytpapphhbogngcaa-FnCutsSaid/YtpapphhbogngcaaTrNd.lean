/-
  NeedlessKeys, both. Conditions: those typed at each theorem.
-/
import Derived.Test.YtpapphhbogngcaaTrZ
namespace Go.Proofs.Ytpapphhbogngcaa
open Go.RowKit
theorem woK_get {l : List Ky} {i k : Nat} (hi : i < l.length) (hk : k < (woK l i).length) : (woK l i)[k] = if k < i then kyG l k else kyG l (k + 1) := by
  have hl := woK_len hi
  have ht : (l.take i).length = i := by rw [List.length_take]; omega
  have hk' : k < (l.take i ++ l.drop (i + 1)).length := hk
  show (l.take i ++ l.drop (i + 1))[k] = _
  by_cases h : k < i
  · rw [List.getElem_append_left (by omega), List.getElem_take, if_pos h, kyG_at]
  · rw [List.getElem_append_right (by omega), if_neg h, kyG_at (by omega)]
    simp only [ht, List.getElem_drop]
    congr 1
    omega
/-- keys without one -/
theorem VK.wo {l : List Ky} (h : VK l) {i : Nat} (hi : i < l.length) (h2 : 2 ≤ l.length) : VK (woK l i) := by
  have hl := woK_len hi
  obtain ⟨n1, n2⟩ := h.n
  refine ⟨by omega, fun k hk => ?_, fun k hk => ?_, fun a b hb hab => ?_⟩
  · rw [woK_get hi hk]
    split
    · exact (h.kg k (by omega)).1
    · exact (h.kg (k + 1) (by omega)).1
  · rw [woK_get hi hk]
    split
    · exact (h.kg k (by omega)).2
    · exact (h.kg (k + 1) (by omega)).2
  · have hr : ∀ x y, x < y → y < l.length → (kyG l x).t < (kyG l y).t := fun x y hxy hy => by rw [kyG_at (by omega), kyG_at hy]; exact h.ris x y hy hxy
    rw [woK_get hi hb, woK_get hi (by omega)]
    split <;> split
    · exact hr _ _ hab (by omega)
    · exact hr _ _ (by omega) (by omega)
    · exact hr _ _ (by omega) (by omega)
    · exact hr _ _ (by omega) (by omega)
/-- does key i change nothing? -/
def isNd (l : List Ky) (i : Nat) : Prop := 1 ≤ i ∧ vAt (woK l i) (kyG l i).t = (kyG l i).v
instance (l : List Ky) (i : Nat) : Decidable (isNd l i) := by unfold isNd; infer_instance
/-- the keys below k that change nothing -/
def ndF (l : List Ky) : Nat → List Int
  | 0 => []
  | k + 1 => ndF l k ++ (if isNd l k then [(k : Int)] else [])
theorem ndF_on {l : List Ky} {k : Nat} (h : isNd l k) : ndF l (k + 1) = ndF l k ++ [(k : Int)] := by simp [ndF, h]
theorem ndF_off {l : List Ky} {k : Nat} (h : ¬ isNd l k) : ndF l (k + 1) = ndF l k := by simp [ndF, h]
theorem ndF_one (l : List Ky) : ndF l 1 = [] := by rw [ndF_off (by unfold isNd; omega)]; rfl
theorem ndF_len (l : List Ky) : ∀ k, (ndF l k).length ≤ k
  | 0 => by simp [ndF]
  | k + 1 => by
    have := ndF_len l k
    unfold ndF
    split <;> simp <;> omega
/-- where the look ends -/
def ndN (l : List Ky) : Nat := if l.length ≤ 2 then 1 else l.length - 1
noncomputable def ndR (nm : ByteArray) (l : List Ky) : List Int := if vT nm l = true then ndF l (ndN l) else []
noncomputable def ndE (nm : ByteArray) (l : List Ky) : Int := if vT nm l = true then 0 else 1
theorem ndR_yes {nm : ByteArray} {l : List Ky} (h : vT nm l = true) : ndR nm l = ndF l (ndN l) ∧ ndE nm l = 0 := by unfold ndR ndE; rw [if_pos h, if_pos h]; exact ⟨rfl, rfl⟩
theorem ndR_no {nm : ByteArray} {l : List Ky} (h : vT nm l = false) : ndR nm l = [] ∧ ndE nm l = 1 := by unfold ndR ndE; rw [h]; exact ⟨rfl, rfl⟩
theorem ndR_len (nm : ByteArray) (l : List Ky) : (ndR nm l).length ≤ 24 := by
  unfold ndR
  split
  · rename_i h
    have h1 := (vT_of h).2.1
    have h2 := ndF_len l (ndN l)
    have h3 : ndN l ≤ 24 := by unfold ndN; split <;> omega
    omega
  · simp
section
set_option maxHeartbeats 3200000
set_option maxRecDepth 20000
theorem valN_any (A : Option Addr) (n c : Nat) (l : List Ky) (t : Int) (w : World) (hl : Rd 2 kC w A l) (hnl : l.length = n) (h : VK l) (ht : 0 ≤ t ∧ t ≤ 7200000) {v : Int} (hv : vAt l t = v) :
    Calls Try.prog 59 #[.slice A n c, .int .i64 t] w fun e w' => e = .returned (.int .i64 v) ∧ ∃ k : Ex w, w' = k.v := by
  subst hnl; subst hv; exact valueAt_any A c l t w h ht
end
end Go.Proofs.Ytpapphhbogngcaa
