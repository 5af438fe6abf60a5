/-
  StretchTrack. Conditions: those typed at each theorem.
-/
import Derived.Test.YtpapphhbogngcaaTrN
namespace Go.Proofs.Ytpapphhbogngcaa
open Go.RowKit
def strK (l : List Ky) (n d : Int) : List Ky := l.map fun k => ⟨k.t * n / d, k.v⟩
noncomputable def strR (nm : ByteArray) (l : List Ky) (n d : Int) : TR3 := if vT nm l = true then (if (1 ≤ n ∧ n ≤ 100) ∧ 1 ≤ d ∧ d ≤ 100 then trChk nm (strK l n d) else trErr 2) else trErr 1
theorem strK_len (l : List Ky) (n d : Int) : (strK l n d).length = l.length := by simp [strK]
/-- the keys with the first q stretched -/
def stF (l : List Ky) (n d : Int) (q : Nat) : Nat → Ky := fun k => if k < q then ⟨(kyG l k).t * n / d, (kyG l k).v⟩ else kyG l k
theorem stF_step (l : List Ky) (n d : Int) (q : Nat) : updT (stF l n d q) q ((kyG l q).t * n / d) = stF l n d (q + 1) := by
  funext k
  unfold updT stF
  by_cases h : k = q
  · subst h; simp
  · by_cases h2 : k < q
    · simp [h, h2, show k < q + 1 by omega]
    · simp [h, h2, show ¬ k < q + 1 by omega]
theorem stF_at (l : List Ky) (n d : Int) (q : Nat) : stF l n d q q = kyG l q := by simp [stF]
theorem stF_zero (l : List Ky) (n d : Int) : stF l n d 0 = kyG l := by funext k; simp [stF]
theorem stF_end {l : List Ky} {n d : Int} {k : Nat} (hk : k < (strK l n d).length) : (strK l n d)[k] = stF l n d l.length k := by
  have hk' : k < l.length := by rwa [strK_len] at hk
  simp [strK, stF, hk', kyG_at hk']
theorem strR_inv {nm : ByteArray} {l : List Ky} {n d : Int} (h : vT nm l = false) : strR nm l n d = trErr 1 := by unfold strR; rw [h]; rfl
theorem strR_rng {nm : ByteArray} {l : List Ky} {n d : Int} (h : vT nm l = true) (hd : ¬ ((1 ≤ n ∧ n ≤ 100) ∧ 1 ≤ d ∧ d ≤ 100)) : strR nm l n d = trErr 2 := by unfold strR; rw [if_pos h, if_neg hd]
theorem strR_go {nm : ByteArray} {l : List Ky} {n d : Int} (h : vT nm l = true) (hd : (1 ≤ n ∧ n ≤ 100) ∧ 1 ≤ d ∧ d ≤ 100) : strR nm l n d = trChk nm (strK l n d) := by unfold strR; rw [if_pos h, if_pos hd]
theorem strR_len (nm : ByteArray) (l : List Ky) (n d : Int) : (strR nm l n d).l.length ≤ 24 := by
  unfold strR
  split
  · split
    · exact trChk_len _ _
    · simp [trErr]
  · simp [trErr]
theorem str_bd {t n d : Int} (t1 : 0 ≤ t) (t2 : t ≤ 7200000) (hn : 1 ≤ n ∧ n ≤ 100) (hd : 1 ≤ d ∧ d ≤ 100) : 0 ≤ t * n ∧ t * n ≤ 720000000 ∧ 0 ≤ t * n / d ∧ t * n / d ≤ 720000000 := by
  have h1 : 0 ≤ t * n := Int.mul_nonneg t1 (by omega)
  have h2 := (prod_bd (a := t) (b := n) (A := 7200000) (B := 100) (by omega) t2 (by omega) hn.2 (by omega)).2
  have h3 : t * n / d ≤ t * n := Int.ediv_le_self _ h1
  exact ⟨h1, by omega, Int.ediv_nonneg h1 (by omega), by omega⟩
theorem KR.kx {W : World} {b : Nat} {f : Nat → Ky} {n : Nat} (h : KR W b f n) (k : Ex W) : KR k.v b f n := h.block (k.block h.lt.h)
section
set_option maxHeartbeats 3200000
set_option maxRecDepth 20000
end
end Go.Proofs.Ytpapphhbogngcaa
