/-
  SlowTrack. Conditions: those typed at each theorem.
-/
import Derived.Test.YtebapdgajjimpaaTrQ
import Derived.Laws.Small
namespace Go.Proofs.Ytebapdgajjimpaa
open Go.RowKit
/-- the time that passes between keys k and k + 1 of the slow track -/
def slM (l : List Ky) (s : Int) (k : Nat) : Int := if (kyG l (k + 1)).t - (kyG l k).t < upI (aI ((kyG l (k + 1)).v - (kyG l k).v) * 1000) s then upI (aI ((kyG l (k + 1)).v - (kyG l k).v) * 1000) s else (kyG l (k + 1)).t - (kyG l k).t
theorem slM_hi {l : List Ky} {s : Int} {k : Nat} (h : (kyG l (k + 1)).t - (kyG l k).t < upI (aI ((kyG l (k + 1)).v - (kyG l k).v) * 1000) s) : slM l s k = upI (aI ((kyG l (k + 1)).v - (kyG l k).v) * 1000) s := by unfold slM; rw [if_pos h]
theorem slM_lo {l : List Ky} {s : Int} {k : Nat} (h : ¬ (kyG l (k + 1)).t - (kyG l k).t < upI (aI ((kyG l (k + 1)).v - (kyG l k).v) * 1000) s) : slM l s k = (kyG l (k + 1)).t - (kyG l k).t := by unfold slM; rw [if_neg h]
/-- the time of key k of the slow track -/
def slT (l : List Ky) (s : Int) : Nat → Int
  | 0 => (kyG l 0).t
  | k + 1 => slT l s k + slM l s k
/-- the keys with the first q slowed -/
def slF (l : List Ky) (s : Int) (q : Nat) : Nat → Ky := fun k => if k < q then ⟨slT l s k, (kyG l k).v⟩ else kyG l k
def slK (l : List Ky) (s : Int) : List Ky := (List.range l.length).map fun k => ⟨slT l s k, (kyG l k).v⟩
theorem slK_len (l : List Ky) (s : Int) : (slK l s).length = l.length := by simp [slK]
theorem slF_one (l : List Ky) (s : Int) : slF l s 1 = kyG l := by
  funext k
  unfold slF
  by_cases h : k < 1
  · obtain rfl : k = 0 := by omega
    simp [slT]
  · rw [if_neg h]
theorem slF_nx (l : List Ky) (s : Int) (p : Nat) : slF l s (p + 1) (p + 1) = kyG l (p + 1) := by simp [slF]
theorem slF_pr (l : List Ky) (s : Int) (p : Nat) : slF l s (p + 1) p = ⟨slT l s p, (kyG l p).v⟩ := by simp [slF]
theorem slF_step (l : List Ky) (s : Int) (p : Nat) : updT (slF l s (p + 1)) (p + 1) (slT l s p + slM l s p) = slF l s (p + 1 + 1) := by
  funext k
  unfold updT
  by_cases h : k = p + 1
  · subst h; rw [if_pos rfl, slF_nx, slF_pr]; rfl
  · rw [if_neg h]
    unfold slF
    by_cases h2 : k < p + 1
    · rw [if_pos h2, if_pos (by omega)]
    · rw [if_neg h2, if_neg (by omega)]
theorem slF_end {l : List Ky} {s : Int} {k : Nat} (hk : k < (slK l s).length) : (slK l s)[k] = slF l s l.length k := by
  have hk' : k < l.length := by rwa [slK_len] at hk
  simp [slK, slF, hk']
noncomputable def slR (nm : ByteArray) (l : List Ky) (d : Int) : TR3 := if vT nm l = true then (if 1 ≤ d ∧ d ≤ 1000000 then trChk nm (slK l d) else trErr 2) else trErr 1
theorem slR_inv {nm : ByteArray} {l : List Ky} {d : Int} (h : vT nm l = false) : slR nm l d = trErr 1 := by unfold slR; rw [h]; rfl
theorem slR_rng {nm : ByteArray} {l : List Ky} {d : Int} (h : vT nm l = true) (hd : ¬ (1 ≤ d ∧ d ≤ 1000000)) : slR nm l d = trErr 2 := by unfold slR; rw [if_pos h, if_neg hd]
theorem slR_go {nm : ByteArray} {l : List Ky} {d : Int} (h : vT nm l = true) (hd : 1 ≤ d ∧ d ≤ 1000000) : slR nm l d = trChk nm (slK l d) := by unfold slR; rw [if_pos h, if_pos hd]
theorem slR_len (nm : ByteArray) (l : List Ky) (d : Int) : (slR nm l d).l.length ≤ 24 := by
  unfold slR
  split
  · split
    · exact trChk_len _ _
    · simp [trErr]
  · simp [trErr]
theorem sl_bd {a b s : Int} (ha : -1000000 ≤ a ∧ a ≤ 1000000) (hb : -1000000 ≤ b ∧ b ≤ 1000000) (hs : 1 ≤ s) : (0 ≤ aI (b - a) ∧ aI (b - a) ≤ 2000000) ∧ 0 ≤ upI (aI (b - a) * 1000) s ∧ upI (aI (b - a) * 1000) s ≤ 2000000000 := by
  have h1 := aI_bd (n := b - a) (M := 2000000) (by omega) (by omega)
  exact ⟨h1, upI_bd (by omega) (by omega) (by omega)⟩
theorem slT_bd {l : List Ky} (h : VK l) {s : Int} (hs : 1 ≤ s) : ∀ p : Nat, p < l.length → 0 ≤ slT l s p ∧ slT l s p ≤ 7200000 + (p : Int) * 3000000000
  | 0, hp => by
    have := h.kg 0 hp
    unfold slT
    omega
  | p + 1, hp => by
    have h1 := slT_bd h hs p (by omega)
    have h2 := h.kg p (by omega)
    have h3 := h.kg (p + 1) hp
    have h4 := h.kgr p hp
    have h5 := sl_bd (s := s) h2.2 h3.2 hs
    unfold slT
    by_cases hx : (kyG l (p + 1)).t - (kyG l p).t < upI (aI ((kyG l (p + 1)).v - (kyG l p).v) * 1000) s
    · rw [slM_hi hx]; omega
    · rw [slM_lo hx]; omega
theorem But.al {A : Option Addr} {w w' : World} (h : But A w w') (o : Obj) : But A w (w'.alloc o) := But.ex h (Ex.of ((Below.refl _ _).alloc (Nat.le_refl _) o))
section
set_option maxHeartbeats 3200000
set_option maxRecDepth 20000
end
end Go.Proofs.Ytebapdgajjimpaa
