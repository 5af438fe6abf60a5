/-
  MoveCue of the specification. Conditions: those typed at each theorem.
-/
import Derived.Test.YtdhflckombkimaaGreatDoorJ18
import Derived.Test.YtdhflckombkimaaGreatDoorJ21
import Derived.Deep.RegionHeld3
namespace Go.Proofs.YtdhflckombkimaaGreatDoor
open Go.RowKit
/-- cue q at another time -/
abbrev atT (x : Cu) (t : Int) : Cu := ⟨x.id, t, x.ln, x.tg, x.act, x.v⟩
/-- what MoveCue leaves, and its code -/
noncomputable def mvR (l : List Cu) (nm : ByteArray) (t : Int) : List Cu × Int :=
  if vCs l = true then (if 0 ≤ t ∧ t ≤ 7200000 then (if cIx l nm < l.length then (if vC (atT (cuG l (cIx l nm)) t) = true then (putL (woC l (cIx l nm)) (atT (cuG l (cIx l nm)) t), 0) else ([], 6)) else ([], 3)) else ([], 2)) else ([], 1)
theorem mv_inv {l : List Cu} {nm : ByteArray} {t : Int} (h : vCs l = false) : mvR l nm t = ([], 1) := by unfold mvR; rw [h]; rfl
theorem mv_rng {l : List Cu} {nm : ByteArray} {t : Int} (h : vCs l = true) (ht : ¬ (0 ≤ t ∧ t ≤ 7200000)) : mvR l nm t = ([], 2) := by unfold mvR; rw [if_pos h, if_neg ht]
theorem mv_miss {l : List Cu} {nm : ByteArray} {t : Int} (h : vCs l = true) (ht : 0 ≤ t ∧ t ≤ 7200000) (hb : ∀ j, j < l.length → ((cuG l j).id.toList == nm.toList) = false) : mvR l nm t = ([], 3) := by unfold mvR; rw [if_pos h, if_pos ht, cIx_miss hb, if_neg (Nat.lt_irrefl _)]
theorem mv_bad {l : List Cu} {nm : ByteArray} {t : Int} {q : Nat} (h : vCs l = true) (ht : 0 ≤ t ∧ t ≤ 7200000) (hq : q < l.length) (he : ((cuG l q).id.toList == nm.toList) = true) (hb : ∀ j, j < q → ((cuG l j).id.toList == nm.toList) = false) (hx : vC (atT (cuG l q) t) = false) : mvR l nm t = ([], 6) := by unfold mvR; rw [if_pos h, if_pos ht, cIx_hit hq he hb, if_pos hq, if_neg (by rw [hx]; simp)]
theorem mv_go {l : List Cu} {nm : ByteArray} {t : Int} {q : Nat} (h : vCs l = true) (ht : 0 ≤ t ∧ t ≤ 7200000) (hq : q < l.length) (he : ((cuG l q).id.toList == nm.toList) = true) (hb : ∀ j, j < q → ((cuG l j).id.toList == nm.toList) = false) (hx : vC (atT (cuG l q) t) = true) : mvR l nm t = (putL (woC l q) (atT (cuG l q) t), 0) := by unfold mvR; rw [if_pos h, if_pos ht, cIx_hit hq he hb, if_pos hq, if_pos hx]
section
set_option maxHeartbeats 3200000
set_option maxRecDepth 20000
end
end Go.Proofs.YtdhflckombkimaaGreatDoor
