/-
  DropCue: both. Conditions: those typed at each theorem.
-/
import Derived.Test.YtdhflckombkimaaGreatDoorJ16
import Derived.Test.YtdhflckombkimaaGreatDoorJ23
import Derived.Test.YtdhflckombkimaaGreatDoorJ18
namespace Go.Proofs.YtdhflckombkimaaGreatDoor
open Go.RowKit
noncomputable def dcV (l : List Cu) (nm : ByteArray) : List Cu := if vCs l = true then (if cIx l nm < l.length then woC l (cIx l nm) else []) else []
noncomputable def dcE (l : List Cu) (nm : ByteArray) : Int := if vCs l = true then (if cIx l nm < l.length then 0 else 3) else 1
theorem dc_inv {l : List Cu} {nm : ByteArray} (h : vCs l = false) : dcV l nm = [] ∧ dcE l nm = 1 := by unfold dcV dcE; rw [h]; exact ⟨rfl, rfl⟩
theorem dc_miss {l : List Cu} {nm : ByteArray} (h : vCs l = true) (hb : ∀ j, j < l.length → ((cuG l j).id.toList == nm.toList) = false) : dcV l nm = [] ∧ dcE l nm = 3 := by unfold dcV dcE; rw [if_pos h, if_pos h, cIx_miss hb, if_neg (by omega), if_neg (by omega)]; exact ⟨rfl, rfl⟩
theorem dc_hit {l : List Cu} {nm : ByteArray} {q : Nat} (h : vCs l = true) (hq : q < l.length) (he : ((cuG l q).id.toList == nm.toList) = true) (hb : ∀ j, j < q → ((cuG l j).id.toList == nm.toList) = false) : dcV l nm = woC l q ∧ dcE l nm = 0 := by unfold dcV dcE; rw [if_pos h, if_pos h, cIx_hit hq he hb, if_pos hq, if_pos hq]; exact ⟨rfl, rfl⟩
theorem dcV_len (l : List Cu) (nm : ByteArray) : (dcV l nm).length ≤ 64 := by
  unfold dcV
  split
  · rename_i h
    have := (vCs_of h).1
    split
    · rename_i h2; rw [woC_len h2]; omega
    · simp
  · simp
section
set_option maxHeartbeats 3200000
set_option maxRecDepth 20000
theorem iDropCue_any (A : Option Addr) (c : Nat) (l : List Cu) (nm : ByteArray) (w : World) [hk : COks l] [hl : Rd 6 cC w A l] (hcap : l.length ≤ c) (hn : l.length ≤ 1048576) {rv : List Cu} {re : Int} (hrv : dcV l nm = rv) (hre : dcE l nm = re) :
    Calls Tryz.prog 9 #[.slice A l.length c, .string nm] w fun e w' => ∃ A' c', e = .returned (.tuple #[.slice A' rv.length c', .int .i64 re]) ∧ ∃ k : Ex w, w' = k.v ∧ Ow 6 cC k.v A' rv ∧ Fr w A' := by
  subst hrv; subst hre
  have hlen := hl.len
  cases hv : vCs l
  · have HR := hid (dc_inv (nm := nm) hv)
    have HV := hid hv
    clear hv
    go_enter Tryz.func9, Tryz.ntmps9
    go_wp2_with ((go_at_call 21; (with_reducible refine (iCs_any _ _ l _ ?_ ?_ (HV.out)).mono ?_); (· omega); (· omega); rintro e w' ⟨rfl, k, rfl⟩))
    go_ret2
    rw [HR.out.1, HR.out.2]
    exact ⟨none, 0, by rfl, k, rfl, Ow.nil, inferInstance⟩
  · have HV := hid hv
    rcases cI_part l nm with ⟨q, hq, he, hb⟩ | hb
    · have HM := hid (cII_hit hq he hb)
      have HR := hid (dc_hit hv hq he hb)
      have hwl := hid (woC_len hq)
      clear hv he hb
      go_enter Tryz.func9, Tryz.ntmps9
      go_wp2_with (first | (go_at_call 21; (with_reducible refine (iCs_any _ _ l _ ?_ ?_ (HV.out)).mono ?_); (· omega); (· omega); rintro e w' ⟨rfl, k, rfl⟩) | (go_at_call 23; go_loud ((with_reducible refine (cueIx_any _ l.length _ l _ _ ?_ rfl (HM.out)).mono ?_); (· infer_instance); rintro e w' ⟨rfl, k2, rfl⟩)) | (go_at_call 25; (with_reducible refine (clone_row _ _ l _ ?_ ?_).mono ?_); (· omega); (· omega); rintro e w' ⟨g, c9, rfl, hcc, k9, rfl, -, hw9, hg9⟩) | (go_at_call 26; (with_reducible refine (del_any g c9 l.length q l _ hg9 hw9 ?_ ?_ ?_ ?_).mono ?_); (· rfl); (· exact hq); (· exact hcc); (· omega); rintro e w' ⟨rfl, k8, rfl, hw8, -⟩))
      go_ret2
      rw [HR.out.1, HR.out.2]
      haveI hw7 : Wr 6 cC k8.v g (woC l q) := hw8
      refine ⟨some ⟨g, 0, none⟩, c9, by rw [hwl.out]; rfl, ex_and (fun W => Ow 6 cC W (some ⟨g, 0, none⟩) (woC l q) ∧ Fr w (some ⟨g, 0, none⟩)) (by (refine Ok.toEx ?_; (repeat (first | (with_reducible exact Ok.rf _) | (with_reducible refine Ok.alloc ?_ _) | (with_reducible refine Ok.ex ?_ _) | (with_reducible refine Ok.drew ?_) | (with_reducible refine Ok.setCellI ?_ _ _ _) | (with_reducible refine Ok.exb ?_ _))))) ⟨inferInstance, ⟨fun b o m h => by cases h; exact Nat.le_trans (by have := (inferInstance : LeB w.heap.size k2.v.heap.size).h; exact this) hg9.h⟩⟩⟩
    · have HM := hid (cII_miss hb)
      have HR := hid (dc_miss hv hb)
      clear hv hb
      go_enter Tryz.func9, Tryz.ntmps9
      go_wp2_with (first | (go_at_call 21; (with_reducible refine (iCs_any _ _ l _ ?_ ?_ (HV.out)).mono ?_); (· omega); (· omega); rintro e w' ⟨rfl, k, rfl⟩) | (go_at_call 23; go_loud ((with_reducible refine (cueIx_any _ l.length _ l _ _ ?_ rfl (HM.out)).mono ?_); (· infer_instance); rintro e w' ⟨rfl, k2, rfl⟩)))
      go_ret2
      rw [HR.out.1, HR.out.2]
      exact ⟨none, 0, by rfl, ex_and (fun W => Ow 6 cC W none ([] : List Cu) ∧ Fr w none) (by (refine Ok.toEx ?_; (repeat (first | (with_reducible exact Ok.rf _) | (with_reducible refine Ok.alloc ?_ _) | (with_reducible refine Ok.ex ?_ _) | (with_reducible refine Ok.drew ?_) | (with_reducible refine Ok.setCellI ?_ _ _ _) | (with_reducible refine Ok.exb ?_ _))))) ⟨Ow.nil, inferInstance⟩⟩
end
end Go.Proofs.YtdhflckombkimaaGreatDoor
