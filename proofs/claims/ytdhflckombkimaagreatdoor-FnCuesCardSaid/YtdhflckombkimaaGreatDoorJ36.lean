/-
  TargetsOf of the specification. Conditions: those typed at each theorem.
  TargetsOf of the program. Conditions: those typed at each theorem.
-/
import Derived.Test.YtdhflckombkimaaGreatDoorJ16
import Derived.Test.YtdhflckombkimaaGreatDoorJ18
import Derived.Test.YtdhflckombkimaaGreatDoorJ34
import Derived.Test.YtdhflckombkimaaGreatDoorJ11
import Derived.Test.YtdhflckombkimaaGreatDoorJ17
import Derived.Sort.Walk0
import Derived.Test.YtdhflckombkimaaGreatDoorShelf
import Derived.Lib.OwnBridge
namespace Go.Proofs.YtdhflckombkimaaGreatDoor
open Go.RowKit
/-- the targets, as bytes -/
def tgB (l : List Cu) : List Bs := l.map fun x => x.tg.data.toList
theorem tgB_at {l : List Cu} {k : Nat} (h : k < l.length) : (tgB l).getD k [] = (cuG l k).tg.data.toList := by
  rw [cuG_at h]
  simp [tgB, List.getD, h]
noncomputable def tgV (l : List Cu) : List ByteArray := if vCs l = true then mkS (insAll (tgB l) l.length) else []
noncomputable def tgE (l : List Cu) : Int := if vCs l = true then 0 else 1
theorem tgV_len (l : List Cu) : (tgV l).length ≤ 64 := by
  unfold tgV
  split
  · rename_i h
    have h1 := insAll_len (tgB l) l.length
    have h2 := (vCs_of h).1
    simp only [mkS, List.length_map]
    omega
  · simp
section
set_option maxHeartbeats 3200000
set_option maxRecDepth 20000
end
end Go.Proofs.YtdhflckombkimaaGreatDoor
namespace Go.Proofs.YtdhflckombkimaaGreatDoor
open Go.RowKit Go.Lib Go.Sort
section
set_option maxHeartbeats 3200000
set_option maxRecDepth 20000
/-- the first targets -/
def tgO (l : List Cu) (q : Nat) : List ByteArray := (l.take q).map fun x => x.tg
theorem tgO_succ {l : List Cu} {q : Nat} (h : q < l.length) : tgO l (q + 1) = tgO l q ++ [(cuG l q).tg] := by
  unfold tgO
  rw [List.take_succ_eq_append_getElem h, List.map_append, cuG_at h]
  rfl
theorem tgO_len {l : List Cu} {q : Nat} (h : q ≤ l.length) : (tgO l q).length = q := by simp [tgO]; omega
theorem tgO_all (l : List Cu) : toB (tgO l l.length) = tgB l := by unfold tgO toB tgB; rw [List.take_length, List.map_map]; rfl
theorem tg_main (l : List Cu) : mkS (Lib.compact (sortK (toB (tgO l l.length)))) = mkS (insAll (tgB l) l.length) := by
  rw [tgO_all, sort_compact]
  simp [tgB]
theorem iTg_any (A : Option Addr) (c : Nat) (l : List Cu) (w : World) [hk : COks l] [hl : Rd 6 cC w A l] (hcap : l.length ≤ c) (hn : l.length ≤ 1048576) {rv : List ByteArray} {re : Int} (hrv : tgV l = rv) (hre : tgE l = re) :
    Calls Tryz.prog 17 #[.slice A l.length c] w fun e w' => ∃ A' c', e = .returned (.tuple #[.slice A' rv.length c', .int .i64 re]) ∧ ∃ k : Ex w, w' = k.v ∧ Ow 1 sC k.v A' rv ∧ Fr w A' := by
  subst hrv; subst hre
  cases hv : vCs l
  · have HR : Hid (tgV l = [] ∧ tgE l = 1) := hid (by unfold tgV tgE; rw [hv]; exact ⟨rfl, rfl⟩)
    have HV := hid hv
    clear hv
    go_enter Tryz.func17, Tryz.ntmps17
    go_wp2_with ((go_at_call 21; (with_reducible refine (iCs_any _ _ l _ ?_ ?_ (HV.out)).mono ?_); (· omega); (· omega); rintro e w' ⟨rfl, k, rfl⟩))
    go_ret2
    rw [HR.out.1, HR.out.2]
    exact ⟨none, 0, by rfl, ex_and (fun W => Ow 1 sC W none ([] : List ByteArray) ∧ Fr w none) (by (refine Ok.toEx ?_; (repeat (first | (with_reducible exact Ok.rf _) | (with_reducible refine Ok.alloc ?_ _) | (with_reducible refine Ok.ex ?_ _) | (with_reducible refine Ok.drew ?_) | (with_reducible refine Ok.setCellI ?_ _ _ _) | (with_reducible refine Ok.exb ?_ _))))) ⟨Ow.nil, inferInstance⟩⟩
  · have HR : Hid (tgV l = mkS (insAll (tgB l) l.length) ∧ tgE l = 0) := hid (by unfold tgV tgE; rw [if_pos hv, if_pos hv]; exact ⟨rfl, rfl⟩)
    have HV := hid hv
    clear hv
    have HA := hid hl.cu
    go_enter Tryz.func17, Tryz.ntmps17
    go_wp2_with ((go_at_call 21; (with_reducible refine (iCs_any _ _ l _ ?_ ?_ (HV.out)).mono ?_); (· omega); (· omega); rintro e w' ⟨rfl, k, rfl⟩))
    go_loopw [4, 12] (fun v t wr => ∃ q : Nat, q ≤ l.length ∧ t = .int .i64 q ∧ ∃ j : Ex k.v, wr = j.v ∧ j.v.ownsRow k.v.heap.size 9 1 v (tgO l q).length ((tgO l q).flatMap sC)) (fun _ t _ => l.length - (intOf t).toNat)
    case atStart => exact ⟨0, Nat.zero_le _, rfl, Ex.rf _, rfl, row_nil k.v k.v.heap.size 9 1 sC⟩
    case round =>
      obtain ⟨q, hq, rfl, j0, rfl, hrow⟩ := hrel
      obtain ⟨A1, c1, rfl, hO, hF⟩ := Ow.of_row (f := sC) (fun _ => rfl) hrow
      have HROW := hid hrow
      clear hrow
      have HL := hid (tgO_len hq)
      by_cases hlt : q < l.length
      · obtain ⟨b', o', rfl, hbw, hat⟩ := HA.out (by omega)
        obtain ⟨c0, c1', c2, c3, c4, c5⟩ := hat q hlt
        clear hat hO hF
        have HS := hid (tgO_succ hlt)
        generalize cuG l q = x at *
        have hz1 : (0 : Int) ≤ (q : Int) := by omega
        have hz2 : (q : Int) < (l.length : Int) := by omega
        go_wp2_with (at_builtin; go_loud (refine wpList_appZ sC _ rfl _ _ _ rfl k.v.heap.size ?_ _ _ _ _ Tryz.underlying41 tgInfo rfl (by omega) (fun _ => ⟨rfl, by simp [sC, Value.oneCell']⟩) (.slice A1 (tgO l q).length c1) (tgO l q) rfl ((HROW.out.alloc _).alloc _) x.tg _ _ rfl (cellsB ?_) ?_ ?_ ?_; (· have := j0.size; simp; omega); (· simp); (· rw [HL.out]; omega); (· rw [HL.out]; omega); intro v2 kk2 hA2))
        go_roundw
        case rel => exact ⟨q + 1, by omega, by go_num, ⟨kk2.v, ((((Below.refl _ _).trans j0.h).alloc j0.size _).alloc (by have := j0.size; simp; omega) _).trans kk2.h⟩, rfl, by rw [HS.out]; exact hA2.own⟩
        case measure => simp [intOf]; omega
      · obtain rfl : q = l.length := by omega
        have HM := hid (tg_main l)
        obtain ⟨o, ho⟩ : ∃ o, tgO l l.length = o := ⟨_, rfl⟩
        rw [ho] at HL HROW HM hO
        rw [ho]
        clear ho
        have hlen := HL.out
        rcases Nat.eq_zero_or_pos l.length with h0 | h0
        · obtain rfl : o = [] := List.eq_nil_of_length_eq_zero (by omega)
          clear hlen h0
          go_wp2_with (first | (go_at_call 32; go_loud (refine (Tryz.slices_Sort_string_none _ _ _).mono ?_; rintro e w' ⟨rfl, rfl⟩)) | (go_at_call 33; go_loud (refine (Tryz.slices_Compact_string_empty _ _ _).mono ?_; rintro e w' ⟨rfl, rfl⟩)))
          go_ret2
          rw [HR.out.1, HR.out.2, ← HM.out, sort_nil]
          exact ⟨A1, c1, by rfl, ex_and (fun W => Ow 1 sC W A1 ([] : List ByteArray) ∧ Fr w A1) (by (refine Ok.toEx ?_; (repeat (first | (with_reducible exact Ok.rf _) | (with_reducible refine Ok.alloc ?_ _) | (with_reducible refine Ok.ex ?_ _) | (with_reducible refine Ok.drew ?_) | (with_reducible refine Ok.setCellI ?_ _ _ _) | (with_reducible refine Ok.exb ?_ _))))) ⟨Ow.nil, ⟨fun g p m e => Nat.le_trans (inferInstance : LeB w.heap.size k.v.heap.size).h (hF g p m e)⟩⟩⟩
        · obtain ⟨g, rfl, hw⟩ := hO.own (by omega)
          have hFg := hF g 0 none rfl
          have hlw := (inferInstance : LeB w.heap.size k.v.heap.size).h
          haveI hlg : LeB w.heap.size k.v.heap.size := ⟨hlw⟩
          have hob : o.length ≤ 1048576 := by omega
          clear hO hF hlen
          go_wp2_with (first | (go_at_call 32; go_loud ((with_reducible refine (sortT_any k.v.heap.size g c1 o.length o _ HROW.out rfl ?_).mono ?_); (· omega); rintro e w' ⟨rfl, kk1, rfl, hr1⟩)) | (go_at_call 33; go_loud ((with_reducible refine (compT_any k.v.heap.size g c1 o.length (sortK (toB o)) _ hr1 ?_).mono ?_); (· omega); rw [HM.out]; rintro e w' ⟨rfl, kk2, rfl, hr2⟩)))
          go_ret2
          rw [HR.out.1, HR.out.2]
          obtain ⟨A3, c3, he, hO3, hF3⟩ := Ow.of_row (f := sC) (fun _ => rfl) hr2
          cases he
          exact ⟨some ⟨g, 0, none⟩, c1, by rfl, ex_and (fun W => Ow 1 sC W (some ⟨g, 0, none⟩) (mkS (insAll (tgB l) l.length)) ∧ Fr w (some ⟨g, 0, none⟩)) (by (refine Ok.toEx ?_; (repeat (first | (with_reducible exact Ok.rf _) | (with_reducible refine Ok.alloc ?_ _) | (with_reducible refine Ok.ex ?_ _) | (with_reducible refine Ok.drew ?_) | (with_reducible refine Ok.setCellI ?_ _ _ _) | (with_reducible refine Ok.exb ?_ _))))) ⟨hO3, ⟨fun b p m e => by cases e; omega⟩⟩⟩
end
end Go.Proofs.YtdhflckombkimaaGreatDoor
