/-
  TargetsOf of the program. Conditions: those typed at each theorem.
-/
import Derived.Test.YthgfnbgdpmbolaaCuTg
import Derived.Test.YthgfnbgdpmbolaaShelf
import Derived.Lib.OwnBridge
namespace Go.Proofs.Ythgfnbgdpmbolaa
open Go.RowKit Go.Lib Go.Sort
theorem flat_enc (o : List ByteArray) : o.flatMap sC = (toB o).map encStr := by
  induction o with
  | nil => rfl
  | cons x o ih => simp only [List.flatMap_cons, ih]; rfl
theorem flat_mk (l : List Bs) : (mkS l).flatMap sC = l.map encStr := by
  induction l with
  | nil => rfl
  | cons x l ih => simp only [mkS, List.map_cons, List.flatMap_cons] at ih ⊢; rw [ih]; rfl
theorem grow_below (w : World) (os : Array Obj) : Below w.heap.size w (grow w os) :=
  ⟨rfl, rfl, rfl, by show w.heap.size ≤ (w.heap ++ os).size; rw [Array.size_append]; omega, fun j hj => heap_grow_old w os (by omega)⟩
theorem sort_nil : mkS (Lib.compact (sortK (toB []))) = [] := by simp [toB, sortK, mkS, Lib.compact, Lib.compactUpTo]
theorem sortT_any (B g c n : Nat) (o : List ByteArray) (W : World) (h : W.ownsRow B 9 1 (.slice (some ⟨g, 0, none⟩) n c) n (o.flatMap sC)) (hn : o.length = n) (hb : n ≤ 1048576) :
    Calls Try.prog 28 #[.slice (some ⟨g, 0, none⟩) n c] W fun e w' => e = .returned (.tuple #[]) ∧ ∃ k : Exb B W, w' = k.v ∧ k.v.ownsRow B 9 1 (.slice (some ⟨g, 0, none⟩) n c) n ((sortK (toB o)).map encStr) := by
  subst hn
  rw [flat_enc] at h
  obtain ⟨g', cap, he, hBg, hlt, hcap, hcm, hzl, hH⟩ := holds_of_ownsRow h (by intro h; cases h)
  cases he
  have hS := Try.slices_Sort_string g 0 c (toB o) W hH hlt (by rw [toB_len]; omega)
  rw [toB_len] at hS
  refine hS.mono ?_
  rintro e w' ⟨rfl, m, os, rfl⟩
  have hl : (sortK (toB o)).length = o.length := by rw [sortK_len, toB_len]
  have h1 := ownsRow_putRow (q := m) (k := o.length) h hl (Nat.le_refl _)
  rw [List.take_of_length_le (by omega)] at h1
  have hb1 : Below B W (putRow encStr (Sort.ahead W m) g 0 (sortK (toB o)).toArray) := below_putRow (Below.refl _ _) hBg
  refine ⟨rfl, ⟨_, hb1.trans ((grow_below _ _).mono (by have := hb1.size; have := hBg; omega))⟩, rfl, ?_⟩
  refine ownsRow_congr h1 fun g' hg' => ?_
  cases hg'
  exact heap_grow_old _ _ (by simpa using hlt)
theorem compT_any (B g c n : Nat) (ts : List Bs) (W : World) (h : W.ownsRow B 9 1 (.slice (some ⟨g, 0, none⟩) n c) n (ts.map encStr)) (hb : n ≤ 1048576) :
    Calls Try.prog 29 #[.slice (some ⟨g, 0, none⟩) n c] W fun e w' => e = .returned (.slice (some ⟨g, 0, none⟩) (mkS (Lib.compact ts)).length c) ∧ ∃ k : Exb B W, w' = k.v ∧ k.v.ownsRow B 9 1 (.slice (some ⟨g, 0, none⟩) (mkS (Lib.compact ts)).length c) (mkS (Lib.compact ts)).length ((mkS (Lib.compact ts)).flatMap sC) := by
  obtain ⟨g', cap, he, hBg, hlt, hcap, hcm, hzl, hH⟩ := holds_of_ownsRow h (by intro h; cases h)
  cases he
  subst hzl
  have hml : (mkS (Lib.compact ts)).length = (Lib.compact ts).length := by simp [mkS]
  rw [hml, flat_mk]
  have hcl := compact_length_le ts
  refine (Try.slices_Compact_string g 0 c ts W hH (by omega) hcap).mono ?_
  rintro e w' ⟨rfl, m, rfl⟩
  have h1 := ownsRow_putRow (q := m) (k := (Lib.compact ts).length) (ys := Lib.compact ts ++ List.replicate (ts.length - (Lib.compact ts).length) []) h (by simp; omega) hcl
  rw [List.take_left] at h1
  exact ⟨rfl, ⟨_, below_putRow (Below.refl _ _) hBg⟩, rfl, h1⟩
section
set_option maxHeartbeats 3200000
set_option maxRecDepth 20000
/-- the first targets -/
def tgO (l : List Cu) (q : Nat) : List ByteArray := (l.take q).map fun x => x.tg
theorem tgO_succ {l : List Cu} {q : Nat} (h : q < l.length) : tgO l (q + 1) = tgO l q ++ [(cuG l q).tg] := by
  unfold tgO
  rw [List.take_succ_eq_append_getElem h, List.map_append, cuG_at h]
  rfl
theorem tgO_len {l : List Cu} {q : Nat} (h : q ≤ l.length) : (tgO l q).length = q := by simp [tgO]; omega
theorem tgO_all (l : List Cu) : toB (tgO l l.length) = tgB l := by unfold tgO toB tgB; rw [List.take_length, List.map_map]; rfl
theorem tg_main (l : List Cu) : mkS (Lib.compact (sortK (toB (tgO l l.length)))) = mkS (insAll (tgB l) l.length) := by
  rw [tgO_all, sort_compact]
  simp [tgB]
theorem iTg_any (A : Option Addr) (c : Nat) (l : List Cu) (w : World) [hk : COks l] [hl : Rd 6 cC w A l] (hcap : l.length ≤ c) (hn : l.length ≤ 1048576) {rv : List ByteArray} {re : Int} (hrv : tgV l = rv) (hre : tgE l = re) :
    Calls Try.prog 13 #[.slice A l.length c] w fun e w' => ∃ A' c', e = .returned (.tuple #[.slice A' rv.length c', .int .i64 re]) ∧ ∃ k : Ex w, w' = k.v ∧ Ow 1 sC k.v A' rv ∧ Fr w A' := by
  subst hrv; subst hre
  cases hv : vCs l
  · have HR : Hid (tgV l = [] ∧ tgE l = 1) := hid (by unfold tgV tgE; rw [hv]; exact ⟨rfl, rfl⟩)
    have HV := hid hv
    clear hv
    go_enter Try.func13, Try.ntmps13
    go_wp2_with ((go_at_call 21; (with_reducible refine (iCs_any _ _ l _ ?_ ?_ (HV.out)).mono ?_); (· omega); (· omega); rintro e w' ⟨rfl, k, rfl⟩))
    go_ret2
    rw [HR.out.1, HR.out.2]
    exact ⟨none, 0, by rfl, ex_and (fun W => Ow 1 sC W none ([] : List ByteArray) ∧ Fr w none) (by (refine Ok.toEx ?_; (repeat (first | (with_reducible exact Ok.rf _) | (with_reducible refine Ok.alloc ?_ _) | (with_reducible refine Ok.ex ?_ _) | (with_reducible refine Ok.drew ?_) | (with_reducible refine Ok.setCellI ?_ _ _ _) | (with_reducible refine Ok.exb ?_ _))))) ⟨Ow.nil, inferInstance⟩⟩
  · have HR : Hid (tgV l = mkS (insAll (tgB l) l.length) ∧ tgE l = 0) := hid (by unfold tgV tgE; rw [if_pos hv, if_pos hv]; exact ⟨rfl, rfl⟩)
    have HV := hid hv
    clear hv
    have HA := hid hl.cu
    go_enter Try.func13, Try.ntmps13
    go_wp2_with ((go_at_call 21; (with_reducible refine (iCs_any _ _ l _ ?_ ?_ (HV.out)).mono ?_); (· omega); (· omega); rintro e w' ⟨rfl, k, rfl⟩))
    go_loopw [4, 12] (fun v t wr => ∃ q : Nat, q ≤ l.length ∧ t = .int .i64 q ∧ ∃ j : Ex k.v, wr = j.v ∧ j.v.ownsRow k.v.heap.size 9 1 v (tgO l q).length ((tgO l q).flatMap sC)) (fun _ t _ => l.length - (intOf t).toNat)
    case atStart => exact ⟨0, Nat.zero_le _, rfl, Ex.rf _, rfl, row_nil k.v k.v.heap.size 9 1 sC⟩
    case round =>
      obtain ⟨q, hq, rfl, j0, rfl, hrow⟩ := hrel
      obtain ⟨A1, c1, rfl, hO, hF⟩ := Ow.of_row (f := sC) (fun _ => rfl) hrow
      have HROW := hid hrow
      clear hrow
      have HL := hid (tgO_len hq)
      by_cases hlt : q < l.length
      · obtain ⟨b', o', rfl, hbw, hat⟩ := HA.out (by omega)
        obtain ⟨c0, c1', c2, c3, c4, c5⟩ := hat q hlt
        clear hat hO hF
        have HS := hid (tgO_succ hlt)
        generalize cuG l q = x at *
        have hz1 : (0 : Int) ≤ (q : Int) := by omega
        have hz2 : (q : Int) < (l.length : Int) := by omega
        go_wp2_with (at_builtin; go_loud (refine wpList_appZ sC _ rfl _ _ _ rfl k.v.heap.size ?_ _ _ _ _ Try.underlying26 tgInfo rfl (by omega) (fun _ => ⟨rfl, by simp [sC, Value.oneCell']⟩) (.slice A1 (tgO l q).length c1) (tgO l q) rfl ((HROW.out.alloc _).alloc _) x.tg _ _ rfl (cellsB ?_) ?_ ?_ ?_; (· have := j0.size; simp; omega); (· simp); (· rw [HL.out]; omega); (· rw [HL.out]; omega); intro v2 kk2 hA2))
        go_roundw
        case rel => exact ⟨q + 1, by omega, by go_num, ⟨kk2.v, ((((Below.refl _ _).trans j0.h).alloc j0.size _).alloc (by have := j0.size; simp; omega) _).trans kk2.h⟩, rfl, by rw [HS.out]; exact hA2.own⟩
        case measure => simp [intOf]; omega
      · obtain rfl : q = l.length := by omega
        have HM := hid (tg_main l)
        obtain ⟨o, ho⟩ : ∃ o, tgO l l.length = o := ⟨_, rfl⟩
        rw [ho] at HL HROW HM hO
        rw [ho]
        clear ho
        have hlen := HL.out
        rcases Nat.eq_zero_or_pos l.length with h0 | h0
        · obtain rfl : o = [] := List.eq_nil_of_length_eq_zero (by omega)
          clear hlen h0
          go_wp2_with (first | (go_at_call 28; go_loud (refine (Try.slices_Sort_string_none _ _ _).mono ?_; rintro e w' ⟨rfl, rfl⟩)) | (go_at_call 29; go_loud (refine (Try.slices_Compact_string_empty _ _ _).mono ?_; rintro e w' ⟨rfl, rfl⟩)))
          go_ret2
          rw [HR.out.1, HR.out.2, ← HM.out, sort_nil]
          exact ⟨A1, c1, by rfl, ex_and (fun W => Ow 1 sC W A1 ([] : List ByteArray) ∧ Fr w A1) (by (refine Ok.toEx ?_; (repeat (first | (with_reducible exact Ok.rf _) | (with_reducible refine Ok.alloc ?_ _) | (with_reducible refine Ok.ex ?_ _) | (with_reducible refine Ok.drew ?_) | (with_reducible refine Ok.setCellI ?_ _ _ _) | (with_reducible refine Ok.exb ?_ _))))) ⟨Ow.nil, ⟨fun g p m e => Nat.le_trans (inferInstance : LeB w.heap.size k.v.heap.size).h (hF g p m e)⟩⟩⟩
        · obtain ⟨g, rfl, hw⟩ := hO.own (by omega)
          have hFg := hF g 0 none rfl
          have hlw := (inferInstance : LeB w.heap.size k.v.heap.size).h
          haveI hlg : LeB w.heap.size k.v.heap.size := ⟨hlw⟩
          have hob : o.length ≤ 1048576 := by omega
          clear hO hF hlen
          go_wp2_with (first | (go_at_call 28; go_loud ((with_reducible refine (sortT_any k.v.heap.size g c1 o.length o _ HROW.out rfl ?_).mono ?_); (· omega); rintro e w' ⟨rfl, kk1, rfl, hr1⟩)) | (go_at_call 29; go_loud ((with_reducible refine (compT_any k.v.heap.size g c1 o.length (sortK (toB o)) _ hr1 ?_).mono ?_); (· omega); rw [HM.out]; rintro e w' ⟨rfl, kk2, rfl, hr2⟩)))
          go_ret2
          rw [HR.out.1, HR.out.2]
          obtain ⟨A3, c3, he, hO3, hF3⟩ := Ow.of_row (f := sC) (fun _ => rfl) hr2
          cases he
          exact ⟨some ⟨g, 0, none⟩, c1, by rfl, ex_and (fun W => Ow 1 sC W (some ⟨g, 0, none⟩) (mkS (insAll (tgB l) l.length)) ∧ Fr w (some ⟨g, 0, none⟩)) (by (refine Ok.toEx ?_; (repeat (first | (with_reducible exact Ok.rf _) | (with_reducible refine Ok.alloc ?_ _) | (with_reducible refine Ok.ex ?_ _) | (with_reducible refine Ok.drew ?_) | (with_reducible refine Ok.setCellI ?_ _ _ _) | (with_reducible refine Ok.exb ?_ _))))) ⟨hO3, ⟨fun b p m e => by cases e; omega⟩⟩⟩
theorem sTg_any (A : Option Addr) (c : Nat) (l : List Cu) (w : World) [hk : COks l] [hl : Rd 6 cC w A l] (hn : l.length ≤ 1048576) {rv : List ByteArray} {re : Int} (hrv : tgV l = rv) (hre : tgE l = re) :
    Calls Try.prog 11 #[.slice A l.length c] w fun e w' => ∃ A' c', e = .returned (.tuple #[.slice A' rv.length c', .int .i64 re]) ∧ ∃ k : Ex w, w' = k.v ∧ Ow 1 sC k.v A' rv ∧ Fr w A' := by
  subst hrv; subst hre
  cases hv : vCs l
  · have HR : Hid (tgV l = [] ∧ tgE l = 1) := hid (by unfold tgV tgE; rw [hv]; exact ⟨rfl, rfl⟩)
    have HV := hid hv
    clear hv
    go_enter Try.func11, Try.ntmps11
    go_wp2_with ((go_at_call 25; (with_reducible refine (sCs_any _ _ l _ ?_ (HV.out)).mono ?_); (· omega); rintro e w' ⟨rfl, k, rfl⟩))
    go_ret2
    rw [HR.out.1, HR.out.2]
    exact ⟨none, 0, by rfl, ex_and (fun W => Ow 1 sC W none ([] : List ByteArray) ∧ Fr w none) (by (refine Ok.toEx ?_; (repeat (first | (with_reducible exact Ok.rf _) | (with_reducible refine Ok.alloc ?_ _) | (with_reducible refine Ok.ex ?_ _) | (with_reducible refine Ok.drew ?_) | (with_reducible refine Ok.setCellI ?_ _ _ _) | (with_reducible refine Ok.exb ?_ _))))) ⟨Ow.nil, inferInstance⟩⟩
  · have HR : Hid (tgV l = mkS (insAll (tgB l) l.length) ∧ tgE l = 0) := hid (by unfold tgV tgE; rw [if_pos hv, if_pos hv]; exact ⟨rfl, rfl⟩)
    have HV := hid hv
    clear hv
    go_enter Try.func11, Try.ntmps11
    go_wp2_with (first | (go_at_call 25; (with_reducible refine (sCs_any _ _ l _ ?_ (HV.out)).mono ?_); (· omega); rintro e w' ⟨rfl, k, rfl⟩) | (go_at_call 26; go_loud ((with_reducible refine (sTgs_any _ c l _ ?_).mono ?_); (· omega); rintro e w' ⟨A1, c1, rfl, k2, rfl, hO, hF⟩)))
    go_ret2
    rw [HR.out.1, HR.out.2]
    exact ⟨A1, c1, by rfl, ex_and (fun W => Ow 1 sC W A1 (mkS (insAll (tgB l) l.length)) ∧ Fr w A1) (by (refine Ok.toEx ?_; (repeat (first | (with_reducible exact Ok.rf _) | (with_reducible refine Ok.alloc ?_ _) | (with_reducible refine Ok.ex ?_ _) | (with_reducible refine Ok.drew ?_) | (with_reducible refine Ok.setCellI ?_ _ _ _) | (with_reducible refine Ok.exb ?_ _))))) ⟨hO, hF.mono⟩⟩
end
end Go.Proofs.Ythgfnbgdpmbolaa
