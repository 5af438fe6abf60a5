/-
  ReadCode: both, and its law. Conditions: those typed at each theorem.
-/
import Derived.Test.YtonmeffhelaohaaDoorTcX
import Derived.Test.YtonmeffhelaohaaDoorNumP
import Derived.Test.YtonmeffhelaohaaDoorErs
import Derived.Test.YtonmeffhelaohaaDoorStrC
import Derived.Test.YtonmeffhelaohaaDoorInts
import Derived.Test.YtonmeffhelaohaaDoorShelfP
import Derived.Test.YtonmeffhelaohaaDoorAppB
import Derived.Lib.Split
import Derived.BigQuiet
import Derived.Laws.StructEq
import Derived.Laws.Strings2
import Derived.Laws.Strings3
import Derived.Deep.Cut
import Derived.Deep.CutRange
import Derived.Test.YtonmeffhelaohaaDoorHeldT
import Derived.Test.YtonmeffhelaohaaDoorTcE
namespace Go.Proofs.YtonmeffhelaohaaDoor
open Go.RowKit Tc
def dOk (s : ByteArray) (i : Nat) : Prop := isD (cB s (3 * i)) ∧ isD (cB s (3 * i + 1))
instance (s : ByteArray) (i : Nat) : Decidable (dOk s i) := by unfold dOk; infer_instance
/-- the number at place i -/
def pv (s : ByteArray) (i : Nat) : Int := 10 * (((cB s (3 * i)).toNat : Int) - 48) + (((cB s (3 * i + 1)).toNat : Int) - 48)
theorem pv_bd {s : ByteArray} {i : Nat} (h : dOk s i) : 0 ≤ pv s i ∧ pv s i ≤ 99 := by
  obtain ⟨⟨h1, h2⟩, h3, h4⟩ := h
  unfold pv
  omega
theorem ext2 (s : ByteArray) (k : Nat) (h : k + 2 ≤ s.size) : (s.extract k (k + 2)).data.toList = [cB s k, cB s (k + 1)] := by
  have hl : s.data.toList.length = s.size := by simp
  rw [Lib.extract_data]
  unfold cB
  rw [List.getD_eq_getElem?_getD, List.getD_eq_getElem?_getD, List.getElem?_eq_getElem (by omega), List.getElem?_eq_getElem (by omega)]
  apply List.ext_getElem?
  intro i
  rcases i with _ | _ | i
  · simp
  · simp
  · simp
    omega
theorem parse2_ok {x y : UInt8} (hx : isD x) (hy : isD y) : Lib.parseUintB 32 [x, y] = .ok (10 * (x.toNat - 48) + (y.toNat - 48)) := by
  obtain ⟨h1, h2⟩ := hx
  obtain ⟨h3, h4⟩ := hy
  have e : (2 : Nat) ^ 32 - 1 = 4294967295 := by decide
  unfold Lib.parseUintB
  rw [if_neg (by simp), e, Lib.parseUintM, if_pos ⟨h1, h2⟩, if_neg (by omega), if_neg (by omega), Lib.parseUintM, if_pos ⟨h3, h4⟩, if_neg (by omega), if_neg (by omega), Lib.parseUintM]
  congr 1
  omega
theorem parse2_no {x y : UInt8} (h : ¬ (isD x ∧ isD y)) : Lib.parseUintB 32 [x, y] = Lib.parseUintB 32 [] := by
  generalize hr : Lib.parseUintB 32 [] = r
  have e : (2 : Nat) ^ 32 - 1 = 4294967295 := by decide
  unfold Lib.parseUintB
  rw [if_neg (by simp), e, Lib.parseUintM]
  by_cases hx : isD x
  · have hy : ¬ isD y := fun hy => h ⟨hx, hy⟩
    obtain ⟨h1, h2⟩ := hx
    rw [if_pos ⟨h1, h2⟩, if_neg (by omega), if_neg (by omega), Lib.parseUintM, if_neg (show ¬ (48 ≤ y.toNat ∧ y.toNat ≤ 57) from hy)]
    exact hr
  · rw [if_neg (show ¬ (48 ≤ x.toNat ∧ x.toNat ≤ 57) from hx)]
    exact hr
/-- a number of two digits is read -/
theorem pu_ok (s : ByteArray) (i : Nat) (w : World) (hs : 3 * i + 2 ≤ s.size) (h : dOk s i) :
    Calls Tryd.prog 23 #[.string (s.extract (3 * i) (3 * i + 2)), .int .i64 10, .int .i64 32] w fun e w' => e = .returned (.tuple #[.int .u64 (pv s i), .nilIface]) ∧ ∃ k : Ex w, w' = k.v := by
  have hz : (s.extract (3 * i) (3 * i + 2)).size ≤ 2 := by rw [ByteArray.size_extract]; omega
  have hp := parse2_ok h.1 h.2
  rw [← ext2 s (3 * i) hs] at hp
  refine (Tryd.strconv_ParseUint_10_at32_ok _ (by omega) _ hp w).mono ?_
  rintro e w' ⟨he, hw⟩
  obtain ⟨⟨h1, h2⟩, h3, h4⟩ := h
  have hv : ((10 * ((cB s (3 * i)).toNat - 48) + ((cB s (3 * i + 1)).toNat - 48) : Nat) : Int) = pv s i := by unfold pv; omega
  refine ⟨by rw [he, hv], ?_⟩
  · rcases hw with rfl | rfl
    · exact ⟨Ex.rf _, rfl⟩
    · exact ⟨⟨_, Lib.bytesWorld_below _ _ _⟩, rfl⟩
theorem pu_no (s : ByteArray) (i : Nat) (w : World) [he : Es w] (hs : 3 * i + 2 ≤ s.size) (h : ¬ dOk s i) :
    Calls Tryd.prog 23 #[.string (s.extract (3 * i) (3 * i + 2)), .int .i64 10, .int .i64 32] w fun e w' => ∃ tp N, e = .returned (.tuple #[.int .u64 0, .iface tp (.pointer (some ⟨N, 0, none⟩))]) ∧ ∃ k : Ex w, w' = k.v := by
  have hz : (s.extract (3 * i) (3 * i + 2)).size ≤ 2 := by rw [ByteArray.size_extract]; omega
  have hp := parse2_no h
  rw [← ext2 s (3 * i) hs] at hp
  obtain ⟨tp, p, hv⟩ := he.h
  refine (Tryd.strconv_ParseUint_10_at32_syntax_var _ (by omega) hp tp p w hv).mono ?_
  rintro e w' ⟨N, rfl, h1, h2, h3⟩
  exact ⟨_, N, rfl, ⟨_, h3⟩, rfl⟩
section
set_option maxHeartbeats 3200000
set_option maxRecDepth 20000
/-- is s the text of a code? -/
def rcOk (s : ByteArray) : Prop := s.size = 14 ∧ (∀ i, i < 5 → dOk s i) ∧ okCode (pv s 0) (pv s 1) (pv s 2) (pv s 3) (pv s 4) ∧ cdS (pv s 0) (pv s 1) (pv s 2) (pv s 3) (pv s 4) = s
open Classical in
noncomputable def rcR (s : ByteArray) (k : Nat) : Int := if rcOk s then pv s k else 0
open Classical in
noncomputable def rcB (s : ByteArray) : Bool := decide (rcOk s)
open Classical in
theorem rc_yes {s : ByteArray} (h : rcOk s) : (∀ k, rcR s k = pv s k) ∧ rcB s = true := ⟨fun k => if_pos h, decide_eq_true h⟩
open Classical in
theorem rc_no {s : ByteArray} (h : ¬ rcOk s) : (∀ k, rcR s k = 0) ∧ rcB s = false := ⟨fun k => if_neg h, decide_eq_false h⟩
theorem irc_any (s : ByteArray) (w : World) [Tb w] [Es w] (hs : s.size ≤ 1048576) :
    Calls Tryd.prog 7 #[.string s] w fun e w' => e = .returned (.tuple #[.agg #[.int .i64 (rcR s 0), .int .i64 (rcR s 1), .int .i64 (rcR s 2), .int .i64 (rcR s 3), .int .i64 (rcR s 4)], .bool (rcB s)]) ∧ ∃ k : Ex w, w' = k.v := by
  by_cases h14 : s.size = 14
  rotate_left
  · have hi : ((s.size : Int) != 14) = true := by rw [bne_iff_ne]; omega
    have HN := hid (rc_no fun h => h14 h.1)
    clear h14
    go_enter Tryd.func7, Tryd.ntmps7
    go_wp2_with (fail)
    (refine bodyPost_ret (v := _) (by simp [results, Tryd.results7, go_sem]; rfl) rfl ?_; refine ⟨by rw [(HN.out).1 0, (HN.out).1 1, (HN.out).1 2, (HN.out).1 3, (HN.out).1 4, (HN.out).2], ?_⟩; (refine Ok.toEx ?_; (repeat (first | (with_reducible exact Ok.rf _) | (with_reducible refine Ok.alloc ?_ _) | (with_reducible refine Ok.ex ?_ _) | (with_reducible refine Ok.drew ?_) | (with_reducible refine Ok.setCellI ?_ _ _ _) | (with_reducible refine Ok.exb ?_ _)))))
  have H14 := hid h14
  have hi : ((s.size : Int) != 14) = false := by rw [bne_eq_false_iff_eq]; omega
  clear h14
  go_enter Tryd.func7, Tryd.ntmps7
  go_wp2_with (fail)
  haveI hle0 : LeB (w.alloc (.cells #[.int .i64 0, .int .i64 0, .int .i64 0, .int .i64 0, .int .i64 0] 23)).heap.size (w.heap.size + 1) := ⟨by simp⟩
  go_loopw [13] (fun t wr => ∃ q : Nat, q ≤ 5 ∧ t = .int .i64 q ∧ (∀ i, i < q → dOk s i) ∧ ∃ j : Ex (w.alloc (.cells #[.int .i64 0, .int .i64 0, .int .i64 0, .int .i64 0, .int .i64 0] 23)), wr = j.v ∧ LtW (w.heap.size + 1) j.v ∧ (∀ k, k < 5 → j.v.cell? ⟨w.heap.size + 1, k, none⟩ = some (.int .i64 (if k < q then pv s k else 0))) ∧ (∀ k, j.v.frozen? ⟨w.heap.size + 1, k, none⟩ = false)) (fun t _ => 5 - (intOf t).toNat)
  case atStart =>
    refine ⟨0, by omega, rfl, fun i h => absurd h (by omega), ex_and (fun W => LtW (w.heap.size + 1) W ∧ (∀ k, k < 5 → W.cell? ⟨w.heap.size + 1, k, none⟩ = some (.int .i64 (if k < 0 then pv s k else 0))) ∧ (∀ k, W.frozen? ⟨w.heap.size + 1, k, none⟩ = false)) (by (refine Ok.toEx ?_; (repeat (first | (with_reducible exact Ok.rf _) | (with_reducible refine Ok.alloc ?_ _) | (with_reducible refine Ok.ex ?_ _) | (with_reducible refine Ok.drew ?_) | (with_reducible refine Ok.setCellI ?_ _ _ _) | (with_reducible refine Ok.exb ?_ _))))) ⟨⟨by simp⟩, fun k hk => ?_, fun k => by simp [go_sem]⟩⟩
    rcases k with _ | _ | _ | _ | _ | k
    · simp [go_sem]
    · simp [go_sem]
    · simp [go_sem]
    · simp [go_sem]
    · simp [go_sem]
    · omega
  case round =>
    obtain ⟨q, hq, rfl, hd, j0, rfl, hlt, hcell, hfr⟩ := hrel
    have HD := hid hd
    have HC := hid hcell
    have HF := hid hfr
    clear hd hcell hfr
    by_cases hq5 : q < 5
    · have hz1 : (0 : Int) ≤ 3 * (q : Int) := by omega
      have hz2 : (3 * (q : Int)).toNat = 3 * q := by omega
      have hz3 : (3 * (q : Int) + 2).toNat = 3 * q + 2 := by omega
      have hz4 : 3 * (q : Int) + 2 ≤ (s.size : Int) := by have := H14.out; omega
      have hz5 : 3 * q + 2 ≤ s.size := by omega
      have hsl : ∀ W : World, (Instr.slice 9 (.string s) (some (.int .i64 (3 * (q : Int)))) (some (.int .i64 (3 * (q : Int) + 2))) none).run Tryd.prog W = .ok (.string (s.extract (3 * q) (3 * q + 2))) W := fun W => by
        have h := run_slice_string (P := Tryd.prog) W 9 s .i64 .i64 (3 * (q : Int)) (3 * (q : Int) + 2) Tryd.underlying9 hz1 (by omega) hz4
        rw [hz2, hz3] at h
        exact h
      clear hz2 hz3
      by_cases hdq : dOk s q
      · obtain ⟨hp0, hp1⟩ := pv_bd hdq
        have c0 : j0.v.cell? ⟨w.heap.size + 1, q, none⟩ = some (.int .i64 0) := by have := HC.out q hq5; rw [if_neg (by omega)] at this; exact this
        have f0 := HF.out q
        go_wp2_with (go_at_call 23; go_loud ((with_reducible refine (pu_ok s q _ hz5 hdq).mono ?_); rintro e w' ⟨rfl, k, rfl⟩))
        go_roundw
        case rel =>
          refine ⟨q + 1, by omega, by go_num, fun i hi => ?_, ex_and (fun W => LtW (w.heap.size + 1) W ∧ (∀ k, k < 5 → W.cell? ⟨w.heap.size + 1, k, none⟩ = some (.int .i64 (if k < q + 1 then pv s k else 0))) ∧ (∀ k, W.frozen? ⟨w.heap.size + 1, k, none⟩ = false)) (by (refine Ok.toEx ?_; (repeat (first | (with_reducible exact Ok.rf _) | (with_reducible refine Ok.alloc ?_ _) | (with_reducible refine Ok.ex ?_ _) | (with_reducible refine Ok.drew ?_) | (with_reducible refine Ok.setCellI ?_ _ _ _) | (with_reducible refine Ok.exb ?_ _))))) ⟨inferInstance, fun k' hk => ?_, fun k' => by simp [go_sem, HF.out k']⟩⟩
          · rcases Nat.lt_or_ge i q with h | h
            · exact HD.out i h
            · obtain rfl : i = q := by omega
              exact hdq
          · by_cases hkq : k' = q
            · subst hkq
              simp [go_sem, HC.out k' hk]
            · have := HC.out k' hk
              rw [World.cell?_setCell_other _ _ _ _ (fun e => hkq (by simpa using (congrArg Addr.off e).symm))]
              rw [k.cell]
              rw [this]
              congr 2
              by_cases h : k' < q
              · rw [if_pos h, if_pos (by omega)]
              · rw [if_neg h, if_neg (by omega)]
        case measure => simp [intOf]; omega
      · have HN := hid (rc_no fun h : rcOk s => hdq (h.2.1 q hq5))
        go_wp2_with (go_at_call 23; go_loud ((with_reducible refine (pu_no s q _ hz5 hdq).mono ?_); rintro e w' ⟨tp, N, rfl, k, rfl⟩))
        (refine bodyPost_ret (v := _) (by simp [results, Tryd.results7, go_sem]; rfl) rfl ?_; refine ⟨by rw [(HN.out).1 0, (HN.out).1 1, (HN.out).1 2, (HN.out).1 3, (HN.out).1 4, (HN.out).2], ?_⟩; (refine Ok.toEx ?_; (repeat (first | (with_reducible exact Ok.rf _) | (with_reducible refine Ok.alloc ?_ _) | (with_reducible refine Ok.ex ?_ _) | (with_reducible refine Ok.drew ?_) | (with_reducible refine Ok.setCellI ?_ _ _ _) | (with_reducible refine Ok.exb ?_ _)))))
    · obtain rfl : q = 5 := by omega
      have c0 : j0.v.cell? ⟨w.heap.size + 1, 0, none⟩ = some (.int .i64 (pv s 0)) := by have := HC.out 0 (by omega); rw [if_pos (by omega)] at this; exact this
      have c1 : j0.v.cell? ⟨w.heap.size + 1, 1, none⟩ = some (.int .i64 (pv s 1)) := by have := HC.out 1 (by omega); rw [if_pos (by omega)] at this; exact this
      have c2 : j0.v.cell? ⟨w.heap.size + 1, 2, none⟩ = some (.int .i64 (pv s 2)) := by have := HC.out 2 (by omega); rw [if_pos (by omega)] at this; exact this
      have c3 : j0.v.cell? ⟨w.heap.size + 1, 3, none⟩ = some (.int .i64 (pv s 3)) := by have := HC.out 3 (by omega); rw [if_pos (by omega)] at this; exact this
      have c4 : j0.v.cell? ⟨w.heap.size + 1, 4, none⟩ = some (.int .i64 (pv s 4)) := by have := HC.out 4 (by omega); rw [if_pos (by omega)] at this; exact this
      by_cases hk : okCode (pv s 0) (pv s 1) (pv s 2) (pv s 3) (pv s 4)
      · by_cases ht : cdS (pv s 0) (pv s 1) (pv s 2) (pv s 3) (pv s 4) = s
        · have HY := hid (rc_yes ⟨H14.out, HD.out, hk, ht⟩)
          have HT : Hid (cdR (pv s 0) (pv s 1) (pv s 2) (pv s 3) (pv s 4) = s) := hid (by unfold cdR; rw [if_pos hk]; exact ht)
          have HK := hid hk
          clear hk ht
          go_wp2_with (first | (go_at_call 24; go_loud ((with_reducible refine (valid_yes _ _ _ _ _ _ HK.out).mono ?_); rintro e w' ⟨rfl, k, rfl⟩)) | (go_at_call 25; go_loud ((with_reducible refine (icdtext_any _ _ _ _ _ _ HT.out).mono ?_); rintro e w' ⟨rfl, k, rfl⟩)))
          (refine bodyPost_ret (v := _) (by simp [results, Tryd.results7, go_sem]; rfl) rfl ?_; refine ⟨by rw [(HY.out).1 0, (HY.out).1 1, (HY.out).1 2, (HY.out).1 3, (HY.out).1 4, (HY.out).2], ?_⟩; (refine Ok.toEx ?_; (repeat (first | (with_reducible exact Ok.rf _) | (with_reducible refine Ok.alloc ?_ _) | (with_reducible refine Ok.ex ?_ _) | (with_reducible refine Ok.drew ?_) | (with_reducible refine Ok.setCellI ?_ _ _ _) | (with_reducible refine Ok.exb ?_ _)))))
        · have HN := hid (rc_no fun h : rcOk s => ht h.2.2.2)
          obtain ⟨R, hR⟩ : ∃ R, cdR (pv s 0) (pv s 1) (pv s 2) (pv s 3) (pv s 4) = R := ⟨_, rfl⟩
          have hRs : (R.toList == s.toList) = false := by
            rw [beq_eq_false_iff_ne, ByteArray.toList_eq, ByteArray.toList_eq]
            intro e
            refine ht ?_
            have h1 : R = s := ByteArray.ext (Array.toList_inj.1 e)
            have h2 : cdS (pv s 0) (pv s 1) (pv s 2) (pv s 3) (pv s 4) = R := by rw [← hR]; unfold cdR; rw [if_pos hk]
            exact h2.trans h1
          have HR := hid hR
          have HK := hid hk
          clear hk ht hR
          go_wp2_with (first | (go_at_call 24; go_loud ((with_reducible refine (valid_yes _ _ _ _ _ _ HK.out).mono ?_); rintro e w' ⟨rfl, k, rfl⟩)) | (go_at_call 25; go_loud ((with_reducible refine (icdtext_any _ _ _ _ _ _ HR.out).mono ?_); rintro e w' ⟨rfl, k, rfl⟩)))
          (refine bodyPost_ret (v := _) (by simp [results, Tryd.results7, go_sem]; rfl) rfl ?_; refine ⟨by rw [(HN.out).1 0, (HN.out).1 1, (HN.out).1 2, (HN.out).1 3, (HN.out).1 4, (HN.out).2], ?_⟩; (refine Ok.toEx ?_; (repeat (first | (with_reducible exact Ok.rf _) | (with_reducible refine Ok.alloc ?_ _) | (with_reducible refine Ok.ex ?_ _) | (with_reducible refine Ok.drew ?_) | (with_reducible refine Ok.setCellI ?_ _ _ _) | (with_reducible refine Ok.exb ?_ _)))))
      · have HN := hid (rc_no fun h : rcOk s => hk h.2.2.1)
        have HK := hid hk
        clear hk
        go_wp2_with (go_at_call 24; go_loud ((with_reducible refine (valid_no _ _ _ _ _ _ HK.out).mono ?_); rintro e w' ⟨rfl, k, rfl⟩))
        (refine bodyPost_ret (v := _) (by simp [results, Tryd.results7, go_sem]; rfl) rfl ?_; refine ⟨by rw [(HN.out).1 0, (HN.out).1 1, (HN.out).1 2, (HN.out).1 3, (HN.out).1 4, (HN.out).2], ?_⟩; (refine Ok.toEx ?_; (repeat (first | (with_reducible exact Ok.rf _) | (with_reducible refine Ok.alloc ?_ _) | (with_reducible refine Ok.ex ?_ _) | (with_reducible refine Ok.drew ?_) | (with_reducible refine Ok.setCellI ?_ _ _ _) | (with_reducible refine Ok.exb ?_ _)))))
/-- the first q numbers -/
def pvL (s : ByteArray) (q : Nat) : List Int := (List.range q).map (pv s)
theorem pvL_succ (s : ByteArray) (q : Nat) : pvL s (q + 1) = pvL s q ++ [pv s q] := by simp [pvL, List.range_succ]
theorem pvL_len (s : ByteArray) (q : Nat) : (pvL s q).length = q := by simp [pvL]
theorem pvL_at {s : ByteArray} {q k : Nat} (h : k < (pvL s q).length) : (pvL s q)[k] = pv s k := by simp [pvL]
theorem infoI64c : (Tryd.prog.info? 2).map (fun i => (i.zero, i.size, i.bytes)) = some (some (.int .i64 0), 1, 8) := by kernel_rfl
theorem src_any (s : ByteArray) (w : World) (hs : s.size ≤ 1048576) :
    Calls Tryd.prog 6 #[.string s] w fun e w' => e = .returned (.tuple #[.agg #[.int .i64 (rcR s 0), .int .i64 (rcR s 1), .int .i64 (rcR s 2), .int .i64 (rcR s 3), .int .i64 (rcR s 4)], .bool (rcB s)]) ∧ ∃ k : Ex w, w' = k.v := by
  by_cases h14 : s.size = 14
  rotate_left
  · have hi : ((s.size : Int) != 14) = true := by rw [bne_iff_ne]; omega
    have HN := hid (rc_no fun h => h14 h.1)
    clear h14
    go_enter Tryd.func6, Tryd.ntmps6
    go_wp2_with (fail)
    (refine bodyPost_ret (v := _) (by simp [results, Tryd.results6, go_sem]; rfl) rfl ?_; refine ⟨by rw [(HN.out).1 0, (HN.out).1 1, (HN.out).1 2, (HN.out).1 3, (HN.out).1 4, (HN.out).2], ?_⟩; (refine Ok.toEx ?_; (repeat (first | (with_reducible exact Ok.rf _) | (with_reducible refine Ok.alloc ?_ _) | (with_reducible refine Ok.ex ?_ _) | (with_reducible refine Ok.drew ?_) | (with_reducible refine Ok.setCellI ?_ _ _ _) | (with_reducible refine Ok.exb ?_ _)))))
  have H14 := hid h14
  have hi : ((s.size : Int) != 14) = false := by rw [bne_eq_false_iff_eq]; omega
  clear h14
  go_enter Tryd.func6, Tryd.ntmps6
  go_wp2_with (fail)
  obtain ⟨B, hB⟩ : ∃ B, B = w.heap.size + 1 := ⟨_, rfl⟩
  have HB := hid hB
  haveI hle0 : LeB B (w.alloc (.cells #[.int .i64 0, .int .i64 0, .int .i64 0, .int .i64 0, .int .i64 0] 23)).heap.size := ⟨by simp; omega⟩
  haveI hle1 : LeB (w.alloc (.cells #[.int .i64 0, .int .i64 0, .int .i64 0, .int .i64 0, .int .i64 0] 23)).heap.size B := ⟨by simp; omega⟩
  haveI hle2 : LeB w.heap.size B := ⟨by omega⟩
  clear hB
  have hrow0 := hid (row_made (w.alloc (.cells #[.int .i64 0, .int .i64 0, .int .i64 0, .int .i64 0, .int .i64 0] 23)) B LeB.h 2 1 iC)
  go_loopw [4, 5] (fun v t wr => ∃ (q : Nat) (A1 : Option Addr) (c1 : Nat), q ≤ 5 ∧ t = .int .i64 (3 * (q : Int)) ∧ v = .slice A1 (pvL s q).length c1 ∧ (∀ i, i < q → dOk s i) ∧ ∃ j : Ex (w.alloc (.cells #[.int .i64 0, .int .i64 0, .int .i64 0, .int .i64 0, .int .i64 0] 23)), wr = j.v ∧ j.v.ownsRow B 2 1 (.slice A1 (pvL s q).length c1) (pvL s q).length ((pvL s q).flatMap iC)) (fun _ t _ => 20 - (intOf t).toNat)
  case atStart => exact ⟨0, some ⟨(w.alloc (.cells #[.int .i64 0, .int .i64 0, .int .i64 0, .int .i64 0, .int .i64 0] 23)).heap.size, 0, none⟩, 0, by omega, by go_num, by simp; rfl, fun i h => absurd h (by omega), ex_and (fun W => W.ownsRow B 2 1 (.slice (some ⟨(w.alloc (.cells #[.int .i64 0, .int .i64 0, .int .i64 0, .int .i64 0, .int .i64 0] 23)).heap.size, 0, none⟩) 0 0) 0 []) (by (refine Ok.toEx ?_; (repeat (first | (with_reducible exact Ok.rf _) | (with_reducible refine Ok.alloc ?_ _) | (with_reducible refine Ok.ex ?_ _) | (with_reducible refine Ok.drew ?_) | (with_reducible refine Ok.setCellI ?_ _ _ _) | (with_reducible refine Ok.exb ?_ _))))) hrow0.out⟩
  case round =>
    obtain ⟨q, A1, c1, hq, rfl, rfl, hd, j0, rfl, hrow⟩ := hrel
    have HD := hid hd
    have HROW := hid hrow
    have HL := hid (pvL_len s q)
    clear hd hrow
    by_cases hq5 : q < 5
    · have hx := idx_cB s (3 * (q : Int)) (3 * q) (by omega) (by have := H14.out; omega)
      have hy := idx_cB s (3 * (q : Int) + 1) (3 * q + 1) (by omega) (by have := H14.out; omega)
      have hlt : 3 * (q : Int) < 14 := by omega
      have HS := hid (pvL_succ s q)
      have HPV : Hid (pv s q = 10 * (((cB s (3 * q)).toNat : Int) - 48) + (((cB s (3 * q + 1)).toNat : Int) - 48)) := hid rfl
      have HDQ : Hid (dOk s q ↔ (48 ≤ (cB s (3 * q)).toNat ∧ (cB s (3 * q)).toNat ≤ 57) ∧ 48 ≤ (cB s (3 * q + 1)).toNat ∧ (cB s (3 * q + 1)).toNat ≤ 57) := hid Iff.rfl
      have hx255 : (cB s (3 * q)).toNat ≤ 255 := by have := (cB s (3 * q)).toNat_lt; omega
      have hy255 : (cB s (3 * q + 1)).toNat ≤ 255 := by have := (cB s (3 * q + 1)).toNat_lt; omega
      generalize (cB s (3 * q)).toNat = x at *
      generalize (cB s (3 * q + 1)).toNat = y at *
      by_cases hdq : (48 ≤ x ∧ x ≤ 57) ∧ 48 ≤ y ∧ y ≤ 57
      · have hdd := HDQ.out.2 hdq
        obtain ⟨⟨x1, x2⟩, y1, y2⟩ := hdq
        have x1' : (48 : Int) ≤ x := by omega
        have x2' : (x : Int) ≤ 57 := by omega
        have y1' : (48 : Int) ≤ y := by omega
        have y2' : (y : Int) ≤ 57 := by omega
        go_wp2_with (fail)
        have hw0 : IntKind.i64.wrap (3 * (q : Int) + 1) = 3 * (q : Int) + 1 := IntWalk.i64_in _ (by omega)
        have hw1 : IntKind.u8.wrap ((x : Int) - 48) = (x : Int) - 48 := by simp [IntKind.wrap, IntKind.bits, IntKind.signed]; omega
        have hw2 : IntKind.u8.wrap ((y : Int) - 48) = (y : Int) - 48 := by simp [IntKind.wrap, IntKind.bits, IntKind.signed]; omega
        have hw3 : IntKind.i64.wrap ((x : Int) - 48) = (x : Int) - 48 := IntWalk.i64_in _ (by omega)
        have hw4 : IntKind.i64.wrap ((y : Int) - 48) = (y : Int) - 48 := IntWalk.i64_in _ (by omega)
        have hw5 : IntKind.i64.wrap (10 * ((x : Int) - 48)) = 10 * ((x : Int) - 48) := IntWalk.i64_in _ (by omega)
        have hw6 : IntKind.i64.wrap (10 * ((x : Int) - 48) + ((y : Int) - 48)) = 10 * ((x : Int) - 48) + ((y : Int) - 48) := IntWalk.i64_in _ (by omega)
        refine wp_region_T (fun _ => True) 16 (by kernel_rfl) trivial (fun hHeld => ?_)
        (refine wpAnyT_takeL (i := 0) (v := ?v0) rfl (by kernel_rfl) (by kernel_rfl) (by kernel_rfl) (by kernel_rfl) (by kernel_rfl) (by kernel_rfl) (fun _ _ _ h => h) (Or.inl ⟨by rfl, ?hy0⟩) (by assumption) ?rest0; (case hy0 => (intro w hSw; (try dsimp only at hSw); go_simp; (try (with_reducible rfl)))); (try simp only [Act.put, List.setIfInBounds_toArray, List.set_cons_zero, List.set_cons_succ]))
        (refine wpAnyT_takeL (i := 1) (v := ?v1) rfl (by kernel_rfl) (by kernel_rfl) (by kernel_rfl) (by kernel_rfl) (by kernel_rfl) (by kernel_rfl) (fun _ _ _ h => h) (Or.inl ⟨by rfl, ?hy1⟩) (by assumption) ?rest1; (case hy1 => (intro w hSw; (try dsimp only at hSw); go_simp; (try (with_reducible rfl)))); (try simp only [Act.put, List.setIfInBounds_toArray, List.set_cons_zero, List.set_cons_succ]))
        (refine wpAnyT_takeL (i := 2) (v := ?v2) rfl (by kernel_rfl) (by kernel_rfl) (by kernel_rfl) (by kernel_rfl) (by kernel_rfl) (by kernel_rfl) (fun _ _ _ h => h) (Or.inl ⟨by rfl, ?hy2⟩) (by assumption) ?rest2; (case hy2 => (intro w hSw; (try dsimp only at hSw); go_simp; (try (with_reducible rfl)))); (try simp only [Act.put, List.setIfInBounds_toArray, List.set_cons_zero, List.set_cons_succ]))
        (refine wpAnyT_takeL (i := 3) (v := ?v3) rfl (by kernel_rfl) (by kernel_rfl) (by kernel_rfl) (by kernel_rfl) (by kernel_rfl) (by kernel_rfl) (fun _ _ _ h => h) (Or.inl ⟨by rfl, ?hy3⟩) (by assumption) ?rest3; (case hy3 => (intro w hSw; (try dsimp only at hSw); go_simp; (try (with_reducible rfl)))); (try simp only [Act.put, List.setIfInBounds_toArray, List.set_cons_zero, List.set_cons_succ]))
        (refine wpAnyT_takeL (i := 4) (v := ?v4) rfl (by kernel_rfl) (by kernel_rfl) (by kernel_rfl) (by kernel_rfl) (by kernel_rfl) (by kernel_rfl) (fun _ _ _ h => h) (Or.inl ⟨by rfl, ?hy4⟩) (by assumption) ?rest4; (case hy4 => (intro w hSw; (try dsimp only at hSw); go_simp; (try (with_reducible rfl)))); (try simp only [Act.put, List.setIfInBounds_toArray, List.set_cons_zero, List.set_cons_succ]))
        (refine wpAnyT_takeL (i := 5) (v := ?v5) rfl (by kernel_rfl) (by kernel_rfl) (by kernel_rfl) (by kernel_rfl) (by kernel_rfl) (by kernel_rfl) (fun _ _ _ h => h) (Or.inl ⟨by rfl, ?hy5⟩) (by assumption) ?rest5; (case hy5 => (intro w hSw; (try dsimp only at hSw); go_simp; (try (with_reducible rfl)))); (try simp only [Act.put, List.setIfInBounds_toArray, List.set_cons_zero, List.set_cons_succ]))
        (refine wpAnyT_takeL (i := 6) (v := ?v6) rfl (by kernel_rfl) (by kernel_rfl) (by kernel_rfl) (by kernel_rfl) (by kernel_rfl) (by kernel_rfl) (fun _ _ _ h => h) (Or.inl ⟨by rfl, ?hy6⟩) (by assumption) ?rest6; (case hy6 => (intro w hSw; (try dsimp only at hSw); go_simp; (try (with_reducible rfl)))); (try simp only [Act.put, List.setIfInBounds_toArray, List.set_cons_zero, List.set_cons_succ]))
        (refine wpAnyT_takeL (i := 7) (v := ?v7) rfl (by kernel_rfl) (by kernel_rfl) (by kernel_rfl) (by kernel_rfl) (by kernel_rfl) (by kernel_rfl) (fun _ _ _ h => h) (Or.inl ⟨by rfl, ?hy7⟩) (by assumption) ?rest7; (case hy7 => (intro w hSw; (try dsimp only at hSw); go_simp; (try (with_reducible rfl)))); (try simp only [Act.put, List.setIfInBounds_toArray, List.set_cons_zero, List.set_cons_succ]))
        (refine wpAnyT_takeL (i := 8) (v := ?v8) rfl (by kernel_rfl) (by kernel_rfl) (by kernel_rfl) (by kernel_rfl) (by kernel_rfl) (by kernel_rfl) (fun _ _ _ h => h) (Or.inl ⟨by rfl, ?hy8⟩) (by assumption) ?rest8; (case hy8 => (intro w hSw; (try dsimp only at hSw); go_simp; (try (with_reducible rfl)))); (try simp only [Act.put, List.setIfInBounds_toArray, List.set_cons_zero, List.set_cons_succ]))
        (refine wpAnyT_takeL (i := 9) (v := ?v9) rfl (by kernel_rfl) (by kernel_rfl) (by kernel_rfl) (by kernel_rfl) (by kernel_rfl) (by kernel_rfl) (fun _ _ _ h => h) (Or.inl ⟨by rfl, ?hy9⟩) (by assumption) ?rest9; (case hy9 => (intro w hSw; (try dsimp only at hSw); go_simp; (try (with_reducible rfl)))); (try simp only [Act.put, List.setIfInBounds_toArray, List.set_cons_zero, List.set_cons_succ]))
        (refine wpAnyT_takeL (i := 10) (v := ?v10) rfl (by kernel_rfl) (by kernel_rfl) (by kernel_rfl) (by kernel_rfl) (by kernel_rfl) (by kernel_rfl) (fun _ _ _ h => h) (Or.inl ⟨by rfl, ?hy10⟩) (by assumption) ?rest10; (case hy10 => (intro w hSw; (try dsimp only at hSw); go_simp; (try (with_reducible rfl)))); (try simp only [Act.put, List.setIfInBounds_toArray, List.set_cons_zero, List.set_cons_succ]))
        (refine wpAnyT_takeL (i := 11) (v := ?v11) rfl (by kernel_rfl) (by kernel_rfl) (by kernel_rfl) (by kernel_rfl) (by kernel_rfl) (by kernel_rfl) (fun _ _ _ h => h) (Or.inl ⟨by rfl, ?hy11⟩) (by assumption) ?rest11; (case hy11 => (intro w hSw; (try dsimp only at hSw); go_simp; (try (with_reducible rfl)))); (try simp only [Act.put, List.setIfInBounds_toArray, List.set_cons_zero, List.set_cons_succ]))
        (refine wpAnyT_takeL (i := 12) (v := ?v12) rfl (by kernel_rfl) (by kernel_rfl) (by kernel_rfl) (by kernel_rfl) (by kernel_rfl) (by kernel_rfl) (fun _ _ _ h => h) (Or.inl ⟨by rfl, ?hy12⟩) (by assumption) ?rest12; (case hy12 => (intro w hSw; (try dsimp only at hSw); go_simp; (try (with_reducible rfl)))); (try simp only [Act.put, List.setIfInBounds_toArray, List.set_cons_zero, List.set_cons_succ]))
        (refine wpAnyT_takeL (i := 13) (v := ?v13) rfl (by kernel_rfl) (by kernel_rfl) (by kernel_rfl) (by kernel_rfl) (by kernel_rfl) (by kernel_rfl) (fun _ _ _ h => h) (Or.inl ⟨by rfl, ?hy13⟩) (by assumption) ?rest13; (case hy13 => (intro w hSw; (try dsimp only at hSw); go_simp; (try (with_reducible rfl)))); (try simp only [Act.put, List.setIfInBounds_toArray, List.set_cons_zero, List.set_cons_succ]))
        refine wpAnyT_oneL (i := 14) (by kernel_rfl) rfl (fun K hK => ?_)
        go_simp
        (refine hK.out _ _ trivial (fun hHeld => ?_); clear hK K; (try simp only [Act.put, List.setIfInBounds_toArray, List.set_cons_zero, List.set_cons_succ]))
        refine wpAnyT_oneL (i := 15) (by kernel_rfl) rfl (fun K hK => ?_)
        refine step_appZ iC rfl (.tmp 41) (.tmp 55) 43 rfl B ?_ 2 (.int .i64 0) 1 8 Tryd.underlying43 infoI64c rfl (by omega) (fun _ => ⟨rfl, by simp [iC, Value.oneCell']⟩) (.slice A1 (pvL s q).length c1) (pvL s q) (by simp [Act.eval, Act.put]) ?_ (10 * ((x : Int) - 48) + ((y : Int) - 48)) _ _ rfl (cellsB ?_) ?_ ?_ ?_
        · exact LeB.h
        · exact (ownsRow_ex HROW.out (Ex.of (Below.refl _ _).drew)).alloc _
        · simp
        · rw [HL.out]; omega
        · rw [HL.out]; omega
        intro v' kk2 hA2
        (refine hK.out _ _ trivial (fun hHeld => ?_); clear hK K; (try simp only [Act.put, List.setIfInBounds_toArray, List.set_cons_zero, List.set_cons_succ]))
        refine wpAnyT_lastL (by kernel_rfl) rfl (by kernel_rfl) (fun K hK => ?_)
        go_simp
        refine hK.out _ _ ?_
        clear hK K
        obtain ⟨A2, c2, rfl, hO2, hF2⟩ := Ow.of_row (f := iC) (fun _ => rfl) hA2.own
        go_wp2_with (fail)
        go_roundw
        case rel =>
          refine ⟨q + 1, A2, c2, by omega, by go_num, by rw [HS.out]; simp, fun i hi => ?_, ex_and (fun W => W.ownsRow B 2 1 (.slice A2 (pvL s (q + 1)).length c2) (pvL s (q + 1)).length ((pvL s (q + 1)).flatMap iC)) (by (refine Ok.toEx ?_; (repeat (first | (with_reducible exact Ok.rf _) | (with_reducible refine Ok.alloc ?_ _) | (with_reducible refine Ok.ex ?_ _) | (with_reducible refine Ok.drew ?_) | (with_reducible refine Ok.setCellI ?_ _ _ _) | (with_reducible refine Ok.exb ?_ _))))) (by rw [HS.out, HPV.out]; exact hA2.own)⟩
          rcases Nat.lt_or_ge i q with h | h
          · exact HD.out i h
          · obtain rfl : i = q := by omega
            exact hdd
        case measure => simp [intOf]; omega
      · have HN := hid (rc_no fun h : rcOk s => hdq (HDQ.out.1 (h.2.1 q hq5)))
        rcases (show x < 48 ∨ (48 ≤ x ∧ 57 < x) ∨ ((48 ≤ x ∧ x ≤ 57) ∧ y < 48) ∨ ((48 ≤ x ∧ x ≤ 57) ∧ 48 ≤ y ∧ 57 < y) by omega) with a | ⟨a, b⟩ | ⟨⟨a, b⟩, c⟩ | ⟨⟨a, b⟩, c, d⟩
        · have a' : (x : Int) < 48 := by omega
          clear hdq
          go_wp2_with (fail)
          (refine bodyPost_ret (v := _) (by simp [results, Tryd.results6, go_sem]; rfl) rfl ?_; refine ⟨by rw [(HN.out).1 0, (HN.out).1 1, (HN.out).1 2, (HN.out).1 3, (HN.out).1 4, (HN.out).2], ?_⟩; (refine Ok.toEx ?_; (repeat (first | (with_reducible exact Ok.rf _) | (with_reducible refine Ok.alloc ?_ _) | (with_reducible refine Ok.ex ?_ _) | (with_reducible refine Ok.drew ?_) | (with_reducible refine Ok.setCellI ?_ _ _ _) | (with_reducible refine Ok.exb ?_ _)))))
        · have a' : (48 : Int) ≤ x := by omega
          have b' : (57 : Int) < x := by omega
          clear hdq
          go_wp2_with (fail)
          (refine bodyPost_ret (v := _) (by simp [results, Tryd.results6, go_sem]; rfl) rfl ?_; refine ⟨by rw [(HN.out).1 0, (HN.out).1 1, (HN.out).1 2, (HN.out).1 3, (HN.out).1 4, (HN.out).2], ?_⟩; (refine Ok.toEx ?_; (repeat (first | (with_reducible exact Ok.rf _) | (with_reducible refine Ok.alloc ?_ _) | (with_reducible refine Ok.ex ?_ _) | (with_reducible refine Ok.drew ?_) | (with_reducible refine Ok.setCellI ?_ _ _ _) | (with_reducible refine Ok.exb ?_ _)))))
        · have a' : (48 : Int) ≤ x := by omega
          have b' : (x : Int) ≤ 57 := by omega
          have c' : (y : Int) < 48 := by omega
          clear hdq
          go_wp2_with (fail)
          (refine bodyPost_ret (v := _) (by simp [results, Tryd.results6, go_sem]; rfl) rfl ?_; refine ⟨by rw [(HN.out).1 0, (HN.out).1 1, (HN.out).1 2, (HN.out).1 3, (HN.out).1 4, (HN.out).2], ?_⟩; (refine Ok.toEx ?_; (repeat (first | (with_reducible exact Ok.rf _) | (with_reducible refine Ok.alloc ?_ _) | (with_reducible refine Ok.ex ?_ _) | (with_reducible refine Ok.drew ?_) | (with_reducible refine Ok.setCellI ?_ _ _ _) | (with_reducible refine Ok.exb ?_ _)))))
        · have a' : (48 : Int) ≤ x := by omega
          have b' : (x : Int) ≤ 57 := by omega
          have c' : (48 : Int) ≤ y := by omega
          have d' : (57 : Int) < y := by omega
          clear hdq
          go_wp2_with (fail)
          (refine bodyPost_ret (v := _) (by simp [results, Tryd.results6, go_sem]; rfl) rfl ?_; refine ⟨by rw [(HN.out).1 0, (HN.out).1 1, (HN.out).1 2, (HN.out).1 3, (HN.out).1 4, (HN.out).2], ?_⟩; (refine Ok.toEx ?_; (repeat (first | (with_reducible exact Ok.rf _) | (with_reducible refine Ok.alloc ?_ _) | (with_reducible refine Ok.ex ?_ _) | (with_reducible refine Ok.drew ?_) | (with_reducible refine Ok.setCellI ?_ _ _ _) | (with_reducible refine Ok.exb ?_ _)))))
    · obtain rfl : q = 5 := by omega
      obtain ⟨A2, c2, he, hO, hF⟩ := Ow.of_row (f := iC) (fun _ => rfl) HROW.out
      cases he
      obtain ⟨g, rfl, hw⟩ := hO.own (by rw [HL.out]; omega)
      have hg := hF g 0 none rfl
      haveI hlg : LtW g j0.v := hw.lt
      have hcc : ∀ k, k < 5 → j0.v.cell? ⟨g, k, none⟩ = some (.int .i64 (pv s k)) := fun k hk => by
        have hk' : k < (pvL s 5).length := by rw [HL.out]; exact hk
        obtain ⟨g', o', e', -, hc'⟩ := (inferInstance : Rd 1 iC j0.v (some ⟨g, 0, none⟩) (pvL s 5)).at_ (by rw [HL.out]; omega)
        cases e'
        have := hc' k hk' 0 _ rfl
        rw [Nat.mul_one, Nat.add_zero, Nat.zero_add, pvL_at] at this
        exact this
      have c0 := hcc 0 (by omega)
      have c1' := hcc 1 (by omega)
      have c2 := hcc 2 (by omega)
      have c3 := hcc 3 (by omega)
      have c4 := hcc 4 (by omega)
      have hL5 : (pvL s 5).length = 5 := HL.out
      rw [hL5]
      clear hcc HROW hO hF hw hL5
      go_upto_region 10 with (fail)
      go_cut [6] from 57 to 73 (fun u6 wx => ∃ T : Nat, u6 = .pointer (some ⟨T, 0, none⟩) ∧ ∃ j : Ex (w.alloc (.cells #[.int .i64 0, .int .i64 0, .int .i64 0, .int .i64 0, .int .i64 0] 23)), wx = j.v ∧ AtCode j.v T (pv s 0) (pv s 1) (pv s 2) (pv s 3) (pv s 4))
      case first =>
        go_region_held3 (fun W => W.cell? ⟨g, 0, none⟩ = some (.int .i64 (pv s 0)) ∧ W.cell? ⟨g, 1, none⟩ = some (.int .i64 (pv s 1)) ∧ W.cell? ⟨g, 2, none⟩ = some (.int .i64 (pv s 2)) ∧ W.cell? ⟨g, 3, none⟩ = some (.int .i64 (pv s 3)) ∧ W.cell? ⟨g, 4, none⟩ = some (.int .i64 (pv s 4))) ((refine ⟨?_, ?_, ?_, ?_, ?_⟩ <;> simp [go_sem, c0, c1', c2, c3, c4])) ((fail))
        all_goals
          go_wp2_with (fail)
          go_meet
          exact ⟨_, rfl, ex_and (fun W => AtCode W _ (pv s 0) (pv s 1) (pv s 2) (pv s 3) (pv s 4)) (by (refine Ok.toEx ?_; (repeat (first | (with_reducible exact Ok.rf _) | (with_reducible refine Ok.alloc ?_ _) | (with_reducible refine Ok.ex ?_ _) | (with_reducible refine Ok.drew ?_) | (with_reducible refine Ok.setCellI ?_ _ _ _) | (with_reducible refine Ok.exb ?_ _))))) ⟨inferInstance, by simp [go_sem], by simp [go_sem], by simp [go_sem], by simp [go_sem], by simp [go_sem]⟩⟩
      case rest =>
        obtain ⟨T, rfl, j1, rfl, hat⟩ := hcut
        have HAT := hid hat
        obtain ⟨lT, t0, t1, t2, t3, t4⟩ := hat
        haveI lT' := lT
        by_cases hk : okCode (pv s 0) (pv s 1) (pv s 2) (pv s 3) (pv s 4)
        · have HK := hid hk
          by_cases ht : cdS (pv s 0) (pv s 1) (pv s 2) (pv s 3) (pv s 4) = s
          · have HY := hid (rc_yes ⟨H14.out, HD.out, hk, ht⟩)
            have HT : Hid (∀ W : World, AtCode W T (pv s 0) (pv s 1) (pv s 2) (pv s 3) (pv s 4) → Calls Tryd.prog 22 #[.pointer (some ⟨T, 0, none⟩)] W fun e w' => e = .returned (.string s) ∧ ∃ k : Ex W, w' = k.v) := hid fun W hW => by
              have := cdtext_any T _ _ _ _ _ W hW hk
              rwa [ht] at this
            clear hk ht
            go_wp2_with (first | (go_at_call 21; go_loud ((with_reducible refine (l16Ok_yes _ _ _ _ _ _ _ HAT.out HK.out).mono ?_); rintro e w' ⟨rfl, k, rfl⟩)) | (go_at_call 22; go_loud (refine (HT.out _ ?_).mono ?_; (· exact ⟨inferInstance, by simp [go_sem, t0], by simp [go_sem, t1], by simp [go_sem, t2], by simp [go_sem, t3], by simp [go_sem, t4]⟩); rintro e w' ⟨rfl, k, rfl⟩)))
            (refine bodyPost_ret (v := _) (by simp [results, Tryd.results6, go_sem]; rfl) rfl ?_; refine ⟨by rw [(HY.out).1 0, (HY.out).1 1, (HY.out).1 2, (HY.out).1 3, (HY.out).1 4, (HY.out).2], ?_⟩; (refine Ok.toEx ?_; (repeat (first | (with_reducible exact Ok.rf _) | (with_reducible refine Ok.alloc ?_ _) | (with_reducible refine Ok.ex ?_ _) | (with_reducible refine Ok.drew ?_) | (with_reducible refine Ok.setCellI ?_ _ _ _) | (with_reducible refine Ok.exb ?_ _)))))
          · have HN := hid (rc_no fun h : rcOk s => ht h.2.2.2)
            obtain ⟨R, hR⟩ : ∃ R, cdS (pv s 0) (pv s 1) (pv s 2) (pv s 3) (pv s 4) = R := ⟨_, rfl⟩
            have hRs : (R.toList == s.toList) = false := by
              rw [beq_eq_false_iff_ne, ByteArray.toList_eq, ByteArray.toList_eq]
              exact fun e => ht (hR.trans (ByteArray.ext (Array.toList_inj.1 e)))
            have HT : Hid (∀ W : World, AtCode W T (pv s 0) (pv s 1) (pv s 2) (pv s 3) (pv s 4) → Calls Tryd.prog 22 #[.pointer (some ⟨T, 0, none⟩)] W fun e w' => e = .returned (.string R) ∧ ∃ k : Ex W, w' = k.v) := hid fun W hW => by
              have := cdtext_any T _ _ _ _ _ W hW hk
              rwa [hR] at this
            clear hk ht hR
            go_wp2_with (first | (go_at_call 21; go_loud ((with_reducible refine (l16Ok_yes _ _ _ _ _ _ _ HAT.out HK.out).mono ?_); rintro e w' ⟨rfl, k, rfl⟩)) | (go_at_call 22; go_loud (refine (HT.out _ ?_).mono ?_; (· exact ⟨inferInstance, by simp [go_sem, t0], by simp [go_sem, t1], by simp [go_sem, t2], by simp [go_sem, t3], by simp [go_sem, t4]⟩); rintro e w' ⟨rfl, k, rfl⟩)))
            (refine bodyPost_ret (v := _) (by simp [results, Tryd.results6, go_sem]; rfl) rfl ?_; refine ⟨by rw [(HN.out).1 0, (HN.out).1 1, (HN.out).1 2, (HN.out).1 3, (HN.out).1 4, (HN.out).2], ?_⟩; (refine Ok.toEx ?_; (repeat (first | (with_reducible exact Ok.rf _) | (with_reducible refine Ok.alloc ?_ _) | (with_reducible refine Ok.ex ?_ _) | (with_reducible refine Ok.drew ?_) | (with_reducible refine Ok.setCellI ?_ _ _ _) | (with_reducible refine Ok.exb ?_ _)))))
        · have HN := hid (rc_no fun h : rcOk s => hk h.2.2.1)
          have HK := hid hk
          clear hk
          go_wp2_with (go_at_call 21; go_loud ((with_reducible refine (l16Ok_no _ _ _ _ _ _ _ HAT.out HK.out).mono ?_); rintro e w' ⟨rfl, k, rfl⟩))
          (refine bodyPost_ret (v := _) (by simp [results, Tryd.results6, go_sem]; rfl) rfl ?_; refine ⟨by rw [(HN.out).1 0, (HN.out).1 1, (HN.out).1 2, (HN.out).1 3, (HN.out).1 4, (HN.out).2], ?_⟩; (refine Ok.toEx ?_; (repeat (first | (with_reducible exact Ok.rf _) | (with_reducible refine Ok.alloc ?_ _) | (with_reducible refine Ok.ex ?_ _) | (with_reducible refine Ok.drew ?_) | (with_reducible refine Ok.setCellI ?_ _ _ _) | (with_reducible refine Ok.exb ?_ _)))))
theorem lReadCode (s : ByteArray) (w : World) [Tb w] [Es w] (hz : s.size ≤ 9223372036854775807) :
    Calls Tryd.prog 3 #[.string s] w fun e w' => e = .returned (.bool true) ∧ ∃ k : Ex w, w' = k.v := by
  by_cases hs : s.size ≤ 1048576
  · go_enter Tryd.func3, Tryd.ntmps3
    go_wp2_with (first | (go_at_call 6; go_loud (refine (src_any _ _ hs).mono ?_; rintro e w' ⟨rfl, k1, rfl⟩)) | (go_at_call 7; go_loud (refine (irc_any _ _ hs).mono ?_; rintro e w' ⟨rfl, k2, rfl⟩)) | (go_at_call 8; refine (eqCode_any _ _ _ _ _ _).mono ?_; rintro e w' ⟨rfl, k, rfl⟩))
    all_goals (go_ret; refine ⟨by first | rfl | (simp; done), ?_⟩; (refine Ok.toEx ?_; (repeat (first | (with_reducible exact Ok.rf _) | (with_reducible refine Ok.alloc ?_ _) | (with_reducible refine Ok.ex ?_ _) | (with_reducible refine Ok.drew ?_) | (with_reducible refine Ok.setCellI ?_ _ _ _) | (with_reducible refine Ok.exb ?_ _)))))
  · go_enter Tryd.func3, Tryd.ntmps3
    go_wp2_with (fail)
    (go_ret; refine ⟨by first | rfl | (simp; done), ?_⟩; (refine Ok.toEx ?_; (repeat (first | (with_reducible exact Ok.rf _) | (with_reducible refine Ok.alloc ?_ _) | (with_reducible refine Ok.ex ?_ _) | (with_reducible refine Ok.drew ?_) | (with_reducible refine Ok.setCellI ?_ _ _ _) | (with_reducible refine Ok.exb ?_ _)))))
end
end Go.Proofs.YtonmeffhelaohaaDoor
