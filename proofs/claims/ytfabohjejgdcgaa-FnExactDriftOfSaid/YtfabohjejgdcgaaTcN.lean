/-
  Contracts of MissingFrames. Conditions: those typed at each theorem.
-/
import Derived.Test.YtfabohjejgdcgaaTcM
namespace Go.Proofs.Ytfabohjejgdcgaa
open Go.RowKit
theorem seg_len {a b : Int} (h : a < b) : ((seg a b).length : Int) = b - a - 1 := by simp [seg]; omega
theorem seg_take (a b : Int) (j : Nat) (h : a + 1 + j < b) : (seg a b).take j ++ [a + 1 + j] = (seg a b).take (j + 1) := by
  have hj : j < (seg a b).length := by simp [seg]; omega
  rw [List.take_succ_eq_append_getElem hj]
  simp [seg]
theorem getD_at {l : List Int} {k : Nat} (h : k < l.length) : l.getD k 0 = l[k] := by simp [List.getD, h]
section
set_option maxHeartbeats 6400000
theorem sMiss_any (A : Option Addr) (c : Nat) (l : List Int) (w : World) [hl : Rd 1 iC w A l] (hn : l.length ≤ 1048576) :
    Calls Try.prog 28 #[.slice A l.length c] w fun e w' => ∃ A' c', e = .returned (.tuple #[.slice A' (missR l).1.length c', .int .i64 (missR l).2]) ∧ ∃ k : Ex w, w' = k.v ∧ Ow 1 iC k.v A' (missR l).1 ∧ Fr w A' := by
  by_cases hr : rises l 0 8640000
  · have HA := hid hl.i
    have HR := hid hr
    clear hr
    go_enter Try.func28, Try.ntmps28
    go_wp2_with ((go_at_call 65; refine (rises_yes _ _ _ _ _ _ hn HR.out).mono ?_; rintro e w' ⟨rfl, k, rfl⟩))
    have hrow0 := hid (row_made k.v w.heap.size k.size 2 1 iC)
    go_loopw [4, 5] (fun v t wr => ∃ q : Nat, q + 1 ≤ l.length + 1 ∧ (l.length = 0 → q = 0) ∧ (0 < l.length → q + 1 ≤ l.length) ∧ t = .int .i64 ((q : Int) + 1) ∧ (gp l q).length ≤ 64 ∧ ∃ j : Ex w, wr = j.v ∧ j.v.ownsRow w.heap.size 2 1 v (gp l q).length ((gp l q).flatMap iC)) (fun _ t _ => l.length + 1 - (intOf t).toNat)
    case atStart => exact ⟨0, by omega, fun _ => rfl, fun h => by omega, rfl, by simp [gp], Ex.of ((k.h.trans ((Below.refl _ _).alloc k.size _))), rfl, hrow0.out⟩
    case round =>
      obtain ⟨q, hq1, hq2, hq3, rfl, hg, j0, rfl, hrow⟩ := hrel
      have hn3 := (gp l q).length
      obtain ⟨A1, c1, rfl, -, -⟩ := own_of_row (w0 := w) (f := iC) (fun _ => rfl) hrow
      have HROW := hid hrow
      clear hrow
      by_cases hlt : q + 1 < l.length
      · have hltI : (q : Int) + 1 < (l.length : Int) := by omega
        obtain ⟨b, o, rfl, hbw, hc⟩ := HA.out (by omega)
        have d0 := hc q (by omega)
        have d1 := hc (q + 1) hlt
        clear hc
        obtain ⟨r1, r2, -⟩ := HR.out q (by omega)
        obtain ⟨r3, r4, r5⟩ := HR.out (q + 1) hlt
        have r5 := r5 (by omega)
        have r5 : l[q] < l[q + 1] := r5
        have hgp : gp l (q + 1) = gp l q ++ seg l[q] l[q + 1] := by simp only [gp]; rw [getD_at (by omega), getD_at hlt]
        have hsl := seg_len r5
        have hlen2 : ((gp l (q + 1)).length : Int) = (gp l q).length + (l[q + 1] - l[q] - 1) := by rw [hgp, List.length_append]; omega
        have HGP := hid hgp
        clear hgp
        by_cases hfit : (gp l (q + 1)).length ≤ 64
        · have hj0 : (gp l q ++ (seg l[q] l[q + 1]).take 0) = gp l q := by simp
          have HJ := hid hj0
          clear hj0
          generalize hx : l[q] = x at *
          generalize hy : l[q + 1] = y at *
          have HX := hid hx
          have HY := hid hy
          clear hx hy
          go_wp2
          (refine wp_region_ex (by kernel_rfl) (by kernel_rfl) ?_; (repeat (go_big_quiet_step ((fail)))); refine wpQuiet_nil ?_; rintro _ ⟨k, rfl⟩)
          go_wp2
          have hst : ((j0.tr k).v).ownsRow w.heap.size 2 1 (.slice A1 (gp l q).length c1) (gp l q ++ (seg x y).take 0).length ((gp l q ++ (seg x y).take 0).flatMap iC) := by rw [HJ.out]; exact ownsRow_ex HROW.out k
          have HST := hid hst
          clear hst
          go_loopw [4, 6] (fun v t wr => ∃ j : Nat, j ≤ (seg x y).length ∧ t = .int .i64 (x + 1 + j) ∧ ∃ jj : Ex w, wr = jj.v ∧ jj.v.ownsRow w.heap.size 2 1 v (gp l q ++ (seg x y).take j).length ((gp l q ++ (seg x y).take j).flatMap iC)) (fun _ t _ => (y - intOf t).toNat)
          case atStart => exact ⟨0, Nat.zero_le _, by go_num, j0.tr k, rfl, HST.out⟩
          case round =>
            obtain ⟨j, hj, rfl, jj, rfl, hrow2⟩ := hrel
            have HR2 := hid hrow2
            clear hrow2
            by_cases hjl : j < (seg x y).length
            · have hT := hid (seg_take x y j (by omega))
              go_wp2_with (at_builtin; refine wpList_app iC _ rfl _ _ _ rfl w _ _ _ _ Try.underlying36 infoI64 rfl (by omega) (fun _ => ⟨rfl, by simp [iC, Value.oneCell']⟩) _ (gp l q ++ (seg x y).take j) rfl (HR2.out.alloc _) (x + 1 + j) _ _ rfl (cell1 _ _ _) (by simp; omega) (by simp; omega) ?_; intro v' k' hown')
              go_roundw
              case rel => exact ⟨j + 1, by omega, by go_num, k', rfl, by rw [List.append_assoc, hT.out] at hown'; exact hown'⟩
              case measure => simp [intOf]; omega
            · have hT : gp l q ++ (seg x y).take j = gp l (q + 1) := by rw [HGP.out, List.take_of_length_le (by omega)]
              have HG := hid (hT ▸ HR2.out)
              clear hT
              go_wp2
              go_roundw
              case rel => exact ⟨q + 1, by omega, by omega, by omega, by go_num, hfit, jj, rfl, HG.out⟩
              case measure => simp [intOf]; omega
        · have HM := hid (missR_5 HR.out (by have := gp_mono l (j := q + 1) (k := l.length - 1) (by omega); omega))
          generalize l[q] = x at *
          generalize l[q + 1] = y at *
          go_wp2
          (refine wp_region_ex (by kernel_rfl) (by kernel_rfl) ?_; (repeat (go_big_quiet_step ((fail)))); refine wpQuiet_nil ?_; rintro _ ⟨k, rfl⟩)
          go_wp2
          go_ret2
          refine ⟨none, 0, by rw [HM.out]; rfl, ?_⟩
          rw [HM.out]
          exact ⟨j0.tr k, rfl, Ow.nil, inferInstance⟩
      · have HM := hid (missR_0 HR.out (by have := gp_mono l (j := l.length - 1) (k := q) (by omega); omega))
        have hq : q = l.length - 1 := by omega
        go_wp2
        go_ret2
        obtain ⟨A2, c2, he, hO, hF⟩ := own_of_row (w0 := w) (f := iC) (fun _ => rfl) HROW.out
        cases he
        rw [HM.out]
        subst hq
        exact ⟨_, _, rfl, j0, rfl, hO, hF⟩
  · have HR := hid hr
    have HM := hid (missR_2 hr)
    clear hr
    go_enter Try.func28, Try.ntmps28
    go_wp2_with ((go_at_call 65; refine (rises_no _ _ _ _ _ _ hn HR.out).mono ?_; rintro e w' ⟨rfl, k, rfl⟩))
    go_ret2
    refine ⟨none, 0, by rw [HM.out]; rfl, ?_⟩
    rw [HM.out]
    exact ⟨k, rfl, Ow.nil, inferInstance⟩
end
end Go.Proofs.Ytfabohjejgdcgaa
