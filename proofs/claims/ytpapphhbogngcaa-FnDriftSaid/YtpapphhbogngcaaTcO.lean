/-
  Contract of the program's MissingFrames. Conditions: those typed at each theorem.
-/
import Derived.Test.YtpapphhbogngcaaTcN
namespace Go.Proofs.Ytpapphhbogngcaa
open Go.RowKit
section
set_option maxHeartbeats 6400000
theorem iMiss_no (A : Option Addr) (c : Nat) (l : List Int) (w : World) [hl : Rd 1 iC w A l] (hn : l.length ≤ 1048576) (hr : ¬ rises l 0 8640000) :
    Calls Try.prog 15 #[.slice A l.length c] w fun e w' => e = .returned (.tuple #[.slice none 0 0, .int .i64 2]) ∧ ∃ k : Ex w, w' = k.v := by
  have HA := hid hl.i
  have HR := hid hr
  clear hr
  go_enter Try.func15, Try.ntmps15
  go_wp2
  go_loopw [11] (fun t wr => ∃ q : Nat, q ≤ l.length ∧ t = .int .i64 q ∧ (∀ i (h : i < l.length), i < q → riseAt l 0 8640000 i h) ∧ ∃ j : Ex w, wr = j.v) (fun t _ => l.length - (intOf t).toNat)
  case atStart => exact ⟨0, Nat.zero_le _, rfl, fun i _ h => absurd h (by omega), Ex.rf w, rfl⟩
  case round =>
    obtain ⟨q, hq, rfl, hs, j0, rfl⟩ := hrel
    have HS := hid hs
    clear hs
    by_cases hlt : q < l.length
    · obtain ⟨b, o, rfl, hbw, hc⟩ := HA.out (by omega)
      have HN : Hid (riseAt l 0 8640000 q hlt → ∀ i (h : i < l.length), i < q + 1 → riseAt l 0 8640000 i h) := hid fun h i hi hiq => by
        rcases Nat.lt_or_ge i q with h1 | h1
        · exact HS.out i hi h1
        · obtain rfl : i = q := by omega
          exact h
      have c0 := hc q hlt
      rcases riseAt_cases l 0 8640000 q hlt with ⟨h0, h1, h2, h3 | ⟨h3, h4⟩⟩ | ⟨h0, h1 | h1⟩ | ⟨h0, h1, h2, h3, h4⟩
      · have hq0 : q = 0 := by omega
        subst hq0
        have c0 : w.cell? ⟨b, o, none⟩ = _ := c0
        have H0 := hid h0
        clear hc h0 h3
        go_wp2_with ((go_at_call 43; first | (refine (wi_yes _ _ _ _ (by omega) (by omega)).mono ?_; rintro e w' ⟨rfl, rfl⟩) | (refine (wi_no _ _ _ _ (by omega)).mono ?_; rintro e w' ⟨rfl, rfl⟩)))
        go_roundw
        case rel => exact ⟨1, by omega, by go_num, HN.out H0.out, j0, rfl⟩
        case measure => simp [intOf]; omega
      · have H0 := hid h0
        have c1 := hc (q - 1) (by omega)
        obtain ⟨p, rfl⟩ : ∃ p, q = p + 1 := ⟨q - 1, by omega⟩
        simp only [Nat.add_sub_cancel] at h4 c1
        clear hc h0
        go_wp2_with ((go_at_call 43; first | (refine (wi_yes _ _ _ _ (by omega) (by omega)).mono ?_; rintro e w' ⟨rfl, rfl⟩) | (refine (wi_no _ _ _ _ (by omega)).mono ?_; rintro e w' ⟨rfl, rfl⟩)))
        go_roundw
        case rel => exact ⟨p + 1 + 1, by omega, by go_num, HN.out H0.out, j0, rfl⟩
        case measure => simp [intOf]; omega
      · clear hc
        go_wp2_with ((go_at_call 43; first | (refine (wi_yes _ _ _ _ (by omega) (by omega)).mono ?_; rintro e w' ⟨rfl, rfl⟩) | (refine (wi_no _ _ _ _ (by omega)).mono ?_; rintro e w' ⟨rfl, rfl⟩)))
        (go_ret2; refine ⟨by first | rfl | (simp; done), ?_⟩; (refine Ok.toEx ?_; (repeat (first | (with_reducible exact Ok.rf _) | (with_reducible refine Ok.alloc ?_ _) | (with_reducible refine Ok.ex ?_ _) | (with_reducible refine Ok.drew ?_) | (with_reducible refine Ok.setCellI ?_ _ _ _) | (with_reducible refine Ok.exb ?_ _)))))
      · clear hc
        go_wp2_with ((go_at_call 43; first | (refine (wi_yes _ _ _ _ (by omega) (by omega)).mono ?_; rintro e w' ⟨rfl, rfl⟩) | (refine (wi_no _ _ _ _ (by omega)).mono ?_; rintro e w' ⟨rfl, rfl⟩)))
        (go_ret2; refine ⟨by first | rfl | (simp; done), ?_⟩; (refine Ok.toEx ?_; (repeat (first | (with_reducible exact Ok.rf _) | (with_reducible refine Ok.alloc ?_ _) | (with_reducible refine Ok.ex ?_ _) | (with_reducible refine Ok.drew ?_) | (with_reducible refine Ok.setCellI ?_ _ _ _) | (with_reducible refine Ok.exb ?_ _)))))
      · have c1 := hc (q - 1) (by omega)
        obtain ⟨p, rfl⟩ : ∃ p, q = p + 1 := ⟨q - 1, by omega⟩
        simp only [Nat.add_sub_cancel] at h4 c1
        clear hc
        go_wp2_with ((go_at_call 43; first | (refine (wi_yes _ _ _ _ (by omega) (by omega)).mono ?_; rintro e w' ⟨rfl, rfl⟩) | (refine (wi_no _ _ _ _ (by omega)).mono ?_; rintro e w' ⟨rfl, rfl⟩)))
        (go_ret2; refine ⟨by first | rfl | (simp; done), ?_⟩; (refine Ok.toEx ?_; (repeat (first | (with_reducible exact Ok.rf _) | (with_reducible refine Ok.alloc ?_ _) | (with_reducible refine Ok.ex ?_ _) | (with_reducible refine Ok.drew ?_) | (with_reducible refine Ok.setCellI ?_ _ _ _) | (with_reducible refine Ok.exb ?_ _)))))
    · exact absurd (fun i hi => HS.out i hi (by omega)) HR.out
theorem iMiss_any (A : Option Addr) (c : Nat) (l : List Int) (w : World) [hl : Rd 1 iC w A l] (hn : l.length ≤ 1048576) :
    Calls Try.prog 15 #[.slice A l.length c] w fun e w' => ∃ A' c', e = .returned (.tuple #[.slice A' (missR l).1.length c', .int .i64 (missR l).2]) ∧ ∃ k : Ex w, w' = k.v ∧ Ow 1 iC k.v A' (missR l).1 ∧ Fr w A' := by
  by_cases hr : rises l 0 8640000
  rotate_left
  · refine (iMiss_no A c l w hn hr).mono ?_
    rintro e w' ⟨rfl, k, rfl⟩
    rw [missR_2 hr]
    exact ⟨none, 0, rfl, k, rfl, Ow.nil, inferInstance⟩
  · have HA := hid hl.i
    have HR := hid hr
    clear hr
    go_enter Try.func15, Try.ntmps15
    go_wp2
    go_loopw [11] (fun t wr => ∃ q : Nat, q ≤ l.length ∧ t = .int .i64 q ∧ ∃ j : Ex w, wr = j.v) (fun t _ => l.length - (intOf t).toNat)
    case atStart => exact ⟨0, Nat.zero_le _, rfl, Ex.rf w, rfl⟩
    case round =>
      obtain ⟨q, hq, rfl, j0, rfl⟩ := hrel
      by_cases hlt : q < l.length
      · obtain ⟨b, o, rfl, hbw, hc⟩ := HA.out (by omega)
        obtain ⟨h1, h2, h3⟩ := HR.out q hlt
        have c0 := hc q hlt
        by_cases hq0 : 0 < q
        · have h3 := h3 hq0
          have c1 := hc (q - 1) (by omega)
          obtain ⟨p, rfl⟩ : ∃ p, q = p + 1 := ⟨q - 1, by omega⟩
          simp only [Nat.add_sub_cancel] at h3 c1
          clear hc
          go_wp2_with ((go_at_call 43; first | (refine (wi_yes _ _ _ _ (by omega) (by omega)).mono ?_; rintro e w' ⟨rfl, rfl⟩) | (refine (wi_no _ _ _ _ (by omega)).mono ?_; rintro e w' ⟨rfl, rfl⟩)))
          go_roundw
          case rel => exact ⟨p + 1 + 1, by omega, by go_num, j0, rfl⟩
          case measure => simp [intOf]; omega
        · obtain rfl : q = 0 := by omega
          have c0 : w.cell? ⟨b, o, none⟩ = _ := c0
          clear hc h3
          go_wp2_with ((go_at_call 43; first | (refine (wi_yes _ _ _ _ (by omega) (by omega)).mono ?_; rintro e w' ⟨rfl, rfl⟩) | (refine (wi_no _ _ _ _ (by omega)).mono ?_; rintro e w' ⟨rfl, rfl⟩)))
          go_roundw
          case rel => exact ⟨1, by omega, by go_num, j0, rfl⟩
          case measure => simp [intOf]; omega
      · go_wp2
        have hrow0 := hid (row_nil j0.v w.heap.size 2 1 iC)
        go_loopw [6, 7] (fun v t wr => ∃ q : Nat, q + 1 ≤ l.length + 1 ∧ (l.length = 0 → q = 0) ∧ (0 < l.length → q + 1 ≤ l.length) ∧ t = .int .i64 ((q : Int) + 1) ∧ (gp l q).length ≤ 64 ∧ ∃ j : Ex w, wr = j.v ∧ j.v.ownsRow w.heap.size 2 1 v (gp l q).length ((gp l q).flatMap iC)) (fun _ t _ => l.length + 1 - (intOf t).toNat)
        case atStart => exact ⟨0, by omega, fun _ => rfl, fun h => by omega, rfl, by simp [gp], j0, rfl, hrow0.out⟩
        case round =>
          clear hq hlt
          obtain ⟨q, hq1, hq2, hq3, rfl, hg, j0, rfl, hrow⟩ := hrel
          have hn3 := (gp l q).length
          obtain ⟨A1, c1, rfl, -, -⟩ := own_of_row (w0 := w) (f := iC) (fun _ => rfl) hrow
          have HROW := hid hrow
          clear hrow
          by_cases hlt : q + 1 < l.length
          · have hltI : (q : Int) + 1 < (l.length : Int) := by omega
            obtain ⟨b, o, rfl, hbw, hc⟩ := HA.out (by omega)
            have d0 := hc q (by omega)
            have d1 := hc (q + 1) hlt
            clear hc
            obtain ⟨r1, r2, -⟩ := HR.out q (by omega)
            obtain ⟨r3, r4, r5⟩ := HR.out (q + 1) hlt
            have r5 := r5 (by omega)
            have r5 : l[q] < l[q + 1] := r5
            have hgp : gp l (q + 1) = gp l q ++ seg l[q] l[q + 1] := by simp only [gp]; rw [getD_at (by omega), getD_at hlt]
            have hsl := seg_len r5
            have hlen2 : ((gp l (q + 1)).length : Int) = (gp l q).length + (l[q + 1] - l[q] - 1) := by rw [hgp, List.length_append]; omega
            have HGP := hid hgp
            clear hgp
            have HM : Hid (64 < (gp l (q + 1)).length → missR l = ([], 5)) := hid fun h => missR_5 HR.out (by have := gp_mono l (j := q + 1) (k := l.length - 1) (by omega); omega)
            have hj0 : (gp l q ++ (seg l[q] l[q + 1]).take 0) = gp l q := by simp
            have HJ := hid hj0
            clear hj0
            generalize hx : l[q] = x at *
            generalize hy : l[q + 1] = y at *
            clear hx hy
            go_wp2
            have hst : j0.v.ownsRow w.heap.size 2 1 (.slice A1 (gp l q).length c1) (gp l q ++ (seg x y).take 0).length ((gp l q ++ (seg x y).take 0).flatMap iC) := by rw [HJ.out]; exact HROW.out
            have HST := hid hst
            clear hst
            go_loopw [6, 8] (fun v t wr => ∃ j : Nat, j ≤ (seg x y).length ∧ t = .int .i64 (x + 1 + j) ∧ (gp l q ++ (seg x y).take j).length ≤ 64 ∧ ∃ jj : Ex w, wr = jj.v ∧ jj.v.ownsRow w.heap.size 2 1 v (gp l q ++ (seg x y).take j).length ((gp l q ++ (seg x y).take j).flatMap iC)) (fun _ t _ => (y - intOf t).toNat)
            case atStart => exact ⟨0, Nat.zero_le _, by go_num, by rw [HJ.out]; exact hg, j0, rfl, HST.out⟩
            case round =>
              obtain ⟨j, hj, rfl, hg2, jj, rfl, hrow2⟩ := hrel
              obtain ⟨A2, c2, rfl, -, -⟩ := own_of_row (w0 := w) (f := iC) (fun _ => rfl) hrow2
              have HR2 := hid hrow2
              clear hrow2
              by_cases hjl : j < (seg x y).length
              · have hT := hid (seg_take x y j (by omega))
                have hL : (gp l q ++ (seg x y).take j).length = (gp l q).length + j := by simp; omega
                have HL := hid hL
                by_cases hf : (gp l q ++ (seg x y).take j).length = 64
                · have HM2 := hid (HM.out (by omega))
                  generalize (gp l q ++ (seg x y).take j) = G at *
                  go_wp2
                  go_ret2
                  refine ⟨none, 0, by rw [HM2.out]; rfl, ?_⟩
                  rw [HM2.out]
                  exact ⟨jj, rfl, Ow.nil, inferInstance⟩
                · have HA2 : Hid (gp l q ++ (seg x y).take j ++ [x + 1 + (j : Int)] = gp l q ++ (seg x y).take (j + 1)) := hid (by rw [List.append_assoc, hT.out])
                  have HL2 : Hid ((gp l q ++ (seg x y).take (j + 1)).length ≤ 64) := hid (by rw [← HA2.out, List.length_append]; simp only [List.length_singleton]; omega)
                  generalize hG : (gp l q ++ (seg x y).take j) = G at *
                  clear hG
                  go_wp2_with (at_builtin; refine wpList_app iC _ rfl _ _ _ rfl w _ _ _ _ Try.underlying35 infoI64 rfl (by omega) (fun _ => ⟨rfl, by simp [iC, Value.oneCell']⟩) _ G rfl (HR2.out.alloc _) (x + 1 + j) _ _ rfl (cell1 _ _ _) (by omega) (by omega) ?_; intro v' k' hown')
                  go_roundw
                  case rel => exact ⟨j + 1, by omega, by go_num, HL2.out, k', rfl, by rw [HA2.out] at hown'; exact hown'⟩
                  case measure => simp [intOf]; omega
              · have hT : gp l q ++ (seg x y).take j = gp l (q + 1) := by rw [HGP.out, List.take_of_length_le (by omega)]
                have HT := hid hT
                have HG2 := hid (hT ▸ hg2)
                clear hT hg2
                go_wp2
                go_roundw
                case rel => exact ⟨q + 1, by omega, by omega, by omega, by go_num, HG2.out, jj, rfl, by rw [← HT.out]; exact HR2.out⟩
                case measure => simp [intOf]; omega
          · have HM := hid (missR_0 HR.out (by have := gp_mono l (j := l.length - 1) (k := q) (by omega); omega))
            have hq : q = l.length - 1 := by omega
            go_wp2
            go_ret2
            obtain ⟨A2, c2, he, hO, hF⟩ := own_of_row (w0 := w) (f := iC) (fun _ => rfl) HROW.out
            cases he
            rw [HM.out]
            subst hq
            exact ⟨_, _, rfl, j0, rfl, hO, hF⟩
end
end Go.Proofs.Ytpapphhbogngcaa
