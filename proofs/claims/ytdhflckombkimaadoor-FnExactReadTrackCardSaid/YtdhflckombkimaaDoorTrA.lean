/-
  Contracts of the tests of a track. Conditions: those typed at each theorem.
-/
import Derived.Test.YtdhflckombkimaaDoorTrVal
import Derived.Test.YtdhflckombkimaaDoorKeys
namespace Go.Proofs.YtdhflckombkimaaDoor
open Go.RowKit
section
set_option maxHeartbeats 3200000
set_option maxRecDepth 20000
theorem tm_yes (n : Int) (w : World) (h1 : 0 ≤ n) (h2 : n ≤ 7200000) : Calls Tryd.prog 97 #[.int .i64 n] w fun e w' => e = .returned (.bool true) ∧ w = w' := by
  go_enter Tryd.func97, Tryd.ntmps97
  go_wp2_with ((go_at_call 101; first | (refine (in_yes _ _ _ _ (by omega) (by omega)).mono ?_; rintro e w' ⟨rfl, rfl⟩) | (refine (in_no _ _ _ _ (by omega)).mono ?_; rintro e w' ⟨rfl, rfl⟩)))
  go_ret
  exact ⟨rfl, rfl⟩
theorem tm_no (n : Int) (w : World) (h : n < 0 ∨ 7200000 < n) : Calls Tryd.prog 97 #[.int .i64 n] w fun e w' => e = .returned (.bool false) ∧ w = w' := by
  go_enter Tryd.func97, Tryd.ntmps97
  go_wp2_with ((go_at_call 101; first | (refine (in_yes _ _ _ _ (by omega) (by omega)).mono ?_; rintro e w' ⟨rfl, rfl⟩) | (refine (in_no _ _ _ _ (by omega)).mono ?_; rintro e w' ⟨rfl, rfl⟩)))
  go_ret
  exact ⟨rfl, rfl⟩
theorem vl_yes (n : Int) (w : World) (h1 : -1000000 ≤ n) (h2 : n ≤ 1000000) : Calls Tryd.prog 98 #[.int .i64 n] w fun e w' => e = .returned (.bool true) ∧ w = w' := by
  go_enter Tryd.func98, Tryd.ntmps98
  go_wp2_with ((go_at_call 101; first | (refine (in_yes _ _ _ _ (by omega) (by omega)).mono ?_; rintro e w' ⟨rfl, rfl⟩) | (refine (in_no _ _ _ _ (by omega)).mono ?_; rintro e w' ⟨rfl, rfl⟩)))
  go_ret
  exact ⟨rfl, rfl⟩
theorem vl_no (n : Int) (w : World) (h : n < -1000000 ∨ 1000000 < n) : Calls Tryd.prog 98 #[.int .i64 n] w fun e w' => e = .returned (.bool false) ∧ w = w' := by
  go_enter Tryd.func98, Tryd.ntmps98
  go_wp2_with ((go_at_call 101; first | (refine (in_yes _ _ _ _ (by omega) (by omega)).mono ?_; rintro e w' ⟨rfl, rfl⟩) | (refine (in_no _ _ _ _ (by omega)).mono ?_; rintro e w' ⟨rfl, rfl⟩)))
  go_ret
  exact ⟨rfl, rfl⟩
theorem vk_yes (x : Ky) (w : World) (h1 : 0 ≤ x.t) (h2 : x.t ≤ 7200000) (h3 : -1000000 ≤ x.v) (h4 : x.v ≤ 1000000) : Calls Tryd.prog 67 #[.agg #[.int .i64 x.t, .int .i64 x.v]] w fun e w' => e = .returned (.bool true) ∧ ∃ k : Ex w, w' = k.v := by
  go_enter Tryd.func67, Tryd.ntmps67
  go_wp2_with ((go_at_call 63; first | (refine (wi_yes _ _ _ _ (by omega) (by omega)).mono ?_; rintro e w' ⟨rfl, rfl⟩) | (refine (wi_no _ _ _ _ (by omega)).mono ?_; rintro e w' ⟨rfl, rfl⟩)))
  (go_ret; refine ⟨by first | rfl | (simp; done), ?_⟩; (refine Ok.toEx ?_; (repeat (first | (with_reducible exact Ok.rf _) | (with_reducible refine Ok.alloc ?_ _) | (with_reducible refine Ok.ex ?_ _) | (with_reducible refine Ok.drew ?_) | (with_reducible refine Ok.setCellI ?_ _ _ _) | (with_reducible refine Ok.exb ?_ _)))))
theorem vk_no (x : Ky) (w : World) (h : (x.t < 0 ∨ 7200000 < x.t) ∨ ((0 ≤ x.t ∧ x.t ≤ 7200000) ∧ (x.v < -1000000 ∨ 1000000 < x.v))) : Calls Tryd.prog 67 #[.agg #[.int .i64 x.t, .int .i64 x.v]] w fun e w' => e = .returned (.bool false) ∧ ∃ k : Ex w, w' = k.v := by
  rcases h with h | ⟨⟨h1, h2⟩, h⟩
  all_goals
    go_enter Tryd.func67, Tryd.ntmps67
    go_wp2_with ((go_at_call 63; first | (refine (wi_yes _ _ _ _ (by omega) (by omega)).mono ?_; rintro e w' ⟨rfl, rfl⟩) | (refine (wi_no _ _ _ _ (by omega)).mono ?_; rintro e w' ⟨rfl, rfl⟩)))
    (go_ret; refine ⟨by first | rfl | (simp; done), ?_⟩; (refine Ok.toEx ?_; (repeat (first | (with_reducible exact Ok.rf _) | (with_reducible refine Ok.alloc ?_ _) | (with_reducible refine Ok.ex ?_ _) | (with_reducible refine Ok.drew ?_) | (with_reducible refine Ok.setCellI ?_ _ _ _) | (with_reducible refine Ok.exb ?_ _)))))
theorem one_yes (nm : ByteArray) (A : Option Addr) (c : Nat) (l : List Ky) (b : Nat) (w : World) [LtW b w] [hl : Rd 2 kC w A l] (hc0 : w.cell? ⟨b, 0, none⟩ = some (.string nm)) (hc1 : w.cell? ⟨b, 1, none⟩ = some (.slice A l.length c)) (h1 : okN nm) (h2 : okK l) :
    Calls Tryd.prog 70 #[.pointer (some ⟨b, 0, none⟩)] w fun e w' => e = .returned (.bool true) ∧ ∃ k : Ex w, w' = k.v := by
  have HA := hid hl.k
  have hln := h2.1.1
  have hln2 := h2.1.2
  have HR := hid h2.2
  clear h2
  go_enter Tryd.func70, Tryd.ntmps70
  go_wp2_with ((go_at_call 96; first | (refine (l01Name_yes _ _ (by assumption)).mono ?_; rintro e w' ⟨rfl, rfl⟩) | (refine (l01Name_no _ _ (by assumption) (by assumption)).mono ?_; rintro e w' ⟨rfl, rfl⟩)))
  go_loopw [3] (fun t wr => ∃ q : Nat, q ≤ l.length ∧ t = .int .i64 q ∧ ∃ j : Ex w, wr = j.v) (fun t _ => l.length - (intOf t).toNat)
  case atStart => exact ⟨0, Nat.zero_le _, rfl, Ex.rf w, rfl⟩
  case round =>
    obtain ⟨q, hq, rfl, j0, rfl⟩ := hrel
    by_cases hlt : q < l.length
    · obtain ⟨b', o, rfl, hbw, hc⟩ := HA.out (by omega)
      obtain ⟨⟨k1, k2⟩, ⟨k3, k4⟩, k5⟩ := HR.out q hlt
      obtain ⟨c0, c1⟩ := hc q hlt
      by_cases hq0 : 0 < q
      · have k5 := k5 hq0
        obtain ⟨p, rfl⟩ : ∃ p, q = p + 1 := ⟨q - 1, by omega⟩
        obtain ⟨d0, d1⟩ := hc p (by omega)
        simp only [Nat.add_sub_cancel] at k5
        clear hc
        go_wp2
        (refine wp_region_ex (by kernel_rfl) (by kernel_rfl) ?_; (repeat (go_big_quiet_step (((first | (go_at_call 97; first | exact calls_ex_same (tm_yes _ _ (by omega) (by omega)) | exact calls_ex_same (tm_no _ _ (by omega))) | (go_at_call 98; first | exact calls_ex_same (vl_yes _ _ (by omega) (by omega)) | exact calls_ex_same (vl_no _ _ (by omega)))))))); refine wpQuiet_nil ?_; rintro _ ⟨k, rfl⟩)
        go_wp2
        go_roundw
        case rel => exact ⟨p + 1 + 1, by omega, by go_num, j0.tr k, rfl⟩
        case measure => simp [intOf]; omega
      · obtain rfl : q = 0 := by omega
        have c0 : w.cell? ⟨b', o, none⟩ = _ := c0
        have c1 : w.cell? ⟨b', o + 1, none⟩ = _ := c1
        clear hc k5
        go_wp2
        (refine wp_region_ex (by kernel_rfl) (by kernel_rfl) ?_; (repeat (go_big_quiet_step (((first | (go_at_call 97; first | exact calls_ex_same (tm_yes _ _ (by omega) (by omega)) | exact calls_ex_same (tm_no _ _ (by omega))) | (go_at_call 98; first | exact calls_ex_same (vl_yes _ _ (by omega) (by omega)) | exact calls_ex_same (vl_no _ _ (by omega)))))))); refine wpQuiet_nil ?_; rintro _ ⟨k, rfl⟩)
        go_wp2
        go_roundw
        case rel => exact ⟨1, by omega, by go_num, j0.tr k, rfl⟩
        case measure => simp [intOf]; omega
    · go_wp2
      go_ret
      exact ⟨rfl, j0, rfl⟩
theorem one_no (nm : ByteArray) (A : Option Addr) (c : Nat) (l : List Ky) (b : Nat) (w : World) [LtW b w] [hl : Rd 2 kC w A l] (hs : nm.size ≤ maxLen) (hn : l.length ≤ 1048576) (hc0 : w.cell? ⟨b, 0, none⟩ = some (.string nm)) (hc1 : w.cell? ⟨b, 1, none⟩ = some (.slice A l.length c)) (h : vT nm l = false) :
    Calls Tryd.prog 70 #[.pointer (some ⟨b, 0, none⟩)] w fun e w' => e = .returned (.bool false) ∧ ∃ k : Ex w, w' = k.v := by
  have HA := hid hl.k
  rcases vT_why h with h1 | ⟨h1, h2⟩ | ⟨h1, h2, h3⟩ | ⟨h1, h2, h3, h4⟩
  · clear h
    go_enter Tryd.func70, Tryd.ntmps70
    go_wp2_with ((go_at_call 96; first | (refine (l01Name_yes _ _ (by assumption)).mono ?_; rintro e w' ⟨rfl, rfl⟩) | (refine (l01Name_no _ _ (by assumption) (by assumption)).mono ?_; rintro e w' ⟨rfl, rfl⟩)))
    (go_ret; refine ⟨by first | rfl | (simp; done), ?_⟩; (refine Ok.toEx ?_; (repeat (first | (with_reducible exact Ok.rf _) | (with_reducible refine Ok.alloc ?_ _) | (with_reducible refine Ok.ex ?_ _) | (with_reducible refine Ok.drew ?_) | (with_reducible refine Ok.setCellI ?_ _ _ _) | (with_reducible refine Ok.exb ?_ _)))))
  · clear h
    go_enter Tryd.func70, Tryd.ntmps70
    go_wp2_with ((go_at_call 96; first | (refine (l01Name_yes _ _ (by assumption)).mono ?_; rintro e w' ⟨rfl, rfl⟩) | (refine (l01Name_no _ _ (by assumption) (by assumption)).mono ?_; rintro e w' ⟨rfl, rfl⟩)))
    (go_ret; refine ⟨by first | rfl | (simp; done), ?_⟩; (refine Ok.toEx ?_; (repeat (first | (with_reducible exact Ok.rf _) | (with_reducible refine Ok.alloc ?_ _) | (with_reducible refine Ok.ex ?_ _) | (with_reducible refine Ok.drew ?_) | (with_reducible refine Ok.setCellI ?_ _ _ _) | (with_reducible refine Ok.exb ?_ _)))))
  · clear h
    go_enter Tryd.func70, Tryd.ntmps70
    go_wp2_with ((go_at_call 96; first | (refine (l01Name_yes _ _ (by assumption)).mono ?_; rintro e w' ⟨rfl, rfl⟩) | (refine (l01Name_no _ _ (by assumption) (by assumption)).mono ?_; rintro e w' ⟨rfl, rfl⟩)))
    (go_ret; refine ⟨by first | rfl | (simp; done), ?_⟩; (refine Ok.toEx ?_; (repeat (first | (with_reducible exact Ok.rf _) | (with_reducible refine Ok.alloc ?_ _) | (with_reducible refine Ok.ex ?_ _) | (with_reducible refine Ok.drew ?_) | (with_reducible refine Ok.setCellI ?_ _ _ _) | (with_reducible refine Ok.exb ?_ _)))))
  · have HR := hid h4
    clear h h4
    go_enter Tryd.func70, Tryd.ntmps70
    go_wp2_with ((go_at_call 96; first | (refine (l01Name_yes _ _ (by assumption)).mono ?_; rintro e w' ⟨rfl, rfl⟩) | (refine (l01Name_no _ _ (by assumption) (by assumption)).mono ?_; rintro e w' ⟨rfl, rfl⟩)))
    go_loopw [3] (fun t wr => ∃ q : Nat, q ≤ l.length ∧ t = .int .i64 q ∧ (∀ i (h : i < l.length), i < q → kAt l i h) ∧ ∃ j : Ex w, wr = j.v) (fun t _ => l.length - (intOf t).toNat)
    case atStart => exact ⟨0, Nat.zero_le _, rfl, fun i _ h => absurd h (by omega), Ex.rf w, rfl⟩
    case round =>
      obtain ⟨q, hq, rfl, hs, j0, rfl⟩ := hrel
      have HS := hid hs
      clear hs
      by_cases hlt : q < l.length
      · obtain ⟨b', o, rfl, hbw, hc⟩ := HA.out (by omega)
        have HN : Hid (kAt l q hlt → ∀ i (h : i < l.length), i < q + 1 → kAt l i h) := hid fun h i hi hiq => by
          rcases Nat.lt_or_ge i q with h1 | h1
          · exact HS.out i hi h1
          · obtain rfl : i = q := by omega
            exact h
        obtain ⟨c0, c1⟩ := hc q hlt
        rcases kAt_cases l q hlt with ⟨k0, ⟨k1, k2⟩, ⟨k3, k4⟩, k5 | ⟨k5, k6⟩⟩ | ⟨k0, k1 | k1⟩ | ⟨k0, ⟨k1, k2⟩, k3 | k3⟩ | ⟨k0, ⟨k1, k2⟩, ⟨k3, k4⟩, k5, k6⟩
        · subst k5
          have c0 : w.cell? ⟨b', o, none⟩ = _ := c0
          have c1 : w.cell? ⟨b', o + 1, none⟩ = _ := c1
          have H0 := hid k0
          clear hc k0
          go_wp2
          (refine wp_region_ex (by kernel_rfl) (by kernel_rfl) ?_; (repeat (go_big_quiet_step (((first | (go_at_call 97; first | exact calls_ex_same (tm_yes _ _ (by omega) (by omega)) | exact calls_ex_same (tm_no _ _ (by omega))) | (go_at_call 98; first | exact calls_ex_same (vl_yes _ _ (by omega) (by omega)) | exact calls_ex_same (vl_no _ _ (by omega)))))))); refine wpQuiet_nil ?_; rintro _ ⟨k, rfl⟩)
          go_wp2
          go_roundw
          case rel => exact ⟨1, by omega, by go_num, HN.out H0.out, j0.tr k, rfl⟩
          case measure => simp [intOf]; omega
        · obtain ⟨p, rfl⟩ : ∃ p, q = p + 1 := ⟨q - 1, by omega⟩
          obtain ⟨d0, d1⟩ := hc p (by omega)
          simp only [Nat.add_sub_cancel] at k6
          have H0 := hid k0
          clear hc k0
          go_wp2
          (refine wp_region_ex (by kernel_rfl) (by kernel_rfl) ?_; (repeat (go_big_quiet_step (((first | (go_at_call 97; first | exact calls_ex_same (tm_yes _ _ (by omega) (by omega)) | exact calls_ex_same (tm_no _ _ (by omega))) | (go_at_call 98; first | exact calls_ex_same (vl_yes _ _ (by omega) (by omega)) | exact calls_ex_same (vl_no _ _ (by omega)))))))); refine wpQuiet_nil ?_; rintro _ ⟨k, rfl⟩)
          go_wp2
          go_roundw
          case rel => exact ⟨p + 1 + 1, by omega, by go_num, HN.out H0.out, j0.tr k, rfl⟩
          case measure => simp [intOf]; omega
        · clear hc
          go_wp2
          (refine wp_region_ex (by kernel_rfl) (by kernel_rfl) ?_; (repeat (go_big_quiet_step (((first | (go_at_call 97; first | exact calls_ex_same (tm_yes _ _ (by omega) (by omega)) | exact calls_ex_same (tm_no _ _ (by omega))) | (go_at_call 98; first | exact calls_ex_same (vl_yes _ _ (by omega) (by omega)) | exact calls_ex_same (vl_no _ _ (by omega)))))))); refine wpQuiet_nil ?_; rintro _ ⟨k, rfl⟩)
          go_wp2
          (go_ret; refine ⟨by first | rfl | (simp; done), ?_⟩; (refine Ok.toEx ?_; (repeat (first | (with_reducible exact Ok.rf _) | (with_reducible refine Ok.alloc ?_ _) | (with_reducible refine Ok.ex ?_ _) | (with_reducible refine Ok.drew ?_) | (with_reducible refine Ok.setCellI ?_ _ _ _) | (with_reducible refine Ok.exb ?_ _)))))
        · clear hc
          go_wp2
          (refine wp_region_ex (by kernel_rfl) (by kernel_rfl) ?_; (repeat (go_big_quiet_step (((first | (go_at_call 97; first | exact calls_ex_same (tm_yes _ _ (by omega) (by omega)) | exact calls_ex_same (tm_no _ _ (by omega))) | (go_at_call 98; first | exact calls_ex_same (vl_yes _ _ (by omega) (by omega)) | exact calls_ex_same (vl_no _ _ (by omega)))))))); refine wpQuiet_nil ?_; rintro _ ⟨k, rfl⟩)
          go_wp2
          (go_ret; refine ⟨by first | rfl | (simp; done), ?_⟩; (refine Ok.toEx ?_; (repeat (first | (with_reducible exact Ok.rf _) | (with_reducible refine Ok.alloc ?_ _) | (with_reducible refine Ok.ex ?_ _) | (with_reducible refine Ok.drew ?_) | (with_reducible refine Ok.setCellI ?_ _ _ _) | (with_reducible refine Ok.exb ?_ _)))))
        · clear hc
          go_wp2
          (refine wp_region_ex (by kernel_rfl) (by kernel_rfl) ?_; (repeat (go_big_quiet_step (((first | (go_at_call 97; first | exact calls_ex_same (tm_yes _ _ (by omega) (by omega)) | exact calls_ex_same (tm_no _ _ (by omega))) | (go_at_call 98; first | exact calls_ex_same (vl_yes _ _ (by omega) (by omega)) | exact calls_ex_same (vl_no _ _ (by omega)))))))); refine wpQuiet_nil ?_; rintro _ ⟨k, rfl⟩)
          go_wp2
          (go_ret; refine ⟨by first | rfl | (simp; done), ?_⟩; (refine Ok.toEx ?_; (repeat (first | (with_reducible exact Ok.rf _) | (with_reducible refine Ok.alloc ?_ _) | (with_reducible refine Ok.ex ?_ _) | (with_reducible refine Ok.drew ?_) | (with_reducible refine Ok.setCellI ?_ _ _ _) | (with_reducible refine Ok.exb ?_ _)))))
        · clear hc
          go_wp2
          (refine wp_region_ex (by kernel_rfl) (by kernel_rfl) ?_; (repeat (go_big_quiet_step (((first | (go_at_call 97; first | exact calls_ex_same (tm_yes _ _ (by omega) (by omega)) | exact calls_ex_same (tm_no _ _ (by omega))) | (go_at_call 98; first | exact calls_ex_same (vl_yes _ _ (by omega) (by omega)) | exact calls_ex_same (vl_no _ _ (by omega)))))))); refine wpQuiet_nil ?_; rintro _ ⟨k, rfl⟩)
          go_wp2
          (go_ret; refine ⟨by first | rfl | (simp; done), ?_⟩; (refine Ok.toEx ?_; (repeat (first | (with_reducible exact Ok.rf _) | (with_reducible refine Ok.alloc ?_ _) | (with_reducible refine Ok.ex ?_ _) | (with_reducible refine Ok.drew ?_) | (with_reducible refine Ok.setCellI ?_ _ _ _) | (with_reducible refine Ok.exb ?_ _)))))
        · obtain ⟨p, rfl⟩ : ∃ p, q = p + 1 := ⟨q - 1, by omega⟩
          obtain ⟨d0, d1⟩ := hc p (by omega)
          simp only [Nat.add_sub_cancel] at k6
          clear hc
          go_wp2
          (refine wp_region_ex (by kernel_rfl) (by kernel_rfl) ?_; (repeat (go_big_quiet_step (((first | (go_at_call 97; first | exact calls_ex_same (tm_yes _ _ (by omega) (by omega)) | exact calls_ex_same (tm_no _ _ (by omega))) | (go_at_call 98; first | exact calls_ex_same (vl_yes _ _ (by omega) (by omega)) | exact calls_ex_same (vl_no _ _ (by omega)))))))); refine wpQuiet_nil ?_; rintro _ ⟨k, rfl⟩)
          go_wp2
          (go_ret; refine ⟨by first | rfl | (simp; done), ?_⟩; (refine Ok.toEx ?_; (repeat (first | (with_reducible exact Ok.rf _) | (with_reducible refine Ok.alloc ?_ _) | (with_reducible refine Ok.ex ?_ _) | (with_reducible refine Ok.drew ?_) | (with_reducible refine Ok.setCellI ?_ _ _ _) | (with_reducible refine Ok.exb ?_ _)))))
      · exact absurd (fun i hi => HS.out i hi (by omega)) HR.out
end
end Go.Proofs.YtdhflckombkimaaDoor
