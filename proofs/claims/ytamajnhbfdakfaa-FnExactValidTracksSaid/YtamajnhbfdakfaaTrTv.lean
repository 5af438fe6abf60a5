/-
  ValidTracks, both, and its law. Conditions: those typed at each theorem.
-/
import Derived.Test.YtamajnhbfdakfaaTrTs
import Derived.Test.YtamajnhbfdakfaaTrAP
import Derived.Laws.Cover1
namespace Go.Proofs.Ytamajnhbfdakfaa
open Go.RowKit
section
set_option maxHeartbeats 3200000
set_option maxRecDepth 20000
theorem iVT_r (nm : ByteArray) (A : Option Addr) (c : Nat) (l : List Ky) (w : World) [hl : Rd 2 kC w A l] (hs : nm.size ≤ maxLen) (hn : l.length ≤ 1048576) {r : Bool} (hr : vT nm l = r) :
    Calls Try.prog 23 #[.agg #[.string nm, .slice A l.length c]] w fun e w' => e = .returned (.bool r) ∧ ∃ k : Ex w, w' = k.v := by subst hr; exact iVT_any nm A c l w hs hn
theorem sTs_any (A : Option Addr) (c : Nat) (V : List TV) (w : World) [hl : Ts w A V] (hm : ∀ x ∈ V, x.l.length ≤ 1048576 ∧ x.nm.size ≤ 1048576) :
    Calls Try.prog 72 #[.slice A V.length c] w fun e w' => e = .returned (.bool (vTs V)) ∧ ∃ k : Ex w, w' = k.v := by
  have hlen := hl.len
  have HA := hid hl.at_
  have HM := hid hm
  clear hm
  go_enter Try.func72, Try.ntmps72
  go_wp2
  go_loopw [3] (fun t wr => ∃ q : Nat, q ≤ V.length ∧ t = .int .i64 q ∧ (∀ i (h : i < V.length), i < q → okTs V i h) ∧ ∃ j : Ex w, wr = j.v) (fun t _ => V.length - (intOf t).toNat)
  case atStart => exact ⟨0, Nat.zero_le _, rfl, fun i _ h => absurd h (by omega), Ex.rf w, rfl⟩
  case round =>
    obtain ⟨q, hq, rfl, hs, j0, rfl⟩ := hrel
    have HS := hid hs
    clear hs
    by_cases hlt : q < V.length
    · obtain ⟨b, o, rfl, hbw, hc⟩ := HA.out (by omega)
      obtain ⟨B, c1, c0, c0', hB⟩ := hc q hlt
      obtain ⟨HM2, HM1⟩ := HM.out _ (List.getElem_mem hlt)
      have HM1 : V[q].nm.size ≤ maxLen := Nat.le_trans HM1 (by simp [maxLen])
      have HN : Hid (okTs V q hlt → ∀ i (h : i < V.length), i < q + 1 → okTs V i h) := hid fun h i hi hiq => by
        rcases Nat.lt_or_ge i q with h1 | h1
        · exact HS.out i hi h1
        · obtain rfl : i = q := by omega
          exact h
      have HF : Hid (¬ okTs V q hlt → vTs V = false) := hid fun h => vTs_bad h
      rcases okTs_cases V q hlt with ⟨k0, k1, k5 | ⟨k5, k6⟩⟩ | ⟨k0, k1⟩ | ⟨k0, k1, k5, k6⟩
      · subst k5
        have HR := hid (HN.out k0)
        have HX := hid k1
        clear hc k0 k1
        generalize V[0] = x at *
        have c0 : w.cell? ⟨b, o, none⟩ = _ := c0
        have c0' : w.cell? ⟨b, o + 1, none⟩ = _ := c0'
        go_wp2
        (refine wp_region_ex (by kernel_rfl) (by kernel_rfl) ?_; (repeat (go_big_quiet_step (((go_at_call 64; exact calls_ex (onez_any x.nm B c1 x.l b _ _ HM1 HM2 (by simp [go_sem, c0]) (by simp [go_sem, c0']) HX.out)))))); refine wpQuiet_nil ?_; rintro _ ⟨k, rfl⟩)
        go_wp2
        go_roundw
        case rel => exact ⟨1, by omega, by go_num, HR.out, j0.tr k, rfl⟩
        case measure => simp [intOf]; omega
      · obtain ⟨p, rfl⟩ : ∃ p, q = p + 1 := ⟨q - 1, by omega⟩
        obtain ⟨B', c1', d0, d0', hB'⟩ := hc p (by omega)
        simp only [Nat.add_sub_cancel] at k6
        have HR := hid (HN.out k0)
        have HX := hid k1
        clear hc k0 k1
        generalize V[p + 1] = x at *
        generalize V[p] = y at *
        go_wp2
        (refine wp_region_ex (by kernel_rfl) (by kernel_rfl) ?_; (repeat (go_big_quiet_step (((go_at_call 64; exact calls_ex (onez_any x.nm B c1 x.l b _ _ HM1 HM2 (by simp [go_sem, c0]) (by simp [go_sem, c0']) HX.out)))))); refine wpQuiet_nil ?_; rintro _ ⟨k, rfl⟩)
        go_wp2
        go_roundw
        case rel => exact ⟨p + 1 + 1, by omega, by go_num, HR.out, j0.tr k, rfl⟩
        case measure => simp [intOf]; omega
      · have HR := hid (HF.out k0)
        have HX := hid k1
        clear hc k0 k1
        generalize V[q] = x at *
        go_wp2
        (refine wp_region_ex (by kernel_rfl) (by kernel_rfl) ?_; (repeat (go_big_quiet_step (((go_at_call 64; exact calls_ex (onez_any x.nm B c1 x.l b _ _ HM1 HM2 (by simp [go_sem, c0]) (by simp [go_sem, c0']) HX.out)))))); refine wpQuiet_nil ?_; rintro _ ⟨k, rfl⟩)
        go_wp2
        go_ret
        exact ⟨by rw [HR.out]; rfl, j0.tr k, rfl⟩
      · obtain ⟨p, rfl⟩ : ∃ p, q = p + 1 := ⟨q - 1, by omega⟩
        obtain ⟨B', c1', d0, d0', hB'⟩ := hc p (by omega)
        simp only [Nat.add_sub_cancel] at k6
        have HR := hid (HF.out k0)
        have HX := hid k1
        clear hc k0 k1
        generalize V[p + 1] = x at *
        generalize V[p] = y at *
        go_wp2
        (refine wp_region_ex (by kernel_rfl) (by kernel_rfl) ?_; (repeat (go_big_quiet_step (((go_at_call 64; exact calls_ex (onez_any x.nm B c1 x.l b _ _ HM1 HM2 (by simp [go_sem, c0]) (by simp [go_sem, c0']) HX.out)))))); refine wpQuiet_nil ?_; rintro _ ⟨k, rfl⟩)
        go_wp2
        go_ret
        exact ⟨by rw [HR.out]; rfl, j0.tr k, rfl⟩
    · have HR := hid (vTs_all fun i hi => HS.out i hi (by omega))
      go_wp2
      go_ret
      refine ⟨by rw [HR.out]; first | rfl | (simp; done) | (simp; omega), j0, rfl⟩
theorem sTsV_any (A : Option Addr) (c : Nat) (V : List TV) (w : World) [hl : Ts w A V] (hm : ∀ x ∈ V, x.l.length ≤ 1048576 ∧ x.nm.size ≤ 1048576) :
    Calls Try.prog 27 #[.slice A V.length c] w fun e w' => e = .returned (.bool (vTs V)) ∧ ∃ k : Ex w, w' = k.v := by
  have HM := hid hm
  clear hm
  go_enter Try.func27, Try.ntmps27
  go_wp2_with ((go_at_call 72; refine (sTs_any _ _ V _ HM.out).mono ?_; rintro e w' ⟨rfl, k, rfl⟩))
  (go_ret; refine ⟨by first | rfl | (simp; done), ?_⟩; (refine Ok.toEx ?_; (repeat (first | (with_reducible exact Ok.rf _) | (with_reducible refine Ok.alloc ?_ _) | (with_reducible refine Ok.ex ?_ _) | (with_reducible refine Ok.drew ?_) | (with_reducible refine Ok.setCellI ?_ _ _ _) | (with_reducible refine Ok.exb ?_ _)))))
theorem iTs_any (A : Option Addr) (c : Nat) (V : List TV) (w : World) [hl : Ts w A V] (hm : ∀ x ∈ V, x.l.length ≤ 1048576 ∧ x.nm.size ≤ 1048576) :
    Calls Try.prog 29 #[.slice A V.length c] w fun e w' => e = .returned (.bool (vTs V)) ∧ ∃ k : Ex w, w' = k.v := by
  have hlen := hl.len
  have HA := hid hl.at_
  have HM := hid hm
  clear hm
  by_cases h16 : 16 < V.length
  · have HR := hid (vTs_long h16)
    have h16i : (16 : Int) < (V.length : Int) := by omega
    go_enter Try.func29, Try.ntmps29
    go_wp2
    go_ret
    exact ⟨by rw [HR.out]; rfl, Ex.rf w, rfl⟩
  · go_enter Try.func29, Try.ntmps29
    go_wp2
    go_loopw [10] (fun t wr => ∃ q : Nat, q ≤ V.length ∧ t = .int .i64 q ∧ (∀ i (h : i < V.length), i < q → okTs V i h) ∧ ∃ j : Ex w, wr = j.v) (fun t _ => V.length - (intOf t).toNat)
    case atStart => exact ⟨0, Nat.zero_le _, rfl, fun i _ h => absurd h (by omega), Ex.rf w, rfl⟩
    case round =>
      obtain ⟨q, hq, rfl, hs, j0, rfl⟩ := hrel
      have HS := hid hs
      clear hs
      by_cases hlt : q < V.length
      · obtain ⟨b, o, rfl, hbw, hc⟩ := HA.out (by omega)
        obtain ⟨B, c1, c0, c0', hB⟩ := hc q hlt
        obtain ⟨HM2, HM1⟩ := HM.out _ (List.getElem_mem hlt)
        have HM1 : V[q].nm.size ≤ maxLen := Nat.le_trans HM1 (by simp [maxLen])
        have HN : Hid (okTs V q hlt → ∀ i (h : i < V.length), i < q + 1 → okTs V i h) := hid fun h i hi hiq => by
          rcases Nat.lt_or_ge i q with h1 | h1
          · exact HS.out i hi h1
          · obtain rfl : i = q := by omega
            exact h
        have HF : Hid (¬ okTs V q hlt → vTs V = false) := hid fun h => vTs_bad h
        rcases okTs_cases V q hlt with ⟨k0, k1, k5 | ⟨k5, k6⟩⟩ | ⟨k0, k1⟩ | ⟨k0, k1, k5, k6⟩
        · subst k5
          have HR := hid (HN.out k0)
          have HX := hid k1
          clear hc k0 k1
          generalize V[0] = x at *
          have c0 : w.cell? ⟨b, o, none⟩ = _ := c0
          have c0' : w.cell? ⟨b, o + 1, none⟩ = _ := c0'
          go_wp2
          (refine wp_region_ex (by kernel_rfl) (by kernel_rfl) ?_; (repeat (go_big_quiet_step (((go_at_call 23; exact calls_ex (iVT_r x.nm B c1 x.l _ HM1 HM2 HX.out)))))); refine wpQuiet_nil ?_; rintro _ ⟨k, rfl⟩)
          go_wp2
          go_roundw
          case rel => exact ⟨1, by omega, by go_num, HR.out, (by refine ex_up (w := w) ⟨k, rfl⟩)⟩
          case measure => simp [intOf]; omega
        · obtain ⟨p, rfl⟩ : ∃ p, q = p + 1 := ⟨q - 1, by omega⟩
          obtain ⟨B', c1', d0, d0', hB'⟩ := hc p (by omega)
          simp only [Nat.add_sub_cancel] at k6
          have HR := hid (HN.out k0)
          have HX := hid k1
          clear hc k0 k1
          generalize V[p + 1] = x at *
          generalize V[p] = y at *
          go_wp2
          (refine wp_region_ex (by kernel_rfl) (by kernel_rfl) ?_; (repeat (go_big_quiet_step (((go_at_call 23; exact calls_ex (iVT_r x.nm B c1 x.l _ HM1 HM2 HX.out)))))); refine wpQuiet_nil ?_; rintro _ ⟨k, rfl⟩)
          go_wp2
          go_roundw
          case rel => exact ⟨p + 1 + 1, by omega, by go_num, HR.out, (by refine ex_up (w := w) ⟨k, rfl⟩)⟩
          case measure => simp [intOf]; omega
        · have HR := hid (HF.out k0)
          have HX := hid k1
          clear hc k0 k1
          generalize V[q] = x at *
          go_wp2
          (refine wp_region_ex (by kernel_rfl) (by kernel_rfl) ?_; (repeat (go_big_quiet_step (((go_at_call 23; exact calls_ex (iVT_r x.nm B c1 x.l _ HM1 HM2 HX.out)))))); refine wpQuiet_nil ?_; rintro _ ⟨k, rfl⟩)
          go_wp2
          go_ret
          exact ⟨by rw [HR.out]; rfl, (by refine ex_up (w := w) ⟨k, rfl⟩)⟩
        · obtain ⟨p, rfl⟩ : ∃ p, q = p + 1 := ⟨q - 1, by omega⟩
          obtain ⟨B', c1', d0, d0', hB'⟩ := hc p (by omega)
          simp only [Nat.add_sub_cancel] at k6
          have HR := hid (HF.out k0)
          have HX := hid k1
          clear hc k0 k1
          generalize V[p + 1] = x at *
          generalize V[p] = y at *
          go_wp2
          (refine wp_region_ex (by kernel_rfl) (by kernel_rfl) ?_; (repeat (go_big_quiet_step (((go_at_call 23; exact calls_ex (iVT_r x.nm B c1 x.l _ HM1 HM2 HX.out)))))); refine wpQuiet_nil ?_; rintro _ ⟨k, rfl⟩)
          go_wp2
          go_ret
          exact ⟨by rw [HR.out]; rfl, (by refine ex_up (w := w) ⟨k, rfl⟩)⟩
      · have HR := hid (vTs_all fun i hi => HS.out i hi (by omega))
        have hr2 : decide (V.length ≤ 16) = true := by simpa using h16
        have HR2 := hid hr2
        clear hr2
        go_wp2
        go_ret
        exact ⟨by rw [HR.out, HR2.out]; rfl, j0, rfl⟩
theorem lValidTracks (A : Option Addr) (c : Nat) (V : List TV) (w : World) (hl : Ts w A V) (hs : ∀ x ∈ V, x.nm.size ≤ 9223372036854775807) :
    Calls Try.prog 6 #[.slice A V.length c] w fun e w' => e = .returned (.bool true) ∧ ∃ k : Ex w, w' = k.v := by
  have hlen := hl.len
  have HS := hid hs
  clear hs
  obtain ⟨r, hr⟩ : ∃ r, vTs V = r := ⟨_, rfl⟩
  have HR := hid hr
  clear hr
  go_enter Try.func6, Try.ntmps6
  go_wp2_with (go_at_call 26; (with_reducible refine (szTs_any _ _ V _ _ HS.out ?_ ?_).mono ?_); (· omega); (· omega); rintro e w' ⟨m, rfl, ⟨m_1, m_2, m_3⟩, m_4, k, rfl⟩; have m_4 := hid m_4)
  · (go_ret; refine ⟨by first | rfl | (simp; done), ?_⟩; (refine Ok.toEx ?_; (repeat (first | (with_reducible exact Ok.rf _) | (with_reducible refine Ok.alloc ?_ _) | (with_reducible refine Ok.ex ?_ _) | (with_reducible refine Ok.drew ?_) | (with_reducible refine Ok.setCellI ?_ _ _ _) | (with_reducible refine Ok.exb ?_ _)))))
  have hm4 := m_3 (by omega)
  have HM := hid (m_4.out (by omega))
  clear m_3
  go_wp2_with (go_at_call 28; (with_reducible refine (toTs_any _ _ V _ hm4 ?_).mono ?_); (· intro x hx; exact (HM.out x hx).1); rintro e w' ⟨rfl, k1, rfl, hw1⟩)
  go_wp2_with (go_at_call 27; (with_reducible refine (sTsV_any _ _ V _ HM.out).mono ?_); rw [HR.out]; rintro e w' ⟨rfl, k2, rfl⟩)
  go_wp2_with (go_at_call 28; (with_reducible refine (toTs_any _ _ V _ hm4 ?_).mono ?_); (· intro x hx; exact (HM.out x hx).1); rintro e w' ⟨rfl, k3, rfl, hw3⟩)
  go_wp2_with (go_at_call 29; (with_reducible refine (iTs_any _ _ V _ HM.out).mono ?_); rw [HR.out]; rintro e w' ⟨rfl, k4, rfl⟩)
  go_wp2_with (go_at_call 28; (with_reducible refine (toTs_any _ _ V _ hm4 ?_).mono ?_); (· intro x hx; exact (HM.out x hx).1); rintro e w' ⟨rfl, k5, rfl, hw5⟩)
  go_wp2_with (go_at_call 30; (with_reducible refine (eqTs_any _ _ _ _ V _).mono ?_); rintro e w' ⟨rfl, k6, rfl⟩)
  all_goals (go_ret; refine ⟨by first | rfl | (simp; done), ?_⟩; (refine Ok.toEx ?_; (repeat (first | (with_reducible exact Ok.rf _) | (with_reducible refine Ok.alloc ?_ _) | (with_reducible refine Ok.ex ?_ _) | (with_reducible refine Ok.drew ?_) | (with_reducible refine Ok.setCellI ?_ _ _ _) | (with_reducible refine Ok.exb ?_ _)))))
theorem lValidTracksT (A : Option Addr) (c : Nat) (L : List Tr) (w : World) (h : Trs w A L) :
    Calls Try.prog 6 #[.slice A L.length c] w fun e w' => e = .returned (.bool true) ∧ ∃ k : Ex w, w' = k.v := by
  have := lValidTracks A c (L.map trV) w (Ts.of h.rd fun x hx => (h.kd x hx).2) (fun x hx => by
    obtain ⟨y, hy, rfl⟩ := List.mem_map.1 hx
    exact (h.kd y hy).1)
  rwa [List.length_map] at this
end
end Go.Proofs.Ytamajnhbfdakfaa
