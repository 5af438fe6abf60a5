/-
  The law of drift. Conditions: those typed at each theorem.
-/
import Derived.Test.YtpapphhbogngcaaTcU
import Derived.Test.YtpapphhbogngcaaTcDr
import Derived.Test.YtpapphhbogngcaaTcDm
import Derived.Test.YtpapphhbogngcaaTcDd
import Derived.Test.YtpapphhbogngcaaTcI
import Derived.Test.YtpapphhbogngcaaTcO
import Derived.Test.YtpapphhbogngcaaTcT
import Derived.Test.YtpapphhbogngcaaOpenB
import Derived.Laws.StructEq
import Derived.Deep.Cut
import Derived.Deep.CutRange
import Derived.BigQuiet
namespace Go.Proofs.Ytpapphhbogngcaa
open Go.RowKit Tc
section
set_option maxHeartbeats 6400000
set_option maxRecDepth 20000
theorem b10_no (A : Option Addr) (n c : Nat) (w : World) (h : n ≤ 1048576) : Calls Try.prog 7 #[.slice A n c] w fun e w' => e = .returned (.bool false) ∧ w = w' := by
  have hi : ¬ (1048576 : Int) < (n : Int) := by omega
  go_enter Try.func7, Try.ntmps7
  go_wp2
  go_ret
  exact ⟨by first | rfl | simp, rfl⟩
theorem b10_yes (A : Option Addr) (n c : Nat) (w : World) (h : 1048576 < n) : Calls Try.prog 7 #[.slice A n c] w fun e w' => e = .returned (.bool true) ∧ w = w' := by
  have hi : (1048576 : Int) < (n : Int) := by omega
  go_enter Try.func7, Try.ntmps7
  go_wp2
  go_ret
  exact ⟨by first | rfl | simp, rfl⟩
theorem b10_abs (x : Int) (w : World) (h0 : -1000000000000000000 ≤ x) (h1 : x ≤ 1000000000000000000) : Calls Try.prog 13 #[.int .i64 x] w fun e w' => e = .returned (.int .i64 (if x < 0 then -x else x)) ∧ w = w' := by
  by_cases hx : x < 0
  · go_enter Try.func13, Try.ntmps13
    go_wp2
    go_ret
    exact ⟨by first | rfl | (simp [hx]; done), rfl⟩
  · go_enter Try.func13, Try.ntmps13
    go_wp2
    go_ret
    exact ⟨by first | rfl | (simp [hx]; done), rfl⟩
/-- frames were added -/
def AdS (h m s f r q h' m' s' f' r' : Int) : Prop := okCode h m s f r ∧ (-8640000 ≤ q ∧ q ≤ 8640000) ∧ (0 ≤ num h m s f r + q ∧ num h m s f r + q < dayOf r) ∧ h' = cH (num h m s f r + q) r ∧ m' = cM (num h m s f r + q) r ∧ s' = cS (num h m s f r + q) r ∧ f' = cF (num h m s f r + q) r ∧ r' = r
def AdP (h m s f r q h' m' s' f' r' co : Int) : Prop := co ≠ 0 ∨ (co = 0 ∧ AdS h m s f r q h' m' s' f' r')
theorem iAdd_p (h m s f r q : Int) (w : World) :
    Calls Try.prog 9 #[.agg #[.int .i64 h, .int .i64 m, .int .i64 s, .int .i64 f, .int .i64 r], .int .i64 q] w fun e w' => ∃ h' m' s' f' r' co : Int, AdP h m s f r q h' m' s' f' r' co ∧ e = .returned (.tuple #[(.agg #[.int .i64 h', .int .i64 m', .int .i64 s', .int .i64 f', .int .i64 r']), .int .i64 co]) ∧ ∃ k : Ex w, w' = k.v := by
  by_cases hk : okCode h m s f r
  rotate_left
  · exact (iAdd_no1 h m s f r q w hk).mono fun e w' ⟨a, b⟩ => ⟨0, 0, 0, 0, 0, 1, .inl (by decide), a, b⟩
  by_cases hd : q < -8640000 ∨ 8640000 < q
  · exact (iAdd_no2 h m s f r q w hk hd).mono fun e w' ⟨a, b⟩ => ⟨0, 0, 0, 0, 0, 2, .inl (by decide), a, b⟩
  by_cases hn : num h m s f r + q < 0 ∨ dayOf r ≤ num h m s f r + q
  · exact (iAdd_no6 h m s f r q w hk (by omega) (by omega) hn).mono fun e w' ⟨a, b⟩ => ⟨0, 0, 0, 0, 0, 6, .inl (by decide), a, b⟩
  exact (iAdd_yes h m s f r q w hk (by omega) (by omega) (by omega) (by omega)).mono fun e w' ⟨a, b⟩ => ⟨_, _, _, _, _, 0, .inr ⟨rfl, hk, by omega, by omega, rfl, rfl, rfl, rfl, rfl⟩, a, b⟩
theorem adS_num {h m s f r q h' m' s' f' r' : Int} (hs : AdS h m s f r q h' m' s' f' r') : okCode h' m' s' f' r' ∧ num h' m' s' f' r' = num h m s f r + q := by
  obtain ⟨hk, hq, ⟨h0, h1⟩, rfl, rfl, rfl, rfl, rfl⟩ := hs
  exact ⟨(okCode_iff hk.1 h0).2 h1, num_code hk.1 h0 h1⟩
theorem iAdd_back (h m s f r q h' m' s' f' r' : Int) (w : World) (hs : AdS h m s f r q h' m' s' f' r') :
    Calls Try.prog 9 #[.agg #[.int .i64 h', .int .i64 m', .int .i64 s', .int .i64 f', .int .i64 r'], .int .i64 (-q)] w fun e w' => e = .returned (.tuple #[(.agg #[.int .i64 h, .int .i64 m, .int .i64 s, .int .i64 f, .int .i64 r]), .int .i64 0]) ∧ ∃ k : Ex w, w' = k.v := by
  obtain ⟨hk', hn⟩ := adS_num hs
  obtain ⟨hk, ⟨hq1, hq2⟩, ⟨h0, h1⟩, -, -, -, -, rfl⟩ := hs
  have hr := num_rng hk
  obtain ⟨e1, e2, e3, e4⟩ := code_num hk
  have H := iAdd_yes h' m' s' f' r' (-q) w hk' (by omega) (by omega) (by omega) (by omega)
  rw [show num h' m' s' f' r' + -q = num h m s f r' by omega, e1, e2, e3, e4] at H
  exact H
theorem iBetw_add (h m s f r q h' m' s' f' r' : Int) (w : World) (hs : AdS h m s f r q h' m' s' f' r') :
    Calls Try.prog 10 #[.agg #[.int .i64 h, .int .i64 m, .int .i64 s, .int .i64 f, .int .i64 r], .agg #[.int .i64 h', .int .i64 m', .int .i64 s', .int .i64 f', .int .i64 r']] w fun e w' => e = .returned (.tuple #[.int .i64 q, .int .i64 0]) ∧ ∃ k : Ex w, w' = k.v := by
  obtain ⟨hk', hn⟩ := adS_num hs
  obtain ⟨hk, ⟨hq1, hq2⟩, ⟨h0, h1⟩, -, -, -, -, rfl⟩ := hs
  have H := iBetween_yes h m s f r' h' m' s' f' w hk hk'
  rw [show num h' m' s' f' r' - num h m s f r' = q by omega] at H
  exact H
/-- what DriftOf answered -/
def DfP (V : List (List Int)) (a b co : Int) : Prop := co ≠ 0 ∨ (co = 0 ∧ okDr V ∧ a = drOff V ∧ b = drRate V)
theorem iDrift_p (A : Option Addr) (c : Nat) (V : List (List Int)) (w : World) [hl : Iss w A V] (hn : V.length ≤ 1048576) :
    Calls Try.prog 12 #[.slice A V.length c] w fun e w' => ∃ a b co : Int, DfP V a b co ∧ e = .returned (.tuple #[.int .i64 a, .int .i64 b, .int .i64 co]) ∧ ∃ k : Ex w, w' = k.v := by
  by_cases hr : okDr V
  · exact (iDrift_yes A c V w hr).mono fun e w' ⟨x, y⟩ => ⟨_, _, 0, .inr ⟨rfl, hr, rfl, rfl⟩, x, y⟩
  · exact (iDrift_no A c V w hn hr).mono fun e w' ⟨x, y⟩ => ⟨0, 0, 2, .inl (by decide), x, y⟩
/-- what MissingFrames answered -/
def MsP (u : List Int) (M : Nat) (co : Int) : Prop := (co ≠ 0 ∧ M = 0) ∨ (co = 0 ∧ rises u 0 8640000 ∧ M ≤ 64 ∧ (u.length = 0 → M = 0) ∧ (0 < u.length → (M : Int) + u.length = u.getD (u.length - 1) 0 - u.getD 0 0 + 1))
theorem missR_law (u : List Int) : MsP u (missR u).1.length (missR u).2 := by
  by_cases hr : rises u 0 8640000
  · by_cases hg : (gp u (u.length - 1)).length ≤ 64
    · rw [missR_0 hr hg]
      refine .inr ⟨rfl, hr, hg, fun h => ?_, fun h => ?_⟩
      · show (gp u (u.length - 1)).length = 0
        rw [h]; rfl
      · have := gp_len hr (u.length - 1) (by omega)
        show ((gp u (u.length - 1)).length : Int) + u.length = _
        omega
    · rw [missR_5 hr (by omega)]
      exact .inl ⟨by decide, rfl⟩
  · rw [missR_2 hr]
    exact .inl ⟨by decide, rfl⟩
theorem iMiss_p (A : Option Addr) (c : Nat) (u : List Int) (w : World) [hl : Rd 1 iC w A u] (hn : u.length ≤ 1048576) :
    Calls Try.prog 15 #[.slice A u.length c] w fun e w' => ∃ (A' : Option Addr) (c' M : Nat) (co : Int), MsP u M co ∧ e = .returned (.tuple #[.slice A' M c', .int .i64 co]) ∧ ∃ k : Ex w, w' = k.v :=
  (iMiss_any A c u w hn).mono fun e w' ⟨A', c', h1, k, h2, _⟩ => ⟨A', c', _, _, missR_law u, h1, k, h2⟩
theorem b10_ng (x : Int) (w : World) (h0 : -1000000000000000000 ≤ x) (h1 : x < 0) : Calls Try.prog 13 #[.int .i64 x] w fun e w' => e = .returned (.int .i64 (-x)) ∧ w = w' := by
  have h := b10_abs x w h0 (by omega)
  rwa [if_pos h1] at h
theorem b10_ps (x : Int) (w : World) (h0 : 0 ≤ x) (h1 : x ≤ 1000000000000000000) : Calls Try.prog 13 #[.int .i64 x] w fun e w' => e = .returned (.int .i64 x) ∧ w = w' := by
  have h := b10_abs x w (by omega) h1
  rwa [if_neg (by omega)] at h
theorem lFnDrift (A : Option Addr) (l : List Int) (c : Nat) (B : Option Addr) (m : List Int) (d : Nat) (w : World) (hl : Rd 1 byC w A l) (hb : By l) (hl2 : Rd 1 byC w B m) (hb2 : By m) :
    Calls Try.prog 3 #[.slice A l.length c, .slice B m.length d] w fun e w' => e = .returned (.bool true) ∧ ∃ k : Ex w, w' = k.v := by
  by_cases h1 : 1048576 < l.length
  · go_enter Try.func3, Try.ntmps3
    go_wp2_with ((go_at_call 7; go_loud ((with_reducible refine (b10_yes _ _ _ _ ?_).mono ?_); (· omega); rintro e w' ⟨rfl, rfl⟩)))
    (go_ret; refine ⟨by first | rfl | (simp; done), ?_⟩; (refine Ok.toEx ?_; (repeat (first | (with_reducible exact Ok.rf _) | (with_reducible refine Ok.alloc ?_ _) | (with_reducible refine Ok.ex ?_ _) | (with_reducible refine Ok.drew ?_) | (with_reducible refine Ok.setCellI ?_ _ _ _) | (with_reducible refine Ok.exb ?_ _)))))
  by_cases h2 : 1048576 < m.length
  · have h1 : l.length ≤ 1048576 := by omega
    go_enter Try.func3, Try.ntmps3
    go_wp2_with (first | (go_at_call 7; go_loud ((with_reducible refine (b10_no _ _ _ _ ?_).mono ?_); (· omega); rintro e w' ⟨rfl, rfl⟩)) | (go_at_call 7; go_loud ((with_reducible refine (b10_yes _ _ _ _ ?_).mono ?_); (· omega); rintro e w' ⟨rfl, rfl⟩)))
    (go_ret; refine ⟨by first | rfl | (simp; done), ?_⟩; (refine Ok.toEx ?_; (repeat (first | (with_reducible exact Ok.rf _) | (with_reducible refine Ok.alloc ?_ _) | (with_reducible refine Ok.ex ?_ _) | (with_reducible refine Ok.drew ?_) | (with_reducible refine Ok.setCellI ?_ _ _ _) | (with_reducible refine Ok.exb ?_ _)))))
  have h1 : l.length ≤ 1048576 := by omega
  have h2 : m.length ≤ 1048576 := by omega
  go_enter Try.func3, Try.ntmps3
  go_upto_if 41 with (first | (go_at_call 7; go_loud ((with_reducible refine (b10_no _ _ _ _ ?_).mono ?_); (· omega); rintro e w' ⟨rfl, rfl⟩)) | (go_at_call 8; go_loud (refine (drawAdd_any _ _ l _ hb.h).mono ?_; rintro e w' ⟨h, m0, s, f, r, q, ⟨hq1, hq2⟩, rfl, k1, rfl⟩)) | (go_at_call 9; go_loud (refine (iAdd_p _ _ _ _ _ _ _).mono ?_; rintro e w' ⟨h', m', s', f', r', co, hP, rfl, k2, rfl⟩)))
  have HP := hid hP
  clear hP
  go_cut [9, 10, 11, 12] from 42 to 71 (fun _ _ _ _ wx => ∃ j : Ex w, wx = j.v)
  case first =>
    rcases HP.out with hc | ⟨rfl, hS⟩
    · have hcb : (co == 0) = false := by rw [beq_eq_false_iff_ne]; exact hc
      go_wp2_with (fail)
      go_meet
      case rel => (refine Ok.toEx ?_; (repeat (first | (with_reducible exact Ok.rf _) | (with_reducible refine Ok.alloc ?_ _) | (with_reducible refine Ok.ex ?_ _) | (with_reducible refine Ok.drew ?_) | (with_reducible refine Ok.setCellI ?_ _ _ _) | (with_reducible refine Ok.exb ?_ _))))
    · have HS := hid hS
      clear hS
      go_wp2_with (first | (go_at_call 9; go_loud (refine (iAdd_back _ _ _ _ _ _ _ _ _ _ _ _ HS.out).mono ?_; rintro e w' ⟨rfl, k3, rfl⟩)) | (go_at_call 10; go_loud (refine (iBetw_add _ _ _ _ _ _ _ _ _ _ _ _ HS.out).mono ?_; rintro e w' ⟨rfl, k4, rfl⟩)))
      go_meet
      case rel => (refine Ok.toEx ?_; (repeat (first | (with_reducible exact Ok.rf _) | (with_reducible refine Ok.alloc ?_ _) | (with_reducible refine Ok.ex ?_ _) | (with_reducible refine Ok.drew ?_) | (with_reducible refine Ok.setCellI ?_ _ _ _) | (with_reducible refine Ok.exb ?_ _))))
  case rest =>
    obtain ⟨j0, rfl⟩ := hcut
    go_upto_region 12 with (first | (go_at_call 11; go_loud (refine (drawDrift_any _ _ m _ hb2.h).mono ?_; rintro e w' ⟨A2, c2, V, hV, rfl, k5, rfl, hI⟩)) | (go_at_call 12; go_loud (refine (iDrift_p _ _ V _ ?_).mono ?_; (· omega); rintro e w' ⟨a, b, co, hP2, rfl, k6, rfl⟩)))
    have HP2 := hid hP2
    have HA := hid hI.at_
    clear hP2
    go_cut [85] from 79 to 86 (fun u85 wx => u85 = .bool (co == 0) ∧ ∃ j : Ex k5.v, wx = j.v)
    case first =>
      rcases HP2.out with hc | ⟨rfl, hr, ha, hb⟩
      · have hcb : (co == 0) = false := by rw [beq_eq_false_iff_ne]; exact hc
        go_wp2_with (fail)
        go_meet
        case rel => exact ⟨by rw [hcb], by (refine Ok.toEx ?_; (repeat (first | (with_reducible exact Ok.rf _) | (with_reducible refine Ok.alloc ?_ _) | (with_reducible refine Ok.ex ?_ _) | (with_reducible refine Ok.drew ?_) | (with_reducible refine Ok.setCellI ?_ _ _ _) | (with_reducible refine Ok.exb ?_ _))))⟩
      · have hv := hr.1.1
        have hv3 : (2 : Int) ≤ V.length := by omega
        clear hr
        go_wp2_with (fail)
        go_meet
        case rel => exact ⟨by simp, by (refine Ok.toEx ?_; (repeat (first | (with_reducible exact Ok.rf _) | (with_reducible refine Ok.alloc ?_ _) | (with_reducible refine Ok.ex ?_ _) | (with_reducible refine Ok.drew ?_) | (with_reducible refine Ok.setCellI ?_ _ _ _) | (with_reducible refine Ok.exb ?_ _))))⟩
    case rest =>
    obtain ⟨rfl, jc, rfl⟩ := hcut
    go_upto_if 85 with (fail)
    go_cut [17, 18, 19] from 86 to 138 (fun _ _ _ wx => ∃ j : Ex w, wx = j.v)
    case first =>
      rcases HP2.out with hc | ⟨rfl, hr, ha, hb⟩
      · have hcb : (co == 0) = false := by rw [beq_eq_false_iff_ne]; exact hc
        go_wp2_with (fail)
        go_meet
        case rel => (refine Ok.toEx ?_; (repeat (first | (with_reducible exact Ok.rf _) | (with_reducible refine Ok.alloc ?_ _) | (with_reducible refine Ok.ex ?_ _) | (with_reducible refine Ok.drew ?_) | (with_reducible refine Ok.setCellI ?_ _ _ _) | (with_reducible refine Ok.exb ?_ _))))
      · have hv := hr.1.1
        have hv2 := hr.1.2
        have hlast := pr_lt hr (V.length - 1) (by omega) (by omega)
        have HR := hid hr.2
        clear hr HP2
        obtain ⟨b0, o, rfl, hbw, hc⟩ := HA.out (by omega)
        obtain ⟨h1', ⟨h2', h3⟩, ⟨h4, h5⟩, -⟩ := HR.out 0 (by omega)
        obtain ⟨B0, c1, c0, hB⟩ := hc 0 (by omega)
        obtain ⟨b1, o1, rfl, hb1, d0, d1⟩ := pair_at (by omega) hB h1'
        rw [← getV (by omega), h1'] at c0
        have c0 : k5.v.cell? ⟨b0, o, none⟩ = _ := c0
        obtain ⟨p, hp⟩ : ∃ p, V.length = p + 1 := ⟨V.length - 1, by omega⟩
        have hpe : V.length - 1 = p := by omega
        have hDR : drRate V = near ((pr V p 1 - pr V p 0 - drOff V) * 1000000) (pr V p 0 - pr V 0 0) := by unfold drRate; rw [hpe]
        rw [hpe] at hlast
        obtain ⟨g1, ⟨g2, g3⟩, ⟨g4, g5⟩, -⟩ := HR.out p (by omega)
        obtain ⟨B', c1', e0, hB'⟩ := hc p (by omega)
        obtain ⟨b2, o2, rfl, hb2', f0, f1⟩ := pair_at (by omega) hB' g1
        rw [← getV (by omega), g1] at e0
        have hDO : drOff V = pr V 0 1 - pr V 0 0 := rfl
        rw [hDO] at hDR ha
        rw [hDR] at hb
        clear hc hB hB' hDR hDO hpe
        generalize pr V 0 0 = x0 at *
        generalize pr V 0 1 = x1 at *
        generalize pr V p 0 = y0 at *
        generalize pr V p 1 = y1 at *
        have hgone : 0 < y0 - x0 := by omega
        have hcl := near_close ((y1 - y0 - (x1 - x0)) * 1000000) hgone
        rw [← hb] at hcl
        clear hb
        obtain ⟨z, hz⟩ : ∃ z, b * (y0 - x0) = z := ⟨_, rfl⟩
        rw [hz] at hcl
        obtain ⟨hcl1, hcl2⟩ := hcl
        have z1 : IntKind.i64.wrap (b * (y0 - x0)) = z := by rw [hz]; exact IntWalk.i64_in _ (by omega)
        have z2 : RowKit.wrap64 (b * (y0 - x0)) = z := by rw [hz]; exact IntWalk.wrap64_in _ (by omega)
        clear hz
        subst ha
        have q1 : (0 : Int) ≤ (V.length : Int) - 1 := by omega
        have q2 : (V.length : Int) - 1 < V.length := by omega
        have q3 : ((V.length : Int) - 1).toNat = p := by omega
        have HPE := hid hp
        clear hp
        by_cases hX : 1000000 * (y1 - y0 - (x1 - x0)) - z < 0
        all_goals
          go_wp2_with (fail)
          (refine wp_region_ex (by kernel_rfl) (by kernel_rfl) ?_; (repeat (go_big_quiet_step ((fail)))); refine wpQuiet_nil ?_; rintro _ ⟨k, rfl⟩)
          go_wp2_with (fail)
          (refine wp_region_ex (by kernel_rfl) (by kernel_rfl) ?_; (repeat (go_big_quiet_step ((fail)))); refine wpQuiet_nil ?_; rintro _ ⟨k, rfl⟩)
          go_wp2_with (fail)
          (refine wp_region_ex (by kernel_rfl) (by kernel_rfl) ?_; (repeat (go_big_quiet_step (((first | (go_at_call 13; exact calls_ex_same (b10_ng _ _ (by omega) (by omega))) | (go_at_call 13; exact calls_ex_same (b10_ps _ _ (by omega) (by omega)))))))); refine wpQuiet_nil ?_; rintro _ ⟨k, rfl⟩)
          go_wp2_with (fail)
          go_meet
          case rel => (refine Ok.toEx ?_; (repeat (first | (with_reducible exact Ok.rf _) | (with_reducible refine Ok.alloc ?_ _) | (with_reducible refine Ok.ex ?_ _) | (with_reducible refine Ok.drew ?_) | (with_reducible refine Ok.setCellI ?_ _ _ _) | (with_reducible refine Ok.exb ?_ _))))
    case rest =>
      obtain ⟨j1, rfl⟩ := hcut
      go_upto_if 146 with (first | (go_at_call 14; go_loud (refine (drawMiss_any _ _ m _ hb2.h).mono ?_; rintro e w' ⟨A3, c3, u, hu, rfl, k7, rfl, hU⟩)) | (go_at_call 15; go_loud (refine (iMiss_p _ _ u _ ?_).mono ?_; (· omega); rintro e w' ⟨A4, c4, M, co, hP3, rfl, k8, rfl⟩)))
      have HI := hid hU.i
      clear hU
      rcases hP3 with ⟨hc, rfl⟩ | ⟨rfl, hr, hM, hz, hpos⟩
      · have hcb : (co != 0) = true := by rw [bne_iff_ne]; exact hc
        go_wp2_with (fail)
        (go_ret; refine ⟨by first | rfl | (simp; done), ?_⟩; (refine Ok.toEx ?_; (repeat (first | (with_reducible exact Ok.rf _) | (with_reducible refine Ok.alloc ?_ _) | (with_reducible refine Ok.ex ?_ _) | (with_reducible refine Ok.drew ?_) | (with_reducible refine Ok.setCellI ?_ _ _ _) | (with_reducible refine Ok.exb ?_ _)))))
      · by_cases hu0 : u.length = 0
        · obtain rfl : M = 0 := hz hu0
          have hui : ((u.length : Int) == 0) = true := by rw [beq_iff_eq]; omega
          have HU0 := hid hu0
          clear hpos hz hr hu0
          go_wp2_with (fail)
          (refine wp_region_ex (by kernel_rfl) (by kernel_rfl) ?_; (repeat (go_big_quiet_step ((fail)))); refine wpQuiet_nil ?_; rintro _ ⟨k, rfl⟩)
          go_wp2_with (fail)
          (go_ret; refine ⟨by first | rfl | (simp; done), ?_⟩; (refine Ok.toEx ?_; (repeat (first | (with_reducible exact Ok.rf _) | (with_reducible refine Ok.alloc ?_ _) | (with_reducible refine Ok.ex ?_ _) | (with_reducible refine Ok.drew ?_) | (with_reducible refine Ok.setCellI ?_ _ _ _) | (with_reducible refine Ok.exb ?_ _)))))
        · have hui : ((u.length : Int) == 0) = false := by rw [beq_eq_false_iff_ne]; omega
          obtain ⟨b3, o3, rfl, hb3, hc3⟩ := HI.out (by omega)
          have hq0 : 0 < u.length := by omega
          have hlt : u.length - 1 < u.length := by omega
          have r0 := hr 0 hq0
          have r1 := hr (u.length - 1) hlt
          have hpos := hpos hq0
          have e1 : u.getD (u.length - 1) 0 = u[u.length - 1] := getD_at hlt
          have e2 : u.getD 0 0 = u[0] := getD_at hq0
          have d0 : k7.v.cell? ⟨b3, o3, none⟩ = some (.int .i64 (u.getD 0 0)) := by rw [e2]; exact hc3 0 hq0
          have d1 : k7.v.cell? ⟨b3, o3 + (u.length - 1), none⟩ = some (.int .i64 (u.getD (u.length - 1) 0)) := by rw [e1]; exact hc3 (u.length - 1) hlt
          obtain ⟨r01, r02, -⟩ := r0
          obtain ⟨r11, r12, -⟩ := r1
          rw [← e2] at r01 r02
          rw [← e1] at r11 r12
          clear hc3 hz hr e1 e2
          generalize u.getD (u.length - 1) 0 = z1 at *
          generalize u.getD 0 0 = z0 at *
          have q0 : (0 : Int) < (u.length : Int) := by omega
          have q1 : (0 : Int) ≤ (u.length : Int) - 1 := by omega
          have q2 : (u.length : Int) - 1 < u.length := by omega
          have q3 : ((u.length : Int) - 1).toNat = u.length - 1 := by omega
          have q4 : ((M : Int) + u.length == z1 - z0 + 1) = true := by rw [beq_iff_eq]; exact hpos
          have q5 : decide ((0 : Int) < (u.length : Int)) = true := decide_eq_true q0
          clear hpos hlt hu0
          go_wp2_with (fail)
          (refine wp_region_ex (by kernel_rfl) (by kernel_rfl) ?_; (repeat (go_big_quiet_step ((fail)))); refine wpQuiet_nil ?_; rintro _ ⟨k, rfl⟩)
          go_wp2_with (fail)
          go_ret
          refine ⟨?_, ?_⟩
          · first | rfl | (simp only [q4]; rfl) | (simp [q4]; done)
          · (refine Ok.toEx ?_; (repeat (first | (with_reducible exact Ok.rf _) | (with_reducible refine Ok.alloc ?_ _) | (with_reducible refine Ok.ex ?_ _) | (with_reducible refine Ok.drew ?_) | (with_reducible refine Ok.setCellI ?_ _ _ _) | (with_reducible refine Ok.exb ?_ _))))
end
end Go.Proofs.Ytpapphhbogngcaa
