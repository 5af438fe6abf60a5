/-
  Drawn cues; the law of clashes. Conditions: those typed at each theorem.
-/
import Derived.Test.YtpodgojijkficaaCuDr
import Derived.Test.YtpodgojijkficaaCuCu
import Derived.Test.YtpodgojijkficaaCuCm
import Derived.Test.YtpodgojijkficaaOpenB
namespace Go.Proofs.Ytpodgojijkficaa
open Go.RowKit
theorem clRow_pre (l : List Cu) (i : Nat) {m n : Nat} (h : m ≤ n) : ∃ t, clRow l i n = clRow l i m ++ t := by
  induction n with
  | zero => obtain rfl : m = 0 := by omega
            exact ⟨[], by simp⟩
  | succ n ih =>
    rcases Nat.lt_or_ge m (n + 1) with h1 | h1
    · obtain ⟨t, ht⟩ := ih (by omega)
      exact ⟨t ++ clk l i (i + 1 + n), by rw [← List.append_assoc, ← ht]; rfl⟩
    · obtain rfl : m = n + 1 := by omega
      exact ⟨[], by simp⟩
theorem clAll_pre (l : List Cu) {i n : Nat} (h : i ≤ n) : ∃ t, clAll l n = clAll l i ++ t := by
  induction n with
  | zero => obtain rfl : i = 0 := by omega
            exact ⟨[], by simp⟩
  | succ n ih =>
    rcases Nat.lt_or_ge i (n + 1) with h1 | h1
    · obtain ⟨t, ht⟩ := ih (by omega)
      exact ⟨t ++ clRow l n (l.length - (n + 1)), by rw [← List.append_assoc, ← ht]; rfl⟩
    · obtain rfl : i = n + 1 := by omega
      exact ⟨[], by simp⟩
/-- the next pair stands behind those before it -/
theorem clAll_at (l : List Cu) {i m : Nat} (hi : i < l.length) (hm : i + 1 + m < l.length) (h : clB (cuG l i) (cuG l (i + 1 + m)) = true) :
    (clAll l l.length)[(clAll l i ++ clRow l i m).length]? = some [(i : Int), ((i + 1 + m : Nat) : Int)] := by
  obtain ⟨t1, h1⟩ := clAll_pre l (show i + 1 ≤ l.length by omega)
  obtain ⟨t2, h2⟩ := clRow_pre l i (show m + 1 ≤ l.length - (i + 1) by omega)
  have h3 : clRow l i (m + 1) = clRow l i m ++ [[(i : Int), ((i + 1 + m : Nat) : Int)]] := by
    show clRow l i m ++ clk l i (i + 1 + m) = _
    unfold clk; rw [if_pos h]
  rw [h1, show clAll l (i + 1) = clAll l i ++ clRow l i (l.length - (i + 1)) from rfl, h2, h3]
  simp only [List.append_assoc]
  rw [← List.append_assoc (clAll l i), List.getElem?_append_right (Nat.le_refl _)]
  simp
theorem csV_one (x : Cu) (h : vCs [x] = true) : csV [x] = [] ∧ csE [x] = 0 := by
  unfold csV csE
  rw [if_pos h, if_pos h]
  exact ⟨rfl, rfl⟩
section
set_option maxHeartbeats 3200000
set_option maxRecDepth 20000
theorem r8cues_any (A : Option Addr) (c : Nat) (l : List Int) (w : World) [hl : Rd 1 byC w A l] [hb : By l] :
    Calls Try.prog 21 #[.slice A l.length c] w fun e w' => ∃ (A' : Option Addr) (c' : Nat) (m : List Cu), vCs m = true ∧ COks m ∧ m.length ≤ c' ∧ PlA A' c' ∧ e = .returned (.slice A' m.length c') ∧ ∃ k : Ex w, w' = k.v ∧ Rd 6 cC k.v A' m := by
  go_enter Try.func21, Try.ntmps21
  go_wp2_with (first | (go_at_call 61; go_loud (refine (from_any _ _ l _ hb.h).mono ?_; rintro e w' ⟨rfl, k, rfl, hs⟩)) | (go_at_call 62; go_loud (refine (draw_any w.heap.size _ ?_).mono ?_; (· omega); rintro e w' ⟨A', c', m, hv, hk, hcap, hp, hg, rfl, k2, rfl, hr⟩)))
  go_ret
  exact ⟨A', c', m, hv, hk, hcap, hp, rfl, ⟨k2.v, k.h.trans (k2.lo.mono (Nat.le_refl _))⟩, rfl, hr⟩
theorem long_no (A B : Option Addr) (n m c d : Nat) (w : World) (h1 : n ≤ 1048576) (h2 : m ≤ 1048576) : Calls Try.prog 20 #[.slice A n c, .slice B m d] w fun e w' => e = .returned (.bool false) ∧ w = w' := by
  have h1i : ¬ (1048576 : Int) < (n : Int) := by omega
  have h2i : ¬ (1048576 : Int) < (m : Int) := by omega
  go_enter Try.func20, Try.ntmps20
  go_wp2
  go_ret
  exact ⟨by first | rfl | simp, rfl⟩
theorem long_yes (A B : Option Addr) (n m c d : Nat) (w : World) (h : ¬ (n ≤ 1048576 ∧ m ≤ 1048576)) : Calls Try.prog 20 #[.slice A n c, .slice B m d] w fun e w' => e = .returned (.bool true) ∧ w = w' := by
  by_cases h1 : n ≤ 1048576
  · have h1i : ¬ (1048576 : Int) < (n : Int) := by omega
    have h2i : (1048576 : Int) < (m : Int) := by omega
    clear h
    go_enter Try.func20, Try.ntmps20
    go_wp2
    go_ret
    exact ⟨by first | rfl | simp, rfl⟩
  · have h1i : (1048576 : Int) < (n : Int) := by omega
    clear h
    go_enter Try.func20, Try.ntmps20
    go_wp2
    go_ret
    exact ⟨by first | rfl | simp, rfl⟩
theorem same8_any (A B : Option Addr) (c d : Nat) (l : List Int) (w : World) [hl : Rd 1 iC w A l] [hm : Rd 1 iC w B l] :
    Calls Try.prog 23 #[.slice A l.length c, .slice B l.length d] w fun e w' => e = .returned (.bool true) ∧ ∃ k : Ex w, w' = k.v := by
  have hlen := hl.len
  have HA := hid hl.i
  have HB := hid hm.i
  go_enter Try.func23, Try.ntmps23
  go_wp2
  go_loopw [5] (fun t wr => ∃ q : Nat, q ≤ l.length ∧ t = .int .i64 q ∧ ∃ j : Ex w, wr = j.v) (fun t _ => l.length - (intOf t).toNat)
  case atStart => exact ⟨0, Nat.zero_le _, rfl, Ex.rf w, rfl⟩
  case round =>
    obtain ⟨q, hq, rfl, j0, rfl⟩ := hrel
    by_cases hlt : q < l.length
    · obtain ⟨b, o, rfl, hbw, hc⟩ := HA.out (by omega)
      obtain ⟨b', o', rfl, hbw', hc'⟩ := HB.out (by omega)
      have c0 := hc q hlt
      have d0 := hc' q hlt
      clear hc hc'
      have hqi : (q : Int) < (l.length : Int) := by omega
      go_wp2
      (refine wp_region_ex (by kernel_rfl) (by kernel_rfl) ?_; (repeat (go_big_quiet_step ((fail)))); refine wpQuiet_nil ?_; rintro _ ⟨k, rfl⟩)
      go_wp2
      go_roundw
      case rel => exact ⟨q + 1, by omega, by go_num, j0.tr k, rfl⟩
      case measure => simp [intOf]; omega
    · go_wp2
      go_ret
      exact ⟨rfl, j0, rfl⟩
theorem rd_two (w : World) (g : Nat) (a b : Int) (t : TypeId) (hg : g = w.heap.size) : Rd 1 iC (w.alloc (.cells #[.int .i64 a, .int .i64 b] t)) (some ⟨g, 0, none⟩) [a, b] := by
  subst hg
  exact ⟨by simp, fun _ => ⟨w.heap.size, 0, rfl, inferInstance, fun k hk j v hv => by
    have hj : j = 0 := by
      rcases j with _ | j
      · rfl
      · simp [iC] at hv
    subst hj
    have hk2 : k < 2 := hk
    rcases k with _ | _ | k
    · simp [iC] at hv; subst hv; simp [go_sem]
    · simp [iC] at hv; subst hv; simp [go_sem]
    · omega⟩⟩
theorem lFnClashes (A : Option Addr) (l : List Int) (c : Nat) (B : Option Addr) (m : List Int) (d : Nat) (w : World) (hl : Rd 1 byC w A l) (hb : By l) (_ : Rd 1 byC w B m) (_ : By m) :
    Calls Try.prog 4 #[.slice A l.length c, .slice B m.length d] w fun e w' => e = .returned (.bool true) ∧ ∃ k : Ex w, w' = k.v := by
  by_cases hbig : l.length ≤ 1048576 ∧ m.length ≤ 1048576
  rotate_left
  · go_enter Try.func4, Try.ntmps4
    go_wp2_with ((go_at_call 20; refine (long_yes _ _ _ _ _ _ _ hbig).mono ?_; rintro e w' ⟨rfl, rfl⟩))
    (go_ret; refine ⟨by first | rfl | (simp; done), ?_⟩; (refine Ok.toEx ?_; (repeat (first | (with_reducible exact Ok.rf _) | (with_reducible refine Ok.alloc ?_ _) | (with_reducible refine Ok.ex ?_ _) | (with_reducible refine Ok.drew ?_) | (with_reducible refine Ok.setCellI ?_ _ _ _) | (with_reducible refine Ok.exb ?_ _)))))
  · obtain ⟨hb1, hb2⟩ := hbig
    go_enter Try.func4, Try.ntmps4
    go_wp2_with (first | (go_at_call 20; refine (long_no _ _ _ _ _ _ _ hb1 hb2).mono ?_; rintro e w' ⟨rfl, rfl⟩) | (go_at_call 21; go_loud (refine (r8cues_any _ _ l _).mono ?_; rintro e w' ⟨A', c', u, hv, hk, hcap, hp, rfl, k, rfl, hr⟩)))
    have h32 := (vCs_of hv).1
    have HV := hid hv
    have e1 : csV u = clAll u u.length := by unfold csV; rw [if_pos hv]
    have e2 : csE u = 0 := by unfold csE; rw [if_pos hv]
    have E1 := hid e1
    have E2 := hid e2
    have HCU := hid hr.cu
    clear hv e1 e2
    go_wp2_with ((go_at_call 22; go_loud ((refine (iClashesOf_any (hk := hk) (hl := (by infer_instance)) A' c' u _ hcap ?_ E1.out E2.out).mono ?_); (· first | omega | simp); rintro e w' h; obtain ⟨Ag, cg, bg, rfl, hlg, k4, rfl, hpg⟩ := h.get)))
    obtain ⟨N, hN⟩ : ∃ N, N = (clAll u u.length).length := ⟨_, rfl⟩
    have hNb : N ≤ 1024 := by rw [hN]; have h5 := clAll_len u u.length; have h6 : u.length * u.length ≤ 32 * 32 := Nat.mul_le_mul h32 h32; omega
    have HN := hid hN
    rw [← hN]
    clear hN
    have HPG := hid hpg
    have HLG := hid hlg
    clear hpg hlg
    go_loopw [8, 9] (fun t i wr => ∃ q : Nat, q ≤ u.length ∧ i = .int .i64 q ∧ t = .int .i64 (clAll u q).length ∧ ∃ j : Ex k4.v, wr = j.v) (fun _ i _ => u.length - (intOf i).toNat)
    case atStart => exact ⟨0, Nat.zero_le _, rfl, rfl, Ex.rf _, rfl⟩
    case round =>
      obtain ⟨q, hq, rfl, rfl, j0, rfl⟩ := hrel
      by_cases hlt : q < u.length
      · obtain ⟨b, o, rfl, hbw, hc⟩ := HCU.out (by omega)
        have HC := hid hc
        obtain ⟨c0, c1, c2, c3, c4, c5⟩ := hc q hlt
        clear hc
        obtain ⟨⟨ht1, ht2⟩, -, ⟨hl1, hl2⟩⟩ := vC_num ((vCs_of HV.out).2 q hlt).1
        obtain ⟨x, hx⟩ : ∃ x, x = cuG u q := ⟨_, rfl⟩
        have HX := hid hx
        rw [← hx] at c0 c1 c2 c3 c4 c5 ht1 ht2 hl1 hl2
        clear hx
        have hqi : (q : Int) < (u.length : Int) := by omega
        go_wp2
        go_loopw [8, 10] (fun t i wr => ∃ m : Nat, q + 1 + m ≤ u.length ∧ i = .int .i64 ((q : Int) + 1 + m) ∧ t = .int .i64 (clAll u q ++ clRow u q m).length ∧ ∃ j : Ex k4.v, wr = j.v) (fun _ i _ => u.length - (intOf i).toNat)
        case atStart => exact ⟨0, by omega, by go_num, by show _ = Value.int .i64 ((clAll u q ++ []).length : Nat); rw [List.append_nil], j0, rfl⟩
        case round =>
          obtain ⟨m, hm, rfl, rfl, j1, rfl⟩ := hrel
          by_cases hml : q + 1 + m < u.length
          · have hmi : (q : Int) + 1 + (m : Int) < (u.length : Int) := by omega
            have hm0 : (0 : Int) ≤ (q : Int) + 1 + (m : Int) := by omega
            have hmt : ((q : Int) + 1 + (m : Int)).toNat = q + 1 + m := by omega
            obtain ⟨d0, d1, d2, d3, d4, d5⟩ := HC.out (q + 1 + m) hml
            obtain ⟨y, hy⟩ : ∃ y, y = cuG u (q + 1 + m) := ⟨_, rfl⟩
            have HY := hid hy
            rw [← hy] at d0 d1 d2 d3 d4 d5
            have hyt := (vC_num ((vCs_of HV.out).2 _ hml).1).1
            rw [← hy] at hyt
            obtain ⟨hyt1, hyt2⟩ := hyt
            clear hy
            rcases clB_cases x y with ⟨h0, g1⟩ | ⟨h0, g1, g2⟩ | ⟨h0, g1, g2, g3⟩ | ⟨h0, g1, g2, g3⟩
            · (have HL : Hid ((clAll u q ++ clRow u q m).length = (clAll u q ++ clRow u q (m + 1)).length) := hid (by rw [HX.out, HY.out] at h0; rw [show clRow u q (m + 1) = clRow u q m ++ clk u q (q + 1 + m) from rfl]; unfold clk; rw [if_neg (by rw [h0]; simp), List.append_nil]); clear h0; go_wp2; go_roundw; (case rel => exact ⟨m + 1, by omega, by go_num, by rw [HL.out], by (refine Ok.toEx ?_; (repeat (first | (with_reducible exact Ok.rf _) | (with_reducible refine Ok.alloc ?_ _) | (with_reducible refine Ok.ex ?_ _) | (with_reducible refine Ok.drew ?_) | (with_reducible refine Ok.setCellI ?_ _ _ _) | (with_reducible refine Ok.exb ?_ _))))⟩); (case measure => (simp [intOf]; omega)))
            · (have h0' := h0; rw [HX.out, HY.out] at h0'; have hat := clAll_at u hlt hml h0'; have HL : Hid (((clAll u q ++ clRow u q m).length : Int) + 1 = ((clAll u q ++ clRow u q (m + 1)).length : Nat)) := hid (by rw [show clRow u q (m + 1) = clRow u q m ++ clk u q (q + 1 + m) from rfl]; unfold clk; rw [if_pos h0']; simp; omega); clear h0 h0';  obtain ⟨cnt, hcnt⟩ : ∃ cnt, cnt = (clAll u q ++ clRow u q m).length := ⟨_, rfl⟩; have HCN := hid hcnt; rw [← hcnt] at hat ⊢; clear hcnt; have hcl : cnt < N := (by rw [HN.out]; exact (List.getElem?_eq_some_iff.1 hat).1); have hclb : cnt < bg.length := (by rw [HLG.out, ← HN.out]; exact hcl);  have hcli : (cnt : Int) < (N : Int) := (by omega); have hclj : ¬ (N : Int) ≤ (cnt : Int) := (by omega); have hpg := HPG.out; obtain ⟨gb, go, rfl, hgb, hgc⟩ := hpg.at_ hclb; have hrow : Rd 1 iC k4.v (some ⟨bg[cnt], 0, none⟩) [(q : Int), (q : Int) + 1 + m] := (by have h1 : Wr 1 iC k4.v bg[cnt] ((clAll u u.length)[cnt]'(by rw [← HN.out]; exact hcl)) := hpg.con cnt hclb; have h2 := (List.getElem?_eq_some_iff.1 hat).2; rw [h2] at h1; have h3 : (((q + 1 + m : Nat) : Int)) = (q : Int) + 1 + m := (by omega); rw [h3] at h1; exact Wr.rd); clear hat hpg;  obtain ⟨gg, hgg⟩ : ∃ gg, bg[cnt] = gg := ⟨_, rfl⟩; rw [hgg] at hgc hrow; clear hgg;  go_wp2_with (go_at_call 23; go_loud (refine (same8_any (hl := ?_) (hm := ?_) _ _ _ _ [(q : Int), (q : Int) + 1 + m] _).mono ?_; (· infer_instance); (· exact rd_two _ _ _ _ _ (by simp)); rintro e w' ⟨rfl, k6, rfl⟩));  go_roundw; (case rel => exact ⟨m + 1, by omega, by go_num, by (have h1 := HL.out; have h2 := HCN.out; rw [← h1, ← h2]), by (refine Ok.toEx ?_; (repeat (first | (with_reducible exact Ok.rf _) | (with_reducible refine Ok.alloc ?_ _) | (with_reducible refine Ok.ex ?_ _) | (with_reducible refine Ok.drew ?_) | (with_reducible refine Ok.setCellI ?_ _ _ _) | (with_reducible refine Ok.exb ?_ _))))⟩); (case measure => (simp [intOf]; omega)))
            · (have h0' := h0; rw [HX.out, HY.out] at h0'; have hat := clAll_at u hlt hml h0'; have HL : Hid (((clAll u q ++ clRow u q m).length : Int) + 1 = ((clAll u q ++ clRow u q (m + 1)).length : Nat)) := hid (by rw [show clRow u q (m + 1) = clRow u q m ++ clk u q (q + 1 + m) from rfl]; unfold clk; rw [if_pos h0']; simp; omega); clear h0 h0';  obtain ⟨cnt, hcnt⟩ : ∃ cnt, cnt = (clAll u q ++ clRow u q m).length := ⟨_, rfl⟩; have HCN := hid hcnt; rw [← hcnt] at hat ⊢; clear hcnt; have hcl : cnt < N := (by rw [HN.out]; exact (List.getElem?_eq_some_iff.1 hat).1); have hclb : cnt < bg.length := (by rw [HLG.out, ← HN.out]; exact hcl);  have hcli : (cnt : Int) < (N : Int) := (by omega); have hclj : ¬ (N : Int) ≤ (cnt : Int) := (by omega); have hpg := HPG.out; obtain ⟨gb, go, rfl, hgb, hgc⟩ := hpg.at_ hclb; have hrow : Rd 1 iC k4.v (some ⟨bg[cnt], 0, none⟩) [(q : Int), (q : Int) + 1 + m] := (by have h1 : Wr 1 iC k4.v bg[cnt] ((clAll u u.length)[cnt]'(by rw [← HN.out]; exact hcl)) := hpg.con cnt hclb; have h2 := (List.getElem?_eq_some_iff.1 hat).2; rw [h2] at h1; have h3 : (((q + 1 + m : Nat) : Int)) = (q : Int) + 1 + m := (by omega); rw [h3] at h1; exact Wr.rd); clear hat hpg;  obtain ⟨gg, hgg⟩ : ∃ gg, bg[cnt] = gg := ⟨_, rfl⟩; rw [hgg] at hgc hrow; clear hgg;  go_wp2_with (go_at_call 23; go_loud (refine (same8_any (hl := ?_) (hm := ?_) _ _ _ _ [(q : Int), (q : Int) + 1 + m] _).mono ?_; (· infer_instance); (· exact rd_two _ _ _ _ _ (by simp)); rintro e w' ⟨rfl, k6, rfl⟩));  go_roundw; (case rel => exact ⟨m + 1, by omega, by go_num, by (have h1 := HL.out; have h2 := HCN.out; rw [← h1, ← h2]), by (refine Ok.toEx ?_; (repeat (first | (with_reducible exact Ok.rf _) | (with_reducible refine Ok.alloc ?_ _) | (with_reducible refine Ok.ex ?_ _) | (with_reducible refine Ok.drew ?_) | (with_reducible refine Ok.setCellI ?_ _ _ _) | (with_reducible refine Ok.exb ?_ _))))⟩); (case measure => (simp [intOf]; omega)))
            · (have HL : Hid ((clAll u q ++ clRow u q m).length = (clAll u q ++ clRow u q (m + 1)).length) := hid (by rw [HX.out, HY.out] at h0; rw [show clRow u q (m + 1) = clRow u q m ++ clk u q (q + 1 + m) from rfl]; unfold clk; rw [if_neg (by rw [h0]; simp), List.append_nil]); clear h0; go_wp2; go_roundw; (case rel => exact ⟨m + 1, by omega, by go_num, by rw [HL.out], by (refine Ok.toEx ?_; (repeat (first | (with_reducible exact Ok.rf _) | (with_reducible refine Ok.alloc ?_ _) | (with_reducible refine Ok.ex ?_ _) | (with_reducible refine Ok.drew ?_) | (with_reducible refine Ok.setCellI ?_ _ _ _) | (with_reducible refine Ok.exb ?_ _))))⟩); (case measure => (simp [intOf]; omega)))
          · have hm2 : m = u.length - (q + 1) := by omega
            have hmi : ¬ (q : Int) + 1 + (m : Int) < (u.length : Int) := by omega
            have HL : Hid ((clAll u q ++ clRow u q m).length = (clAll u (q + 1)).length) := hid (by rw [hm2]; rfl)
            clear hm2
            go_wp2
            go_roundw
            case rel => exact ⟨q + 1, by omega, by go_num, by rw [HL.out], j1, rfl⟩
            case measure => simp [intOf]; omega
      · obtain rfl : q = u.length := by omega
        rw [← HN.out]
        by_cases hu0 : u.length = 0
        · have hui : ((u.length : Int) == 0) = true := by rw [beq_iff_eq]; omega
          clear hu0
          go_wp2
          (go_ret; refine ⟨by first | rfl | (simp; done), ?_⟩; (refine Ok.toEx ?_; (repeat (first | (with_reducible exact Ok.rf _) | (with_reducible refine Ok.alloc ?_ _) | (with_reducible refine Ok.ex ?_ _) | (with_reducible refine Ok.drew ?_) | (with_reducible refine Ok.setCellI ?_ _ _ _) | (with_reducible refine Ok.exb ?_ _)))))
        · have hui : ((u.length : Int) == 0) = false := by rw [beq_eq_false_iff_ne]; omega
          obtain ⟨x, t, rfl⟩ : ∃ x t, u = x :: t := by cases u with
            | nil => exact absurd rfl hu0
            | cons x t => exact ⟨x, t, rfl⟩
          have hk1 : COks [x] := ⟨fun y hy => hk.h y (by simp at hy; subst hy; simp)⟩
          have hr1 : Rd 6 cC k.v A' [x] := Rd.takeA (l := x :: t) hr 1
          have hv1 : vCs [x] = true := vCs_take (l := x :: t) HV.out 1
          have h1c : (1 : Int) ≤ (c' : Int) := by simp at hcap; omega
          have h1n : 1 ≤ c' := by simp at hcap; omega
          obtain ⟨e3, e4⟩ := csV_one x hv1
          have E3 := hid e3
          have E4 := hid e4
          clear e3 e4 hu0
          go_wp2_with ((go_at_call 22; go_loud ((refine (iClashesOf_any (hk := hk1) (hl := (by infer_instance)) A' c' [x] _ h1n ?_ E3.out E4.out).mono ?_); (· first | omega | simp); rintro e w' h; obtain ⟨Ah, ch, bh, rfl, hlh, k5, rfl, hph⟩ := h.get)))
          (go_ret; refine ⟨by first | rfl | (simp; done), ?_⟩; (refine Ok.toEx ?_; (repeat (first | (with_reducible exact Ok.rf _) | (with_reducible refine Ok.alloc ?_ _) | (with_reducible refine Ok.ex ?_ _) | (with_reducible refine Ok.drew ?_) | (with_reducible refine Ok.setCellI ?_ _ _ _) | (with_reducible refine Ok.exb ?_ _)))))
end
end Go.Proofs.Ytpodgojijkficaa
