/-
  The laws' helpers over slices of impl.Line: comparison, marking, holding. Conditions: those typed at each theorem.
-/
import Derived.Test.YtonmeffhelaohaaDoorV7
import Derived.Test.YtonmeffhelaohaaDoorV9
import Derived.Test.YtonmeffhelaohaaDoorV10
namespace Go.Proofs.YtonmeffhelaohaaDoor
open Go.RowKit
section
set_option maxHeartbeats 3200000
set_option maxRecDepth 20000
theorem rdAtLine {w : World} {A : Option Addr} {l : List Ln} (h : Rd 3 Ln.cells w A l) : 0 < l.length → ∃ b o, A = some ⟨b, o, none⟩ ∧ LtW b w ∧ ∀ (k : Nat) (h : k < l.length), w.cell? ⟨b, o + k * 3, none⟩ = some (.int .i64 l[k].kind) ∧ w.cell? ⟨b, o + k * 3 + 1, none⟩ = some (.string l[k].name) ∧ w.cell? ⟨b, o + k * 3 + 2, none⟩ = some (.int .i64 l[k].value) := fun h0 => by
  obtain ⟨b, o, e, hb, hc⟩ := h.at_ h0
  exact ⟨b, o, e, hb, fun k hk => ⟨hc k hk 0 _ rfl, hc k hk 1 _ rfl, hc k hk 2 _ rfl⟩⟩
/-- what marking lays -/
def mkLine (n : Nat) (k : Int) : List Ln := (List.range n).map fun (i : Nat) => ⟨(k + 3 * (i : Int)), (mTxt (k + 3 * (i : Int) + 1)), (k + 3 * (i : Int) + 1 + 1)⟩
theorem mkLine_len (n : Nat) (k : Int) : (mkLine n k).length = n := by simp [mkLine]
theorem mkLine_get {n : Nat} {k : Int} {i : Nat} (h : i < (mkLine n k).length) : (mkLine n k)[i] = ⟨(k + 3 * (i : Int)), (mTxt (k + 3 * (i : Int) + 1)), (k + 3 * (i : Int) + 1 + 1)⟩ := by simp [mkLine]
theorem markLineS_any (W0 : World) (A : Option Addr) (c : Nat) (l : List Ln) (k0 : Int) (w : World) [hu : Up W0 w] [hf : Fr W0 A] [ho : Ow 3 Ln.cells w A l] (hn : l.length ≤ 1048576) (h0 : 1 ≤ k0) (h1 : k0 ≤ 16777216) :
    Calls Tryd.prog 12 #[.slice A l.length c, .int .i64 k0] w fun e w' => e = .returned (.int .i64 (k0 + 3 * l.length)) ∧ ∃ k : Ex W0, w' = k.v ∧ Ow 3 Ln.cells k.v A (mkLine l.length k0) ∧ But A w k.v := by
  by_cases hl0 : 0 < l.length
  · obtain ⟨b, rfl, hw⟩ := ho.own hl0
    have hle : LeB W0.heap.size b := ⟨hf.h b 0 none rfl⟩
    have hml := mkLine_len l.length k0
    obtain ⟨e, N, F, hN, hr, -⟩ := hw.row
    have hr0 := hid (Filling.start (f := Ln.cells) (l := mkLine l.length k0) hr (by rw [hml]; exact hN))
    clear hr hw
    go_enter Tryd.func12, Tryd.ntmps12
    go_wp2
    go_loopw [5, 1] (fun t u wr => ∃ q : Nat, q ≤ l.length ∧ t = .int .i64 q ∧ u = .int .i64 (k0 + 3 * q) ∧ ∃ j : Ex W0, wr = j.v ∧ Filling e 3 Ln.cells j.v b (mkLine l.length k0) q ∧ But (some ⟨b, 0, none⟩) w j.v) (fun t _ _ => l.length - (intOf t).toNat)
    case atStart => exact ⟨0, Nat.zero_le _, rfl, by go_num, ⟨w, hu.h⟩, rfl, hr0.out, But.rf _ _⟩
    case round =>
      obtain ⟨q, hq, rfl, rfl, j0, rfl, hF, hB⟩ := hrel
      have HB := hid hB
      clear hB
      by_cases hlt : q < l.length
      · have hb1 := hF.lt
        obtain ⟨_, r0, f0⟩ := hF.cell (q * 3) (by omega)
        obtain ⟨_, r1, f1⟩ := hF.cell (q * 3 + 1) (by omega)
        obtain ⟨_, r2, f2⟩ := hF.cell (q * 3 + 2) (by omega)
        obtain ⟨N', F, hN', hr', hc'⟩ := hF
        haveI RF : RowF e N' F j0.v b := ⟨hr'⟩
        have HC := hid hc'
        clear hr' hc'
        go_wp2_with ((go_at_call 32; refine (markText_any _ _ (by omega) (by omega)).mono ?_; rintro e w' ⟨rfl, k, rfl⟩))
        go_roundw
        case rel =>
          refine ⟨q + 1, by omega, by go_num, by go_num, ex_and (fun W => Filling _ 3 Ln.cells W b _ (q + 1) ∧ But _ w W) ?_ ⟨⟨N', _, hN', rowF_h, fun kk hk hkq i v hv hi => ?_⟩, ?_⟩⟩
          · (refine Ok.toEx ?_; (repeat (first | (with_reducible exact Ok.rf _) | (with_reducible refine Ok.alloc ?_ _) | (with_reducible refine Ok.ex ?_ _) | (with_reducible refine Ok.drew ?_) | (with_reducible refine Ok.setCellI ?_ _ _ _) | (with_reducible refine Ok.exb ?_ _))))
          · show (if kk * 3 + i = q * 3 + 2 then (.int .i64 (k0 + 3 * (q : Int) + 1 + 1)) else if kk * 3 + i = q * 3 + 1 then (.string (mTxt (k0 + 3 * (q : Int) + 1))) else if kk * 3 + i = q * 3 then (.int .i64 (k0 + 3 * (q : Int))) else F (kk * 3 + i)) = v
            rcases Nat.lt_or_ge kk q with h | h
            · rw [if_neg (by omega), if_neg (by omega), if_neg (by omega)]
              exact HC.out kk hk h i v hv hi
            · obtain rfl : kk = q := by omega
              rw [mkLine_get] at hv
              match i, hi with
              | 0, _ => simp [Ln.cells] at hv; subst hv; simp
              | 1, _ => simp [Ln.cells] at hv; subst hv; simp
              | 2, _ => simp [Ln.cells] at hv; subst hv; simp
          · repeat (first | exact HB.out | refine But.set ?_ _ _ | refine But.ex ?_ _)
        case measure => simp [intOf]; omega
      · obtain rfl : q = l.length := by omega
        go_wp2
        go_ret
        exact ⟨rfl, j0, rfl, ⟨fun _ => ⟨b, rfl, hF.done (by omega) (by omega) fun _ => rfl⟩⟩, HB.out⟩
  · have hz : l = [] := List.eq_nil_of_length_eq_zero (by omega)
    subst hz
    go_enter Tryd.func12, Tryd.ntmps12
    go_wp2
    go_loop [5, 1] (fun t u => t = .int .i64 0 ∧ u = .int .i64 k0) (fun t _ => 0)
    case atStart => exact ⟨rfl, rfl⟩
    case round =>
      obtain ⟨rfl, rfl⟩ := hrel
      go_wp2
      go_ret
      exact ⟨by simp, ⟨w, hu.h⟩, rfl, inferInstanceAs (Ow 3 Ln.cells w A ([] : List Ln)), But.rf _ _⟩
theorem heldLineS_any (A : Option Addr) (c n : Nat) (k0 : Int) (w : World) [hl : Rd 3 Ln.cells w A (mkLine n k0)] (hn : n ≤ 1048576) (h0 : 1 ≤ k0) (h1 : k0 ≤ 16777216) :
    Calls Tryd.prog 13 #[.slice A n c, .int .i64 k0] w fun e w' => e = .returned (.int .i64 (k0 + 3 * n)) ∧ ∃ k : Ex w, w' = k.v := by
  have hml := mkLine_len n k0
  have HA := hid (rdAtLine hl)
  go_enter Tryd.func13, Tryd.ntmps13
  go_wp2
  go_loopw [5, 1] (fun t u wr => ∃ q : Nat, q ≤ n ∧ t = .int .i64 q ∧ u = .int .i64 (k0 + 3 * q) ∧ ∃ j : Ex w, wr = j.v) (fun t _ _ => n - (intOf t).toNat)
  case atStart => exact ⟨0, Nat.zero_le _, rfl, by go_num, Ex.rf w, rfl⟩
  case round =>
    obtain ⟨q, hq, rfl, rfl, j0, rfl⟩ := hrel
    by_cases hlt : q < n
    · obtain ⟨b, o, rfl, hbw, hc⟩ := HA.out (by omega)
      have ⟨c0, c1, c2⟩ := hc q (by omega)
      rw [mkLine_get] at c0 c1 c2
      clear hc
      go_wp2
      (refine wp_region_ex (by kernel_rfl) (by kernel_rfl) ?_; (repeat (go_big_quiet_step (((go_at_call 32; exact calls_ex (markText_any _ _ (by omega) (by omega))))))); refine wpQuiet_nil ?_; rintro _ ⟨k, rfl⟩)
      go_wp2
      go_roundw
      case rel => refine ⟨q + 1, by omega, by go_num, by go_num, ?_⟩; (refine Ok.toEx ?_; (repeat (first | (with_reducible exact Ok.rf _) | (with_reducible refine Ok.alloc ?_ _) | (with_reducible refine Ok.ex ?_ _) | (with_reducible refine Ok.drew ?_) | (with_reducible refine Ok.setCellI ?_ _ _ _) | (with_reducible refine Ok.exb ?_ _))))
      case measure => simp [intOf]; omega
    · obtain rfl : q = n := by omega
      go_wp2
      go_ret
      exact ⟨rfl, j0, rfl⟩
end
end Go.Proofs.YtonmeffhelaohaaDoor
