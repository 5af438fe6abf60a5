/-
  The laws' helpers over slices of impl.Cue: comparison, marking, holding. Conditions: those typed at each theorem.
-/
import Derived.Test.YthgfnbgdpmbolaaInts
import Derived.Test.YthgfnbgdpmbolaaRowF
import Derived.Test.YthgfnbgdpmbolaaMText
import Derived.Test.YthgfnbgdpmbolaaCuA
namespace Go.Proofs.Ythgfnbgdpmbolaa
open Go.RowKit
section
set_option maxHeartbeats 3200000
set_option maxRecDepth 20000
theorem rdAtCue {w : World} {A : Option Addr} {l : List Cu} (h : Rd 6 cC w A l) : 0 < l.length → ∃ b o, A = some ⟨b, o, none⟩ ∧ LtW b w ∧ ∀ (k : Nat) (h : k < l.length), w.cell? ⟨b, o + k * 6, none⟩ = some (.string l[k].id) ∧ w.cell? ⟨b, o + k * 6 + 1, none⟩ = some (.int .i64 l[k].t) ∧ w.cell? ⟨b, o + k * 6 + 2, none⟩ = some (.int .i64 l[k].ln) ∧ w.cell? ⟨b, o + k * 6 + 3, none⟩ = some (.string l[k].tg) ∧ w.cell? ⟨b, o + k * 6 + 4, none⟩ = some (.int .i64 l[k].act) ∧ w.cell? ⟨b, o + k * 6 + 5, none⟩ = some (.int .i64 l[k].v) := fun h0 => by
  obtain ⟨b, o, e, hb, hc⟩ := h.at_ h0
  exact ⟨b, o, e, hb, fun k hk => ⟨hc k hk 0 _ rfl, hc k hk 1 _ rfl, hc k hk 2 _ rfl, hc k hk 3 _ rfl, hc k hk 4 _ rfl, hc k hk 5 _ rfl⟩⟩
theorem eqCue_any (x : Cu) (w : World) : Calls Try.prog 30 #[.agg #[.string x.id, .int .i64 x.t, .int .i64 x.ln, .string x.tg, .int .i64 x.act, .int .i64 x.v], .agg #[.string x.id, .int .i64 x.t, .int .i64 x.ln, .string x.tg, .int .i64 x.act, .int .i64 x.v]] w fun e w' => e = .returned (.bool true) ∧ ∃ k : Ex w, w' = k.v := by
  go_enter Try.func30, Try.ntmps30
  go_wp2
  (go_ret; refine ⟨by first | rfl | (simp; done), ?_⟩; (refine Ok.toEx ?_; (repeat (first | (with_reducible exact Ok.rf _) | (with_reducible refine Ok.alloc ?_ _) | (with_reducible refine Ok.ex ?_ _) | (with_reducible refine Ok.drew ?_) | (with_reducible refine Ok.setCellI ?_ _ _ _) | (with_reducible refine Ok.exb ?_ _)))))
theorem eqCueS_any (A B : Option Addr) (c d : Nat) (l : List Cu) (w : World) [hl : Rd 6 cC w A l] [hm : Rd 6 cC w B l] :
    Calls Try.prog 15 #[.slice A l.length c, .slice B l.length d] w fun e w' => e = .returned (.bool true) ∧ ∃ k : Ex w, w' = k.v := by
  have hlen := hl.len
  have HA := hid (rdAtCue hl)
  have HB := hid (rdAtCue hm)
  go_enter Try.func15, Try.ntmps15
  go_wp2
  go_loopw [5] (fun t wr => ∃ q : Nat, q ≤ l.length ∧ t = .int .i64 q ∧ ∃ j : Ex w, wr = j.v) (fun t _ => l.length - (intOf t).toNat)
  case atStart => exact ⟨0, Nat.zero_le _, rfl, Ex.rf w, rfl⟩
  case round =>
    obtain ⟨q, hq, rfl, j0, rfl⟩ := hrel
    by_cases hlt : q < l.length
    · obtain ⟨b, o, rfl, hbw, hc⟩ := HA.out (by omega)
      have ⟨c0, c1, c2, c3, c4, c5⟩ := hc q hlt
      obtain ⟨b', o', rfl, hbw', hc'⟩ := HB.out (by omega)
      have ⟨d0, d1, d2, d3, d4, d5⟩ := hc' q hlt
      clear hc hc'
      go_wp2
      (refine wp_region_ex (by kernel_rfl) (by kernel_rfl) ?_; (repeat (go_big_quiet_step (((go_at_call 30; exact calls_ex (eqCue_any l[q] _)))))); refine wpQuiet_nil ?_; rintro _ ⟨k, rfl⟩)
      go_wp2
      go_roundw
      case rel => exact ⟨q + 1, by omega, by go_num, j0.tr k, rfl⟩
      case measure => simp [intOf]; omega
    · go_wp2
      go_ret
      exact ⟨rfl, j0, rfl⟩
/-- what marking lays -/
def mkCue (n : Nat) (k : Int) : List Cu := (List.range n).map fun (i : Nat) => ⟨(mTxt (k + 6 * (i : Int))), (k + 6 * (i : Int) + 1), (k + 6 * (i : Int) + 1 + 1), (mTxt (k + 6 * (i : Int) + 1 + 1 + 1)), (k + 6 * (i : Int) + 1 + 1 + 1 + 1), (k + 6 * (i : Int) + 1 + 1 + 1 + 1 + 1)⟩
theorem mkCue_len (n : Nat) (k : Int) : (mkCue n k).length = n := by simp [mkCue]
theorem mkCue_get {n : Nat} {k : Int} {i : Nat} (h : i < (mkCue n k).length) : (mkCue n k)[i] = ⟨(mTxt (k + 6 * (i : Int))), (k + 6 * (i : Int) + 1), (k + 6 * (i : Int) + 1 + 1), (mTxt (k + 6 * (i : Int) + 1 + 1 + 1)), (k + 6 * (i : Int) + 1 + 1 + 1 + 1), (k + 6 * (i : Int) + 1 + 1 + 1 + 1 + 1)⟩ := by simp [mkCue]
theorem markCueS_any (W0 : World) (A : Option Addr) (c : Nat) (l : List Cu) (k0 : Int) (w : World) [hu : Up W0 w] [hf : Fr W0 A] [ho : Ow 6 cC w A l] (hn : l.length ≤ 1048576) (h0 : 1 ≤ k0) (h1 : k0 ≤ 16777216) :
    Calls Try.prog 16 #[.slice A l.length c, .int .i64 k0] w fun e w' => e = .returned (.int .i64 (k0 + 6 * l.length)) ∧ ∃ k : Ex W0, w' = k.v ∧ Ow 6 cC k.v A (mkCue l.length k0) ∧ But A w k.v := by
  by_cases hl0 : 0 < l.length
  · obtain ⟨b, rfl, hw⟩ := ho.own hl0
    have hle : LeB W0.heap.size b := ⟨hf.h b 0 none rfl⟩
    have hml := mkCue_len l.length k0
    obtain ⟨e, N, F, hN, hr, -⟩ := hw.row
    have hr0 := hid (Filling.start (f := cC) (l := mkCue l.length k0) hr (by rw [hml]; exact hN))
    clear hr hw
    go_enter Try.func16, Try.ntmps16
    go_wp2
    go_loopw [5, 1] (fun t u wr => ∃ q : Nat, q ≤ l.length ∧ t = .int .i64 q ∧ u = .int .i64 (k0 + 6 * q) ∧ ∃ j : Ex W0, wr = j.v ∧ Filling e 6 cC j.v b (mkCue l.length k0) q ∧ But (some ⟨b, 0, none⟩) w j.v) (fun t _ _ => l.length - (intOf t).toNat)
    case atStart => exact ⟨0, Nat.zero_le _, rfl, by go_num, ⟨w, hu.h⟩, rfl, hr0.out, But.rf _ _⟩
    case round =>
      obtain ⟨q, hq, rfl, rfl, j0, rfl, hF, hB⟩ := hrel
      have HB := hid hB
      clear hB
      by_cases hlt : q < l.length
      · have hb1 := hF.lt
        obtain ⟨_, r0, f0⟩ := hF.cell (q * 6) (by omega)
        obtain ⟨_, r1, f1⟩ := hF.cell (q * 6 + 1) (by omega)
        obtain ⟨_, r2, f2⟩ := hF.cell (q * 6 + 2) (by omega)
        obtain ⟨_, r3, f3⟩ := hF.cell (q * 6 + 3) (by omega)
        obtain ⟨_, r4, f4⟩ := hF.cell (q * 6 + 4) (by omega)
        obtain ⟨_, r5, f5⟩ := hF.cell (q * 6 + 5) (by omega)
        obtain ⟨N', F, hN', hr', hc'⟩ := hF
        haveI RF : RowF e N' F j0.v b := ⟨hr'⟩
        have HC := hid hc'
        clear hr' hc'
        go_wp2_with ((go_at_call 31; refine (markText_any _ _ (by omega) (by omega)).mono ?_; rintro e w' ⟨rfl, k, rfl⟩))
        go_roundw
        case rel =>
          refine ⟨q + 1, by omega, by go_num, by go_num, ex_and (fun W => Filling _ 6 cC W b _ (q + 1) ∧ But _ w W) ?_ ⟨⟨N', _, hN', rowF_h, fun kk hk hkq i v hv hi => ?_⟩, ?_⟩⟩
          · (refine Ok.toEx ?_; (repeat (first | (with_reducible exact Ok.rf _) | (with_reducible refine Ok.alloc ?_ _) | (with_reducible refine Ok.ex ?_ _) | (with_reducible refine Ok.drew ?_) | (with_reducible refine Ok.setCellI ?_ _ _ _) | (with_reducible refine Ok.exb ?_ _))))
          · show (if kk * 6 + i = q * 6 + 5 then (.int .i64 (k0 + 6 * (q : Int) + 1 + 1 + 1 + 1 + 1)) else if kk * 6 + i = q * 6 + 4 then (.int .i64 (k0 + 6 * (q : Int) + 1 + 1 + 1 + 1)) else if kk * 6 + i = q * 6 + 3 then (.string (mTxt (k0 + 6 * (q : Int) + 1 + 1 + 1))) else if kk * 6 + i = q * 6 + 2 then (.int .i64 (k0 + 6 * (q : Int) + 1 + 1)) else if kk * 6 + i = q * 6 + 1 then (.int .i64 (k0 + 6 * (q : Int) + 1)) else if kk * 6 + i = q * 6 then (.string (mTxt (k0 + 6 * (q : Int)))) else F (kk * 6 + i)) = v
            rcases Nat.lt_or_ge kk q with h | h
            · rw [if_neg (by omega), if_neg (by omega), if_neg (by omega), if_neg (by omega), if_neg (by omega), if_neg (by omega)]
              exact HC.out kk hk h i v hv hi
            · obtain rfl : kk = q := by omega
              rw [mkCue_get] at hv
              match i, hi with
              | 0, _ => simp [cC] at hv; subst hv; simp
              | 1, _ => simp [cC] at hv; subst hv; simp
              | 2, _ => simp [cC] at hv; subst hv; simp
              | 3, _ => simp [cC] at hv; subst hv; simp
              | 4, _ => simp [cC] at hv; subst hv; simp
              | 5, _ => simp [cC] at hv; subst hv; simp
          · repeat (first | exact HB.out | refine But.set ?_ _ _ | refine But.ex ?_ _)
        case measure => simp [intOf]; omega
      · obtain rfl : q = l.length := by omega
        go_wp2
        go_ret
        exact ⟨rfl, j0, rfl, ⟨fun _ => ⟨b, rfl, hF.done (by omega) (by omega) fun _ => rfl⟩⟩, HB.out⟩
  · have hz : l = [] := List.eq_nil_of_length_eq_zero (by omega)
    subst hz
    go_enter Try.func16, Try.ntmps16
    go_wp2
    go_loop [5, 1] (fun t u => t = .int .i64 0 ∧ u = .int .i64 k0) (fun t _ => 0)
    case atStart => exact ⟨rfl, rfl⟩
    case round =>
      obtain ⟨rfl, rfl⟩ := hrel
      go_wp2
      go_ret
      exact ⟨by simp, ⟨w, hu.h⟩, rfl, inferInstanceAs (Ow 6 cC w A ([] : List Cu)), But.rf _ _⟩
theorem markCueS_nil (A : Option Addr) (c : Nat) (k0 : Int) (w : World) :
    Calls Try.prog 16 #[.slice A 0 c, .int .i64 k0] w fun e w' => e = .returned (.int .i64 k0) ∧ ∃ k : Ex w, w' = k.v := by
  go_enter Try.func16, Try.ntmps16
  go_wp2
  go_loop [5, 1] (fun t u => t = .int .i64 0 ∧ u = .int .i64 k0) (fun t _ => 0)
  case atStart => exact ⟨rfl, rfl⟩
  case round =>
    obtain ⟨rfl, rfl⟩ := hrel
    go_wp2
    go_ret
    exact ⟨by simp, Ex.rf w, rfl⟩
end
end Go.Proofs.Ythgfnbgdpmbolaa
