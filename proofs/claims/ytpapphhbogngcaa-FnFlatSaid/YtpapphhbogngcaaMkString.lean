/-
  The laws' helpers over slices of string: comparison, marking, holding. Conditions: those typed at each theorem.
-/
import Derived.Test.YtpapphhbogngcaaInts
import Derived.Test.YtpapphhbogngcaaRowF
import Derived.Test.YtpapphhbogngcaaMText
import Derived.Test.YtpapphhbogngcaaStr
namespace Go.Proofs.Ytpapphhbogngcaa
open Go.RowKit
section
set_option maxHeartbeats 3200000
set_option maxRecDepth 20000
theorem rdAtString {w : World} {A : Option Addr} {l : List ByteArray} (h : Rd 1 sC w A l) : 0 < l.length → ∃ b o, A = some ⟨b, o, none⟩ ∧ LtW b w ∧ ∀ (k : Nat) (h : k < l.length), w.cell? ⟨b, o + k, none⟩ = some (.string l[k]) := fun h0 => by
  obtain ⟨b, o, e, hb, hc⟩ := h.at_ h0
  exact ⟨b, o, e, hb, fun k hk => (by have := hc k hk 0 _ rfl; rwa [Nat.mul_one] at this)⟩
theorem eqStringS_any (A B : Option Addr) (c d : Nat) (l : List ByteArray) (w : World) [hl : Rd 1 sC w A l] [hm : Rd 1 sC w B l] :
    Calls Try.prog 34 #[.slice A l.length c, .slice B l.length d] w fun e w' => e = .returned (.bool true) ∧ ∃ k : Ex w, w' = k.v := by
  have hlen := hl.len
  have HA := hid (rdAtString hl)
  have HB := hid (rdAtString hm)
  go_enter Try.func34, Try.ntmps34
  go_wp2
  go_loopw [5] (fun t wr => ∃ q : Nat, q ≤ l.length ∧ t = .int .i64 q ∧ ∃ j : Ex w, wr = j.v) (fun t _ => l.length - (intOf t).toNat)
  case atStart => exact ⟨0, Nat.zero_le _, rfl, Ex.rf w, rfl⟩
  case round =>
    obtain ⟨q, hq, rfl, j0, rfl⟩ := hrel
    by_cases hlt : q < l.length
    · obtain ⟨b, o, rfl, hbw, hc⟩ := HA.out (by omega)
      have c0 := hc q hlt
      obtain ⟨b', o', rfl, hbw', hc'⟩ := HB.out (by omega)
      have d0 := hc' q hlt
      clear hc hc'
      go_wp2
      (refine wp_region_ex (by kernel_rfl) (by kernel_rfl) ?_; (repeat (go_big_quiet_step ((fail)))); refine wpQuiet_nil ?_; rintro _ ⟨k, rfl⟩)
      go_wp2
      go_roundw
      case rel => exact ⟨q + 1, by omega, by go_num, j0.tr k, rfl⟩
      case measure => simp [intOf]; omega
    · go_wp2
      go_ret
      exact ⟨rfl, j0, rfl⟩
/-- what marking lays -/
def mkString (n : Nat) (k : Int) : List ByteArray := (List.range n).map fun (i : Nat) => (mTxt (k + (i : Int)))
theorem mkString_len (n : Nat) (k : Int) : (mkString n k).length = n := by simp [mkString]
theorem mkString_get {n : Nat} {k : Int} {i : Nat} (h : i < (mkString n k).length) : (mkString n k)[i] = (mTxt (k + (i : Int))) := by simp [mkString]
theorem markStringS_any (W0 : World) (A : Option Addr) (c : Nat) (l : List ByteArray) (k0 : Int) (w : World) [hu : Up W0 w] [hf : Fr W0 A] [ho : Ow 1 sC w A l] (hn : l.length ≤ 1048576) (h0 : 1 ≤ k0) (h1 : k0 ≤ 16777216) :
    Calls Try.prog 37 #[.slice A l.length c, .int .i64 k0] w fun e w' => e = .returned (.int .i64 (k0 + l.length)) ∧ ∃ k : Ex W0, w' = k.v ∧ Ow 1 sC k.v A (mkString l.length k0) ∧ But A w k.v := by
  by_cases hl0 : 0 < l.length
  · obtain ⟨b, rfl, hw⟩ := ho.own hl0
    have hle : LeB W0.heap.size b := ⟨hf.h b 0 none rfl⟩
    have hml := mkString_len l.length k0
    obtain ⟨e, N, F, hN, hr, -⟩ := hw.row
    have hr0 := hid (Filling.start (f := sC) (l := mkString l.length k0) hr (by rw [hml]; exact hN))
    clear hr hw
    go_enter Try.func37, Try.ntmps37
    go_wp2
    go_loopw [5, 1] (fun t u wr => ∃ q : Nat, q ≤ l.length ∧ t = .int .i64 q ∧ u = .int .i64 (k0 + q) ∧ ∃ j : Ex W0, wr = j.v ∧ Filling e 1 sC j.v b (mkString l.length k0) q ∧ But (some ⟨b, 0, none⟩) w j.v) (fun t _ _ => l.length - (intOf t).toNat)
    case atStart => exact ⟨0, Nat.zero_le _, rfl, by go_num, ⟨w, hu.h⟩, rfl, hr0.out, But.rf _ _⟩
    case round =>
      obtain ⟨q, hq, rfl, rfl, j0, rfl, hF, hB⟩ := hrel
      have HB := hid hB
      clear hB
      by_cases hlt : q < l.length
      · have hb1 := hF.lt
        obtain ⟨_, r0, f0⟩ := hF.cell (q) (by omega)
        obtain ⟨N', F, hN', hr', hc'⟩ := hF
        haveI RF : RowF e N' F j0.v b := ⟨hr'⟩
        have HC := hid hc'
        clear hr' hc'
        go_wp2_with ((go_at_call 71; refine (markText_any _ _ (by omega) (by omega)).mono ?_; rintro e w' ⟨rfl, k, rfl⟩))
        go_roundw
        case rel =>
          refine ⟨q + 1, by omega, by go_num, by go_num, ex_and (fun W => Filling _ 1 sC W b _ (q + 1) ∧ But _ w W) ?_ ⟨⟨N', _, hN', rowF_h, fun kk hk hkq i v hv hi => ?_⟩, ?_⟩⟩
          · (refine Ok.toEx ?_; (repeat (first | (with_reducible exact Ok.rf _) | (with_reducible refine Ok.alloc ?_ _) | (with_reducible refine Ok.ex ?_ _) | (with_reducible refine Ok.drew ?_) | (with_reducible refine Ok.setCellI ?_ _ _ _) | (with_reducible refine Ok.exb ?_ _))))
          · show (if kk * 1 + i = q then (.string (mTxt (k0 + (q : Int)))) else F (kk * 1 + i)) = v
            rcases Nat.lt_or_ge kk q with h | h
            · rw [if_neg (by omega)]
              exact HC.out kk hk h i v hv hi
            · obtain rfl : kk = q := by omega
              rw [mkString_get] at hv
              match i, hi with
              | 0, _ => simp [sC] at hv; subst hv; simp
          · repeat (first | exact HB.out | refine But.set ?_ _ _ | refine But.ex ?_ _)
        case measure => simp [intOf]; omega
      · obtain rfl : q = l.length := by omega
        go_wp2
        go_ret
        exact ⟨rfl, j0, rfl, ⟨fun _ => ⟨b, rfl, hF.done (by omega) (by omega) fun _ => rfl⟩⟩, HB.out⟩
  · have hz : l = [] := List.eq_nil_of_length_eq_zero (by omega)
    subst hz
    go_enter Try.func37, Try.ntmps37
    go_wp2
    go_loop [5, 1] (fun t u => t = .int .i64 0 ∧ u = .int .i64 k0) (fun t _ => 0)
    case atStart => exact ⟨rfl, rfl⟩
    case round =>
      obtain ⟨rfl, rfl⟩ := hrel
      go_wp2
      go_ret
      exact ⟨by simp, ⟨w, hu.h⟩, rfl, inferInstanceAs (Ow 1 sC w A ([] : List ByteArray)), But.rf _ _⟩
theorem heldStringS_any (A : Option Addr) (c n : Nat) (k0 : Int) (w : World) [hl : Rd 1 sC w A (mkString n k0)] (hn : n ≤ 1048576) (h0 : 1 ≤ k0) (h1 : k0 ≤ 16777216) :
    Calls Try.prog 38 #[.slice A n c, .int .i64 k0] w fun e w' => e = .returned (.int .i64 (k0 + n)) ∧ ∃ k : Ex w, w' = k.v := by
  have hml := mkString_len n k0
  have HA := hid (rdAtString hl)
  go_enter Try.func38, Try.ntmps38
  go_wp2
  go_loopw [5, 1] (fun t u wr => ∃ q : Nat, q ≤ n ∧ t = .int .i64 q ∧ u = .int .i64 (k0 + q) ∧ ∃ j : Ex w, wr = j.v) (fun t _ _ => n - (intOf t).toNat)
  case atStart => exact ⟨0, Nat.zero_le _, rfl, by go_num, Ex.rf w, rfl⟩
  case round =>
    obtain ⟨q, hq, rfl, rfl, j0, rfl⟩ := hrel
    by_cases hlt : q < n
    · obtain ⟨b, o, rfl, hbw, hc⟩ := HA.out (by omega)
      have c0 := hc q (by omega)
      rw [mkString_get] at c0
      clear hc
      go_wp2
      (refine wp_region_ex (by kernel_rfl) (by kernel_rfl) ?_; (repeat (go_big_quiet_step (((go_at_call 71; exact calls_ex (markText_any _ _ (by omega) (by omega))))))); refine wpQuiet_nil ?_; rintro _ ⟨k, rfl⟩)
      go_wp2
      go_roundw
      case rel => refine ⟨q + 1, by omega, by go_num, by go_num, ?_⟩; (refine Ok.toEx ?_; (repeat (first | (with_reducible exact Ok.rf _) | (with_reducible refine Ok.alloc ?_ _) | (with_reducible refine Ok.ex ?_ _) | (with_reducible refine Ok.drew ?_) | (with_reducible refine Ok.setCellI ?_ _ _ _) | (with_reducible refine Ok.exb ?_ _))))
      case measure => simp [intOf]; omega
    · obtain rfl : q = n := by omega
      go_wp2
      go_ret
      exact ⟨rfl, j0, rfl⟩
end
end Go.Proofs.Ytpapphhbogngcaa
