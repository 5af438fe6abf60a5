/-
  The laws' copy of lines: a row of its own; comparison of slices. Conditions: those typed at each theorem.
-/
import Derived.Test.YtpapphhbogngcaaScC
namespace Go.Proofs.Ytpapphhbogngcaa
open Go.RowKit
section
set_option maxHeartbeats 1600000
theorem infoLine : (Try.prog.info? 93).map (fun i => (i.zero, i.size, i.bytes)) = some (some (.agg #[.int .i64 0, .string ⟨#[]⟩, .int .i64 0]), 3, 32) := by kernel_rfl
theorem toLineS_any (A : Option Addr) (c : Nat) (l : List Ln) (w : World) [hl : Lns w A l] (hn : l.length ≤ 1048576) :
    Calls Try.prog 33 #[.slice A l.length c] w fun e w' => e = .returned (.slice (some ⟨w.heap.size, 0, none⟩) l.length l.length) ∧ ∃ k : Ex w, w' = k.v ∧ Wr 3 Ln.cells k.v w.heap.size l := by
  have hlen := hl.len
  have HA := hid hl.at
  go_enter Try.func33, Try.ntmps33
  go_wp2_with (at_make; refine wpList_mk _ rfl _ _ _ rfl _ _ _ _ Try.underlying41 infoLine l.length rfl rfl (by omega) (by omega) ?_; intro k0 hb0 hr0)
  have hr0 := hid (Filling.start (f := Ln.cells) (l := l) hr0 (Nat.le_refl _))
  go_loopw [4] (fun t wr => ∃ q : Nat, q ≤ l.length ∧ t = .int .i64 q ∧ ∃ j : Ex w, wr = j.v ∧ Filling 93 3 Ln.cells j.v w.heap.size l q) (fun t _ => l.length - (intOf t).toNat)
  case atStart => exact ⟨0, Nat.zero_le _, rfl, k0, rfl, hr0.out⟩
  case round =>
    obtain ⟨q, hq, rfl, j0, rfl, hF⟩ := hrel
    by_cases hlt : q < l.length
    · obtain ⟨b, o, rfl, hbw, hc⟩ := HA.out (by omega)
      obtain ⟨c0, c1, c2⟩ := hc q hlt
      have hb1 := hF.lt
      obtain ⟨_, r0, f0⟩ := hF.cell (q * 3) (by omega)
      obtain ⟨_, r1, f1⟩ := hF.cell (q * 3 + 1) (by omega)
      obtain ⟨_, r2, f2⟩ := hF.cell (q * 3 + 2) (by omega)
      have HF := hid hF
      clear hF
      go_wp2_with ((go_at_call 69; refine (toLine_any l[q] _).mono ?_; rintro e w' ⟨rfl, k, rfl⟩))
      go_roundw
      case rel =>
        refine ⟨q + 1, by omega, by go_num, ex_and (fun W => Filling _ 3 Ln.cells W w.heap.size l (q + 1)) ?_ ((HF.out.ex k).step hlt rfl)⟩
        (refine Ok.toEx ?_; (repeat (first | (with_reducible exact Ok.rf _) | (with_reducible refine Ok.alloc ?_ _) | (with_reducible refine Ok.ex ?_ _) | (with_reducible refine Ok.drew ?_) | (with_reducible refine Ok.setCellI ?_ _ _ _) | (with_reducible refine Ok.exb ?_ _))))
      case measure => simp [intOf]; omega
    · go_wp2
      go_ret
      exact ⟨rfl, j0, rfl, hF.done (by omega) hlen fun _ => rfl⟩
theorem eqLineS_any (A B : Option Addr) (c d : Nat) (l : List Ln) (w : World) [hl : Lns w A l] [hm : Lns w B l] :
    Calls Try.prog 35 #[.slice A l.length c, .slice B l.length d] w fun e w' => e = .returned (.bool true) ∧ ∃ k : Ex w, w' = k.v := by
  have hlen := hl.len
  have HA := hid hl.at
  have HB := hid hm.at
  go_enter Try.func35, Try.ntmps35
  go_wp2
  go_loopw [5] (fun t wr => ∃ q : Nat, q ≤ l.length ∧ t = .int .i64 q ∧ ∃ j : Ex w, wr = j.v) (fun t _ => l.length - (intOf t).toNat)
  case atStart => exact ⟨0, Nat.zero_le _, rfl, Ex.rf w, rfl⟩
  case round =>
    obtain ⟨q, hq, rfl, j0, rfl⟩ := hrel
    by_cases hlt : q < l.length
    · obtain ⟨b, o, rfl, hbw, hc⟩ := HA.out (by omega)
      obtain ⟨c0, c1, c2⟩ := hc q hlt
      obtain ⟨b', o', rfl, hbw', hc'⟩ := HB.out (by omega)
      obtain ⟨d0, d1, d2⟩ := hc' q hlt
      go_wp2
      (refine wp_region_ex (by kernel_rfl) (by kernel_rfl) ?_; (repeat (go_big_quiet_step (((go_at_call 70; exact calls_ex (eqLine_any l[q] _)))))); refine wpQuiet_nil ?_; rintro _ ⟨k, rfl⟩)
      go_wp2
      go_roundw
      case rel => exact ⟨q + 1, by omega, by go_num, j0.tr k, rfl⟩
      case measure => simp [intOf]; omega
    · go_wp2
      go_ret
      exact ⟨rfl, j0, rfl⟩
end
end Go.Proofs.Ytpapphhbogngcaa
