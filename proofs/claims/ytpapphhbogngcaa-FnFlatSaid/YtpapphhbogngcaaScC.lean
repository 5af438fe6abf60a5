/-
  Contracts of the laws' helpers over lines: size, copy, comparison. Conditions: those typed at each theorem.
-/
import Derived.Test.YtpapphhbogngcaaScB
namespace Go.Proofs.Ytpapphhbogngcaa
open Go.RowKit
section
set_option maxHeartbeats 1600000
theorem toLine_any (x : Ln) (w : World) : Calls Try.prog 69 #[.agg #[.int .i64 x.kind, .string x.name, .int .i64 x.value]] w fun e w' => e = .returned (.agg #[.int .i64 x.kind, .string x.name, .int .i64 x.value]) ∧ ∃ k : Ex w, w' = k.v := by
  go_enter Try.func69, Try.ntmps69
  go_wp2
  (refine bodyPost_ret (v := _) (by simp [results, Try.results69, go_sem]; rfl) rfl ⟨by first | rfl | (simp; done), ?_⟩; (refine Ok.toEx ?_; (repeat (first | (with_reducible exact Ok.rf _) | (with_reducible refine Ok.alloc ?_ _) | (with_reducible refine Ok.ex ?_ _) | (with_reducible refine Ok.drew ?_) | (with_reducible refine Ok.setCellI ?_ _ _ _) | (with_reducible refine Ok.exb ?_ _)))))
theorem eqLine_any (x : Ln) (w : World) : Calls Try.prog 70 #[.agg #[.int .i64 x.kind, .string x.name, .int .i64 x.value], .agg #[.int .i64 x.kind, .string x.name, .int .i64 x.value]] w fun e w' => e = .returned (.bool true) ∧ ∃ k : Ex w, w' = k.v := by
  go_enter Try.func70, Try.ntmps70
  go_wp2
  (go_ret; refine ⟨by first | rfl | (simp; done), ?_⟩; (refine Ok.toEx ?_; (repeat (first | (with_reducible exact Ok.rf _) | (with_reducible refine Ok.alloc ?_ _) | (with_reducible refine Ok.ex ?_ _) | (with_reducible refine Ok.drew ?_) | (with_reducible refine Ok.setCellI ?_ _ _ _) | (with_reducible refine Ok.exb ?_ _)))))
theorem szLine_any (x : Ln) (n : Int) (w : World) (hx : x.ok) (h0 : 0 ≤ n) (h1 : n ≤ 1048576) :
    Calls Try.prog 67 #[.agg #[.int .i64 x.kind, .string x.name, .int .i64 x.value], .int .i64 n] w fun e w' => ∃ m : Int, e = .returned (.int .i64 m) ∧ (-1 ≤ m ∧ m ≤ n ∧ (0 ≤ m → x.name.size ≤ 1048576)) ∧ ∃ k : Ex w, w' = k.v := by
  obtain ⟨_, _, hx, _⟩ := hx
  by_cases hs : n - x.name.size < 0
  all_goals
    go_enter Try.func67, Try.ntmps67
    go_wp2
    go_ret
    refine ⟨_, rfl, by omega, ?_⟩
    (refine Ok.toEx ?_; (repeat (first | (with_reducible exact Ok.rf _) | (with_reducible refine Ok.alloc ?_ _) | (with_reducible refine Ok.ex ?_ _) | (with_reducible refine Ok.drew ?_) | (with_reducible refine Ok.setCellI ?_ _ _ _) | (with_reducible refine Ok.exb ?_ _))))
theorem szLineS_any (A : Option Addr) (c : Nat) (l : List Ln) (n : Int) (w : World) [hl : Lns w A l] (h0 : 0 ≤ n) (h1 : n ≤ 1048576) :
    Calls Try.prog 31 #[.slice A l.length c, .int .i64 n] w fun e w' => ∃ m : Int, e = .returned (.int .i64 m) ∧ (-1 ≤ m ∧ m ≤ n ∧ (0 ≤ m → l.length ≤ n)) ∧ (0 ≤ m → Sm l) ∧ ∃ k : Ex w, w' = k.v := by
  have hlen := hl.len
  have HA := hid hl.at
  have HO := hid hl.toOks.h
  by_cases hs : n - l.length < 0
  · go_enter Try.func31, Try.ntmps31
    go_wp2
    go_ret
    refine ⟨_, rfl, by omega, fun h => absurd h (by omega), ?_⟩
    (refine Ok.toEx ?_; (repeat (first | (with_reducible exact Ok.rf _) | (with_reducible refine Ok.alloc ?_ _) | (with_reducible refine Ok.ex ?_ _) | (with_reducible refine Ok.drew ?_) | (with_reducible refine Ok.setCellI ?_ _ _ _) | (with_reducible refine Ok.exb ?_ _))))
  · have hs : (l.length : Int) ≤ n := by omega
    go_enter Try.func31, Try.ntmps31
    go_wp2
    go_loopw [5, 1] (fun t u wr => ∃ (q : Nat) (m : Int), q ≤ l.length ∧ t = .int .i64 q ∧ u = .int .i64 m ∧ 0 ≤ m ∧ m ≤ n ∧ (∀ i (hi : i < l.length), i < q → l[i].name.size ≤ 1048576) ∧ ∃ j : Ex w, wr = j.v) (fun t _ _ => l.length - (intOf t).toNat)
    case atStart => exact ⟨0, n - l.length, Nat.zero_le _, rfl, by go_num, by omega, by omega, fun i _ h => absurd h (by omega), Ex.rf w, rfl⟩
    case round =>
      obtain ⟨q, m, hq, rfl, rfl, hm0, hm1, hs, j0, rfl⟩ := hrel
      have HS := hid hs
      clear hs
      by_cases hlt : q < l.length
      · obtain ⟨b, o, rfl, hbw, hc⟩ := HA.out (by omega)
        obtain ⟨c0, c1, c2⟩ := hc q hlt
        have hx := HO.out _ (List.getElem_mem hlt)
        have HN : Hid (l[q].name.size ≤ 1048576 → ∀ i (hi : i < l.length), i < q + 1 → l[i].name.size ≤ 1048576) := hid fun h i hi hiq => by
          rcases Nat.lt_or_ge i q with h1 | h1
          · exact HS.out i hi h1
          · obtain rfl : i = q := by omega
            exact h
        generalize l[q] = x at *
        go_wp2_with (go_at_call 67; refine (szLine_any x m _ hx hm0 (by omega)).mono ?_; rintro e w' ⟨m', rfl, ⟨hm2, hm3, hm4⟩, k, rfl⟩)
        · go_ret
          refine ⟨_, rfl, by omega, fun h => absurd h (by omega), ?_⟩
          (refine Ok.toEx ?_; (repeat (first | (with_reducible exact Ok.rf _) | (with_reducible refine Ok.alloc ?_ _) | (with_reducible refine Ok.ex ?_ _) | (with_reducible refine Ok.drew ?_) | (with_reducible refine Ok.setCellI ?_ _ _ _) | (with_reducible refine Ok.exb ?_ _))))
        · go_roundw
          case rel => exact ⟨q + 1, m', by omega, by go_num, rfl, by omega, by omega, HN.out (by omega), j0.tr k, rfl⟩
          case measure => simp [intOf]; omega
      · go_wp2
        go_ret
        exact ⟨m, rfl, by omega, fun _ => ⟨fun x hx => by obtain ⟨i, hi, rfl⟩ := List.getElem_of_mem hx; exact HS.out i hi (by omega)⟩, j0, rfl⟩
end
end Go.Proofs.Ytpapphhbogngcaa
