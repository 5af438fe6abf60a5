/-
  Contracts of labelIndex (a search by a closure) and of the comparison of scripts. Conditions: those typed at each theorem.
-/
import Derived.Test.YtpapphhbogngcaaScA
namespace Go.Proofs.Ytpapphhbogngcaa
open Go.RowKit
section
set_option maxHeartbeats 1600000
theorem clLbl_yes (x : Ln) (b : Nat) (nm : ByteArray) (w : World) [LtW b w] (hc : w.cell? ⟨b, 0, none⟩ = some (.string nm)) (h : isLbl nm x) :
    Calls Try.prog 95 #[.agg #[.int .i64 x.kind, .string x.name, .int .i64 x.value], .pointer (some ⟨b, 0, none⟩)] w fun e w' => e = .returned (.bool true) ∧ ∃ k : Ex w, w' = k.v := by
  obtain ⟨h1, h2⟩ := h
  go_enter Try.func95, Try.ntmps95
  go_wp2
  (go_ret; refine ⟨by first | rfl | (simp; done), ?_⟩; (refine Ok.toEx ?_; (repeat (first | (with_reducible exact Ok.rf _) | (with_reducible refine Ok.alloc ?_ _) | (with_reducible refine Ok.ex ?_ _) | (with_reducible refine Ok.drew ?_) | (with_reducible refine Ok.setCellI ?_ _ _ _) | (with_reducible refine Ok.exb ?_ _)))))
theorem clLbl_no (x : Ln) (b : Nat) (nm : ByteArray) (w : World) [LtW b w] (hc : w.cell? ⟨b, 0, none⟩ = some (.string nm)) (h : ¬ isLbl nm x) :
    Calls Try.prog 95 #[.agg #[.int .i64 x.kind, .string x.name, .int .i64 x.value], .pointer (some ⟨b, 0, none⟩)] w fun e w' => e = .returned (.bool false) ∧ ∃ k : Ex w, w' = k.v := by
  have hp' : ¬ x.kind = 1 ∨ (x.kind = 1 ∧ (x.name.toList == nm.toList) = false) := by
    by_cases h1 : x.kind = 1
    · exact .inr ⟨h1, by cases h2 : (x.name.toList == nm.toList) with
        | true => exact absurd ⟨h1, h2⟩ h
        | false => rfl⟩
    · exact .inl h1
  clear h
  rcases hp' with p1 | ⟨p1, p2⟩
  all_goals
    go_enter Try.func95, Try.ntmps95
    go_wp2
    (go_ret; refine ⟨by first | rfl | (simp; done), ?_⟩; (refine Ok.toEx ?_; (repeat (first | (with_reducible exact Ok.rf _) | (with_reducible refine Ok.alloc ?_ _) | (with_reducible refine Ok.ex ?_ _) | (with_reducible refine Ok.drew ?_) | (with_reducible refine Ok.setCellI ?_ _ _ _) | (with_reducible refine Ok.exb ?_ _)))))
theorem idxLbl (A : Option Addr) (c : Nat) (l : List Ln) (b' : Nat) (nm : ByteArray) (w : World) (hl : Lns w A l) [hb' : LtW b' w] (hcell : w.cell? ⟨b', 0, none⟩ = some (.string nm)) :
    Calls Try.prog 94 #[.slice A l.length c, .func (.func 95) #[] #[.pointer (some ⟨b', 0, none⟩)]] w fun e w' => e = .returned (.int .i64 (lbl l nm)) ∧ ∃ k : Ex w, w' = k.v := by
  have hlen := hl.len
  have hat := hl.at
  clear hl
  have HA := hid hat
  clear hat
  go_enter Try.func94, Try.ntmps94
  go_wp2
  go_loopw [8] (fun t wr => ∃ k : Nat, k ≤ l.length ∧ t = .int .i64 k ∧ (∀ j (hj : j < k) (hl : j < l.length), ¬ isLbl nm l[j]) ∧ ∃ j : Ex w, wr = j.v) (fun t _ => l.length - (intOf t).toNat)
  case atStart => exact ⟨0, Nat.zero_le _, rfl, fun j hj => absurd hj (by omega), Ex.rf w, rfl⟩
  case round =>
    obtain ⟨q, hq, rfl, hb, j0, rfl⟩ := hrel
    have HB := hid hb
    clear hb
    by_cases hlt : q < l.length
    · obtain ⟨b, o, rfl, hbw, hc⟩ := HA.out (by omega)
      have hc := hc q hlt
      obtain ⟨c0, c1, c2⟩ := hc
      by_cases hp : isLbl nm l[q]
      · have HR := hid (lbl_hit hlt hp fun j hj => HB.out j hj (by omega))
        generalize l[q] = x at *
        go_wp2_with ((go_at_call 95; refine (clLbl_yes x b' nm _ ((j0.cell _ _).trans hcell) hp).mono ?_; rintro e w' ⟨rfl, k, rfl⟩))
        go_ret
        refine ⟨by rw [HR.out]; rfl, ?_⟩
        (refine Ok.toEx ?_; (repeat (first | (with_reducible exact Ok.rf _) | (with_reducible refine Ok.alloc ?_ _) | (with_reducible refine Ok.ex ?_ _) | (with_reducible refine Ok.drew ?_) | (with_reducible refine Ok.setCellI ?_ _ _ _) | (with_reducible refine Ok.exb ?_ _))))
      · have hnx : ∀ j (hj : j < q + 1) (hl : j < l.length), ¬ isLbl nm l[j] := fun j hj hl => by
          rcases Nat.lt_or_ge j q with h | h
          · exact HB.out j h hl
          · obtain rfl : j = q := by omega
            exact hp
        have HN := hid hnx
        clear hnx
        generalize l[q] = x at *
        go_wp2_with ((go_at_call 95; refine (clLbl_no x b' nm _ ((j0.cell _ _).trans hcell) hp).mono ?_; rintro e w' ⟨rfl, k, rfl⟩))
        go_roundw
        case rel => exact ⟨q + 1, by omega, by go_num, HN.out, j0.tr k, rfl⟩
        case measure => simp [intOf]; omega
    · go_wp2
      go_ret
      exact ⟨by rw [lbl_miss fun j hj => HB.out j (by omega) hj]; rfl, j0, rfl⟩
theorem labelIndex_any (A : Option Addr) (c : Nat) (l : List Ln) (nm : ByteArray) (w : World) (hl : Lns w A l) :
    Calls Try.prog 77 #[.slice A l.length c, .string nm] w fun e w' => e = .returned (.int .i64 (lbl l nm)) ∧ ∃ k : Ex w, w' = k.v := by
  have HL := hid hl
  clear hl
  go_enter Try.func77, Try.ntmps77
  go_wp2_with ((go_at_call 94; refine (idxLbl A c l w.heap.size nm _ (haveI := HL.out; inferInstance) (by simp [go_sem])).mono ?_; rintro e w' ⟨rfl, k, rfl⟩))
  (go_ret; refine ⟨by first | rfl | (simp; done), ?_⟩; (refine Ok.toEx ?_; (repeat (first | (with_reducible exact Ok.rf _) | (with_reducible refine Ok.alloc ?_ _) | (with_reducible refine Ok.ex ?_ _) | (with_reducible refine Ok.drew ?_) | (with_reducible refine Ok.setCellI ?_ _ _ _) | (with_reducible refine Ok.exb ?_ _)))))
end
end Go.Proofs.Ytpapphhbogngcaa
