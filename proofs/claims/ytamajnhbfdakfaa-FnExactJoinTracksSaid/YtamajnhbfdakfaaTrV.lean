/-
  DropKey of the program: the search of the key. Conditions: those typed at each theorem.
-/
import Derived.Test.YtamajnhbfdakfaaTrU
namespace Go.Proofs.Ytamajnhbfdakfaa
open Go.RowKit
/-- where the key of a time stands, or -1 -/
def dII (l : List Ky) (t : Int) : Int := if dI l t < l.length then (dI l t : Int) else -1
theorem dII_hit {l : List Ky} {t : Int} {q : Nat} (h : q < l.length) (he : (kyG l q).t = t) (hb : ∀ j, j < q → (kyG l j).t ≠ t) : dII l t = q := by unfold dII; rw [dI_hit h he hb, if_pos h]
theorem dII_miss {l : List Ky} {t : Int} (hb : ∀ j, j < l.length → (kyG l j).t ≠ t) : dII l t = -1 := by unfold dII; rw [dI_miss hb, if_neg (by omega)]
section
set_option maxHeartbeats 3200000
set_option maxRecDepth 20000
theorem clDr_yes (x : Ky) (b : Nat) (t : Int) (w : World) [LtW b w] (hc : w.cell? ⟨b, 0, none⟩ = some (.int .i64 t)) (h : (x.t == t) = true) :
    Calls Try.prog 86 #[.agg #[.int .i64 x.t, .int .i64 x.v], .pointer (some ⟨b, 0, none⟩)] w fun e w' => e = .returned (.bool true) ∧ ∃ k : Ex w, w' = k.v := by
  go_enter Try.func86, Try.ntmps86
  go_wp2
  (go_ret; refine ⟨by first | rfl | (simp; done), ?_⟩; (refine Ok.toEx ?_; (repeat (first | (with_reducible exact Ok.rf _) | (with_reducible refine Ok.alloc ?_ _) | (with_reducible refine Ok.ex ?_ _) | (with_reducible refine Ok.drew ?_) | (with_reducible refine Ok.setCellI ?_ _ _ _) | (with_reducible refine Ok.exb ?_ _)))))
theorem clDr_no (x : Ky) (b : Nat) (t : Int) (w : World) [LtW b w] (hc : w.cell? ⟨b, 0, none⟩ = some (.int .i64 t)) (h : (x.t == t) = false) :
    Calls Try.prog 86 #[.agg #[.int .i64 x.t, .int .i64 x.v], .pointer (some ⟨b, 0, none⟩)] w fun e w' => e = .returned (.bool false) ∧ ∃ k : Ex w, w' = k.v := by
  go_enter Try.func86, Try.ntmps86
  go_wp2
  (go_ret; refine ⟨by first | rfl | (simp; done), ?_⟩; (refine Ok.toEx ?_; (repeat (first | (with_reducible exact Ok.rf _) | (with_reducible refine Ok.alloc ?_ _) | (with_reducible refine Ok.ex ?_ _) | (with_reducible refine Ok.drew ?_) | (with_reducible refine Ok.setCellI ?_ _ _ _) | (with_reducible refine Ok.exb ?_ _)))))
theorem idxDr (A : Option Addr) (c : Nat) (l : List Ky) (b' : Nat) (t : Int) (w : World) (hl : Rd 2 kC w A l) [hb' : LtW b' w] (hcell : w.cell? ⟨b', 0, none⟩ = some (.int .i64 t)) :
    Calls Try.prog 85 #[.slice A l.length c, .func (.func 86) #[] #[.pointer (some ⟨b', 0, none⟩)]] w fun e w' => e = .returned (.int .i64 (dII l t)) ∧ ∃ k : Ex w, w' = k.v := by
  have hlen := hl.len
  have HA := hid hl.kg
  clear hl
  go_enter Try.func85, Try.ntmps85
  go_wp2
  go_loopw [8] (fun i wr => ∃ q : Nat, q ≤ l.length ∧ i = .int .i64 q ∧ (∀ j, j < q → (kyG l j).t ≠ t) ∧ ∃ j : Ex w, wr = j.v) (fun i _ => l.length - (intOf i).toNat)
  case atStart => exact ⟨0, Nat.zero_le _, rfl, fun j hj => absurd hj (by omega), Ex.rf w, rfl⟩
  case round =>
    obtain ⟨q, hq, rfl, hb, j0, rfl⟩ := hrel
    have HB := hid hb
    clear hb
    by_cases hlt : q < l.length
    · obtain ⟨b, o, rfl, hbw, hc⟩ := HA.out (by omega)
      have hc := hc q hlt
      obtain ⟨c0, c1⟩ := hc
      by_cases hp : (kyG l q).t = t
      · have HR := hid (dII_hit hlt hp HB.out)
        have HP : Hid (((kyG l q).t == t) = true) := hid (by rw [beq_iff_eq]; exact hp)
        clear hp
        generalize kyG l q = x at *
        go_wp2_with ((go_at_call 86; refine (clDr_yes x b' t _ ((j0.cell _ _).trans hcell) HP.out).mono ?_; rintro e w' ⟨rfl, k, rfl⟩))
        go_ret
        refine ⟨by rw [HR.out]; rfl, ?_⟩
        (refine Ok.toEx ?_; (repeat (first | (with_reducible exact Ok.rf _) | (with_reducible refine Ok.alloc ?_ _) | (with_reducible refine Ok.ex ?_ _) | (with_reducible refine Ok.drew ?_) | (with_reducible refine Ok.setCellI ?_ _ _ _) | (with_reducible refine Ok.exb ?_ _))))
      · have HN : Hid (∀ j, j < q + 1 → (kyG l j).t ≠ t) := hid fun j hj => by
          rcases Nat.lt_or_ge j q with h | h
          · exact HB.out j h
          · obtain rfl : j = q := by omega
            exact hp
        have hp : ((kyG l q).t == t) = false := by rw [beq_eq_false_iff_ne]; exact hp
        generalize hx : kyG l q = x at *
        go_wp2_with ((go_at_call 86; refine (clDr_no x b' t _ ((j0.cell _ _).trans hcell) hp).mono ?_; rintro e w' ⟨rfl, k, rfl⟩))
        go_roundw
        case rel => exact ⟨q + 1, by omega, by go_num, HN.out, j0.tr k, rfl⟩
        case measure => simp [intOf]; omega
    · go_wp2
      go_ret
      exact ⟨by rw [dII_miss fun j hj => HB.out j (by omega)]; rfl, j0, rfl⟩
end
end Go.Proofs.Ytamajnhbfdakfaa
