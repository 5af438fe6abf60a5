/-
  Contracts of SameTrack, and its law. Conditions: those typed at each theorem.
-/
import Derived.Test.YtdhflckombkimaaDoorTrC
import Derived.Laws.StructEq
namespace Go.Proofs.YtdhflckombkimaaDoor
open Go.RowKit
/-- are two keys equal? -/
def eqKy (x y : Ky) : Bool := (x.t == y.t) && (x.v == y.v)
/-- are two lists of keys equal? -/
def sameK (a b : List Ky) : Bool := a.length == b.length && decide (∀ k (h : k < a.length) (h' : k < b.length), eqKy a[k] b[k] = true)
theorem sameK_no1 {a b : List Ky} (h : a.length ≠ b.length) : sameK a b = false := by simp [sameK, h]
theorem sameK_no2 {a b : List Ky} {k : Nat} (h : k < a.length) (h' : k < b.length) (he : eqKy a[k] b[k] = false) : sameK a b = false := by
  unfold sameK
  rw [decide_eq_false (fun H => by rw [H k h h'] at he; cases he)]
  simp
theorem sameK_yes {a b : List Ky} (h : a.length = b.length) (he : ∀ k (h : k < a.length) (h' : k < b.length), eqKy a[k] b[k] = true) : sameK a b = true := by
  unfold sameK
  rw [decide_eq_true he]
  simp [h]
theorem eqKy_cases (x y : Ky) : (eqKy x y = true ∧ (x.t == y.t) = true ∧ (x.v == y.v) = true) ∨ (eqKy x y = false ∧ ((x.t == y.t) = false ∨ ((x.t == y.t) = true ∧ (x.v == y.v) = false))) := by
  unfold eqKy
  cases (x.t == y.t) <;> cases (x.v == y.v) <;> simp
/-- are two tracks equal? -/
def sameT (n1 : ByteArray) (a : List Ky) (n2 : ByteArray) (b : List Ky) : Bool := (n1.toList == n2.toList) && sameK a b
section
set_option maxHeartbeats 3200000
theorem slEqK_any (A B : Option Addr) (c d : Nat) (a b : List Ky) (w : World) [ha : Rd 2 kC w A a] [hb : Rd 2 kC w B b] :
    Calls Tryd.prog 65 #[.slice A a.length c, .slice B b.length d] w fun e w' => e = .returned (.bool (sameK a b)) ∧ ∃ k : Ex w, w' = k.v := by
  (have hla := ha.len; have hlb := hb.len; have HA := hid ha.k; have HB := hid hb.k; by_cases hn : a.length = b.length)
  · go_enter Tryd.func65, Tryd.ntmps65
    go_wp2
    go_loopw [13] (fun t wr => ∃ q : Nat, q ≤ a.length ∧ t = .int .i64 q ∧ (∀ k (h : k < a.length) (h' : k < b.length), k < q → eqKy a[k] b[k] = true) ∧ ∃ j : Ex w, wr = j.v) (fun t _ => a.length - (intOf t).toNat)
    case atStart => exact ⟨0, Nat.zero_le _, rfl, fun k _ _ h => absurd h (by omega), Ex.rf w, rfl⟩
    case round =>
      obtain ⟨q, hq, rfl, hb, j0, rfl⟩ := hrel
      have HQ := hid hb
      clear hb
      by_cases hlt : q < a.length
      · have hlt' : q < b.length := by omega
        obtain ⟨x, o, rfl, hbw, hc⟩ := HA.out (by omega)
        obtain ⟨c0, c1⟩ := hc q hlt
        obtain ⟨x', o', rfl, hbw', hc'⟩ := HB.out (by omega)
        obtain ⟨d0, d1⟩ := hc' q hlt'
        rcases eqKy_cases a[q] b[q] with ⟨h0, h1, h2⟩ | ⟨h0, h⟩
        · have HN : Hid (∀ k (h : k < a.length) (h' : k < b.length), k < q + 1 → eqKy a[k] b[k] = true) := hid fun k h h' hk => by
            rcases Nat.lt_or_ge k q with h1 | h1
            · exact HQ.out k h h' h1
            · obtain rfl : k = q := by omega
              exact h0
          clear h0
          (go_wp2; (refine wp_region_ex (by kernel_rfl) (by kernel_rfl) ?_; (repeat (go_big_quiet_step ((fail)))); refine wpQuiet_nil ?_; rintro _ ⟨k, rfl⟩); go_wp2; go_roundw; (case rel => exact ⟨q + 1, by omega, by go_num, HN.out, j0.tr k, rfl⟩); (case measure => (simp [intOf]; omega)))
        · have HR := hid (sameK_no2 hlt hlt' h0)
          clear h0
          rcases h with h1 | ⟨h1, h2⟩
          all_goals
            go_wp2
            (refine wp_region_ex (by kernel_rfl) (by kernel_rfl) ?_; (repeat (go_big_quiet_step ((fail)))); refine wpQuiet_nil ?_; rintro _ ⟨k, rfl⟩)
            go_wp2
            go_ret
            refine ⟨by rw [HR.out]; rfl, ?_⟩
            (refine Ok.toEx ?_; (repeat (first | (with_reducible exact Ok.rf _) | (with_reducible refine Ok.alloc ?_ _) | (with_reducible refine Ok.ex ?_ _) | (with_reducible refine Ok.drew ?_) | (with_reducible refine Ok.setCellI ?_ _ _ _) | (with_reducible refine Ok.exb ?_ _))))
      · go_wp2
        go_ret
        exact ⟨by rw [sameK_yes hn fun k h h' => HQ.out k h h' (by omega)]; rfl, j0, rfl⟩
  · have HR := hid (sameK_no1 hn)
    go_enter Tryd.func65, Tryd.ntmps65
    go_wp2
    go_ret
    refine ⟨by rw [HR.out]; rfl, ?_⟩
    (refine Ok.toEx ?_; (repeat (first | (with_reducible exact Ok.rf _) | (with_reducible refine Ok.alloc ?_ _) | (with_reducible refine Ok.ex ?_ _) | (with_reducible refine Ok.drew ?_) | (with_reducible refine Ok.setCellI ?_ _ _ _) | (with_reducible refine Ok.exb ?_ _))))
theorem iSameT_any (n1 : ByteArray) (A : Option Addr) (c : Nat) (a : List Ky) (n2 : ByteArray) (B : Option Addr) (d : Nat) (b : List Ky) (w : World) [ha : Rd 2 kC w A a] [hb : Rd 2 kC w B b] :
    Calls Tryd.prog 32 #[.agg #[.string n1, .slice A a.length c], .agg #[.string n2, .slice B b.length d]] w fun e w' => e = .returned (.bool (sameT n1 a n2 b)) ∧ ∃ k : Ex w, w' = k.v := by
  cases hn : (n1.toList == n2.toList)
  · have HS : Hid (sameT n1 a n2 b = false) := hid (by unfold sameT; rw [hn]; rfl)
    go_enter Tryd.func32, Tryd.ntmps32
    go_wp2
    go_ret
    refine ⟨by rw [HS.out]; rfl, ?_⟩
    (refine Ok.toEx ?_; (repeat (first | (with_reducible exact Ok.rf _) | (with_reducible refine Ok.alloc ?_ _) | (with_reducible refine Ok.ex ?_ _) | (with_reducible refine Ok.drew ?_) | (with_reducible refine Ok.setCellI ?_ _ _ _) | (with_reducible refine Ok.exb ?_ _))))
  · have HS : Hid (sameT n1 a n2 b = sameK a b) := hid (by unfold sameT; rw [hn]; rfl)
    go_enter Tryd.func32, Tryd.ntmps32
    go_wp2_with ((go_at_call 65; refine (slEqK_any _ _ _ _ a b _).mono ?_; rintro e w' ⟨rfl, k, rfl⟩))
    go_ret
    refine ⟨by rw [HS.out]; rfl, ?_⟩
    (refine Ok.toEx ?_; (repeat (first | (with_reducible exact Ok.rf _) | (with_reducible refine Ok.alloc ?_ _) | (with_reducible refine Ok.ex ?_ _) | (with_reducible refine Ok.drew ?_) | (with_reducible refine Ok.setCellI ?_ _ _ _) | (with_reducible refine Ok.exb ?_ _))))
end
end Go.Proofs.YtdhflckombkimaaDoor
