/-
  Contracts of the comparison of scripts, and its law. Conditions: those typed at each theorem.
-/
import Derived.Test.YtpapphhbogngcaaDoorScD
import Derived.Laws.StructEq
namespace Go.Proofs.YtpapphhbogngcaaDoor
open Go.RowKit
/-- are two lines equal? -/
def eqLn (x y : Ln) : Bool := (x.kind == y.kind) && (x.name.toList == y.name.toList) && (x.value == y.value)
/-- are two scripts equal? -/
def sameL (a b : List Ln) : Bool := a.length == b.length && decide (∀ k (h : k < a.length) (h' : k < b.length), eqLn a[k] b[k] = true)
theorem sameL_no1 {a b : List Ln} (h : a.length ≠ b.length) : sameL a b = false := by simp [sameL, h]
theorem sameL_no2 {a b : List Ln} {k : Nat} (h : k < a.length) (h' : k < b.length) (he : eqLn a[k] b[k] = false) : sameL a b = false := by
  unfold sameL
  rw [decide_eq_false (fun H => by rw [H k h h'] at he; cases he)]
  simp
theorem sameL_yes {a b : List Ln} (h : a.length = b.length) (he : ∀ k (h : k < a.length) (h' : k < b.length), eqLn a[k] b[k] = true) : sameL a b = true := by
  unfold sameL
  rw [decide_eq_true he]
  simp [h]
theorem eqLn_cases (x y : Ln) : (eqLn x y = true ∧ (x.kind == y.kind) = true ∧ (x.name.toList == y.name.toList) = true ∧ (x.value == y.value) = true) ∨
    (eqLn x y = false ∧ ((x.kind == y.kind) = false ∨ ((x.kind == y.kind) = true ∧ (x.name.toList == y.name.toList) = false) ∨ ((x.kind == y.kind) = true ∧ (x.name.toList == y.name.toList) = true ∧ (x.value == y.value) = false))) := by
  unfold eqLn
  cases (x.kind == y.kind) <;> cases (x.name.toList == y.name.toList) <;> cases (x.value == y.value) <;> simp
section
set_option maxHeartbeats 3200000
theorem l15Same_any (A B : Option Addr) (c d : Nat) (a b : List Ln) (w : World) [ha : Lns w A a] [hb : Lns w B b] :
    Calls Tryd.prog 77 #[.slice A a.length c, .slice B b.length d] w fun e w' => e = .returned (.bool (sameL a b)) ∧ ∃ k : Ex w, w' = k.v := by
  (have hla := ha.len; have hlb := hb.len; have HA := hid ha.at; have HB := hid hb.at; by_cases hn : a.length = b.length)
  · go_enter Tryd.func77, Tryd.ntmps77
    go_wp2
    go_loopw [5] (fun t wr => ∃ q : Nat, q ≤ a.length ∧ t = .int .i64 q ∧ (∀ k (h : k < a.length) (h' : k < b.length), k < q → eqLn a[k] b[k] = true) ∧ ∃ j : Ex w, wr = j.v) (fun t _ => a.length - (intOf t).toNat)
    case atStart => exact ⟨0, Nat.zero_le _, rfl, fun k _ _ h => absurd h (by omega), Ex.rf w, rfl⟩
    case round =>
      obtain ⟨q, hq, rfl, hb, j0, rfl⟩ := hrel
      have HQ := hid hb
      clear hb
      by_cases hlt : q < a.length
      · have hlt' : q < b.length := by omega
        obtain ⟨x, o, rfl, hbw, hc⟩ := HA.out (by omega)
        obtain ⟨c0, c1, c2⟩ := hc q hlt
        obtain ⟨x', o', rfl, hbw', hc'⟩ := HB.out (by omega)
        obtain ⟨d0, d1, d2⟩ := hc' q hlt'
        rcases eqLn_cases a[q] b[q] with ⟨h0, h1, h2, h3⟩ | ⟨h0, h⟩
        · have HN : Hid (∀ k (h : k < a.length) (h' : k < b.length), k < q + 1 → eqLn a[k] b[k] = true) := hid fun k h h' hk => by
            rcases Nat.lt_or_ge k q with h1 | h1
            · exact HQ.out k h h' h1
            · obtain rfl : k = q := by omega
              exact h0
          clear h0
          go_wp2
          (refine wp_region_ex (by kernel_rfl) (by kernel_rfl) ?_; (repeat (go_big_quiet_step ((fail)))); refine wpQuiet_nil ?_; rintro _ ⟨k, rfl⟩)
          go_wp2
          go_roundw
          case rel => exact ⟨q + 1, by omega, by go_num, HN.out, j0.tr k, rfl⟩
          case measure => simp [intOf]; omega
        · have HR := hid (sameL_no2 hlt hlt' h0)
          clear h0
          rcases h with h1 | ⟨h1, h2⟩ | ⟨h1, h2, h3⟩
          all_goals
            go_wp2
            (refine wp_region_ex (by kernel_rfl) (by kernel_rfl) ?_; (repeat (go_big_quiet_step ((fail)))); refine wpQuiet_nil ?_; rintro _ ⟨k, rfl⟩)
            go_wp2
            go_ret
            refine ⟨by rw [HR.out]; rfl, ?_⟩
            (refine Ok.toEx ?_; (repeat (first | (with_reducible exact Ok.rf _) | (with_reducible refine Ok.alloc ?_ _) | (with_reducible refine Ok.ex ?_ _) | (with_reducible refine Ok.drew ?_) | (with_reducible refine Ok.setCellI ?_ _ _ _) | (with_reducible refine Ok.exb ?_ _))))
      · go_wp2
        go_ret
        exact ⟨by rw [sameL_yes hn fun k h h' => HQ.out k h h' (by omega)]; rfl, j0, rfl⟩
  · have HR := hid (sameL_no1 hn)
    go_enter Tryd.func77, Tryd.ntmps77
    go_wp2
    go_ret
    refine ⟨by rw [HR.out]; rfl, ?_⟩
    (refine Ok.toEx ?_; (repeat (first | (with_reducible exact Ok.rf _) | (with_reducible refine Ok.alloc ?_ _) | (with_reducible refine Ok.ex ?_ _) | (with_reducible refine Ok.drew ?_) | (with_reducible refine Ok.setCellI ?_ _ _ _) | (with_reducible refine Ok.exb ?_ _))))
theorem sSame_any (A B : Option Addr) (c d : Nat) (a b : List Ln) (w : World) [ha : Lns w A a] [hb : Lns w B b] :
    Calls Tryd.prog 34 #[.slice A a.length c, .slice B b.length d] w fun e w' => e = .returned (.bool (sameL a b)) ∧ ∃ k : Ex w, w' = k.v := by
  go_enter Tryd.func34, Tryd.ntmps34
  go_wp2_with ((go_at_call 77; refine (l15Same_any _ _ _ _ _ _ _).mono ?_; rintro e w' ⟨rfl, k, rfl⟩))
  (go_ret; refine ⟨by first | rfl | (simp; done), ?_⟩; (refine Ok.toEx ?_; (repeat (first | (with_reducible exact Ok.rf _) | (with_reducible refine Ok.alloc ?_ _) | (with_reducible refine Ok.ex ?_ _) | (with_reducible refine Ok.drew ?_) | (with_reducible refine Ok.setCellI ?_ _ _ _) | (with_reducible refine Ok.exb ?_ _)))))
end
end Go.Proofs.YtpapphhbogngcaaDoor
