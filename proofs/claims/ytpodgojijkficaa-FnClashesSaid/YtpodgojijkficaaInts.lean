/-
  Slices of numbers: the laws' helpers. Conditions: those typed at each theorem.
-/
import Derived.Test.YtpodgojijkficaaCore
import Derived.Test.YtpodgojijkficaaRow
namespace Go.Proofs.Ytpodgojijkficaa
open Go.RowKit
/-- the cells of a number -/
def iC (n : Int) : List Value := [.int .i64 n]
theorem Filling.step1 {α : Type} {e : TypeId} {f : α → List Value} {w : World} {b : Nat} {l : List α} {q : Nat} (h : Filling e 1 f w b l q) (hq : q < l.length) {v : Value} (hl : f l[q] = [v]) : Filling e 1 f (w.setCell ⟨b, q, none⟩ v) b l (q + 1) := by
  have := h.step hq (by rw [hl]; rfl)
  rw [hl, Nat.mul_one] at this
  exact this
theorem But.rf (A : Option Addr) (w : World) : But A w w := ⟨Nat.le_refl _, fun _ _ _ => rfl⟩
theorem But.set {w w' : World} {b o : Nat} (h : But (some ⟨b, o, none⟩) w w') (p : Nat) (v : Value) : But (some ⟨b, o, none⟩) w (w'.setCell ⟨b, p, none⟩ v) :=
  ⟨by rw [size_setCell']; exact h.size, fun x hx hne => by
    rw [World.setCell, Array.getElem?_modify, if_neg (fun e => hne o (by rw [show b = x from e]))]
    exact h.block x hx hne⟩
theorem But.ex {A : Option Addr} {w w' : World} (h : But A w w') (k : Ex w') : But A w k.v :=
  ⟨Nat.le_trans h.size k.size, fun x hx hne => (k.block (Nat.lt_of_lt_of_le hx h.size)).trans (h.block x hx hne)⟩
/-- the numbers that marking lays -/
def iMk (n : Nat) (k : Int) : List Int := (List.range n).map fun (i : Nat) => k + (i : Int)
theorem iMk_len (n : Nat) (k : Int) : (iMk n k).length = n := by simp [iMk]
theorem iMk_get {n : Nat} {k : Int} {i : Nat} (h : i < (iMk n k).length) : (iMk n k)[i] = k + i := by simp [iMk]
theorem Rd.i {w : World} {A : Option Addr} {l : List Int} (h : Rd 1 iC w A l) : 0 < l.length → ∃ b o, A = some ⟨b, o, none⟩ ∧ LtW b w ∧ ∀ (k : Nat) (h : k < l.length), w.cell? ⟨b, o + k, none⟩ = some (.int .i64 l[k]) := fun h0 => by
  obtain ⟨b, o, e, hb, hc⟩ := h.at_ h0
  exact ⟨b, o, e, hb, fun k hk => by have := hc k hk 0 _ rfl; rwa [Nat.mul_one] at this⟩
section
set_option maxHeartbeats 1600000
theorem infoI64 : (Try.prog.info? 2).map (fun i => (i.zero, i.size, i.bytes)) = some (some (.int .i64 0), 1, 8) := by kernel_rfl
theorem eqI_any (A B : Option Addr) (c d : Nat) (l : List Int) (w : World) [hl : Rd 1 iC w A l] [hm : Rd 1 iC w B l] :
    Calls Try.prog 31 #[.slice A l.length c, .slice B l.length d] w fun e w' => e = .returned (.bool true) ∧ ∃ k : Ex w, w' = k.v := by
  have hlen := hl.len
  have HA := hid hl.i
  have HB := hid hm.i
  go_enter Try.func31, Try.ntmps31
  go_wp2
  go_loopw [5] (fun t wr => ∃ q : Nat, q ≤ l.length ∧ t = .int .i64 q ∧ ∃ j : Ex w, wr = j.v) (fun t _ => l.length - (intOf t).toNat)
  case atStart => exact ⟨0, Nat.zero_le _, rfl, Ex.rf w, rfl⟩
  case round =>
    obtain ⟨q, hq, rfl, j0, rfl⟩ := hrel
    by_cases hlt : q < l.length
    · obtain ⟨b, o, rfl, hbw, hc⟩ := HA.out (by omega)
      have c0 := hc q hlt
      obtain ⟨b', o', rfl, hbw', hc'⟩ := HB.out (by omega)
      have d0 := hc' q hlt
      go_wp2
      (refine wp_region_ex (by kernel_rfl) (by kernel_rfl) ?_; (repeat (go_big_quiet_step ((fail)))); refine wpQuiet_nil ?_; rintro _ ⟨k, rfl⟩)
      go_wp2
      go_roundw
      case rel => exact ⟨q + 1, by omega, by go_num, j0.tr k, rfl⟩
      case measure => simp [intOf]; omega
    · go_wp2
      go_ret
      exact ⟨rfl, j0, rfl⟩
theorem markI_any (W0 : World) (A : Option Addr) (c : Nat) (l : List Int) (k0 : Int) (w : World) [hu : Up W0 w] [hf : Fr W0 A] [ho : Ow 1 iC w A l] (hn : l.length ≤ 1048576) (h0 : 0 ≤ k0) (h1 : k0 ≤ 1048576) :
    Calls Try.prog 33 #[.slice A l.length c, .int .i64 k0] w fun e w' => e = .returned (.int .i64 (k0 + l.length)) ∧ ∃ k : Ex W0, w' = k.v ∧ Ow 1 iC k.v A (iMk l.length k0) ∧ But A w k.v := by
  by_cases hl0 : 0 < l.length
  · obtain ⟨b, rfl, hw⟩ := ho.own hl0
    have hle : LeB W0.heap.size b := ⟨hf.h b 0 none rfl⟩
    have hml := iMk_len l.length k0
    obtain ⟨e, N, F, hN, hr, -⟩ := hw.row
    have hr0 := hid (Filling.start (f := iC) (l := iMk l.length k0) hr (by rw [hml]; exact hN))
    clear hr hw
    go_enter Try.func33, Try.ntmps33
    go_wp2
    go_loopw [5, 1] (fun t u wr => ∃ q : Nat, q ≤ l.length ∧ t = .int .i64 q ∧ u = .int .i64 (k0 + q) ∧ ∃ j : Ex W0, wr = j.v ∧ Filling e 1 iC j.v b (iMk l.length k0) q ∧ But (some ⟨b, 0, none⟩) w j.v) (fun t _ _ => l.length - (intOf t).toNat)
    case atStart => exact ⟨0, Nat.zero_le _, rfl, by go_num, ⟨w, hu.h⟩, rfl, hr0.out, But.rf _ _⟩
    case round =>
      obtain ⟨q, hq, rfl, rfl, j0, rfl, hF, hB⟩ := hrel
      have HB := hid hB
      clear hB
      by_cases hlt : q < l.length
      · have hb1 := hF.lt
        obtain ⟨_, r0, f0⟩ := hF.cell q (by omega)
        have HF := hid hF
        clear hF
        go_wp2
        go_roundw
        case rel =>
          refine ⟨q + 1, by omega, by go_num, by go_num, ex_and (fun W => Filling _ 1 iC W b _ (q + 1) ∧ But _ w W) ?_ ⟨HF.out.step1 (by omega) (by rw [iMk_get]; rfl), HB.out.set _ _⟩⟩
          (refine Ok.toEx ?_; (repeat (first | (with_reducible exact Ok.rf _) | (with_reducible refine Ok.alloc ?_ _) | (with_reducible refine Ok.ex ?_ _) | (with_reducible refine Ok.drew ?_) | (with_reducible refine Ok.setCellI ?_ _ _ _) | (with_reducible refine Ok.exb ?_ _))))
        case measure => simp [intOf]; omega
      · obtain rfl : q = l.length := by omega
        go_wp2
        go_ret
        exact ⟨rfl, j0, rfl, ⟨fun _ => ⟨b, rfl, hF.done (by omega) (by omega) fun _ => rfl⟩⟩, HB.out⟩
  · have hz : l = [] := List.eq_nil_of_length_eq_zero (by omega)
    subst hz
    go_enter Try.func33, Try.ntmps33
    go_wp2
    go_loop [5, 1] (fun t u => t = .int .i64 0 ∧ u = .int .i64 k0) (fun t _ => 0)
    case atStart => exact ⟨rfl, rfl⟩
    case round =>
      obtain ⟨rfl, rfl⟩ := hrel
      go_wp2
      go_ret
      exact ⟨by simp, ⟨w, hu.h⟩, rfl, inferInstanceAs (Ow 1 iC w A ([] : List Int)), But.rf _ _⟩
theorem heldI_any (A : Option Addr) (c n : Nat) (k0 : Int) (w : World) [hl : Rd 1 iC w A (iMk n k0)] (hn : n ≤ 1048576) (h0 : 0 ≤ k0) (h1 : k0 ≤ 1048576) :
    Calls Try.prog 34 #[.slice A n c, .int .i64 k0] w fun e w' => e = .returned (.int .i64 (k0 + n)) ∧ ∃ k : Ex w, w' = k.v := by
  have hml := iMk_len n k0
  have HA := hid hl.i
  go_enter Try.func34, Try.ntmps34
  go_wp2
  go_loop [5, 1] (fun t u => ∃ q : Nat, q ≤ n ∧ t = .int .i64 q ∧ u = .int .i64 (k0 + q)) (fun t _ => n - (intOf t).toNat)
  case atStart => exact ⟨0, Nat.zero_le _, rfl, by go_num⟩
  case round =>
    obtain ⟨q, hq, rfl, rfl⟩ := hrel
    by_cases hlt : q < n
    · obtain ⟨b, o, rfl, hbw, hc⟩ := HA.out (by omega)
      have c0 := hc q (by omega)
      rw [iMk_get] at c0
      clear hc
      go_wp2
      go_round
      case rel => exact ⟨q + 1, by omega, by go_num, by go_num⟩
      case measure => simp [intOf]; omega
    · obtain rfl : q = n := by omega
      go_wp2
      go_ret
      exact ⟨rfl, Ex.rf w, rfl⟩
end
end Go.Proofs.Ytpodgojijkficaa
