/-
  The reading of choices: next, pick, text, among, one. Conditions: those typed at each theorem.
  The reading of choices: one of some numbers; yes or no. Conditions: those typed at each theorem.
-/
import Derived.Test.YtonmeffhelaohaaDoorV12
import Derived.Test.YtonmeffhelaohaaDoorV5
import Derived.Test.YtonmeffhelaohaaDoorV7
namespace Go.Proofs.YtonmeffhelaohaaDoor
open Go.RowKit
theorem frozen_setS (w : World) (p q : Addr) (v : Value) : (w.setCell p v).frozen? q = w.frozen? q := by simp
theorem Src.set1 {w : World} {b n m p : Nat} (h : Src w b n) (hp : p ≤ m) : Src (w.setCell ⟨b, 1, none⟩ (.int .i64 p)) b m := by
  obtain ⟨A, l, c, q, s, h1, h2, h3, h4, h5, h6, h7, h8, h9⟩ := h.h
  refine ⟨A, l, c, p, s, by rw [size_setCell']; exact h1, hp, h3, h4, ?_, ?_, ?_, fun o => by rw [frozen_setS]; exact h8 o, fun h0 => ?_⟩
  · rw [World.cell?_setCell_other _ _ _ _ (by simp)]; exact h5
  · rw [cell_setI, h6]; rfl
  · rw [World.cell?_setCell_other _ _ _ _ (by simp)]; exact h7
  · obtain ⟨b', o, e1, e2, e3⟩ := h9 h0
    exact ⟨b', o, e1, e2, fun k hk => by rw [World.cell?_setCell_other _ _ _ _ (fun e => by have := congrArg Addr.block e; simp at this; omega)]; exact e3 k hk⟩
theorem Src.set2 {w : World} {b n : Nat} {s : Int} (h : Src w b n) : Src (w.setCell ⟨b, 2, none⟩ (.int .u64 s)) b n := by
  obtain ⟨A, l, c, q, s', h1, h2, h3, h4, h5, h6, h7, h8, h9⟩ := h.h
  refine ⟨A, l, c, q, s, by rw [size_setCell']; exact h1, h2, h3, h4, ?_, ?_, ?_, fun o => by rw [frozen_setS]; exact h8 o, fun h0 => ?_⟩
  · rw [World.cell?_setCell_other _ _ _ _ (by simp)]; exact h5
  · rw [World.cell?_setCell_other _ _ _ _ (by simp)]; exact h6
  · rw [cell_setI, h7]; rfl
  · obtain ⟨b', o, e1, e2, e3⟩ := h9 h0
    exact ⟨b', o, e1, e2, fun k hk => by rw [World.cell?_setCell_other _ _ _ _ (fun e => by have := congrArg Addr.block e; simp at this; omega)]; exact e3 k hk⟩
theorem Src.stored {b n : Nat} {w : World} {p : Nat} {s : Int} (h : Src w b n) (hp : p ≤ n) : Src ((w.setCell ⟨b, 1, none⟩ (.int .i64 ((p : Int) + 1))).setCell ⟨b, 2, none⟩ (.int .u64 s)) b (n + 1) := by
  have h1 := Src.set1 (p := p + 1) (m := n + 1) h (by omega)
  rw [show ((p + 1 : Nat) : Int) = (p : Int) + 1 by omega] at h1
  exact Src.set2 h1
theorem DrK.stored {b n p : Nat} {a w : World} {s : Int} (h : DrK b a w) [hs : Src w b n] (hp : p ≤ n) (k : Ex ((w.setCell ⟨b, 1, none⟩ (.int .i64 ((p : Int) + 1))).setCell ⟨b, 2, none⟩ (.int .u64 s))) : ∃ j : Dr b (n + 1) a, k.v = j.v := by
  haveI := Src.stored (s := s) hs hp
  exact DrK.fin (((h.self 1 _).self 2 _).ex k) (Nat.le_refl _)
theorem wrap_u64_lt (n : Int) : IntKind.u64.wrap n < 18446744073709551616 := by simp [IntKind.wrap, IntKind.bits, IntKind.signed]; omega
theorem and255 (x : Int) (h0 : 0 ≤ x) (h1 : x < 18446744073709551616) : 0 ≤ bits .and .u64 x 255 ∧ bits .and .u64 x 255 ≤ 255 := by
  obtain ⟨n, rfl⟩ := Int.eq_ofNat_of_zero_le h0
  have := u64_and_nat n 255 (by omega) (by omega)
  rw [show ((255 : Nat) : Int) = 255 from rfl] at this
  rw [this]
  have := Nat.and_le_right (n := n) (m := 255)
  omega
section
set_option maxHeartbeats 1600000
set_option maxRecDepth 20000
/-- what a draw of a number leaves -/
def DrInt (b n : Nat) (p : Int → Prop) (w : World) (e : Ending) (w' : World) : Prop := ∃ x : Int, p x ∧ e = .returned (.int .i64 x) ∧ ∃ k : Dr b n w, w' = k.v
theorem from_any (A : Option Addr) (c : Nat) (l : List Int) (w : World) [hl : Rd 1 byC w A l] (hb : ∀ x ∈ l, 0 ≤ x ∧ x ≤ 255) :
    Calls Tryd.prog 33 #[.slice A l.length c] w fun e w' => e = .returned (.pointer (some ⟨w.heap.size, 0, none⟩)) ∧ ∃ k : Ex w, w' = k.v ∧ Src k.v w.heap.size 0 := by
  have hlen := hl.len
  have HL : Hid (0 < l.length → ∃ b' o, A = some ⟨b', o, none⟩ ∧ b' < w.heap.size ∧ ∀ (k : Nat) (h : k < l.length), w.cell? ⟨b', o + k, none⟩ = some (.int .u8 l[k])) := hid fun h0 => by
    obtain ⟨b', o, e, hb', hc⟩ := hl.at_ h0
    exact ⟨b', o, e, hb'.h, fun k hk => by have := hc k hk 0 _ rfl; simpa using this⟩
  go_enter Tryd.func33, Tryd.ntmps33
  go_wp2
  go_ret
  refine ⟨by first | rfl | (simp; done), ex_and (fun W => Src W w.heap.size 0) (by (refine Ok.toEx ?_; (repeat (first | (with_reducible exact Ok.rf _) | (with_reducible refine Ok.alloc ?_ _) | (with_reducible refine Ok.ex ?_ _) | (with_reducible refine Ok.drew ?_) | (with_reducible refine Ok.setCellI ?_ _ _ _) | (with_reducible refine Ok.exb ?_ _))))) ?_⟩
  refine ⟨A, l, c, 0, 0, by simp, Nat.le_refl _, hlen, hb, by simp [go_sem], by simp [go_sem], by simp [go_sem], fun o => by simp [go_sem], fun h0 => ?_⟩
  obtain ⟨b', o, e1, e2, e3⟩ := HL.out h0
  haveI : LtW b' w := ⟨e2⟩
  exact ⟨b', o, e1, e2, fun k hk => by rw [cell_allocI]; exact e3 k hk⟩
theorem next_any (b : Nat) {n : Nat} (w : World) [hs : Src w b n] (hn : n ≤ 1000000000) : Calls Tryd.prog 79 #[.pointer (some ⟨b, 0, none⟩)] w (DrInt b (n + 1) (fun x => 0 ≤ x ∧ x ≤ 255) w) := by
  haveI := hs.ltw
  have HS := hid hs
  obtain ⟨A, l, c, p, s, h1, h2, h3, h4, h5, h6, h7, h8, h9⟩ := hs.h
  have f1 := h8 1
  have f2 := h8 2
  have g0 : (0 : Int) ≤ (p : Int) := by omega
  have g1 : IntKind.i64.wrap ((p : Int) + 1) = ((p + 1 : Nat) : Int) := by rw [IntWalk.i64_in _ (by omega)]; simp
  clear h8 hs
  by_cases hp : p < l.length
  · obtain ⟨b', o, rfl, hb', hc⟩ := h9 (by omega)
    have hx := h4 l[p] (List.getElem_mem hp)
    have hc1 := hc p hp
    haveI : LtW b' w := ⟨by omega⟩
    haveI : NeB b b' := ⟨by omega⟩
    clear h9 h4 hc
    generalize l[p] = x at *
    obtain ⟨hx1, hx2⟩ := hx
    have g2 : (p : Int) < (l.length : Int) := by omega
    have g3 : ((p + 1 : Nat) : Int) ≤ (l.length : Int) := by omega
    have g4 : IntKind.i64.wrap x = x := IntWalk.i64_in _ (by omega)
    go_enter Tryd.func79, Tryd.ntmps79
    go_wp2
    (refine wp_region_ex (by kernel_rfl) (by kernel_rfl) ?_; (repeat (go_big_quiet_step ((fail)))); refine wpQuiet_nil ?_; rintro _ ⟨k, rfl⟩)
    go_wp2
    (refine wp_region_ex (by kernel_rfl) (by kernel_rfl) ?_; (repeat (go_big_quiet_step ((fail)))); refine wpQuiet_nil ?_; rintro _ ⟨k, rfl⟩)
    go_wp2
    (refine wp_region_ex (by kernel_rfl) (by kernel_rfl) ?_; (repeat (go_big_quiet_step ((fail)))); refine wpQuiet_nil ?_; rintro _ ⟨k, rfl⟩)
    go_wp2
    go_ret
    exact ⟨x, ⟨hx1, hx2⟩, by first | rfl | (simp; done) | (simp [g4]; done), (by haveI := HS.out; exact DrK.stored (DrK.ex (DrK.ex (DrK.rf b w) _) _) h2 k)⟩
  · have g2 : ¬ (p : Int) < (l.length : Int) := by omega
    have g3 : ¬ ((p + 1 : Nat) : Int) ≤ (l.length : Int) := by omega
    have g4 : ¬ (p : Int) + 1 ≤ (l.length : Int) := by omega
    clear h9 h4
    go_enter Tryd.func79, Tryd.ntmps79
    go_wp2
    (refine wp_region_ex (by kernel_rfl) (by kernel_rfl) ?_; (repeat (go_big_quiet_step ((fail)))); refine wpQuiet_nil ?_; rintro _ ⟨k, rfl⟩)
    go_wp2
    (refine wp_region_ex (by kernel_rfl) (by kernel_rfl) ?_; (repeat (go_big_quiet_step ((fail)))); refine wpQuiet_nil ?_; rintro _ ⟨k, rfl⟩)
    go_wp2
    go_ret
    have hb := and255 (IntKind.u64.wrap (IntKind.u64.wrap (IntKind.u64.wrap (s * 6364136223846793005)) + 1442695040888963407) / 1099511627776) (by have := wrap_u64_nonneg (IntKind.u64.wrap (IntKind.u64.wrap (s * 6364136223846793005)) + 1442695040888963407); omega) (by have := wrap_u64_lt (IntKind.u64.wrap (IntKind.u64.wrap (s * 6364136223846793005)) + 1442695040888963407); omega)
    obtain ⟨hb1, hb2⟩ := hb
    have hw : RowKit.wrap64 (bits .and .u64 (IntKind.u64.wrap (IntKind.u64.wrap (IntKind.u64.wrap (s * 6364136223846793005)) + 1442695040888963407) / 1099511627776) 255) = bits .and .u64 (IntKind.u64.wrap (IntKind.u64.wrap (IntKind.u64.wrap (s * 6364136223846793005)) + 1442695040888963407) / 1099511627776) 255 := IntWalk.wrap64_in _ ⟨by omega, by omega⟩
    exact ⟨_, ⟨hb1, hb2⟩, by (simp; exact hw), (by haveI := HS.out; exact DrK.stored (DrK.ex (DrK.rf b w) _) h2 k)⟩
theorem pick_any (b : Nat) {n : Nat} (m : Int) (w : World) [hs : Src w b n] (hn : n ≤ 100000000) (hm : m ≤ 1000000000) : Calls Tryd.prog 59 #[.pointer (some ⟨b, 0, none⟩), .int .i64 m] w (DrInt b (n + 2) (fun x => 0 ≤ x ∧ (m ≤ 1 ∧ x = 0 ∨ x < m)) w) := by
  by_cases h1 : m ≤ 1
  · go_enter Tryd.func59, Tryd.ntmps59
    go_wp2
    go_ret
    exact ⟨0, ⟨Int.le_refl _, .inl ⟨h1, rfl⟩⟩, rfl, (DrK.fin (by (repeat (first | (with_reducible exact DrK.rf _ _) | (with_reducible refine DrK.alloc ?_ _) | (with_reducible refine DrK.dr ?_ _) | (with_reducible refine DrK.ex ?_ _) | (with_reducible refine DrK.drew ?_) | (with_reducible refine DrK.set ?_ _ _ _)))) (by omega))⟩
  · by_cases h2 : 200 < m
    · go_enter Tryd.func59, Tryd.ntmps59
      go_wp2_with ((go_at_call 79; go_loud (refine (next_any b _ ?_).mono ?_); (· omega); rintro e w' ⟨x, ⟨hx1, hx2⟩, rfl, k, rfl⟩))
      go_ret
      exact ⟨_, ⟨Int.emod_nonneg _ (by omega), .inr (Int.emod_lt_of_pos _ (by omega))⟩, rfl, (DrK.fin (by (repeat (first | (with_reducible exact DrK.rf _ _) | (with_reducible refine DrK.alloc ?_ _) | (with_reducible refine DrK.dr ?_ _) | (with_reducible refine DrK.ex ?_ _) | (with_reducible refine DrK.drew ?_) | (with_reducible refine DrK.set ?_ _ _ _)))) (by omega))⟩
    · go_enter Tryd.func59, Tryd.ntmps59
      go_wp2_with ((go_at_call 79; go_loud (refine (next_any b _ ?_).mono ?_); (· omega); rintro e w' ⟨x, ⟨hx1, hx2⟩, rfl, k, rfl⟩))
      go_ret
      exact ⟨_, ⟨Int.emod_nonneg _ (by omega), .inr (Int.emod_lt_of_pos _ (by omega))⟩, rfl, (DrK.fin (by (repeat (first | (with_reducible exact DrK.rf _ _) | (with_reducible refine DrK.alloc ?_ _) | (with_reducible refine DrK.dr ?_ _) | (with_reducible refine DrK.ex ?_ _) | (with_reducible refine DrK.drew ?_) | (with_reducible refine DrK.set ?_ _ _ _)))) (by omega))⟩
theorem rd_lit (w : World) (e : TypeId) (cs : Array Value) (l : List ByteArray) (hl : l.length ≤ 1000) (h : cs = (l.map Value.string).toArray) : Rd 1 sC (w.alloc (.cells cs e)) (some ⟨w.heap.size, 0, none⟩) l :=
  ⟨by omega, fun _ => ⟨w.heap.size, 0, rfl, inferInstance, fun k hk j v hv => by
    subst h
    cases j with
    | zero =>
      simp [sC] at hv
      subst hv
      simp [go_sem, hk]
    | succ j => simp [sC] at hv⟩⟩
theorem text_any (b : Nat) {n : Nat} (A : Option Addr) (c : Nat) (l : List ByteArray) (w : World) [hs : Src w b n] (hl : Rd 1 sC w A l) (hA : NaB b A) (hn : n ≤ 100000000) (h0 : 0 < l.length) (h1 : l.length ≤ 1000) (hz : ∀ s ∈ l, s.size ≤ 1000) :
    Calls Tryd.prog 80 #[.pointer (some ⟨b, 0, none⟩), .slice A l.length c] w fun e w' => ∃ s : ByteArray, s.size ≤ 1000 ∧ e = .returned (.string s) ∧ ∃ k : Dr b (n + 2) w, w' = k.v := by
  obtain ⟨g, o, rfl, hg, hc⟩ := hl.at_ h0
  haveI : NeB g b := ⟨hA.h g o rfl⟩
  have HC := hid hc
  have HZ := hid hz
  clear hc hz hl hA
  go_enter Tryd.func80, Tryd.ntmps80
  go_wp2_with (go_at_call 59; go_loud (refine (pick_any b _ _ ?_ ?_).mono ?_); (· omega); (· omega); rintro e w' ⟨x, ⟨hx1, hx2⟩, rfl, k, rfl⟩; obtain ⟨i, rfl⟩ := Int.eq_ofNat_of_zero_le hx1; have hi : i < l.length := (by omega); have hci := HC.out i hi 0 _ rfl; have hii : (i : Int) < (l.length : Int) := (by omega); have hi0 : (0 : Int) ≤ (i : Int) := (by omega); simp only [Nat.mul_one, Nat.add_zero] at hci)
  go_ret
  exact ⟨l[i], HZ.out _ (List.getElem_mem hi), rfl, (DrK.fin (by (repeat (first | (with_reducible exact DrK.rf _ _) | (with_reducible refine DrK.alloc ?_ _) | (with_reducible refine DrK.dr ?_ _) | (with_reducible refine DrK.ex ?_ _) | (with_reducible refine DrK.drew ?_) | (with_reducible refine DrK.set ?_ _ _ _)))) (by omega))⟩
/-- is v a short text? -/
def okS : Value → Bool
  | .string s => decide (s.size ≤ 1000)
  | _ => false
theorem okS_of {v : Value} (h : okS v = true) : ∃ s, v = .string s ∧ s.size ≤ 1000 := by
  cases v <;> simp [okS] at h
  exact ⟨_, rfl, h⟩
theorem text_lit (b : Nat) {n : Nat} (w0 : World) (e : TypeId) (cs : Array Value) (g m c : Nat) [hs : Src (w0.alloc (.cells cs e)) b n] (hg : g = w0.heap.size) (hb : b < w0.heap.size) (hn : n ≤ 100000000) (h0 : 0 < m) (h1 : m ≤ 1000) (hm : m = cs.size) (hz : cs.toList.all okS = true) :
    Calls Tryd.prog 80 #[.pointer (some ⟨b, 0, none⟩), .slice (some ⟨g, 0, none⟩) m c] (w0.alloc (.cells cs e)) fun e' w' => ∃ s : ByteArray, s.size ≤ 1000 ∧ e' = .returned (.string s) ∧ ∃ k : Dr b (n + 2) (w0.alloc (.cells cs e)), w' = k.v := by
  subst hg
  haveI : NeB w0.heap.size b := ⟨by omega⟩
  have HC : Hid (∀ i, i < m → ∃ s : ByteArray, (w0.alloc (.cells cs e)).cell? ⟨w0.heap.size, i, none⟩ = some (.string s) ∧ s.size ≤ 1000) := hid fun i hi => by
    have hi' : i < cs.size := by omega
    obtain ⟨s, h2, h3⟩ := okS_of (List.all_eq_true.1 hz cs[i] (by simp))
    refine ⟨s, ?_, h3⟩
    rw [← h2]
    simp [go_sem, hi']
  clear hz hm
  generalize hW : w0.alloc (.cells cs e) = W at *
  haveI : LtW w0.heap.size W := by rw [← hW]; infer_instance
  generalize w0.heap.size = g at *
  clear hW
  go_enter Tryd.func80, Tryd.ntmps80
  go_wp2_with (go_at_call 59; go_loud (refine (pick_any b _ _ ?_ ?_).mono ?_); (· omega); (· omega); rintro e w' ⟨x, ⟨hx1, hx2⟩, rfl, k, rfl⟩; obtain ⟨i, rfl⟩ := Int.eq_ofNat_of_zero_le hx1; have hi : i < m := (by omega); obtain ⟨s, hci, hs1⟩ := HC.out i hi; have hii : (i : Int) < (m : Int) := (by omega); have hi0 : (0 : Int) ≤ (i : Int) := (by omega))
  go_ret
  exact ⟨s, hs1, rfl, (DrK.fin (by (repeat (first | (with_reducible exact DrK.rf _ _) | (with_reducible refine DrK.alloc ?_ _) | (with_reducible refine DrK.dr ?_ _) | (with_reducible refine DrK.ex ?_ _) | (with_reducible refine DrK.drew ?_) | (with_reducible refine DrK.set ?_ _ _ _)))) (by omega))⟩
end
end Go.Proofs.YtonmeffhelaohaaDoor
namespace Go.Proofs.YtonmeffhelaohaaDoor
open Go.RowKit
section
set_option maxHeartbeats 1600000
set_option maxRecDepth 20000
/-- what a draw of yes or no leaves -/
def DrB (b n : Nat) (w : World) (e : Ending) (w' : World) : Prop := ∃ x : Int, e = .returned (.bool (x == 0)) ∧ ∃ k : Dr b n w, w' = k.v
theorem srcOne_any (b : Nat) {n : Nat} (m : Int) (w : World) [hs : Src w b n] (hn : n ≤ 100000000) (hm : m ≤ 1000000000) : Calls Tryd.prog 81 #[.pointer (some ⟨b, 0, none⟩), .int .i64 m] w (DrB b (n + 2) w) := by
  go_enter Tryd.func81, Tryd.ntmps81
  go_wp2_with (go_at_call 59; go_loud (refine (pick_any b _ _ ?_ ?_).mono ?_); (· omega); (· omega); rintro e w' ⟨x, ⟨hx1, hx2⟩, rfl, k, rfl⟩)
  go_ret
  exact ⟨x, rfl, (DrK.fin (by (repeat (first | (with_reducible exact DrK.rf _ _) | (with_reducible refine DrK.alloc ?_ _) | (with_reducible refine DrK.dr ?_ _) | (with_reducible refine DrK.ex ?_ _) | (with_reducible refine DrK.drew ?_) | (with_reducible refine DrK.set ?_ _ _ _)))) (by omega))⟩
end
end Go.Proofs.YtonmeffhelaohaaDoor
