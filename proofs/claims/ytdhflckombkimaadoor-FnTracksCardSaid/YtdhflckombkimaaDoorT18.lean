/-
  Contracts of SameTrack, and its law. Conditions: those typed at each theorem.
  Law of SameTrack. Conditions: those typed at each theorem.
  Contracts of the value of keys at a time. Conditions: those typed at each theorem.
-/
import Derived.Test.YtdhflckombkimaaDoorT15
import Derived.Laws.StructEq
namespace Go.Proofs.YtdhflckombkimaaDoor
open Go.RowKit
/-- are two keys equal? -/
def eqKy (x y : Ky) : Bool := (x.t == y.t) && (x.v == y.v)
/-- are two lists of keys equal? -/
def sameK (a b : List Ky) : Bool := a.length == b.length && decide (∀ k (h : k < a.length) (h' : k < b.length), eqKy a[k] b[k] = true)
theorem sameK_no1 {a b : List Ky} (h : a.length ≠ b.length) : sameK a b = false := by simp [sameK, h]
theorem sameK_no2 {a b : List Ky} {k : Nat} (h : k < a.length) (h' : k < b.length) (he : eqKy a[k] b[k] = false) : sameK a b = false := by
  unfold sameK
  rw [decide_eq_false (fun H => by rw [H k h h'] at he; cases he)]
  simp
theorem sameK_yes {a b : List Ky} (h : a.length = b.length) (he : ∀ k (h : k < a.length) (h' : k < b.length), eqKy a[k] b[k] = true) : sameK a b = true := by
  unfold sameK
  rw [decide_eq_true he]
  simp [h]
theorem eqKy_cases (x y : Ky) : (eqKy x y = true ∧ (x.t == y.t) = true ∧ (x.v == y.v) = true) ∨ (eqKy x y = false ∧ ((x.t == y.t) = false ∨ ((x.t == y.t) = true ∧ (x.v == y.v) = false))) := by
  unfold eqKy
  cases (x.t == y.t) <;> cases (x.v == y.v) <;> simp
/-- are two tracks equal? -/
def sameT (n1 : ByteArray) (a : List Ky) (n2 : ByteArray) (b : List Ky) : Bool := (n1.toList == n2.toList) && sameK a b
section
set_option maxHeartbeats 3200000
theorem slEqK_any (A B : Option Addr) (c d : Nat) (a b : List Ky) (w : World) [ha : Rd 2 kC w A a] [hb : Rd 2 kC w B b] :
    Calls Tryd.prog 65 #[.slice A a.length c, .slice B b.length d] w fun e w' => e = .returned (.bool (sameK a b)) ∧ ∃ k : Ex w, w' = k.v := by
  (have hla := ha.len; have hlb := hb.len; have HA := hid ha.k; have HB := hid hb.k; by_cases hn : a.length = b.length)
  · go_enter Tryd.func65, Tryd.ntmps65
    go_wp2
    go_loopw [13] (fun t wr => ∃ q : Nat, q ≤ a.length ∧ t = .int .i64 q ∧ (∀ k (h : k < a.length) (h' : k < b.length), k < q → eqKy a[k] b[k] = true) ∧ ∃ j : Ex w, wr = j.v) (fun t _ => a.length - (intOf t).toNat)
    case atStart => exact ⟨0, Nat.zero_le _, rfl, fun k _ _ h => absurd h (by omega), Ex.rf w, rfl⟩
    case round =>
      obtain ⟨q, hq, rfl, hb, j0, rfl⟩ := hrel
      have HQ := hid hb
      clear hb
      by_cases hlt : q < a.length
      · have hlt' : q < b.length := by omega
        obtain ⟨x, o, rfl, hbw, hc⟩ := HA.out (by omega)
        obtain ⟨c0, c1⟩ := hc q hlt
        obtain ⟨x', o', rfl, hbw', hc'⟩ := HB.out (by omega)
        obtain ⟨d0, d1⟩ := hc' q hlt'
        rcases eqKy_cases a[q] b[q] with ⟨h0, h1, h2⟩ | ⟨h0, h⟩
        · have HN : Hid (∀ k (h : k < a.length) (h' : k < b.length), k < q + 1 → eqKy a[k] b[k] = true) := hid fun k h h' hk => by
            rcases Nat.lt_or_ge k q with h1 | h1
            · exact HQ.out k h h' h1
            · obtain rfl : k = q := by omega
              exact h0
          clear h0
          (go_wp2; (refine wp_region_ex (by kernel_rfl) (by kernel_rfl) ?_; (repeat (go_big_quiet_step ((fail)))); refine wpQuiet_nil ?_; rintro _ ⟨k, rfl⟩); go_wp2; go_roundw; (case rel => exact ⟨q + 1, by omega, by go_num, HN.out, j0.tr k, rfl⟩); (case measure => (simp [intOf]; omega)))
        · have HR := hid (sameK_no2 hlt hlt' h0)
          clear h0
          rcases h with h1 | ⟨h1, h2⟩
          all_goals
            go_wp2
            (refine wp_region_ex (by kernel_rfl) (by kernel_rfl) ?_; (repeat (go_big_quiet_step ((fail)))); refine wpQuiet_nil ?_; rintro _ ⟨k, rfl⟩)
            go_wp2
            go_ret
            refine ⟨by rw [HR.out]; rfl, ?_⟩
            (refine Ok.toEx ?_; (repeat (first | (with_reducible exact Ok.rf _) | (with_reducible refine Ok.alloc ?_ _) | (with_reducible refine Ok.ex ?_ _) | (with_reducible refine Ok.drew ?_) | (with_reducible refine Ok.setCellI ?_ _ _ _) | (with_reducible refine Ok.exb ?_ _))))
      · go_wp2
        go_ret
        exact ⟨by rw [sameK_yes hn fun k h h' => HQ.out k h h' (by omega)]; rfl, j0, rfl⟩
  · have HR := hid (sameK_no1 hn)
    go_enter Tryd.func65, Tryd.ntmps65
    go_wp2
    go_ret
    refine ⟨by rw [HR.out]; rfl, ?_⟩
    (refine Ok.toEx ?_; (repeat (first | (with_reducible exact Ok.rf _) | (with_reducible refine Ok.alloc ?_ _) | (with_reducible refine Ok.ex ?_ _) | (with_reducible refine Ok.drew ?_) | (with_reducible refine Ok.setCellI ?_ _ _ _) | (with_reducible refine Ok.exb ?_ _))))
theorem iSameT_any (n1 : ByteArray) (A : Option Addr) (c : Nat) (a : List Ky) (n2 : ByteArray) (B : Option Addr) (d : Nat) (b : List Ky) (w : World) [ha : Rd 2 kC w A a] [hb : Rd 2 kC w B b] :
    Calls Tryd.prog 32 #[.agg #[.string n1, .slice A a.length c], .agg #[.string n2, .slice B b.length d]] w fun e w' => e = .returned (.bool (sameT n1 a n2 b)) ∧ ∃ k : Ex w, w' = k.v := by
  cases hn : (n1.toList == n2.toList)
  · have HS : Hid (sameT n1 a n2 b = false) := hid (by unfold sameT; rw [hn]; rfl)
    go_enter Tryd.func32, Tryd.ntmps32
    go_wp2
    go_ret
    refine ⟨by rw [HS.out]; rfl, ?_⟩
    (refine Ok.toEx ?_; (repeat (first | (with_reducible exact Ok.rf _) | (with_reducible refine Ok.alloc ?_ _) | (with_reducible refine Ok.ex ?_ _) | (with_reducible refine Ok.drew ?_) | (with_reducible refine Ok.setCellI ?_ _ _ _) | (with_reducible refine Ok.exb ?_ _))))
  · have HS : Hid (sameT n1 a n2 b = sameK a b) := hid (by unfold sameT; rw [hn]; rfl)
    go_enter Tryd.func32, Tryd.ntmps32
    go_wp2_with ((go_at_call 65; refine (slEqK_any _ _ _ _ a b _).mono ?_; rintro e w' ⟨rfl, k, rfl⟩))
    go_ret
    refine ⟨by rw [HS.out]; rfl, ?_⟩
    (refine Ok.toEx ?_; (repeat (first | (with_reducible exact Ok.rf _) | (with_reducible refine Ok.alloc ?_ _) | (with_reducible refine Ok.ex ?_ _) | (with_reducible refine Ok.drew ?_) | (with_reducible refine Ok.setCellI ?_ _ _ _) | (with_reducible refine Ok.exb ?_ _))))
end
end Go.Proofs.YtdhflckombkimaaDoor
namespace Go.Proofs.YtdhflckombkimaaDoor
open Go.RowKit
section
set_option maxHeartbeats 3200000
set_option maxRecDepth 20000
end
end Go.Proofs.YtdhflckombkimaaDoor
namespace Go.Proofs.YtdhflckombkimaaDoor
open Go.RowKit
theorem prod_bd {a b A B : Int} (h1 : -A ≤ a) (h2 : a ≤ A) (h3 : 0 ≤ b) (h4 : b ≤ B) (hA : 0 ≤ A) : -(A * B) ≤ a * b ∧ a * b ≤ A * B := by
  have e1 : a * b ≤ A * b := Int.mul_le_mul_of_nonneg_right h2 h3
  have e2 : A * b ≤ A * B := Int.mul_le_mul_of_nonneg_left h4 hA
  have e3 : (-A) * b ≤ a * b := Int.mul_le_mul_of_nonneg_right h1 h3
  rw [Int.neg_mul] at e3
  omega
/-- keys whose value can be told -/
structure VK (l : List Ky) : Prop where
  n : 1 ≤ l.length ∧ l.length ≤ 24
  t : ∀ i (h : i < l.length), 0 ≤ l[i].t ∧ l[i].t ≤ 7200000
  v : ∀ i (h : i < l.length), -1000000 ≤ l[i].v ∧ l[i].v ≤ 1000000
  ris : risK l
theorem okK.vk {l : List Ky} (h : okK l) : VK l := ⟨h.1, fun i hi => (h.2 i hi).1, fun i hi => (h.2 i hi).2.1, h.ris⟩
theorem segv_prod {a b : Ky} {t : Int} (h1 : -1000000 ≤ a.v ∧ a.v ≤ 1000000) (h2 : -1000000 ≤ b.v ∧ b.v ≤ 1000000) (h3 : 0 ≤ a.t) (h4 : a.t ≤ t) (h5 : t ≤ 7200000) :
    -14400000000000 ≤ (b.v - a.v) * (t - a.t) ∧ (b.v - a.v) * (t - a.t) ≤ 14400000000000 := by
  have := prod_bd (a := b.v - a.v) (b := t - a.t) (A := 2000000) (B := 7200000) (by omega) (by omega) (by omega) (by omega) (by omega)
  omega
section
set_option maxHeartbeats 3200000
set_option maxRecDepth 20000
theorem blend_any (x0 y0 x1 y1 x : Int) (w : World) (h0 : 0 ≤ x0) (h1 : x0 ≤ x) (h2 : x < x1) (h3 : x1 ≤ 7200000) (h4 : -1000000 ≤ y0) (h5 : y0 ≤ 1000000) (h6 : -1000000 ≤ y1) (h7 : y1 ≤ 1000000) :
    Calls Tryd.prog 93 #[.int .i64 x0, .int .i64 y0, .int .i64 x1, .int .i64 y1, .int .i64 x] w fun e w' => e = .returned (.int .i64 (segv ⟨x0, y0⟩ ⟨x1, y1⟩ x)) ∧ ∃ k : Ex w, w' = k.v := by
  by_cases hx : x = x0
  · subst hx
    have HS : Hid (segv ⟨x, y0⟩ ⟨x1, y1⟩ x = y0) := hid (segv_lo ⟨x, y0⟩ ⟨x1, y1⟩ h2)
    go_enter Tryd.func93, Tryd.ntmps93
    go_wp2
    go_ret
    exact ⟨by rw [HS.out]; rfl, Ex.rf w, rfl⟩
  · have hx : x0 < x := by omega
    have hp := segv_prod (a := ⟨x0, y0⟩) (b := ⟨x1, y1⟩) (t := x) ⟨h4, h5⟩ ⟨h6, h7⟩ h0 h1 (by omega)
    obtain ⟨hp1, hp2⟩ : -14400000000000 ≤ (y1 - y0) * (x - x0) ∧ (y1 - y0) * (x - x0) ≤ 14400000000000 := hp
    have hb := near_bd (a := (y1 - y0) * (x - x0)) (b := x1 - x0) 14400000000000 (by omega) hp1 hp2
    obtain ⟨hb1, hb2⟩ := hb
    have HS : Hid (segv ⟨x0, y0⟩ ⟨x1, y1⟩ x = y0 + near ((y1 - y0) * (x - x0)) (x1 - x0)) := hid rfl
    go_enter Tryd.func93, Tryd.ntmps93
    go_wp2_with (go_at_call 115; (with_reducible refine (nearest_any _ _ _ ?_ ?_ ?_ ?_).mono ?_); (· omega); (· omega); (· omega); (· omega); rintro e w' ⟨rfl, k, rfl⟩)
    go_ret
    exact ⟨by rw [HS.out]; rfl, k, rfl⟩
theorem valueAt_any (A : Option Addr) (c : Nat) (l : List Ky) (t : Int) (w : World) [hl : Rd 2 kC w A l] (h : VK l) (ht : 0 ≤ t ∧ t ≤ 7200000) :
    Calls Tryd.prog 64 #[.slice A l.length c, .int .i64 t] w fun e w' => e = .returned (.int .i64 (vAt l t)) ∧ ∃ k : Ex w, w' = k.v := by
  have HA := hid hl.k
  obtain ⟨hn1, hn2⟩ := h.n
  obtain ⟨ht1, ht2⟩ := ht
  have HT := hid h.t
  have HV := hid h.v
  have HRI := hid h.ris
  obtain ⟨b, o, rfl, hbw, hc⟩ := HA.out (by omega)
  clear h
  have hc0 := hc 0 (by omega)
  obtain ⟨c0, c1⟩ := hc0
  have c0 : w.cell? ⟨b, o, none⟩ = some (.int .i64 (l[0]'(by omega)).t) := by simpa using c0
  have c1 : w.cell? ⟨b, o + 1, none⟩ = some (.int .i64 (l[0]'(by omega)).v) := by simpa using c1
  have HC := hid hc
  clear hc
  by_cases h0 : t ≤ (l[0]'(by omega)).t
  · have HR := hid (vAt_first (l := l) (t := t) (by omega) h0)
    generalize l[0]'(by omega) = x at *
    go_enter Tryd.func64, Tryd.ntmps64
    go_wp2
    go_ret
    exact ⟨by rw [HR.out]; rfl, Ex.rf w, rfl⟩
  · have H0 : Hid ((l[0]'(by omega)).t < t) := hid (by omega)
    generalize hx0 : l[0]'(by omega) = x at *
    have hx0 := hid hx0
    go_enter Tryd.func64, Tryd.ntmps64
    go_wp2
    go_loopw [5] (fun u wr => ∃ q : Nat, q + 1 ≤ l.length ∧ u = .int .i64 ((q : Int) + 1) ∧ (∀ (h : q < l.length), l[q].t ≤ t) ∧ ∃ j : Ex w, wr = j.v) (fun u _ => l.length + 1 - (intOf u).toNat)
    case atStart =>
      have hz : ∀ (h : 0 < l.length), l[0].t ≤ t := fun h => by
        rw [hx0.out]
        exact Int.le_of_lt H0.out
      exact ⟨0, by omega, rfl, hz, Ex.rf w, rfl⟩
    case round =>
      obtain ⟨q, hq, rfl, hb, j0, rfl⟩ := hrel
      have hb0 := hb (by omega)
      clear hb
      by_cases hlt : q + 1 < l.length
      · have hltI : (q : Int) + 1 < l.length := by omega
        have hc1 := HC.out (q + 1) hlt
        have hc2 := HC.out q (by omega)
        obtain ⟨d0, d1⟩ := hc1
        obtain ⟨e0, e1⟩ := hc2
        have r1 := HRI.out q (q + 1) hlt (by omega)
        have t1 := HT.out (q + 1) hlt
        have t2 := HT.out q (by omega)
        have v1 := HV.out (q + 1) hlt
        have v2 := HV.out q (by omega)
        by_cases hle : t < l[q + 1].t
        · have HR := hid (vAt_prog HRI.out hlt hb0 hle)
          generalize l[q] = a at *
          generalize l[q + 1] = b' at *
          obtain ⟨t11, t12⟩ := t1
          obtain ⟨t21, t22⟩ := t2
          obtain ⟨v11, v12⟩ := v1
          obtain ⟨v21, v22⟩ := v2
          go_wp2
          (refine wp_region_ex (by kernel_rfl) (by kernel_rfl) ?_; (repeat (go_big_quiet_step (((go_at_call 93; exact calls_ex (blend_any a.t a.v b'.t b'.v t _ (by omega) (by omega) (by omega) (by omega) (by omega) (by omega) (by omega) (by omega))))))); refine wpQuiet_nil ?_; rintro _ ⟨k, rfl⟩)
          go_wp2
          go_ret
          refine ⟨by rw [HR.out]; rfl, ?_⟩
          (refine Ok.toEx ?_; (repeat (first | (with_reducible exact Ok.rf _) | (with_reducible refine Ok.alloc ?_ _) | (with_reducible refine Ok.ex ?_ _) | (with_reducible refine Ok.drew ?_) | (with_reducible refine Ok.setCellI ?_ _ _ _) | (with_reducible refine Ok.exb ?_ _))))
        · have hle : l[q + 1].t ≤ t := by omega
          have HN : Hid (∀ (h : q + 1 < l.length), l[q + 1].t ≤ t) := hid fun _ => hle
          generalize l[q] = a at *
          generalize l[q + 1] = b' at *
          go_wp2
          go_roundw
          case rel => exact ⟨q + 1, by omega, by go_num, HN.out, j0, rfl⟩
          case measure => simp [intOf]; omega
      · obtain ⟨p, hp⟩ : ∃ p, l.length = p + 1 := ⟨l.length - 1, by omega⟩
        have hpe : l.length - 1 = p := by omega
        have hq : q = p := by omega
        subst hq
        have HR := hid (vAt_prog_end HRI.out (by omega) (t := t) (by simp only [hpe]; exact hb0))
        simp only [hpe] at HR
        have hc1 := HC.out q (by omega)
        obtain ⟨d0, d1⟩ := hc1
        generalize l[q] = a at *
        go_wp2
        go_ret
        exact ⟨by rw [HR.out]; rfl, j0, rfl⟩
end
end Go.Proofs.YtdhflckombkimaaDoor
