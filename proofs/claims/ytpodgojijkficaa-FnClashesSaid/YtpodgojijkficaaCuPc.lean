/-
  A cue put to its place by slices.Insert: placeCue. Conditions: those typed at each theorem.
-/
import Derived.Test.YtpodgojijkficaaCuIns
namespace Go.Proofs.Ytpodgojijkficaa
open Go.RowKit
/-- the place of c among the cues of l, sought from the front -/
def plI (l : List Cu) (c : Cu) : Nat := l.findIdx fun y => !befB y c
theorem plI_hit {l : List Cu} {c : Cu} {q : Nat} (h : q < l.length) (he : befB (cuG l q) c = false) (hb : ∀ j, j < q → befB (cuG l j) c = true) : plI l c = q := by
  unfold plI
  rw [List.findIdx_eq h]
  refine ⟨by rw [cuG_at h] at he; simp [he], fun j hj => ?_⟩
  have := hb j hj
  rw [cuG_at (by omega)] at this
  simp [this]
theorem plI_end {l : List Cu} {c : Cu} (hb : ∀ j, j < l.length → befB (cuG l j) c = true) : plI l c = l.length := by
  unfold plI
  rw [List.findIdx_eq_length]
  intro x hx
  obtain ⟨j, hj, rfl⟩ := List.getElem_of_mem hx
  have := hb j hj
  rw [cuG_at hj] at this
  simp [this]
section
set_option maxHeartbeats 3200000
set_option maxRecDepth 20000
theorem place_any {W0 : World} (A : Option Addr) (cap n : Nat) (l : List Cu) (x : Cu) (w : World) [hu : Up W0 w] (hrow : w.ownsRow W0.heap.size 37 6 (.slice A l.length cap) l.length (l.flatMap cC)) (hn' : l.length = n) (hn : l.length ≤ 1048576) :
    Calls Try.prog 78 #[.slice A n cap, .agg #[.string x.id, .int .i64 x.t, .int .i64 x.ln, .string x.tg, .int .i64 x.act, .int .i64 x.v]] w fun e w' => InsPost W0 n (insL l (plI l x) x) e w' := by
  subst hn'
  haveI hO : OwR W0.heap.size 37 6 (.slice A l.length cap) l.length (l.flatMap cC) w := ⟨hrow⟩
  have hrd : 0 < l.length → ∃ g, A = some ⟨g, 0, none⟩ ∧ LtW g w ∧ Wr 6 cC w g l := fun h0 => by
    rcases hrow.2 with ⟨h1, h2⟩ | ⟨g, cap', cur, h1, -⟩
    · omega
    · injection h1 with e1 e2 e3
      subst e1
      obtain ⟨hk, -⟩ := Wk.of_own (f := cC) (sz := 6) (fun _ => rfl) hrow
      exact ⟨g, rfl, hk.lt, hk.wr (fun _ => rfl)⟩
  have hlt : ∀ g, A = some ⟨g, 0, none⟩ → g < w.heap.size := fun g hg => by
    subst hg; exact (hrow.lt g rfl).2
  have HRD := hid hrd
  have HLT := hid hlt
  clear hrd hlt hrow
  go_enter Try.func78, Try.ntmps78
  go_wp2
  go_loopw [5] (fun t wr => ∃ q : Nat, q ≤ l.length ∧ t = .int .i64 q ∧ (∀ j, j < q → befB (cuG l j) x = true) ∧ ∃ j : Ex (w.alloc (.cells #[.string x.id, .int .i64 x.t, .int .i64 x.ln, .string x.tg, .int .i64 x.act, .int .i64 x.v] 37)), wr = j.v) (fun t _ => l.length - (intOf t).toNat)
  case atStart => exact ⟨0, Nat.zero_le _, rfl, fun j hj => absurd hj (by omega), Ex.rf _, rfl⟩
  case round =>
    obtain ⟨q, hq, rfl, hb, j0, rfl⟩ := hrel
    have HB := hid hb
    clear hb
    by_cases hlt : q < l.length
    · obtain ⟨g, rfl, hgw, hwr⟩ := HRD.out (by omega)
      obtain ⟨c0, c1, c2, c3, c4, c5⟩ := (CuAt.of (w := w) (b := g) (p := q * 6) (x := cuG l q) (fun j v hv => by
        obtain ⟨b', o', e', -, hc⟩ := (inferInstance : Rd 6 cC w (some ⟨g, 0, none⟩) l).at_ (by omega)
        cases e'
        rw [cuG_at hlt] at hv
        have := hc q hlt j v hv
        rwa [Nat.zero_add] at this))
      clear hwr
      have hlti : (q : Int) < (l.length : Int) := by omega
      cases hbf : befB (cuG l q) x
      · have HM : Hid (plI l x = q) := hid (plI_hit hlt hbf HB.out)
        have hge := cmpI_ge hbf
        obtain ⟨m, hm⟩ : ∃ m, cmpI (cuG l q) x = m := ⟨_, rfl⟩
        rw [hm] at hge
        have hge' : ¬ m < 0 := by omega
        have HC := hid hm
        clear hm hbf
        generalize cuG l q = y at *
        go_wp2
        (refine wp_region_ex (by kernel_rfl) (by kernel_rfl) ?_; (repeat (go_big_quiet_step (((go_at_call 83; exact calls_ex (cmpC_any y x _ HC.out)))))); refine wpQuiet_nil ?_; rintro _ ⟨k, rfl⟩)
        go_wp2_with ((go_at_call 95; go_loud ((refine (insAt (W0 := W0) (some ⟨g, 0, none⟩) cap l.length q l x _ _ _ owR_h rfl hq hn ?_ ?_).mono ?_); (· exact (heap_alloc_new _ _)); (· intro g' hg'; cases hg'; have h1 := hgw.h; have h2 := (inferInstance : LeB w.heap.size k.v.heap.size).h; omega); rintro e w' h; unfold InsPost at h; obtain ⟨g2, c2, rfl, k2, rfl, hw2, hg2⟩ := h)))
        go_ret
        rw [HM.out]
        exact ⟨g2, c2, rfl, k2, rfl, hw2, hg2⟩
      · have hge := cmpI_lt hbf
        obtain ⟨m, hm⟩ : ∃ m, cmpI (cuG l q) x = m := ⟨_, rfl⟩
        rw [hm] at hge
        have HC := hid hm
        have HB2 : Hid (∀ j, j < q + 1 → befB (cuG l j) x = true) := hid fun j hj => by
          rcases Nat.lt_or_ge j q with h | h
          · exact HB.out j h
          · obtain rfl : j = q := by omega
            exact hbf
        clear hm hbf
        generalize cuG l q = y at *
        go_wp2
        (refine wp_region_ex (by kernel_rfl) (by kernel_rfl) ?_; (repeat (go_big_quiet_step (((go_at_call 83; exact calls_ex (cmpC_any y x _ HC.out)))))); refine wpQuiet_nil ?_; rintro _ ⟨k, rfl⟩)
        go_wp2
        go_roundw
        case rel => exact ⟨q + 1, by omega, by go_num, HB2.out, ex_up (w := w.alloc (.cells #[.string x.id, .int .i64 x.t, .int .i64 x.ln, .string x.tg, .int .i64 x.act, .int .i64 x.v] 37)) ⟨k, rfl⟩⟩
        case measure => simp [intOf]; omega
    · have hqe : q = l.length := by omega
      have HM : Hid (plI l x = q) := hid (by rw [hqe]; exact plI_end fun j hj => HB.out j (by omega))
      have hlti : decide ((q : Int) < (l.length : Int)) = false := by simp; omega
      clear hqe
      go_wp2
      (refine wp_region_ex (by kernel_rfl) (by kernel_rfl) ?_; (repeat (go_big_quiet_step ((fail)))); refine wpQuiet_nil ?_; rintro _ ⟨k, rfl⟩)
      go_wp2_with ((go_at_call 95; go_loud ((refine (insAt (W0 := W0) A cap l.length q l x _ _ _ owR_h rfl hq hn ?_ ?_).mono ?_); (· exact (heap_alloc_new _ _)); (· intro g' hg'; have h1 := HLT.out g' hg'; have h2 := (inferInstance : LeB w.heap.size k.v.heap.size).h; omega); rintro e w' h; unfold InsPost at h; obtain ⟨g2, c2, rfl, k2, rfl, hw2, hg2⟩ := h)))
      go_ret
      rw [HM.out]
      exact ⟨g2, c2, rfl, k2, rfl, hw2, hg2⟩
end
end Go.Proofs.Ytpodgojijkficaa
