/-
  Whether a list of cues is valid, both. Conditions: those typed at each theorem.
-/
import Derived.Test.YthgfnbgdpmbolaaCuC
import Derived.Test.YthgfnbgdpmbolaaAppB
namespace Go.Proofs.Ythgfnbgdpmbolaa
open Go.RowKit
theorem cuG_take {l : List Cu} {i j : Nat} (h : j < i) : cuG (l.take i) j = cuG l j := by
  unfold cuG; rw [List.getD_eq_getElem?_getD, List.getD_eq_getElem?_getD, List.getElem?_take, if_pos h]
theorem Rd.takeA {α : Type} {sz : Nat} {f : α → List Value} {w : World} {A : Option Addr} {l : List α} (h : Rd sz f w A l) (i : Nat) : Rd sz f w A (l.take i) := ⟨by have := h.len; rw [List.length_take]; omega, fun h0 => by
  rw [List.length_take] at h0
  obtain ⟨b', o', e, hb, hc⟩ := h.at_ (by omega)
  refine ⟨b', o', e, hb, fun k hk j v hv => ?_⟩
  rw [List.length_take] at hk
  rw [List.getElem_take] at hv
  exact hc k (by omega) j v hv⟩
theorem CuAt.up {w w' : World} {b z : Nat} {x : Cu} (h : CuAt w b z x) [hb : LtW b w] [hu : Up w w'] : CuAt w' b z x := by
  have e : ∀ o, w'.cell? ⟨b, o, none⟩ = w.cell? ⟨b, o, none⟩ := fun o => hu.h.cell (p := ⟨b, o, none⟩) hb.h
  exact ⟨(e _).trans h.c0, (e _).trans h.c1, (e _).trans h.c2, (e _).trans h.c3, (e _).trans h.c4, (e _).trans h.c5⟩
/-- is cue i one that may stand there? -/
def okCs (l : List Cu) (i : Nat) : Prop := vC (cuG l i) = true ∧ (0 < i → befB (cuG l (i - 1)) (cuG l i) = true) ∧ ∀ j, j < i → ((cuG l j).id.toList == (cuG l i).id.toList) = false
open Classical in
noncomputable def vCs (l : List Cu) : Bool := decide (l.length ≤ 32 ∧ ∀ i, i < l.length → okCs l i)
open Classical in
theorem vCs_all {l : List Cu} (h : ∀ i, i < l.length → okCs l i) : vCs l = decide (l.length ≤ 32) := by
  unfold vCs; rw [decide_eq_decide]; exact ⟨fun h => h.1, fun h1 => ⟨h1, h⟩⟩
open Classical in
theorem vCs_bad {l : List Cu} {i : Nat} (hi : i < l.length) (h : ¬ okCs l i) : vCs l = false := decide_eq_false fun h1 => h (h1.2 i hi)
open Classical in
theorem vCs_long {l : List Cu} (h : 32 < l.length) : vCs l = false := decide_eq_false fun h1 => by omega
open Classical in
theorem vCs_of {l : List Cu} (h : vCs l = true) : l.length ≤ 32 ∧ ∀ i, i < l.length → okCs l i := of_decide_eq_true h
open Classical in
theorem vCs_mk {l : List Cu} (h1 : l.length ≤ 32) (h2 : ∀ i, i < l.length → okCs l i) : vCs l = true := decide_eq_true ⟨h1, h2⟩
theorem cII_dup {l : List Cu} {nm : ByteArray} {j : Nat} (hj : j < l.length) (h : ((cuG l j).id.toList == nm.toList) = true) : 0 ≤ cII l nm ∧ cII l nm ≤ j := by
  rcases cI_part l nm with ⟨q, hq, he, hb⟩ | hb
  · rw [cII_hit hq he hb]
    rcases Nat.lt_or_ge j q with h1 | h1
    · rw [hb j h1] at h; cases h
    · omega
  · rw [hb j hj] at h; cases h
theorem okCs_cases (l : List Cu) (i : Nat) (hi : i < l.length) : ∃ m1 m2 m3 : Int, cII l (cuG l i).id = m1 ∧ cII (l.take i) (cuG l i).id = m2 ∧ cmpI (cuG l (i - 1)) (cuG l i) = m3 ∧ (
    (okCs l i ∧ vC (cuG l i) = true ∧ decide (m1 < (i : Int)) = false ∧ decide (0 ≤ m2) = false ∧ i = 0) ∨
    (okCs l i ∧ vC (cuG l i) = true ∧ decide (m1 < (i : Int)) = false ∧ decide (0 ≤ m2) = false ∧ 0 < i ∧ befB (cuG l (i - 1)) (cuG l i) = true ∧ decide (0 ≤ m3) = false) ∨
    (¬ okCs l i ∧ vC (cuG l i) = false) ∨
    (¬ okCs l i ∧ vC (cuG l i) = true ∧ decide (m1 < (i : Int)) = true ∧ decide (0 ≤ m2) = true ∧ 0 < i ∧ befB (cuG l (i - 1)) (cuG l i) = true ∧ decide (0 ≤ m3) = false) ∨
    (¬ okCs l i ∧ vC (cuG l i) = true ∧ decide (m1 < (i : Int)) = true ∧ decide (0 ≤ m2) = true ∧ 0 < i ∧ befB (cuG l (i - 1)) (cuG l i) = false ∧ decide (0 ≤ m3) = true) ∨
    (¬ okCs l i ∧ vC (cuG l i) = true ∧ decide (m1 < (i : Int)) = false ∧ decide (0 ≤ m2) = false ∧ 0 < i ∧ befB (cuG l (i - 1)) (cuG l i) = false ∧ decide (0 ≤ m3) = true)) := by
  refine ⟨_, _, _, rfl, rfl, rfl, ?_⟩
  have hself : ((cuG l i).id.toList == (cuG l i).id.toList) = true := by simp
  have hlt : (l.take i).length = i := by rw [List.length_take]; omega
  by_cases hv : vC (cuG l i) = true
  rotate_left
  · exact .inr (.inr (.inl ⟨fun h => hv h.1, by simpa using hv⟩))
  by_cases hd : ∀ j, j < i → ((cuG l j).id.toList == (cuG l i).id.toList) = false
  · have d1 : decide (cII l (cuG l i).id < (i : Int)) = false := by
      rw [cII_hit hi hself hd]; exact decide_eq_false (by omega)
    have d2 : decide (0 ≤ cII (l.take i) (cuG l i).id) = false := by
      rw [cII_miss (fun j hj => by rw [hlt] at hj; rw [cuG_take hj]; exact hd j hj)]; exact decide_eq_false (by omega)
    by_cases h0 : 0 < i
    · cases hb : befB (cuG l (i - 1)) (cuG l i)
      · exact .inr (.inr (.inr (.inr (.inr ⟨fun h => (by have := h.2.1 h0; rw [hb] at this; cases this), hv, d1, d2, h0, rfl, decide_eq_true (cmpI_ge hb)⟩))))
      · exact .inr (.inl ⟨⟨hv, fun _ => hb, hd⟩, hv, d1, d2, h0, rfl, decide_eq_false (by have := cmpI_lt hb; omega)⟩)
    · exact .inl ⟨⟨hv, fun h => absurd h h0, hd⟩, hv, d1, d2, by omega⟩
  · have hd0 := hd
    simp only [Classical.not_forall] at hd
    obtain ⟨j, hj, he⟩ := hd
    have he : ((cuG l j).id.toList == (cuG l i).id.toList) = true := by simpa using he
    have d1 : decide (cII l (cuG l i).id < (i : Int)) = true := decide_eq_true (by have := (cII_dup (by omega) he).2; omega)
    have d2 : decide (0 ≤ cII (l.take i) (cuG l i).id) = true := decide_eq_true (cII_dup (j := j) (by omega) (by rw [cuG_take hj]; exact he)).1
    cases hb : befB (cuG l (i - 1)) (cuG l i)
    · exact .inr (.inr (.inr (.inr (.inl ⟨fun h => hd0 h.2.2, hv, d1, d2, by omega, rfl, decide_eq_true (cmpI_ge hb)⟩))))
    · exact .inr (.inr (.inr (.inl ⟨fun h => hd0 h.2.2, hv, d1, d2, by omega, rfl, decide_eq_false (by have := cmpI_lt hb; omega)⟩)))
section
set_option maxHeartbeats 3200000
set_option maxRecDepth 20000
theorem sCs_any (A : Option Addr) (c : Nat) (l : List Cu) (w : World) [hk : COks l] [hl : Rd 6 cC w A l] (hn : l.length ≤ 1048576) {r : Bool} (hr : vCs l = r) :
    Calls Try.prog 25 #[.slice A l.length c] w fun e w' => e = .returned (.bool r) ∧ ∃ k : Ex w, w' = k.v := by
  subst hr
  have hlen := hl.len
  have HA := hid hl.cu
  have HL := hid hl
  have HO := hid hk.h
  go_enter Try.func25, Try.ntmps25
  go_wp2
  go_loopw [3] (fun t wr => ∃ q : Nat, q ≤ l.length ∧ t = .int .i64 q ∧ (∀ i, i < l.length → i < q → okCs l i) ∧ ∃ j : Ex w, wr = j.v) (fun t _ => l.length - (intOf t).toNat)
  case atStart => exact ⟨0, Nat.zero_le _, rfl, fun i _ h => absurd h (by omega), Ex.rf w, rfl⟩
  case round =>
    obtain ⟨q, hq, rfl, hs, j0, rfl⟩ := hrel; have HS := hid hs; clear hs
    by_cases hlt : q < l.length
    · (obtain ⟨b, o, rfl, hbw, hc⟩ := HA.out (by omega)); have hcA := hc q hlt; (have hx := HO.out _ (List.getElem_mem hlt)); rw [← cuG_at hlt] at hx; obtain ⟨hx1, hx2, -⟩ := hx; (have HN : Hid (okCs l q → ∀ i, i < l.length → i < q + 1 → okCs l i) := hid fun h i hi hiq => by (rcases Nat.lt_or_ge i q with h1 | h1; (· exact HS.out i hi h1); (· (obtain rfl : i = q := by omega); exact h))); (have HF : Hid (¬ okCs l q → vCs l = false) := hid fun h => vCs_bad hlt h); obtain ⟨m1, m2, m3, hm1, hm2, hm3, hcs⟩ := okCs_cases l q hlt; have HM1 := hid hm1; have HM2 := hid hm2; have HM3 := hid hm3; clear hm1 hm2 hm3
      rcases hcs with ⟨hok, hX, e1, e2, h0⟩ | ⟨hok, hX, e1, e2, h0, hb, e3⟩ | ⟨hok, hX⟩ | ⟨hok, hX, e1, e2, h0, hb, e3⟩ | ⟨hok, hX, e1, e2, h0, hb, e3⟩ | ⟨hok, hX, e1, e2, h0, hb, e3⟩
      · subst h0
        have e1 : decide (m1 < 0) = false := e1
        have HR := hid (HN.out hok)
        have HX := hid hX
        clear hc hok hX
        generalize cuG l 0 = x at *
        have hcA' : CuAt w b o x := by simpa using hcA
        clear hcA
        obtain ⟨c0, c1, c2, c3, c4, c5⟩ := hcA'
        have hcA' : CuAt w b o x := ⟨c0, c1, c2, c3, c4, c5⟩
        go_wp2
        (refine wp_region_ex (by kernel_rfl) (by kernel_rfl) ?_; (repeat (go_big_quiet_step (((first | (go_at_call 39; exact calls_ex (sOne_any x b _ _ (CuAt.up hcA') hx1 hx2 HX.out)) | (go_at_call 40; exact calls_ex_same (find_any _ _ l x.id _ (hl := HL.out.up) HM1.out)) | (go_at_call 41; exact calls_ex (before_any y x b _ b _ _ (CuAt.up hdA') (CuAt.up hcA') HB.out))))))); refine wpQuiet_nil ?_; rintro _ ⟨k, rfl⟩)
        go_wp2
        go_roundw
        case rel => exact ⟨1, by omega, by go_num, HR.out, j0.tr k, rfl⟩
        case measure => simp [intOf]; omega
      · have HR := hid (HN.out hok)
        have HX := hid hX
        clear hok hX
        obtain ⟨p, rfl⟩ : ∃ p, q = p + 1 := ⟨q - 1, by omega⟩; (have e1 : decide (m1 < (p : Int) + 1) = _ := e1); have hdA := hc p (by omega); simp only [Nat.add_sub_cancel] at HM3 hb; clear hc; generalize cuG l (p + 1) = x at *; generalize cuG l p = y at *; (have hdA' := hdA); (have hcA' := hcA); obtain ⟨c0, c1, c2, c3, c4, c5⟩ := hcA; obtain ⟨d0, d1, d2, d3, d4, d5⟩ := hdA
        have HB := hid hb
        clear hb
        go_wp2
        (refine wp_region_ex (by kernel_rfl) (by kernel_rfl) ?_; (repeat (go_big_quiet_step (((first | (go_at_call 39; exact calls_ex (sOne_any x b _ _ (CuAt.up hcA') hx1 hx2 HX.out)) | (go_at_call 40; exact calls_ex_same (find_any _ _ l x.id _ (hl := HL.out.up) HM1.out)) | (go_at_call 41; exact calls_ex (before_any y x b _ b _ _ (CuAt.up hdA') (CuAt.up hcA') HB.out))))))); refine wpQuiet_nil ?_; rintro _ ⟨k, rfl⟩)
        go_wp2
        go_roundw
        case rel => exact ⟨p + 1 + 1, by omega, by go_num, HR.out, j0.tr k, rfl⟩
        case measure => simp [intOf]; omega
      · have HR := hid (HF.out hok)
        have HX := hid hX
        clear hok hX hc
        generalize cuG l q = x at *
        have hcA' := hcA
        obtain ⟨c0, c1, c2, c3, c4, c5⟩ := hcA
        go_wp2
        (refine wp_region_ex (by kernel_rfl) (by kernel_rfl) ?_; (repeat (go_big_quiet_step (((first | (go_at_call 39; exact calls_ex (sOne_any x b _ _ (CuAt.up hcA') hx1 hx2 HX.out)) | (go_at_call 40; exact calls_ex_same (find_any _ _ l x.id _ (hl := HL.out.up) HM1.out)) | (go_at_call 41; exact calls_ex (before_any y x b _ b _ _ (CuAt.up hdA') (CuAt.up hcA') HB.out))))))); refine wpQuiet_nil ?_; rintro _ ⟨k, rfl⟩)
        go_wp2
        go_ret
        exact ⟨by rw [HR.out]; rfl, j0.tr k, rfl⟩
      all_goals
        have HR := hid (HF.out hok)
        have HX := hid hX
        clear hok hX
        obtain ⟨p, rfl⟩ : ∃ p, q = p + 1 := ⟨q - 1, by omega⟩; (have e1 : decide (m1 < (p : Int) + 1) = _ := e1); have hdA := hc p (by omega); simp only [Nat.add_sub_cancel] at HM3 hb; clear hc; generalize cuG l (p + 1) = x at *; generalize cuG l p = y at *; (have hdA' := hdA); (have hcA' := hcA); obtain ⟨c0, c1, c2, c3, c4, c5⟩ := hcA; obtain ⟨d0, d1, d2, d3, d4, d5⟩ := hdA
        have HB := hid hb
        clear hb
        go_wp2
        (refine wp_region_ex (by kernel_rfl) (by kernel_rfl) ?_; (repeat (go_big_quiet_step (((first | (go_at_call 39; exact calls_ex (sOne_any x b _ _ (CuAt.up hcA') hx1 hx2 HX.out)) | (go_at_call 40; exact calls_ex_same (find_any _ _ l x.id _ (hl := HL.out.up) HM1.out)) | (go_at_call 41; exact calls_ex (before_any y x b _ b _ _ (CuAt.up hdA') (CuAt.up hcA') HB.out))))))); refine wpQuiet_nil ?_; rintro _ ⟨k, rfl⟩)
        go_wp2
        go_ret
        exact ⟨by rw [HR.out]; rfl, j0.tr k, rfl⟩
    · have HR := hid (vCs_all fun i hi => HS.out i hi (by omega))
      go_wp2
      go_ret
      refine ⟨by rw [HR.out]; first | rfl | (simp; done) | (simp; omega), j0, rfl⟩
end
end Go.Proofs.Ythgfnbgdpmbolaa
