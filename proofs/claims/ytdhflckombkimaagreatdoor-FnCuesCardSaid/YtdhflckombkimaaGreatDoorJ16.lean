/-
  Whether a list of cues is valid, both. Conditions: those typed at each theorem.
  Whether a list of cues is valid: the program's. Conditions: those typed at each theorem.
  Cues without one: l13Without. Conditions: those typed at each theorem.
  CueNamed, ShowEnd: both. Conditions: those typed at each theorem.
  The pairs of cues that clash: both. Conditions: those typed at each theorem.
  Marking and checking a row of pairs. Conditions: those typed at each theorem.
  The level of a target at a time, in plain words. Conditions: those typed at each theorem.
-/
import Derived.Test.YtdhflckombkimaaGreatDoorJ10
import Derived.Test.YtdhflckombkimaaGreatDoorJ11
import Derived.Test.YtdhflckombkimaaGreatDoorJ8
namespace Go.Proofs.YtdhflckombkimaaGreatDoor
open Go.RowKit
theorem cuG_take {l : List Cu} {i j : Nat} (h : j < i) : cuG (l.take i) j = cuG l j := by
  unfold cuG; rw [List.getD_eq_getElem?_getD, List.getD_eq_getElem?_getD, List.getElem?_take, if_pos h]
theorem Rd.takeA {α : Type} {sz : Nat} {f : α → List Value} {w : World} {A : Option Addr} {l : List α} (h : Rd sz f w A l) (i : Nat) : Rd sz f w A (l.take i) := ⟨by have := h.len; rw [List.length_take]; omega, fun h0 => by
  rw [List.length_take] at h0
  obtain ⟨b', o', e, hb, hc⟩ := h.at_ (by omega)
  refine ⟨b', o', e, hb, fun k hk j v hv => ?_⟩
  rw [List.length_take] at hk
  rw [List.getElem_take] at hv
  exact hc k (by omega) j v hv⟩
theorem CuAt.up {w w' : World} {b z : Nat} {x : Cu} (h : CuAt w b z x) [hb : LtW b w] [hu : Up w w'] : CuAt w' b z x := by
  have e : ∀ o, w'.cell? ⟨b, o, none⟩ = w.cell? ⟨b, o, none⟩ := fun o => hu.h.cell (p := ⟨b, o, none⟩) hb.h
  exact ⟨(e _).trans h.c0, (e _).trans h.c1, (e _).trans h.c2, (e _).trans h.c3, (e _).trans h.c4, (e _).trans h.c5⟩
/-- is cue i one that may stand there? -/
def okCs (l : List Cu) (i : Nat) : Prop := vC (cuG l i) = true ∧ (0 < i → befB (cuG l (i - 1)) (cuG l i) = true) ∧ ∀ j, j < i → ((cuG l j).id.toList == (cuG l i).id.toList) = false
open Classical in
noncomputable def vCs (l : List Cu) : Bool := decide (l.length ≤ 32 ∧ ∀ i, i < l.length → okCs l i)
open Classical in
theorem vCs_all {l : List Cu} (h : ∀ i, i < l.length → okCs l i) : vCs l = decide (l.length ≤ 32) := by
  unfold vCs; rw [decide_eq_decide]; exact ⟨fun h => h.1, fun h1 => ⟨h1, h⟩⟩
open Classical in
theorem vCs_bad {l : List Cu} {i : Nat} (hi : i < l.length) (h : ¬ okCs l i) : vCs l = false := decide_eq_false fun h1 => h (h1.2 i hi)
open Classical in
theorem vCs_long {l : List Cu} (h : 32 < l.length) : vCs l = false := decide_eq_false fun h1 => by omega
open Classical in
theorem vCs_of {l : List Cu} (h : vCs l = true) : l.length ≤ 32 ∧ ∀ i, i < l.length → okCs l i := of_decide_eq_true h
open Classical in
theorem vCs_mk {l : List Cu} (h1 : l.length ≤ 32) (h2 : ∀ i, i < l.length → okCs l i) : vCs l = true := decide_eq_true ⟨h1, h2⟩
theorem cII_dup {l : List Cu} {nm : ByteArray} {j : Nat} (hj : j < l.length) (h : ((cuG l j).id.toList == nm.toList) = true) : 0 ≤ cII l nm ∧ cII l nm ≤ j := by
  rcases cI_part l nm with ⟨q, hq, he, hb⟩ | hb
  · rw [cII_hit hq he hb]
    rcases Nat.lt_or_ge j q with h1 | h1
    · rw [hb j h1] at h; cases h
    · omega
  · rw [hb j hj] at h; cases h
theorem okCs_cases (l : List Cu) (i : Nat) (hi : i < l.length) : ∃ m1 m2 m3 : Int, cII l (cuG l i).id = m1 ∧ cII (l.take i) (cuG l i).id = m2 ∧ cmpI (cuG l (i - 1)) (cuG l i) = m3 ∧ (
    (okCs l i ∧ vC (cuG l i) = true ∧ decide (m1 < (i : Int)) = false ∧ decide (0 ≤ m2) = false ∧ i = 0) ∨
    (okCs l i ∧ vC (cuG l i) = true ∧ decide (m1 < (i : Int)) = false ∧ decide (0 ≤ m2) = false ∧ 0 < i ∧ befB (cuG l (i - 1)) (cuG l i) = true ∧ decide (0 ≤ m3) = false) ∨
    (¬ okCs l i ∧ vC (cuG l i) = false) ∨
    (¬ okCs l i ∧ vC (cuG l i) = true ∧ decide (m1 < (i : Int)) = true ∧ decide (0 ≤ m2) = true ∧ 0 < i ∧ befB (cuG l (i - 1)) (cuG l i) = true ∧ decide (0 ≤ m3) = false) ∨
    (¬ okCs l i ∧ vC (cuG l i) = true ∧ decide (m1 < (i : Int)) = true ∧ decide (0 ≤ m2) = true ∧ 0 < i ∧ befB (cuG l (i - 1)) (cuG l i) = false ∧ decide (0 ≤ m3) = true) ∨
    (¬ okCs l i ∧ vC (cuG l i) = true ∧ decide (m1 < (i : Int)) = false ∧ decide (0 ≤ m2) = false ∧ 0 < i ∧ befB (cuG l (i - 1)) (cuG l i) = false ∧ decide (0 ≤ m3) = true)) := by
  refine ⟨_, _, _, rfl, rfl, rfl, ?_⟩
  have hself : ((cuG l i).id.toList == (cuG l i).id.toList) = true := by simp
  have hlt : (l.take i).length = i := by rw [List.length_take]; omega
  by_cases hv : vC (cuG l i) = true
  rotate_left
  · exact .inr (.inr (.inl ⟨fun h => hv h.1, by simpa using hv⟩))
  by_cases hd : ∀ j, j < i → ((cuG l j).id.toList == (cuG l i).id.toList) = false
  · have d1 : decide (cII l (cuG l i).id < (i : Int)) = false := by
      rw [cII_hit hi hself hd]; exact decide_eq_false (by omega)
    have d2 : decide (0 ≤ cII (l.take i) (cuG l i).id) = false := by
      rw [cII_miss (fun j hj => by rw [hlt] at hj; rw [cuG_take hj]; exact hd j hj)]; exact decide_eq_false (by omega)
    by_cases h0 : 0 < i
    · cases hb : befB (cuG l (i - 1)) (cuG l i)
      · exact .inr (.inr (.inr (.inr (.inr ⟨fun h => (by have := h.2.1 h0; rw [hb] at this; cases this), hv, d1, d2, h0, rfl, decide_eq_true (cmpI_ge hb)⟩))))
      · exact .inr (.inl ⟨⟨hv, fun _ => hb, hd⟩, hv, d1, d2, h0, rfl, decide_eq_false (by have := cmpI_lt hb; omega)⟩)
    · exact .inl ⟨⟨hv, fun h => absurd h h0, hd⟩, hv, d1, d2, by omega⟩
  · have hd0 := hd
    simp only [Classical.not_forall] at hd
    obtain ⟨j, hj, he⟩ := hd
    have he : ((cuG l j).id.toList == (cuG l i).id.toList) = true := by simpa using he
    have d1 : decide (cII l (cuG l i).id < (i : Int)) = true := decide_eq_true (by have := (cII_dup (by omega) he).2; omega)
    have d2 : decide (0 ≤ cII (l.take i) (cuG l i).id) = true := decide_eq_true (cII_dup (j := j) (by omega) (by rw [cuG_take hj]; exact he)).1
    cases hb : befB (cuG l (i - 1)) (cuG l i)
    · exact .inr (.inr (.inr (.inr (.inl ⟨fun h => hd0 h.2.2, hv, d1, d2, by omega, rfl, decide_eq_true (cmpI_ge hb)⟩))))
    · exact .inr (.inr (.inr (.inl ⟨fun h => hd0 h.2.2, hv, d1, d2, by omega, rfl, decide_eq_false (by have := cmpI_lt hb; omega)⟩)))
section
set_option maxHeartbeats 3200000
set_option maxRecDepth 20000
theorem sCs_any (A : Option Addr) (c : Nat) (l : List Cu) (w : World) [hk : COks l] [hl : Rd 6 cC w A l] (hn : l.length ≤ 1048576) {r : Bool} (hr : vCs l = r) :
    Calls Tryz.prog 48 #[.slice A l.length c] w fun e w' => e = .returned (.bool r) ∧ ∃ k : Ex w, w' = k.v := by
  subst hr
  have hlen := hl.len
  have HA := hid hl.cu
  have HL := hid hl
  have HO := hid hk.h
  go_enter Tryz.func48, Tryz.ntmps48
  go_wp2
  go_loopw [3] (fun t wr => ∃ q : Nat, q ≤ l.length ∧ t = .int .i64 q ∧ (∀ i, i < l.length → i < q → okCs l i) ∧ ∃ j : Ex w, wr = j.v) (fun t _ => l.length - (intOf t).toNat)
  case atStart => exact ⟨0, Nat.zero_le _, rfl, fun i _ h => absurd h (by omega), Ex.rf w, rfl⟩
  case round =>
    obtain ⟨q, hq, rfl, hs, j0, rfl⟩ := hrel; have HS := hid hs; clear hs
    by_cases hlt : q < l.length
    · (obtain ⟨b, o, rfl, hbw, hc⟩ := HA.out (by omega)); have hcA := hc q hlt; (have hx := HO.out _ (List.getElem_mem hlt)); rw [← cuG_at hlt] at hx; obtain ⟨hx1, hx2, -⟩ := hx; (have HN : Hid (okCs l q → ∀ i, i < l.length → i < q + 1 → okCs l i) := hid fun h i hi hiq => by (rcases Nat.lt_or_ge i q with h1 | h1; (· exact HS.out i hi h1); (· (obtain rfl : i = q := by omega); exact h))); (have HF : Hid (¬ okCs l q → vCs l = false) := hid fun h => vCs_bad hlt h); obtain ⟨m1, m2, m3, hm1, hm2, hm3, hcs⟩ := okCs_cases l q hlt; have HM1 := hid hm1; have HM2 := hid hm2; have HM3 := hid hm3; clear hm1 hm2 hm3
      rcases hcs with ⟨hok, hX, e1, e2, h0⟩ | ⟨hok, hX, e1, e2, h0, hb, e3⟩ | ⟨hok, hX⟩ | ⟨hok, hX, e1, e2, h0, hb, e3⟩ | ⟨hok, hX, e1, e2, h0, hb, e3⟩ | ⟨hok, hX, e1, e2, h0, hb, e3⟩
      · subst h0
        have e1 : decide (m1 < 0) = false := e1
        have HR := hid (HN.out hok)
        have HX := hid hX
        clear hc hok hX
        generalize cuG l 0 = x at *
        have hcA' : CuAt w b o x := by simpa using hcA
        clear hcA
        obtain ⟨c0, c1, c2, c3, c4, c5⟩ := hcA'
        have hcA' : CuAt w b o x := ⟨c0, c1, c2, c3, c4, c5⟩
        go_wp2
        (refine wp_region_ex (by kernel_rfl) (by kernel_rfl) ?_; (repeat (go_big_quiet_step (((first | (go_at_call 49; exact calls_ex (sOne_any x b _ _ (CuAt.up hcA') hx1 hx2 HX.out)) | (go_at_call 50; exact calls_ex_same (find_any _ _ l x.id _ (hl := HL.out.up) HM1.out)) | (go_at_call 73; exact calls_ex (before_any y x b _ b _ _ (CuAt.up hdA') (CuAt.up hcA') HB.out))))))); refine wpQuiet_nil ?_; rintro _ ⟨k, rfl⟩)
        go_wp2
        go_roundw
        case rel => exact ⟨1, by omega, by go_num, HR.out, j0.tr k, rfl⟩
        case measure => simp [intOf]; omega
      · have HR := hid (HN.out hok)
        have HX := hid hX
        clear hok hX
        obtain ⟨p, rfl⟩ : ∃ p, q = p + 1 := ⟨q - 1, by omega⟩; (have e1 : decide (m1 < (p : Int) + 1) = _ := e1); have hdA := hc p (by omega); simp only [Nat.add_sub_cancel] at HM3 hb; clear hc; generalize cuG l (p + 1) = x at *; generalize cuG l p = y at *; (have hdA' := hdA); (have hcA' := hcA); obtain ⟨c0, c1, c2, c3, c4, c5⟩ := hcA; obtain ⟨d0, d1, d2, d3, d4, d5⟩ := hdA
        have HB := hid hb
        clear hb
        go_wp2
        (refine wp_region_ex (by kernel_rfl) (by kernel_rfl) ?_; (repeat (go_big_quiet_step (((first | (go_at_call 49; exact calls_ex (sOne_any x b _ _ (CuAt.up hcA') hx1 hx2 HX.out)) | (go_at_call 50; exact calls_ex_same (find_any _ _ l x.id _ (hl := HL.out.up) HM1.out)) | (go_at_call 73; exact calls_ex (before_any y x b _ b _ _ (CuAt.up hdA') (CuAt.up hcA') HB.out))))))); refine wpQuiet_nil ?_; rintro _ ⟨k, rfl⟩)
        go_wp2
        go_roundw
        case rel => exact ⟨p + 1 + 1, by omega, by go_num, HR.out, j0.tr k, rfl⟩
        case measure => simp [intOf]; omega
      · have HR := hid (HF.out hok)
        have HX := hid hX
        clear hok hX hc
        generalize cuG l q = x at *
        have hcA' := hcA
        obtain ⟨c0, c1, c2, c3, c4, c5⟩ := hcA
        go_wp2
        (refine wp_region_ex (by kernel_rfl) (by kernel_rfl) ?_; (repeat (go_big_quiet_step (((first | (go_at_call 49; exact calls_ex (sOne_any x b _ _ (CuAt.up hcA') hx1 hx2 HX.out)) | (go_at_call 50; exact calls_ex_same (find_any _ _ l x.id _ (hl := HL.out.up) HM1.out)) | (go_at_call 73; exact calls_ex (before_any y x b _ b _ _ (CuAt.up hdA') (CuAt.up hcA') HB.out))))))); refine wpQuiet_nil ?_; rintro _ ⟨k, rfl⟩)
        go_wp2
        go_ret
        exact ⟨by rw [HR.out]; rfl, j0.tr k, rfl⟩
      all_goals
        have HR := hid (HF.out hok)
        have HX := hid hX
        clear hok hX
        obtain ⟨p, rfl⟩ : ∃ p, q = p + 1 := ⟨q - 1, by omega⟩; (have e1 : decide (m1 < (p : Int) + 1) = _ := e1); have hdA := hc p (by omega); simp only [Nat.add_sub_cancel] at HM3 hb; clear hc; generalize cuG l (p + 1) = x at *; generalize cuG l p = y at *; (have hdA' := hdA); (have hcA' := hcA); obtain ⟨c0, c1, c2, c3, c4, c5⟩ := hcA; obtain ⟨d0, d1, d2, d3, d4, d5⟩ := hdA
        have HB := hid hb
        clear hb
        go_wp2
        (refine wp_region_ex (by kernel_rfl) (by kernel_rfl) ?_; (repeat (go_big_quiet_step (((first | (go_at_call 49; exact calls_ex (sOne_any x b _ _ (CuAt.up hcA') hx1 hx2 HX.out)) | (go_at_call 50; exact calls_ex_same (find_any _ _ l x.id _ (hl := HL.out.up) HM1.out)) | (go_at_call 73; exact calls_ex (before_any y x b _ b _ _ (CuAt.up hdA') (CuAt.up hcA') HB.out))))))); refine wpQuiet_nil ?_; rintro _ ⟨k, rfl⟩)
        go_wp2
        go_ret
        exact ⟨by rw [HR.out]; rfl, j0.tr k, rfl⟩
    · have HR := hid (vCs_all fun i hi => HS.out i hi (by omega))
      go_wp2
      go_ret
      refine ⟨by rw [HR.out]; first | rfl | (simp; done) | (simp; omega), j0, rfl⟩
end
end Go.Proofs.YtdhflckombkimaaGreatDoor
namespace Go.Proofs.YtdhflckombkimaaGreatDoor
open Go.RowKit
section
set_option maxHeartbeats 3200000
set_option maxRecDepth 20000
theorem iCs_any (A : Option Addr) (c : Nat) (l : List Cu) (w : World) [hk : COks l] [hl : Rd 6 cC w A l] (hcap : l.length ≤ c) (hn : l.length ≤ 1048576) {r : Bool} (hr : vCs l = r) :
    Calls Tryz.prog 21 #[.slice A l.length c] w fun e w' => e = .returned (.bool r) ∧ ∃ k : Ex w, w' = k.v := by
  subst hr
  have hlen := hl.len
  have HA := hid hl.cu
  have HL := hid hl
  have HO := hid hk.h
  by_cases h32 : 32 < l.length
  · have HR := hid (vCs_long h32)
    have h32i : (32 : Int) < (l.length : Int) := by omega
    go_enter Tryz.func21, Tryz.ntmps21
    go_wp2
    go_ret
    exact ⟨by rw [HR.out]; rfl, Ex.rf w, rfl⟩
  · go_enter Tryz.func21, Tryz.ntmps21
    go_wp2
    go_loopw [10] (fun t wr => ∃ q : Nat, q ≤ l.length ∧ t = .int .i64 q ∧ (∀ i, i < l.length → i < q → okCs l i) ∧ ∃ j : Ex w, wr = j.v) (fun t _ => l.length - (intOf t).toNat)
    case atStart => exact ⟨0, Nat.zero_le _, rfl, fun i _ h => absurd h (by omega), Ex.rf w, rfl⟩
    case round =>
      obtain ⟨q, hq, rfl, hs, j0, rfl⟩ := hrel; have HS := hid hs; clear hs
      by_cases hlt : q < l.length
      · (obtain ⟨b, o, rfl, hbw, hc⟩ := HA.out (by omega)); have hcA := hc q hlt; (have hx := HO.out _ (List.getElem_mem hlt)); rw [← cuG_at hlt] at hx; obtain ⟨hx1, hx2, -⟩ := hx; (have HN : Hid (okCs l q → ∀ i, i < l.length → i < q + 1 → okCs l i) := hid fun h i hi hiq => by (rcases Nat.lt_or_ge i q with h1 | h1; (· exact HS.out i hi h1); (· (obtain rfl : i = q := by omega); exact h))); (have HF : Hid (¬ okCs l q → vCs l = false) := hid fun h => vCs_bad hlt h); obtain ⟨m1, m2, m3, hm1, hm2, hm3, hcs⟩ := okCs_cases l q hlt; have HM1 := hid hm1; have HM2 := hid hm2; have HM3 := hid hm3; clear hm1 hm2 hm3; (have hqt := hid (show (l.take q).length = q by rw [List.length_take]; omega)); have HT := hid (Rd.takeA HL.out q)
        have hqc : q ≤ c := by omega
        rcases hcs with ⟨hok, hX, e1, e2, h0⟩ | ⟨hok, hX, e1, e2, h0, hb, e3⟩ | ⟨hok, hX⟩ | ⟨hok, hX, e1, e2, h0, hb, e3⟩ | ⟨hok, hX, e1, e2, h0, hb, e3⟩ | ⟨hok, hX, e1, e2, h0, hb, e3⟩
        · subst h0
          have HR := hid (HN.out hok)
          have HX := hid hX
          clear hc hok hX
          generalize cuG l 0 = x at *
          have hcA' : CuAt w b o x := by simpa using hcA
          clear hcA
          obtain ⟨c0, c1, c2, c3, c4, c5⟩ := hcA'
          have HT : Hid (Rd 6 cC w (some ⟨b, o, none⟩) (List.take 0 l)) := HT
          go_wp2
          (refine wp_region_ex (by kernel_rfl) (by kernel_rfl) ?_; (repeat (go_big_quiet_step (((first | (go_at_call 22; exact calls_ex (iVC_any x _ hx1 hx2 HX.out)) | (go_at_call 23; exact calls_ex (cueIx_any _ 0 _ (l.take 0) x.id _ (HT.out.up) hqt.out HM2.out))))))); refine wpQuiet_nil ?_; rintro _ ⟨k, rfl⟩)
          go_wp2
          go_roundw
          case rel => exact ⟨1, by omega, by go_num, HR.out, (by refine ex_up (w := w) ⟨k, rfl⟩)⟩
          case measure => simp [intOf]; omega
        · have HR := hid (HN.out hok)
          have HX := hid hX
          clear hok hX
          obtain ⟨p, rfl⟩ : ∃ p, q = p + 1 := ⟨q - 1, by omega⟩; have hdA := hc p (by omega); simp only [Nat.add_sub_cancel] at HM3 hb; clear hc; generalize cuG l (p + 1) = x at *; generalize cuG l p = y at *; obtain ⟨c0, c1, c2, c3, c4, c5⟩ := hcA; obtain ⟨d0, d1, d2, d3, d4, d5⟩ := hdA
          clear hb
          go_wp2
          (refine wp_region_ex (by kernel_rfl) (by kernel_rfl) ?_; (repeat (go_big_quiet_step (((first | (go_at_call 22; exact calls_ex (iVC_any x _ hx1 hx2 HX.out)) | (go_at_call 37; exact calls_ex (cmpC_any y x _ HM3.out)) | (go_at_call 23; exact calls_ex (cueIx_any _ _ _ (l.take (p + 1)) x.id _ (HT.out.up) hqt.out HM2.out))))))); refine wpQuiet_nil ?_; rintro _ ⟨k, rfl⟩)
          go_wp2
          go_roundw
          case rel => exact ⟨p + 1 + 1, by omega, by go_num, HR.out, (by refine ex_up (w := w) ⟨k, rfl⟩)⟩
          case measure => simp [intOf]; omega
        · have HR := hid (HF.out hok)
          have HX := hid hX
          clear hok hX hc
          generalize cuG l q = x at *
          obtain ⟨c0, c1, c2, c3, c4, c5⟩ := hcA
          go_wp2
          (refine wp_region_ex (by kernel_rfl) (by kernel_rfl) ?_; (repeat (go_big_quiet_step (((first | (go_at_call 22; exact calls_ex (iVC_any x _ hx1 hx2 HX.out)) | (go_at_call 23; exact calls_ex (cueIx_any _ _ _ (l.take q) x.id _ (HT.out.up) hqt.out HM2.out))))))); refine wpQuiet_nil ?_; rintro _ ⟨k, rfl⟩)
          go_wp2
          go_ret
          exact ⟨by rw [HR.out]; rfl, (by refine ex_up (w := w) ⟨k, rfl⟩)⟩
        all_goals
          have HR := hid (HF.out hok)
          have HX := hid hX
          clear hok hX
          obtain ⟨p, rfl⟩ : ∃ p, q = p + 1 := ⟨q - 1, by omega⟩; have hdA := hc p (by omega); simp only [Nat.add_sub_cancel] at HM3 hb; clear hc; generalize cuG l (p + 1) = x at *; generalize cuG l p = y at *; obtain ⟨c0, c1, c2, c3, c4, c5⟩ := hcA; obtain ⟨d0, d1, d2, d3, d4, d5⟩ := hdA
          clear hb
          go_wp2
          (refine wp_region_ex (by kernel_rfl) (by kernel_rfl) ?_; (repeat (go_big_quiet_step (((first | (go_at_call 22; exact calls_ex (iVC_any x _ hx1 hx2 HX.out)) | (go_at_call 37; exact calls_ex (cmpC_any y x _ HM3.out)) | (go_at_call 23; exact calls_ex (cueIx_any _ _ _ (l.take (p + 1)) x.id _ (HT.out.up) hqt.out HM2.out))))))); refine wpQuiet_nil ?_; rintro _ ⟨k, rfl⟩)
          go_wp2
          go_ret
          exact ⟨by rw [HR.out]; rfl, (by refine ex_up (w := w) ⟨k, rfl⟩)⟩
      · have HR := hid (vCs_all fun i hi => HS.out i hi (by omega))
        have HR2 : Hid (decide (l.length ≤ 32) = true) := hid (decide_eq_true (by omega))
        go_wp2
        go_ret
        exact ⟨by rw [HR.out, HR2.out]; rfl, j0, rfl⟩
end
end Go.Proofs.YtdhflckombkimaaGreatDoor
namespace Go.Proofs.YtdhflckombkimaaGreatDoor
open Go.RowKit
/-- the cues without cue i -/
def woC (l : List Cu) (i : Nat) : List Cu := l.take i ++ l.drop (i + 1)
theorem woC_len {l : List Cu} {i : Nat} (h : i < l.length) : (woC l i).length = l.length - 1 := by unfold woC; rw [List.length_append, List.length_take, List.length_drop]; omega
section
set_option maxHeartbeats 3200000
set_option maxRecDepth 20000
end
end Go.Proofs.YtdhflckombkimaaGreatDoor
namespace Go.Proofs.YtdhflckombkimaaGreatDoor
open Go.RowKit
noncomputable def cnV (l : List Cu) (nm : ByteArray) : Int := if vCs l = true then (if cII l nm < 0 then 0 else cII l nm) else 0
noncomputable def cnE (l : List Cu) (nm : ByteArray) : Int := if vCs l = true then (if cII l nm < 0 then 3 else 0) else 1
theorem cn_inv {l : List Cu} {nm : ByteArray} (h : vCs l = false) : cnV l nm = 0 ∧ cnE l nm = 1 := by unfold cnV cnE; rw [h]; exact ⟨rfl, rfl⟩
theorem cn_miss {l : List Cu} {nm : ByteArray} (h : vCs l = true) (hm : cII l nm = -1) : cnV l nm = 0 ∧ cnE l nm = 3 := by unfold cnV cnE; rw [if_pos h, if_pos h, hm]; exact ⟨rfl, rfl⟩
theorem cn_hit {l : List Cu} {nm : ByteArray} {q : Nat} (h : vCs l = true) (hm : cII l nm = q) : cnV l nm = q ∧ cnE l nm = 0 := by unfold cnV cnE; rw [if_pos h, if_pos h, hm, if_neg (by omega), if_neg (by omega)]; exact ⟨rfl, rfl⟩
/-- the end of the first k -/
def seP (l : List Cu) : Nat → Int
  | 0 => 0
  | k + 1 => max (seP l k) ((cuG l k).t + (cuG l k).ln)
noncomputable def seV (l : List Cu) : Int := if vCs l = true then seP l l.length else 0
noncomputable def seE (l : List Cu) : Int := if vCs l = true then 0 else 1
theorem se_inv {l : List Cu} (h : vCs l = false) : seV l = 0 ∧ seE l = 1 := by unfold seV seE; rw [h]; exact ⟨rfl, rfl⟩
theorem se_go {l : List Cu} (h : vCs l = true) : seV l = seP l l.length ∧ seE l = 0 := by unfold seV seE; rw [if_pos h, if_pos h]; exact ⟨rfl, rfl⟩
/-- what a valid cue's numbers are -/
theorem vC_num {x : Cu} (h : vC x = true) : (0 ≤ x.t ∧ x.t ≤ 7200000) ∧ (0 ≤ x.v ∧ x.v ≤ 1000) ∧ (0 ≤ x.ln ∧ x.t + x.ln ≤ 7200000) := by
  obtain ⟨-, -, h3, h4, h5⟩ := vC_of h
  refine ⟨h3, h4, ?_⟩
  rcases h5 with ⟨-, h⟩ | ⟨-, h⟩ | ⟨-, h, -⟩ <;> omega
theorem seP_bd {l : List Cu} (h : vCs l = true) : ∀ k, k ≤ l.length → 0 ≤ seP l k ∧ seP l k ≤ 7200000
  | 0, _ => by simp [seP]
  | k + 1, hk => by
    have h1 := seP_bd h k (by omega)
    have h2 := vC_num ((vCs_of h).2 k (by omega)).1
    unfold seP
    omega
section
set_option maxHeartbeats 3200000
set_option maxRecDepth 20000
theorem iCueNamed_any (A : Option Addr) (c : Nat) (l : List Cu) (nm : ByteArray) (w : World) [hk : COks l] [hl : Rd 6 cC w A l] (hcap : l.length ≤ c) (hn : l.length ≤ 1048576) {rv re : Int} (hrv : cnV l nm = rv) (hre : cnE l nm = re) :
    Calls Tryz.prog 11 #[.slice A l.length c, .string nm] w fun e w' => e = .returned (.tuple #[.int .i64 rv, .int .i64 re]) ∧ ∃ k : Ex w, w' = k.v := by
  subst hrv; subst hre
  have hlen := hl.len
  cases hv : vCs l
  · have HR := hid (cn_inv (nm := nm) hv)
    have HV := hid hv
    clear hv
    go_enter Tryz.func11, Tryz.ntmps11
    go_wp2_with ((go_at_call 21; (with_reducible refine (iCs_any _ _ l _ ?_ ?_ (HV.out)).mono ?_); (· omega); (· omega); rintro e w' ⟨rfl, k, rfl⟩))
    go_ret2
    rw [HR.out.1, HR.out.2]
    refine ⟨by rfl, ?_⟩
    (refine Ok.toEx ?_; (repeat (first | (with_reducible exact Ok.rf _) | (with_reducible refine Ok.alloc ?_ _) | (with_reducible refine Ok.ex ?_ _) | (with_reducible refine Ok.drew ?_) | (with_reducible refine Ok.setCellI ?_ _ _ _) | (with_reducible refine Ok.exb ?_ _))))
  · have HV := hid hv
    rcases cI_part l nm with ⟨q, hq, he, hb⟩ | hb
    · have HM := hid (cII_hit hq he hb)
      have HR := hid (cn_hit hv HM.out)
      clear hv he hb
      go_enter Tryz.func11, Tryz.ntmps11
      go_wp2_with (first | (go_at_call 21; (with_reducible refine (iCs_any _ _ l _ ?_ ?_ (HV.out)).mono ?_); (· omega); (· omega); rintro e w' ⟨rfl, k, rfl⟩) | (go_at_call 23; go_loud ((with_reducible refine (cueIx_any _ l.length _ l _ _ ?_ rfl (HM.out)).mono ?_); (· infer_instance); rintro e w' ⟨rfl, k2, rfl⟩)))
      go_ret2
      rw [HR.out.1, HR.out.2]
      refine ⟨by rfl, ?_⟩
      (refine Ok.toEx ?_; (repeat (first | (with_reducible exact Ok.rf _) | (with_reducible refine Ok.alloc ?_ _) | (with_reducible refine Ok.ex ?_ _) | (with_reducible refine Ok.drew ?_) | (with_reducible refine Ok.setCellI ?_ _ _ _) | (with_reducible refine Ok.exb ?_ _))))
    · have HM := hid (cII_miss hb)
      have HR := hid (cn_miss hv HM.out)
      clear hv hb
      go_enter Tryz.func11, Tryz.ntmps11
      go_wp2_with (first | (go_at_call 21; (with_reducible refine (iCs_any _ _ l _ ?_ ?_ (HV.out)).mono ?_); (· omega); (· omega); rintro e w' ⟨rfl, k, rfl⟩) | (go_at_call 23; go_loud ((with_reducible refine (cueIx_any _ l.length _ l _ _ ?_ rfl (HM.out)).mono ?_); (· infer_instance); rintro e w' ⟨rfl, k2, rfl⟩)))
      go_ret2
      rw [HR.out.1, HR.out.2]
      refine ⟨by rfl, ?_⟩
      (refine Ok.toEx ?_; (repeat (first | (with_reducible exact Ok.rf _) | (with_reducible refine Ok.alloc ?_ _) | (with_reducible refine Ok.ex ?_ _) | (with_reducible refine Ok.drew ?_) | (with_reducible refine Ok.setCellI ?_ _ _ _) | (with_reducible refine Ok.exb ?_ _))))
end
end Go.Proofs.YtdhflckombkimaaGreatDoor
namespace Go.Proofs.YtdhflckombkimaaGreatDoor
open Go.RowKit
/-- do the cues x and y (y not earlier) clash? -/
def clB (x y : Cu) : Bool := (x.tg.toList == y.tg.toList) && ((y.t == x.t) || decide (y.t < x.t + x.ln))
theorem clB_cases (x y : Cu) :
    (clB x y = false ∧ (x.tg.toList == y.tg.toList) = false) ∨ (clB x y = true ∧ (x.tg.toList == y.tg.toList) = true ∧ (y.t == x.t) = true) ∨
    (clB x y = true ∧ (x.tg.toList == y.tg.toList) = true ∧ (y.t == x.t) = false ∧ decide (y.t < x.t + x.ln) = true) ∨ (clB x y = false ∧ (x.tg.toList == y.tg.toList) = true ∧ (y.t == x.t) = false ∧ decide (y.t < x.t + x.ln) = false) := by
  unfold clB
  cases (x.tg.toList == y.tg.toList) <;> cases (y.t == x.t) <;> cases decide (y.t < x.t + x.ln) <;> simp
/-- the pair of i and k, if they clash -/
def clk (l : List Cu) (i k : Nat) : List (List Int) := if clB (cuG l i) (cuG l k) = true then [[(i : Int), (k : Int)]] else []
/-- the pairs of i with the m cues behind it -/
def clRow (l : List Cu) (i : Nat) : Nat → List (List Int)
  | 0 => []
  | m + 1 => clRow l i m ++ clk l i (i + 1 + m)
def clAll (l : List Cu) : Nat → List (List Int)
  | 0 => []
  | i + 1 => clAll l i ++ clRow l i (l.length - (i + 1))
theorem clRow_len (l : List Cu) (i : Nat) : ∀ m, (clRow l i m).length ≤ m
  | 0 => Nat.le_refl _
  | m + 1 => by
    have := clRow_len l i m
    have h2 : (clk l i (i + 1 + m)).length ≤ 1 := by unfold clk; split <;> simp
    unfold clRow
    rw [List.length_append]; omega
theorem clAll_len (l : List Cu) : ∀ i, (clAll l i).length ≤ i * l.length
  | 0 => by simp [clAll]
  | i + 1 => by
    have := clAll_len l i
    have h2 := clRow_len l i (l.length - (i + 1))
    unfold clAll
    rw [List.length_append, Nat.succ_mul]; omega
theorem clRow_two (l : List Cu) (i : Nat) : ∀ m, ∀ x ∈ clRow l i m, x.length = 2
  | 0, x, h => by simp [clRow] at h
  | m + 1, x, h => by
    unfold clRow at h
    rcases List.mem_append.1 h with h | h
    · exact clRow_two l i m x h
    · unfold clk at h
      split at h
      · rw [List.mem_singleton.1 h]; rfl
      · simp at h
theorem clAll_two (l : List Cu) : ∀ i, ∀ x ∈ clAll l i, x.length = 2
  | 0, x, h => by simp [clAll] at h
  | i + 1, x, h => by
    unfold clAll at h
    rcases List.mem_append.1 h with h | h
    · exact clAll_two l i x h
    · exact clRow_two l i _ x h
open Classical in
noncomputable def csV (l : List Cu) : List (List Int) := if vCs l = true then clAll l l.length else []
noncomputable def csE (l : List Cu) : Int := if vCs l = true then 0 else 1
theorem csV_len (l : List Cu) : (csV l).length ≤ 1024 := by
  unfold csV
  split
  · rename_i h
    have h1 := (vCs_of h).1
    have h2 := clAll_len l l.length
    have h3 : l.length * l.length ≤ 32 * 32 := Nat.mul_le_mul h1 h1
    omega
  · simp
theorem csV_two (l : List Cu) : ∀ x ∈ csV l, x.length = 2 := by
  unfold csV
  split
  · exact clAll_two l _
  · simp
/-! ### rows of pairs -/
/-- the cell of a pair that lies in block b -/
def prC (b : Nat) : List Value := [.slice (some ⟨b, 0, none⟩) 2 2]
/-- v is a row of pairs that append has built from block B on; the pairs lie in the blocks bs and read as V -/
class PrR (B : Nat) (e : TypeId) (v : Value) (bs : List Nat) (V : List (List Int)) (w : World) : Prop where
  own : w.ownsRow B e 1 v bs.length (bs.flatMap prC)
  len : bs.length = V.length
  nd : bs.Nodup
  ge : ∀ b ∈ bs, B ≤ b ∧ b < w.heap.size ∧ v.ownBlock ≠ some b
  con : ∀ k (h : k < bs.length), Wr 1 iC w bs[k] (V[k]'(by rw [← len]; exact h))
section
variable {B : Nat} {e : TypeId} {v v' : Value} {bs : List Nat} {V : List (List Int)} {w : World}
instance (priority := 900) prr_ex [h : PrR B e v bs V w] (k : Ex w) : PrR B e v bs V k.v :=
  ⟨ownsRow_ex h.own k, h.len, h.nd, fun b hb => ⟨(h.ge b hb).1, Nat.lt_of_lt_of_le (h.ge b hb).2.1 k.h.size, (h.ge b hb).2.2⟩, fun i hi => (h.con i hi).congr (k.block (h.ge _ (List.getElem_mem hi)).2.1)⟩
instance (priority := 900) prr_alloc [h : PrR B e v bs V w] (o : Obj) : PrR B e v bs V (w.alloc o) := prr_ex (h := h) (Ex.of ((Below.refl _ _).alloc (Nat.le_refl _) o))
instance (priority := 900) prr_drew [h : PrR B e v bs V w] : PrR B e v bs V w.drew := prr_ex (h := h) (Ex.of (Below.refl _ _).drew)
theorem prr_h [h : PrR B e v bs V w] : PrR B e v bs V w := h
theorem prr_own [h : PrR B e v bs V w] : w.ownsRow B e 1 v bs.length (bs.flatMap prC) := h.own
theorem PrR.nil (w : World) (B : Nat) (e : TypeId) : PrR B e (.slice none 0 0) [] [] w :=
  ⟨World.ownsRow_nil w B e 1, rfl, List.nodup_nil, fun b h => by simp at h, fun k h => by simp at h⟩
theorem PrR.made (w : World) {B : Nat} (hB : B ≤ w.heap.size) (e : TypeId) : PrR B e (.slice (some ⟨w.heap.size, 0, none⟩) 0 0) [] [] (w.alloc (.cells #[] e)) :=
  ⟨row_made w B hB e 1 prC, rfl, List.nodup_nil, fun b h => by simp at h, fun k h => by simp at h⟩
theorem PrR.step [h : PrR B e v bs V w] {p : Nat} (hp : w.heap.size = p) {t : TypeId} {i k : Int} (hB : B ≤ w.heap.size) {u : Obj} {kk : Exb B ((w.alloc (.cells #[.int .i64 i, .int .i64 k] t)).alloc u)}
    (hA : Apd B e 1 v v' ((w.alloc (.cells #[.int .i64 i, .int .i64 k] t)).alloc u) kk (bs ++ [p]).length ((bs ++ [p]).flatMap prC)) : PrR B e v' (bs ++ [p]) (V ++ [[i, k]]) kk.v := by
  subst hp
  have hkeep : ∀ b, b < w.heap.size + 1 → v.ownBlock ≠ some b → kk.v.heap[b]? = (w.alloc (.cells #[.int .i64 i, .int .i64 k] t)).heap[b]? := fun b hb hne => by
    rw [hA.keep b (by simp; omega) hne]
    exact Ex.block (w := w.alloc (.cells #[.int .i64 i, .int .i64 k] t)) (Ex.of ((Below.refl _ _).alloc (Nat.le_refl _) u)) (by simp; omega)
  have hvn : v.ownBlock ≠ some w.heap.size := fun e => by have := (h.own.lt _ e).2; omega
  have hsz : w.heap.size + 2 ≤ kk.v.heap.size := Nat.le_trans (by simp) kk.h.size
  have hv' : ∀ b, b < w.heap.size + 1 → v.ownBlock ≠ some b → v'.ownBlock ≠ some b := fun b hb hne => hA.ne (by simp; omega) hne
  refine ⟨hA.own, by simp [h.len], ?_, fun b hb => ?_, fun q hq => ?_⟩
  · rw [List.nodup_append]
    refine ⟨h.nd, by simp, fun a ha b hb => ?_⟩
    have := (h.ge a ha).2.1
    rw [List.mem_singleton.1 hb]; omega
  · rcases List.mem_append.1 hb with hb | hb
    · have := h.ge b hb
      exact ⟨this.1, by omega, hv' b (by omega) this.2.2⟩
    · rw [List.mem_singleton.1 hb]
      exact ⟨hB, by omega, hv' _ (by omega) hvn⟩
  · rcases Nat.lt_or_ge q bs.length with hlt | hge
    · rw [List.getElem_append_left hlt, List.getElem_append_left (by rw [← h.len]; exact hlt)] 
      have h1 := h.ge _ (List.getElem_mem hlt)
      exact ((h.con q hlt).congr (Ex.block (Ex.of ((Below.refl _ _).alloc (Nat.le_refl _) _)) h1.2.1)).congr (hkeep _ (by omega) h1.2.2)
    · have hq' : q = bs.length := by simp at hq; omega
      subst hq'
      have e1 : (bs ++ [w.heap.size])[bs.length] = w.heap.size := by simp
      have e2 : (V ++ [[i, k]])[bs.length]'(by simp [h.len]) = [i, k] := by simp [h.len]
      rw [e1, e2]
      have h2 : Wr 1 iC (w.alloc (.cells #[.int .i64 i, .int .i64 k] t)) w.heap.size [i, k] := by
        refine ⟨by simp, ⟨t, 2, fun j => ((#[Value.int .i64 i, .int .i64 k] : Array Value)[j]?).getD undef, by simp, World.rowIs_alloc w _ t _ (fun j hj => by rw [Array.getElem?_eq_getElem hj]; rfl), fun q hq j x hx hj => ?_⟩, fun x _ => rfl⟩
        obtain rfl : j = 0 := by omega
        have hq2 : q < 2 := hq
        rcases q with _ | _ | q
        · simp [iC] at hx ⊢; exact hx
        · simp [iC] at hx ⊢; exact hx
        · omega
      exact h2.congr (hkeep _ (by omega) hvn)
theorem PrR.mono {B' : Nat} (h : PrR B e v bs V w) (hB : B' ≤ B) : PrR B' e v bs V w :=
  ⟨⟨h.own.1, h.own.2.imp id fun ⟨g, cap, cur, h1, h2, h3⟩ => ⟨g, cap, cur, h1, Nat.le_trans hB h2, h3⟩⟩, h.len, h.nd, fun b hb => ⟨Nat.le_trans hB (h.ge b hb).1, (h.ge b hb).2⟩, h.con⟩
theorem PrR.form (h : PrR B e v bs V w) : ∃ A c, v = .slice A bs.length c := by
  obtain ⟨A, c, h1, -, -⟩ := Ow.of_row (f := prC) (fun _ => rfl) h.own
  exact ⟨A, c, h1⟩
/-- it reads as V -/
theorem PrR.iss {A : Option Addr} {n c : Nat} [h : PrR B e (.slice A n c) bs V w] (hn : n = bs.length) (hV2 : ∀ x ∈ V, x.length = 2) : Iss w A V := by
  subst hn
  obtain ⟨A', c', he, hO, -⟩ := Ow.of_row (f := prC) (fun _ => rfl) h.own
  injection he with e1 e2 e3
  subst e1
  have hrd : Rd 1 prC w A bs := inferInstance
  refine ⟨by have := hrd.len; rw [← h.len]; exact this, fun h0 => ?_⟩
  obtain ⟨b, o, e', hb, hc⟩ := hrd.at_ (by rw [h.len]; exact h0)
  refine ⟨b, o, e', hb, fun k hk => ?_⟩
  have hk' : k < bs.length := by rw [h.len]; exact hk
  have h1 := hc k hk' 0 _ rfl
  rw [Nat.mul_one] at h1
  refine ⟨some ⟨bs[k], 0, none⟩, 2, ?_, ?_⟩
  · rw [hV2 _ (List.getElem_mem hk)]; simpa using h1
  · have := h.con k hk'
    exact Wr.rd
end
end Go.Proofs.YtdhflckombkimaaGreatDoor
namespace Go.Proofs.YtdhflckombkimaaGreatDoor
open Go.RowKit
section
variable {B : Nat} {e : TypeId} {v : Value} {bs : List Nat} {V : List (List Int)} {w : World}
/-- pair q written over -/
theorem PrR.mark {q : Nat} (h : PrR B e v bs V w) (hq : q < bs.length) {w' : World} {L : List Int} (hL : 0 < L.length) (hb : But (some ⟨bs[q], 0, none⟩) w w') (ho : Ow 1 iC w' (some ⟨bs[q], 0, none⟩) L) : PrR B e v bs (V.set q L) w' := by
  have hbk : ∀ x, x < w.heap.size → x ≠ bs[q] → w'.heap[x]? = w.heap[x]? := fun x hx hn => hb.block x hx fun o e => hn (by cases e; rfl)
  refine ⟨⟨h.own.1, ?_⟩, by simp [h.len], h.nd, fun b hb' => ⟨(h.ge b hb').1, Nat.lt_of_lt_of_le (h.ge b hb').2.1 hb.size, (h.ge b hb').2.2⟩, fun k hk => ?_⟩
  · rcases h.own.2 with h1 | ⟨g, cap, cur, rfl, h2, h3, h4⟩
    · exact .inl h1
    · refine .inr ⟨g, cap, cur, rfl, h2, ?_, h4⟩
      rw [hbk g (Array.getElem?_eq_some_iff.1 h3).1 (fun e => (h.ge _ (List.getElem_mem hq)).2.2 (by rw [← e]; rfl))]
      exact h3
  · by_cases hkq : k = q
    · subst hkq
      obtain ⟨b, he, hw⟩ := ho.own hL
      injection he with he
      injection he with he
      rw [List.getElem_set_self, he]
      exact hw
    · have hne : bs[k] ≠ bs[q] := fun e => hkq ((List.getElem_inj h.nd).1 e)
      rw [List.getElem_set_ne (Ne.symm hkq)]
      exact (h.con k hk).congr (hbk _ (h.ge _ (List.getElem_mem hk)).2.1 hne)
/-- in a world that differs in one block alone -/
theorem PrR.but {w' : World} {b : Nat} (h : PrR B e v bs V w) (hb : But (some ⟨b, 0, none⟩) w w') (hn : b < B) : PrR B e v bs V w' := by
  have hbk : ∀ x, x < w.heap.size → B ≤ x → w'.heap[x]? = w.heap[x]? := fun x hx hn' => hb.block x hx fun o e => by cases e; omega
  refine ⟨⟨h.own.1, ?_⟩, h.len, h.nd, fun b' hb' => ⟨(h.ge b' hb').1, Nat.lt_of_lt_of_le (h.ge b' hb').2.1 hb.size, (h.ge b' hb').2.2⟩, fun k hk => ?_⟩
  · rcases h.own.2 with h1 | ⟨g, cap, cur, rfl, h2, h3, h4⟩
    · exact .inl h1
    · refine .inr ⟨g, cap, cur, rfl, h2, ?_, h4⟩
      rw [hbk g (Array.getElem?_eq_some_iff.1 h3).1 h2]
      exact h3
  · have := h.ge _ (List.getElem_mem hk)
    exact (h.con k hk).congr (hbk _ this.2.1 this.1)
end
/-- V holds the marks of n pairs from k on -/
def PrMk (V : List (List Int)) (k : Int) (n : Nat) : Prop := (∀ x ∈ V, x.length = 2) ∧ ∀ i (h : i < V.length), i < n → V[i] = iMk 2 (k + 2 * (i : Int))
theorem PrMk.step {V : List (List Int)} {k : Int} {n : Nat} (h : PrMk V k n) (hn : n < V.length) : PrMk (V.set n (iMk 2 (k + 2 * (n : Int)))) k (n + 1) := by
  refine ⟨fun x hx => ?_, fun i hi hin => ?_⟩
  · rcases List.mem_or_eq_of_mem_set hx with hx | rfl
    · exact h.1 x hx
    · exact iMk_len _ _
  · rcases Nat.lt_or_ge i n with h1 | h1
    · rw [List.getElem_set_ne (by omega)]
      exact h.2 i _ h1
    · obtain rfl : i = n := by omega
      rw [List.getElem_set_self]
/-- the pair's place in the row -/
theorem PrR.at_ {B : Nat} {e : TypeId} {bs : List Nat} {V : List (List Int)} {w : World} {A : Option Addr} {n c : Nat} (h : PrR B e (.slice A n c) bs V w) {q : Nat} (hq : q < bs.length) :
    ∃ b o, A = some ⟨b, o, none⟩ ∧ LtW b w ∧ w.cell? ⟨b, o + q, none⟩ = some (.slice (some ⟨bs[q], 0, none⟩) 2 2) := by
  obtain ⟨A', c', he, hO, -⟩ := Ow.of_row (f := prC) (fun _ => rfl) h.own
  injection he with e1 e2 e3
  subst e1
  have hrd : Rd 1 prC w A bs := inferInstance
  obtain ⟨b, o, e', hb, hc⟩ := hrd.at_ (by omega)
  refine ⟨b, o, e', hb, ?_⟩
  have := hc q hq 0 _ rfl
  simpa using this
section
set_option maxHeartbeats 3200000
set_option maxRecDepth 20000
end
end Go.Proofs.YtdhflckombkimaaGreatDoor
namespace Go.Proofs.YtdhflckombkimaaGreatDoor
open Go.RowKit
theorem near_up {a b c : Int} (ha : 0 ≤ a) (hb : 0 ≤ b) (hbc : b ≤ c) (hc : 0 < c) : 0 ≤ near (a * b) c ∧ near (a * b) c ≤ a := by
  have h1 : 0 ≤ a * b := Int.mul_nonneg ha hb
  have h2 : a * b ≤ a * c := Int.mul_le_mul_of_nonneg_left hbc ha
  have h3 : (a + 1) * (2 * c) = 2 * (a * c) + 2 * c := by rw [Int.add_mul, Int.one_mul, Int.mul_left_comm]
  unfold near
  rw [if_neg (by omega)]
  refine ⟨Int.ediv_nonneg (by omega) (by omega), ?_⟩
  have : (2 * (a * b) + c) / (2 * c) < a + 1 := Int.ediv_lt_of_lt_mul (by omega) (by rw [h3]; omega)
  omega
theorem near_sym (y c : Int) (hy : 0 < y) : near (-y) c = -near y c := by
  unfold near
  rw [if_pos (by omega), if_neg (by omega)]
  congr 2
  omega
theorem near_dn {a b c : Int} (ha : a ≤ 0) (hb : 0 ≤ b) (hbc : b ≤ c) (hc : 0 < c) : a ≤ near (a * b) c ∧ near (a * b) c ≤ 0 := by
  have h0 := near_up (a := -a) (by omega) hb hbc hc
  have he : -a * b = -(a * b) := Int.neg_mul ..
  rw [he] at h0
  have h1 : 0 ≤ -a * b := Int.mul_nonneg (by omega) hb
  rw [he] at h1
  by_cases hz : a * b = 0
  · have hz2 : near 0 c = 0 := by unfold near; rw [if_neg (by omega)]; exact Int.ediv_eq_zero_of_lt (by omega) (by omega)
    rw [hz, hz2]
    omega
  · have := near_sym (-(a * b)) c (by omega)
    rw [Int.neg_neg] at this
    omega
/-- the time at which what follows begins, from cue j on -/
def endG (l : List Cu) (nm : ByteArray) (time : Int) : Nat → Nat → Int
  | 0, _ => time
  | n + 1, j => if (cuG l j).tg.toList == nm.toList then min time (cuG l j).t else endG l nm time n (j + 1)
def endE (l : List Cu) (nm : ByteArray) (time : Int) (k : Nat) : Int := endG l nm time (l.length - (k + 1)) (k + 1)
theorem endG_hit {l : List Cu} {nm : ByteArray} {time : Int} {j : Nat} (hj : j < l.length) (h : ((cuG l j).tg.toList == nm.toList) = true) : endG l nm time (l.length - j) j = min time (cuG l j).t := by
  obtain ⟨n, hn⟩ : ∃ n, l.length - j = n + 1 := ⟨l.length - j - 1, by omega⟩
  rw [hn]; unfold endG; rw [if_pos h]
theorem endG_miss {l : List Cu} {nm : ByteArray} {time : Int} {j : Nat} (hj : j < l.length) (h : ((cuG l j).tg.toList == nm.toList) = false) : endG l nm time (l.length - j) j = endG l nm time (l.length - (j + 1)) (j + 1) := by
  obtain ⟨n, hn⟩ : ∃ n, l.length - j = n + 1 := ⟨l.length - j - 1, by omega⟩
  rw [hn, show l.length - (j + 1) = n by omega]; conv => lhs; unfold endG
  rw [if_neg (by rw [h]; simp)]
theorem endG_end {l : List Cu} {nm : ByteArray} {time : Int} {j : Nat} (hj : l.length ≤ j) : endG l nm time (l.length - j) j = time := by
  rw [show l.length - j = 0 by omega]; rfl
theorem endG_bd {l : List Cu} {nm : ByteArray} {time lo : Int} (h : lo ≤ time) : ∀ (n j : Nat), (∀ i, j ≤ i → i < j + n → lo ≤ (cuG l i).t) → lo ≤ endG l nm time n j ∧ endG l nm time n j ≤ time
  | 0, _, _ => ⟨h, Int.le_refl _⟩
  | n + 1, j, hs => by
    unfold endG
    split
    · have := hs j (Nat.le_refl _) (by omega); omega
    · exact endG_bd h n (j + 1) fun i h1 h2 => hs i (by omega) (by omega)
theorem befB_t {x y : Cu} (h : befB x y = true) : x.t ≤ y.t := by
  rcases befB_cases x y with ⟨-, h1⟩ | ⟨-, -, h2, -⟩ | ⟨h0, -⟩ | ⟨h0, -⟩
  · omega
  · rw [beq_iff_eq] at h2; omega
  · rw [h] at h0; cases h0
  · rw [h] at h0; cases h0
/-- times do not fall -/
theorem vCs_sort {l : List Cu} (h : vCs l = true) : ∀ j i, i ≤ j → j < l.length → (cuG l i).t ≤ (cuG l j).t
  | 0, i, hi, _ => by
    obtain rfl : i = 0 := by omega
    exact Int.le_refl _
  | j + 1, i, hi, hj => by
    rcases Nat.lt_or_ge j i with h1 | h1
    · obtain rfl : i = j + 1 := by omega
      exact Int.le_refl _
    · have h2 := vCs_sort h j i h1 (by omega)
      have h3 := befB_t (((vCs_of h).2 (j + 1) hj).2.1 (by omega))
      simp only [Nat.add_sub_cancel] at h3
      omega
theorem endE_bd {l : List Cu} (h : vCs l = true) (nm : ByteArray) {time : Int} {k : Nat} (hk : k < l.length) (ht : (cuG l k).t ≤ time) : (cuG l k).t ≤ endE l nm time k ∧ endE l nm time k ≤ time :=
  endG_bd ht _ _ fun i h1 h2 => vCs_sort h i k (by omega) (by omega)
/-- the level behind the first k cues -/
def lvP (l : List Cu) (nm : ByteArray) (time : Int) : Nat → Int
  | 0 => 0
  | k + 1 => if ((cuG l k).tg.toList == nm.toList) = true ∧ (cuG l k).t ≤ time then
      (if (cuG l k).act = 2 ∧ endE l nm time k < (cuG l k).t + (cuG l k).ln then lvP l nm time k + near (((cuG l k).v - lvP l nm time k) * (endE l nm time k - (cuG l k).t)) (cuG l k).ln else (cuG l k).v)
    else lvP l nm time k
theorem lvP_skip {l : List Cu} {nm : ByteArray} {time : Int} {k : Nat} (h : ¬ (((cuG l k).tg.toList == nm.toList) = true ∧ (cuG l k).t ≤ time)) : lvP l nm time (k + 1) = lvP l nm time k := by conv => lhs; unfold lvP; rw [if_neg h]
theorem lvP_fade {l : List Cu} {nm : ByteArray} {time : Int} {k : Nat} (h : ((cuG l k).tg.toList == nm.toList) = true) (h2 : (cuG l k).t ≤ time) (h3 : (cuG l k).act = 2) (h4 : endE l nm time k < (cuG l k).t + (cuG l k).ln) :
    lvP l nm time (k + 1) = lvP l nm time k + near (((cuG l k).v - lvP l nm time k) * (endE l nm time k - (cuG l k).t)) (cuG l k).ln := by conv => lhs; unfold lvP; rw [if_pos ⟨h, h2⟩, if_pos ⟨h3, h4⟩]
theorem lvP_set {l : List Cu} {nm : ByteArray} {time : Int} {k : Nat} (h : ((cuG l k).tg.toList == nm.toList) = true) (h2 : (cuG l k).t ≤ time) (h3 : ¬ ((cuG l k).act = 2 ∧ endE l nm time k < (cuG l k).t + (cuG l k).ln)) : lvP l nm time (k + 1) = (cuG l k).v := by conv => lhs; unfold lvP; rw [if_pos ⟨h, h2⟩, if_neg h3]
theorem lvP_bd {l : List Cu} (h : vCs l = true) (nm : ByteArray) (time : Int) : ∀ k, k ≤ l.length → 0 ≤ lvP l nm time k ∧ lvP l nm time k ≤ 1000
  | 0, _ => by simp [lvP]
  | k + 1, hk => by
    have h1 := lvP_bd h nm time k (by omega)
    obtain ⟨h2, h3, h4⟩ := vC_num ((vCs_of h).2 k (by omega)).1
    unfold lvP
    split
    · rename_i hc
      obtain ⟨hc1, hc2⟩ := hc
      have h5 := endE_bd h nm (k := k) (by omega) hc2
      split
      · rename_i hd
        obtain ⟨hd1, hd2⟩ := hd
        generalize lvP l nm time k = a at *
        generalize endE l nm time k = e at *
        generalize cuG l k = x at *
        rcases Int.le_total 0 (x.v - a) with hs | hs
        · have := near_up hs (b := e - x.t) (c := x.ln) (by omega) (by omega) (by omega)
          omega
        · have := near_dn hs (b := e - x.t) (c := x.ln) (by omega) (by omega) (by omega)
          omega
      · exact h3
    · exact h1
/-- the product that a fade needs -/
theorem lv_prod {a e t v : Int} (h1 : 0 ≤ a ∧ a ≤ 1000) (h2 : 0 ≤ v ∧ v ≤ 1000) (h3 : 0 ≤ t) (h4 : t ≤ e) (h5 : e ≤ 7200000) : -7200000000 ≤ (v - a) * (e - t) ∧ (v - a) * (e - t) ≤ 7200000000 := by
  have hb : 0 ≤ e - t := by omega
  have hb2 : e - t ≤ 7200000 := by omega
  generalize e - t = b at *
  have h6 : -1000 ≤ v - a := by omega
  have h7 : v - a ≤ 1000 := by omega
  generalize v - a = d at *
  have k1 : d * b ≤ 1000 * b := Int.mul_le_mul_of_nonneg_right h7 hb
  have k2 : -1000 * b ≤ d * b := Int.mul_le_mul_of_nonneg_right h6 hb
  omega
noncomputable def laV (l : List Cu) (nm : ByteArray) (time : Int) : Int := if vCs l = true then (if 0 ≤ time ∧ time ≤ 7200000 then lvP l nm time l.length else 0) else 0
noncomputable def laE (l : List Cu) (time : Int) : Int := if vCs l = true then (if 0 ≤ time ∧ time ≤ 7200000 then 0 else 2) else 1
theorem la_inv {l : List Cu} {nm : ByteArray} {time : Int} (h : vCs l = false) : laV l nm time = 0 ∧ laE l time = 1 := by unfold laV laE; rw [h]; exact ⟨rfl, rfl⟩
theorem la_rng {l : List Cu} {nm : ByteArray} {time : Int} (h : vCs l = true) (h2 : ¬ (0 ≤ time ∧ time ≤ 7200000)) : laV l nm time = 0 ∧ laE l time = 2 := by unfold laV laE; rw [if_pos h, if_pos h, if_neg h2, if_neg h2]; exact ⟨rfl, rfl⟩
theorem la_go {l : List Cu} {nm : ByteArray} {time : Int} (h : vCs l = true) (h2 : 0 ≤ time ∧ time ≤ 7200000) : laV l nm time = lvP l nm time l.length ∧ laE l time = 0 := by unfold laV laE; rw [if_pos h, if_pos h, if_pos h2, if_pos h2]; exact ⟨rfl, rfl⟩
end Go.Proofs.YtdhflckombkimaaGreatDoor
