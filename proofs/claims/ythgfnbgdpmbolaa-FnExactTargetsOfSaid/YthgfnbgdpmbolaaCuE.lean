/-
  Whether a list of cues is valid: the program's. Conditions: those typed at each theorem.
-/
import Derived.Test.YthgfnbgdpmbolaaCuD
namespace Go.Proofs.Ythgfnbgdpmbolaa
open Go.RowKit
section
set_option maxHeartbeats 3200000
set_option maxRecDepth 20000
theorem iCs_any (A : Option Addr) (c : Nat) (l : List Cu) (w : World) [hk : COks l] [hl : Rd 6 cC w A l] (hcap : l.length ≤ c) (hn : l.length ≤ 1048576) {r : Bool} (hr : vCs l = r) :
    Calls Try.prog 21 #[.slice A l.length c] w fun e w' => e = .returned (.bool r) ∧ ∃ k : Ex w, w' = k.v := by
  subst hr
  have hlen := hl.len
  have HA := hid hl.cu
  have HL := hid hl
  have HO := hid hk.h
  by_cases h32 : 32 < l.length
  · have HR := hid (vCs_long h32)
    have h32i : (32 : Int) < (l.length : Int) := by omega
    go_enter Try.func21, Try.ntmps21
    go_wp2
    go_ret
    exact ⟨by rw [HR.out]; rfl, Ex.rf w, rfl⟩
  · go_enter Try.func21, Try.ntmps21
    go_wp2
    go_loopw [10] (fun t wr => ∃ q : Nat, q ≤ l.length ∧ t = .int .i64 q ∧ (∀ i, i < l.length → i < q → okCs l i) ∧ ∃ j : Ex w, wr = j.v) (fun t _ => l.length - (intOf t).toNat)
    case atStart => exact ⟨0, Nat.zero_le _, rfl, fun i _ h => absurd h (by omega), Ex.rf w, rfl⟩
    case round =>
      obtain ⟨q, hq, rfl, hs, j0, rfl⟩ := hrel; have HS := hid hs; clear hs
      by_cases hlt : q < l.length
      · (obtain ⟨b, o, rfl, hbw, hc⟩ := HA.out (by omega)); have hcA := hc q hlt; (have hx := HO.out _ (List.getElem_mem hlt)); rw [← cuG_at hlt] at hx; obtain ⟨hx1, hx2, -⟩ := hx; (have HN : Hid (okCs l q → ∀ i, i < l.length → i < q + 1 → okCs l i) := hid fun h i hi hiq => by (rcases Nat.lt_or_ge i q with h1 | h1; (· exact HS.out i hi h1); (· (obtain rfl : i = q := by omega); exact h))); (have HF : Hid (¬ okCs l q → vCs l = false) := hid fun h => vCs_bad hlt h); obtain ⟨m1, m2, m3, hm1, hm2, hm3, hcs⟩ := okCs_cases l q hlt; have HM1 := hid hm1; have HM2 := hid hm2; have HM3 := hid hm3; clear hm1 hm2 hm3; (have hqt := hid (show (l.take q).length = q by rw [List.length_take]; omega)); have HT := hid (Rd.takeA HL.out q)
        have hqc : q ≤ c := by omega
        rcases hcs with ⟨hok, hX, e1, e2, h0⟩ | ⟨hok, hX, e1, e2, h0, hb, e3⟩ | ⟨hok, hX⟩ | ⟨hok, hX, e1, e2, h0, hb, e3⟩ | ⟨hok, hX, e1, e2, h0, hb, e3⟩ | ⟨hok, hX, e1, e2, h0, hb, e3⟩
        · subst h0
          have HR := hid (HN.out hok)
          have HX := hid hX
          clear hc hok hX
          generalize cuG l 0 = x at *
          have hcA' : CuAt w b o x := by simpa using hcA
          clear hcA
          obtain ⟨c0, c1, c2, c3, c4, c5⟩ := hcA'
          have HT : Hid (Rd 6 cC w (some ⟨b, o, none⟩) (List.take 0 l)) := HT
          go_wp2
          (refine wp_region_ex (by kernel_rfl) (by kernel_rfl) ?_; (repeat (go_big_quiet_step (((first | (go_at_call 35; exact calls_ex (iVC_any x _ hx1 hx2 HX.out)) | (go_at_call 37; exact calls_ex (cueIx_any _ 0 _ (l.take 0) x.id _ (HT.out.up) hqt.out HM2.out))))))); refine wpQuiet_nil ?_; rintro _ ⟨k, rfl⟩)
          go_wp2
          go_roundw
          case rel => exact ⟨1, by omega, by go_num, HR.out, (by refine ex_up (w := w) ⟨k, rfl⟩)⟩
          case measure => simp [intOf]; omega
        · have HR := hid (HN.out hok)
          have HX := hid hX
          clear hok hX
          obtain ⟨p, rfl⟩ : ∃ p, q = p + 1 := ⟨q - 1, by omega⟩; have hdA := hc p (by omega); simp only [Nat.add_sub_cancel] at HM3 hb; clear hc; generalize cuG l (p + 1) = x at *; generalize cuG l p = y at *; obtain ⟨c0, c1, c2, c3, c4, c5⟩ := hcA; obtain ⟨d0, d1, d2, d3, d4, d5⟩ := hdA
          clear hb
          go_wp2
          (refine wp_region_ex (by kernel_rfl) (by kernel_rfl) ?_; (repeat (go_big_quiet_step (((first | (go_at_call 35; exact calls_ex (iVC_any x _ hx1 hx2 HX.out)) | (go_at_call 36; exact calls_ex (cmpC_any y x _ HM3.out)) | (go_at_call 37; exact calls_ex (cueIx_any _ _ _ (l.take (p + 1)) x.id _ (HT.out.up) hqt.out HM2.out))))))); refine wpQuiet_nil ?_; rintro _ ⟨k, rfl⟩)
          go_wp2
          go_roundw
          case rel => exact ⟨p + 1 + 1, by omega, by go_num, HR.out, (by refine ex_up (w := w) ⟨k, rfl⟩)⟩
          case measure => simp [intOf]; omega
        · have HR := hid (HF.out hok)
          have HX := hid hX
          clear hok hX hc
          generalize cuG l q = x at *
          obtain ⟨c0, c1, c2, c3, c4, c5⟩ := hcA
          go_wp2
          (refine wp_region_ex (by kernel_rfl) (by kernel_rfl) ?_; (repeat (go_big_quiet_step (((first | (go_at_call 35; exact calls_ex (iVC_any x _ hx1 hx2 HX.out)) | (go_at_call 37; exact calls_ex (cueIx_any _ _ _ (l.take q) x.id _ (HT.out.up) hqt.out HM2.out))))))); refine wpQuiet_nil ?_; rintro _ ⟨k, rfl⟩)
          go_wp2
          go_ret
          exact ⟨by rw [HR.out]; rfl, (by refine ex_up (w := w) ⟨k, rfl⟩)⟩
        all_goals
          have HR := hid (HF.out hok)
          have HX := hid hX
          clear hok hX
          obtain ⟨p, rfl⟩ : ∃ p, q = p + 1 := ⟨q - 1, by omega⟩; have hdA := hc p (by omega); simp only [Nat.add_sub_cancel] at HM3 hb; clear hc; generalize cuG l (p + 1) = x at *; generalize cuG l p = y at *; obtain ⟨c0, c1, c2, c3, c4, c5⟩ := hcA; obtain ⟨d0, d1, d2, d3, d4, d5⟩ := hdA
          clear hb
          go_wp2
          (refine wp_region_ex (by kernel_rfl) (by kernel_rfl) ?_; (repeat (go_big_quiet_step (((first | (go_at_call 35; exact calls_ex (iVC_any x _ hx1 hx2 HX.out)) | (go_at_call 36; exact calls_ex (cmpC_any y x _ HM3.out)) | (go_at_call 37; exact calls_ex (cueIx_any _ _ _ (l.take (p + 1)) x.id _ (HT.out.up) hqt.out HM2.out))))))); refine wpQuiet_nil ?_; rintro _ ⟨k, rfl⟩)
          go_wp2
          go_ret
          exact ⟨by rw [HR.out]; rfl, (by refine ex_up (w := w) ⟨k, rfl⟩)⟩
      · have HR := hid (vCs_all fun i hi => HS.out i hi (by omega))
        have HR2 : Hid (decide (l.length ≤ 32) = true) := hid (decide_eq_true (by omega))
        go_wp2
        go_ret
        exact ⟨by rw [HR.out, HR2.out]; rfl, j0, rfl⟩
end
end Go.Proofs.Ythgfnbgdpmbolaa
