/-
  The reference's reading of decimals and of words. Conditions: those typed at each theorem.
-/
import Derived.Test.YtdhflckombkimaaDoorRdN
import Derived.Test.YtdhflckombkimaaDoorName
namespace Go.Proofs.YtdhflckombkimaaDoor
open Go.RowKit
section
set_option maxHeartbeats 3200000
set_option maxRecDepth 20000
theorem cB_lt (s : ByteArray) (k : Nat) : (cB s k).toNat ≤ 255 := by have := (cB s k).toNat_lt; omega
theorem sNum_any (s : ByteArray) (w : World) (hs : s.size ≤ 1048576) :
    Calls Tryd.prog 72 #[.string s] w fun e w' => e = .returned (.tuple #[.int .i64 (rdV s), .bool (rdO s)]) ∧ w = w' := by
  have hln := digs_len s
  have ha1 : atD s ≤ 1 := by unfold atD; split <;> omega
  by_cases hz : s.size = 0
  · have hsz : (s.size : Int) = 0 := by omega
    have ha0 : atD s = 0 := by omega
    have HN : Hid (rdV s = 0 ∧ rdO s = false) := hid (rd_no (by
      rcases rd_digs s with ⟨h, -⟩ | ⟨-, h, -⟩
      · exact h
      · exact absurd (.inl (by omega)) h))
    go_enter Tryd.func72, Tryd.ntmps72
    go_wp2_with (fail)
    (refine bodyPost_ret (v := _) (by simp [results, Tryd.results72, go_sem]; rfl) rfl ?_; exact ⟨by rw [(HN.out).1, (HN.out).2], rfl⟩)
  have hx0 := idx_cB s 0 0 rfl (by omega)
  have hp0 : (0 : Int) < (s.size : Int) := by omega
  have HA : Hid (atD s = if ((cB s 0).toNat : Int) = 45 then 1 else 0) := hid (by
    have hl : s.data.toList.length = s.size := by simp
    have e : s.data.toList.head? = some (cB s 0) := by
      rw [List.head?_eq_getElem?]
      unfold cB
      rw [List.getD_eq_getElem?_getD, List.getElem?_eq_getElem (by omega)]
      rfl
    unfold atD
    rw [e]
    by_cases h : cB s 0 = 45
    · rw [h, if_pos rfl, if_pos (by decide)]
    · rw [if_neg (fun e => h (Option.some.inj e)), if_neg (fun e => h (UInt8.toNat_inj.1 (by have : (45 : UInt8).toNat = 45 := rfl; omega)))])
  go_enter Tryd.func72, Tryd.ntmps72
  go_upto_if 14 with (fail)
  go_cut [4] from 14 to 14 (fun u4 wx => u4 = .int .i64 (atD s) ∧ wx = w)
  case first =>
    by_cases h45 : ((cB s 0).toNat : Int) = 45
    · have hh : atD s = 1 := by rw [HA.out, if_pos h45]
      go_wp2_with (fail)
      go_meet
      case rel => exact ⟨by rw [hh]; rfl, rfl⟩
    · have hh : atD s = 0 := by rw [HA.out, if_neg h45]
      go_wp2_with (fail)
      go_meet
      case rel => exact ⟨by rw [hh]; rfl, rfl⟩
  case rest =>
    obtain ⟨rfl, rfl⟩ := hcut
    have HR := hid (rd_digs s)
    have HAT := hid (digs_at s)
    have HB : Hid (bad0 s ↔ s.size = atD s ∨ 18 < s.size - atD s ∨ (cB s (atD s) = 48 ∧ 1 < s.size)) := hid Iff.rfl
    have hi0 : (0 : Int) ≤ (atD s : Int) := by omega
    have hi1 : (atD s : Int) ≤ 1 := by omega
    have HNO : Hid (bad0 s → rdV s = 0 ∧ rdO s = false) := hid fun h => rd_no (by
      rcases HR.out with ⟨h1, -⟩ | ⟨-, h1, -⟩
      · exact h1
      · exact absurd h h1)
    have HND : Hid ((∃ c ∈ digs s.data.toList, ¬ isD c) → rdV s = 0 ∧ rdO s = false) := hid fun ⟨c, hc, hd⟩ => rd_no (by
      rcases HR.out with ⟨h1, -⟩ | ⟨-, -, h1⟩
      · exact h1
      · exact absurd (h1 c hc) hd)
    have HYES : Hid (¬ bad0 s → (∀ c ∈ digs s.data.toList, isD c) → rdV s = (if atD s = 1 then -(dval 0 (digs s.data.toList) : Int) else (dval 0 (digs s.data.toList) : Int)) ∧ rdO s = true) := hid fun hb hd => rd_yes (by
      rcases HR.out with ⟨-, h1⟩ | ⟨h1, -⟩
      · rcases h1 with h1 | ⟨c, hc, h1⟩
        · exact absurd h1 hb
        · exact absurd (hd c hc) h1
      · exact h1)
    clear HA HR hx0
    generalize digs s.data.toList = d at *
    by_cases e1 : s.size = atD s
    · have HN := hid (HNO.out (HB.out.2 (.inl e1)))
      have e1i : (s.size : Int) = (atD s : Int) := by omega
      clear e1
      go_wp2_with (fail)
      (refine bodyPost_ret (v := _) (by simp [results, Tryd.results72, go_sem]; rfl) rfl ?_; exact ⟨by rw [(HN.out).1, (HN.out).2], rfl⟩)
    have hxa := idx_cB s (atD s) (atD s) rfl (by omega)
    have n1 : ¬ (s.size : Int) = (atD s : Int) := by omega
    by_cases e2 : 18 < s.size - atD s
    · have HN := hid (HNO.out (HB.out.2 (.inr (.inl e2))))
      have e2i : 18 < (s.size : Int) - (atD s : Int) := by omega
      clear e2
      go_wp2_with (fail)
      (refine bodyPost_ret (v := _) (by simp [results, Tryd.results72, go_sem]; rfl) rfl ?_; exact ⟨by rw [(HN.out).1, (HN.out).2], rfl⟩)
    have n2 : ¬ 18 < (s.size : Int) - (atD s : Int) := by omega
    by_cases e3 : cB s (atD s) = 48 ∧ 1 < s.size
    · have HN := hid (HNO.out (HB.out.2 (.inr (.inr e3))))
      have e3i : ((cB s (atD s)).toNat : Int) = 48 := by rw [e3.1]; rfl
      have e3j : 1 < (s.size : Int) := by omega
      clear e3
      go_wp2_with (fail)
      (refine bodyPost_ret (v := _) (by simp [results, Tryd.results72, go_sem]; rfl) rfl ?_; exact ⟨by rw [(HN.out).1, (HN.out).2], rfl⟩)
    have HNB : Hid (¬ bad0 s) := hid fun h => by
      rcases HB.out.1 h with h | h | h
      · exact e1 h
      · exact e2 h
      · exact e3 h
    have n3 : ¬ (((cB s (atD s)).toNat : Int) = 48 ∧ 1 < (s.size : Int)) := fun h => e3 ⟨UInt8.toNat_inj.1 (by have : (48 : UInt8).toNat = 48 := rfl; omega), by omega⟩
    have hd18 : d.length ≤ 18 := by omega
    have HDL : Hid ((s.size : Int) = (atD s : Int) + (d.length : Int)) := hid (by omega)
    clear e1 e2 e3
    go_upto_region 4 with (fail)
    go_cut [36] from 15 to 36 (fun u36 wx => u36 = .bool false ∧ wx = wc)
    case first =>
      by_cases z48 : ((cB s (atD s)).toNat : Int) = 48
      · have n4 : ¬ 1 < (s.size : Int) := fun h => n3 ⟨z48, h⟩
        clear n3
        go_wp2_with (fail)
        go_meet
        case rel => exact ⟨by first | rfl | (simp [n1]; done), rfl⟩
      · clear n3
        go_wp2_with (fail)
        go_meet
        case rel => exact ⟨by first | rfl | (simp [n1]; done), rfl⟩
    case rest =>
    obtain ⟨rfl, rfl⟩ := hcut
    clear n1 n2 n3 hxa
    go_wp2_with (fail)
    have HI : Hid (∀ q, q < d.length → ∀ (W : World), (Instr.index 9 (.string s) (.int .i64 ((atD s : Int) + q))).run Tryd.prog W = .ok (.int .u8 ((cB s (atD s + q)).toNat : Int)) W) := hid fun q hq => idx_cB s _ _ (by omega) (by omega)
    go_loopw [5, 6] (fun n i wr => ∃ q : Nat, q ≤ d.length ∧ i = .int .i64 ((atD s : Int) + q) ∧ n = .int .i64 (dval 0 (d.take q) : Int) ∧ (∀ c ∈ d.take q, isD c) ∧ wr = wc) (fun _ i _ => s.size - (intOf i).toNat)
    case atStart => exact ⟨0, Nat.zero_le _, by rw [show ((0 : Nat) : Int) = 0 from rfl, Int.add_zero], by rw [List.take_zero]; rfl, by rw [List.take_zero]; exact fun c hc => absurd hc (List.not_mem_nil), rfl⟩
    case round =>
      obtain ⟨q, hq, rfl, rfl, hd, rfl⟩ := hrel
      have hv18 := dval_18 hd (by rw [List.length_take]; omega)
      have HD := hid hd
      have hdl := HDL.out
      clear hd
      by_cases hlt : q < d.length
      · have hx := HI.out q hlt
        have hcx := HAT.out q hlt
        have hv17 : dval 0 (d.take q) < 100000000000000000 := by
          have h1 := dval_lt (d.take q) 0 HD.out
          have h2 : (10 : Nat) ^ (d.take q).length ≤ 10 ^ 17 := Nat.pow_le_pow_right (by omega) (by rw [List.length_take]; omega)
          have h3 : (10 : Nat) ^ 17 = 100000000000000000 := by decide
          omega
        have hc255 := cB_lt s (atD s + q)
        have hqi : (atD s : Int) + (q : Int) < (s.size : Int) := by omega
        have HS : Hid (dval 0 (d.take (q + 1)) = dval 0 (d.take q) * 10 + ((cB s (atD s + q)).toNat - 48)) := hid (by rw [← List.take_append_getElem hlt, dval_snoc, hcx])
        have HM : Hid (isD (cB s (atD s + q)) → ∀ c ∈ d.take (q + 1), isD c) := hid fun h c hc => by
          rw [← List.take_append_getElem hlt] at hc
          rcases List.mem_append.1 hc with h1 | h1
          · exact HD.out c h1
          · rw [List.mem_singleton.1 h1, hcx]; exact h
        have HX : Hid (¬ isD (cB s (atD s + q)) → rdV s = 0 ∧ rdO s = false) := hid fun h => HND.out ⟨d[q], List.getElem_mem hlt, by rw [hcx]; exact h⟩
        have HDI : Hid (isD (cB s (atD s + q)) ↔ 48 ≤ (cB s (atD s + q)).toNat ∧ (cB s (atD s + q)).toNat ≤ 57) := hid Iff.rfl
        clear hcx hdl
        generalize (cB s (atD s + q)).toNat = x at *
        generalize dval 0 (d.take q) = v at *
        by_cases hdg : digitI (x : Int)
        · have hg := HDI.out.2 ⟨by have := hdg.1; omega, by have := hdg.2; omega⟩
          have hdg0 := hdg.1
          have hdg1 := hdg.2
          have hw1 : IntKind.u8.wrap ((x : Int) - 48) = (x : Int) - 48 := by simp [IntKind.wrap, IntKind.bits, IntKind.signed]; omega
          have hw2 : IntKind.i64.wrap ((x : Int) - 48) = (x : Int) - 48 := IntWalk.i64_in _ (by omega)
          go_wp2_with ((go_at_call 99; refine (dg_yes _ _ (by assumption)).mono ?_; rintro e w' ⟨rfl, rfl⟩))
          go_roundw
          case rel => exact ⟨q + 1, by omega, by go_num, by rw [HS.out]; go_num, HM.out hg, by first | rfl | trivial⟩
          case measure => simp [intOf]; omega
        · have HN := hid (HX.out (fun h => hdg (by have := HDI.out.1 h; exact ⟨by omega, by omega⟩)))
          go_wp2_with ((go_at_call 99; refine (dg_no _ _ (by assumption)).mono ?_; rintro e w' ⟨rfl, rfl⟩))
          (refine bodyPost_ret (v := _) (by simp [results, Tryd.results72, go_sem]; rfl) rfl ?_; exact ⟨by rw [(HN.out).1, (HN.out).2], rfl⟩)
      · obtain rfl : q = d.length := by omega
        have hqi : ¬ (atD s : Int) + (d.length : Int) < (s.size : Int) := by omega
        have HY := HYES.out HNB.out (by have := HD.out; rwa [List.take_length] at this)
        rw [List.take_length] at *
        have HY' := hid HY
        clear HY hdl
        by_cases ha : atD s = 1
        · have hai : (atD s : Int) = 1 := by omega
          have HN : Hid (rdV s = -(dval 0 d : Int) ∧ rdO s = true) := hid (by have := HY'.out; rwa [if_pos ha] at this)
          clear HY' ha
          go_wp2_with (fail)
          (refine bodyPost_ret (v := _) (by simp [results, Tryd.results72, go_sem]; rfl) rfl ?_; exact ⟨by rw [(HN.out).1, (HN.out).2], rfl⟩)
        · have hai : ¬ (atD s : Int) = 1 := by omega
          have HN : Hid (rdV s = (dval 0 d : Int) ∧ rdO s = true) := hid (by have := HY'.out; rwa [if_neg ha] at this)
          clear HY' ha
          go_wp2_with (fail)
          (refine bodyPost_ret (v := _) (by simp [results, Tryd.results72, go_sem]; rfl) rfl ?_; exact ⟨by rw [(HN.out).1, (HN.out).2], rfl⟩)
end
end Go.Proofs.YtdhflckombkimaaDoor
