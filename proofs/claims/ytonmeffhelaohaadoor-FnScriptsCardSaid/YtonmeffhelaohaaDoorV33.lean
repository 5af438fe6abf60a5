/-
  Decimals read back: both. Conditions: those typed at each theorem.
  The reference's reading of decimals and of words. Conditions: those typed at each theorem.
-/
import Derived.Test.YtonmeffhelaohaaDoorV31
import Derived.Test.YtonmeffhelaohaaDoorShelfI
import Derived.Lib.ParseIntBTie
import Derived.Test.YtonmeffhelaohaaDoorV2
namespace Go.Proofs.YtonmeffhelaohaaDoor
open Go.RowKit
theorem trim_digs (l : List UInt8) : Lib.trimPrefix l [45] = digs l := by
  unfold Lib.trimPrefix digs
  cases l with
  | nil => simp [Lib.hasPrefix, List.isPrefixOf]
  | cons x t =>
    by_cases h : x = 45
    · subst h; simp [Lib.hasPrefix, List.isPrefixOf]
    · simp [Lib.hasPrefix, List.isPrefixOf, h, Ne.symm h]
/-- what a text read as a number is -/
def rdV (s : ByteArray) : Int := (rdD s.data.toList).getD 0
def rdO (s : ByteArray) : Bool := (rdD s.data.toList).isSome
theorem rd_no {s : ByteArray} (h : rdD s.data.toList = none) : rdV s = 0 ∧ rdO s = false := by unfold rdV rdO; rw [h]; exact ⟨rfl, rfl⟩
theorem rd_yes {s : ByteArray} {n : Int} (h : rdD s.data.toList = some n) : rdV s = n ∧ rdO s = true := by unfold rdV rdO; rw [h]; exact ⟨rfl, rfl⟩
theorem rd_len {l : List UInt8} (h : (digs l).length < 1 ∨ 18 < (digs l).length) : rdD l = none := by
  cases hr : rdD l with
  | none => rfl
  | some n =>
    obtain ⟨h1, h2, h3⟩ := rdD_some hr
    have := digs_itoa h2 h3
    rw [h1] at this
    omega
theorem rd_bad {l : List UInt8} (h : ∀ v, Lib.parseIntB 64 l ≠ .ok v) : rdD l = none := by
  cases hr : rdD l with
  | none => rfl
  | some n =>
    obtain ⟨h1, h2, h3⟩ := rdD_some hr
    have := parse_itoa h2 h3
    rw [h1] at this
    exact absurd this (h n)
theorem rd_ok {l : List UInt8} {v : Int} (h : Lib.itoa v = l) (h18 : (digs l).length ≤ 18) : rdD l = some v := by
  cases hr : rdD l with
  | none => exact absurd h18 (rdD_none hr h)
  | some n =>
    obtain ⟨h1, -, -⟩ := rdD_some hr
    rw [itoa_inj (h1.trans h.symm)]
theorem rd_ne {l : List UInt8} {v : Int} (hp : Lib.parseIntB 64 l = .ok v) (h : Lib.itoa v ≠ l) : rdD l = none := by
  cases hr : rdD l with
  | none => rfl
  | some n =>
    obtain ⟨h1, h2, h3⟩ := rdD_some hr
    have := parse_itoa h2 h3
    rw [h1, hp] at this
    injection this with e
    subst e
    exact absurd h1 h
theorem ba_ext {a b : ByteArray} (h : a.data.toList = b.data.toList) : a = b := by
  cases a; cases b
  simp only [ByteArray.mk.injEq]
  exact Array.toList_inj.1 h
section
set_option maxHeartbeats 3200000
set_option maxRecDepth 20000
theorem pi_ok (s : ByteArray) (v : Int) (w : World) (hs : s.size ≤ 1048576) (h : Lib.parseIntB 64 s.data.toList = .ok v) :
    Calls Tryd.prog 75 #[.string s, .int .i64 10, .int .i64 64] w fun e w' => e = .returned (.tuple #[.int .i64 v, .nilIface]) ∧ ∃ k : Ex w, w' = k.v := by
  refine (Tryd.strconv_ParseInt_10_at64_ok s (by omega) v h w).mono ?_
  rintro e w' ⟨rfl, hw⟩
  refine ⟨rfl, ?_⟩
  rcases hw with rfl | ⟨t, rfl⟩
  · exact ⟨Ex.rf _, rfl⟩
  · exact ⟨⟨_, Lib.bytesWorld_below _ _ _⟩, rfl⟩
theorem pi_no (s : ByteArray) (w : World) [he : Es w] [hr : Er w] (hs : s.size ≤ 1048576) (h : ∀ v, Lib.parseIntB 64 s.data.toList ≠ .ok v) :
    Calls Tryd.prog 75 #[.string s, .int .i64 10, .int .i64 64] w fun e w' => ∃ z tp N, e = .returned (.tuple #[.int .i64 z, .iface tp (.pointer (some ⟨N, 0, none⟩))]) ∧ ∃ k : Ex w, w' = k.v := by
  cases hp : Lib.parseIntB 64 s.data.toList
  · exact absurd hp (h _)
  · obtain ⟨tp, p, hv⟩ := he.h
    refine (Tryd.strconv_ParseInt_10_at64_syntax_var s (by omega) (hp.trans (by rfl)) tp p w hv).mono ?_
    rintro e w' ⟨N, rfl, h1, h2, h3⟩
    exact ⟨_, _, N, rfl, ⟨_, h3⟩, rfl⟩
  · obtain ⟨tp, p, hv⟩ := hr.h
    refine (Tryd.strconv_ParseInt_10_at64_range_var s (by omega) hp tp p w hv).mono ?_
    rintro e w' ⟨N, rfl, h1, h2, h3⟩
    exact ⟨_, _, N, rfl, ⟨_, h3⟩, rfl⟩
theorem iNum_any (s : ByteArray) (w : World) [Tb w] [Es w] [Er w] (hs : s.size ≤ 1048576) :
    Calls Tryd.prog 55 #[.string s] w fun e w' => e = .returned (.tuple #[.int .i64 (rdV s), .bool (rdO s)]) ∧ ∃ k : Ex w, w' = k.v := by
  have HD := hid (trim_digs s.data.toList)
  by_cases hb : (Lib.trimPrefix s.data.toList [45]).length < 1 ∨ 18 < (Lib.trimPrefix s.data.toList [45]).length
  · have HN := hid (rd_no (rd_len (by rwa [HD.out] at hb)))
    go_enter Tryd.func55, Tryd.ntmps55
    go_wp2_with ((go_at_call 74; go_loud ((refine (Tryd.strings_TrimPrefix _ _ _).mono ?_); rintro e w' ⟨rfl, rfl⟩)))
    all_goals ((refine bodyPost_ret (v := _) (by simp [results, Tryd.results55, go_sem]; rfl) rfl ?_; refine ⟨by rw [(HN.out).1, (HN.out).2], ?_⟩; (refine Ok.toEx ?_; (repeat (first | (with_reducible exact Ok.rf _) | (with_reducible refine Ok.alloc ?_ _) | (with_reducible refine Ok.ex ?_ _) | (with_reducible refine Ok.drew ?_) | (with_reducible refine Ok.setCellI ?_ _ _ _) | (with_reducible refine Ok.exb ?_ _))))))
  · have hb1 : (1 : Int) ≤ ((Lib.trimPrefix s.data.toList [45]).length : Int) := by omega
    have hb2 : ((Lib.trimPrefix s.data.toList [45]).length : Int) ≤ 18 := by omega
    have H18 : Hid ((digs s.data.toList).length ≤ 18) := hid (by rw [← HD.out]; omega)
    by_cases hp : ∃ v, Lib.parseIntB 64 s.data.toList = .ok v
    · obtain ⟨v, hv⟩ := hp
      have hbd := Lib.parseIntB_bounds hv
      have e63 : (2 : Nat) ^ (64 - 1) = 9223372036854775808 := by decide
      rw [e63] at hbd
      obtain ⟨hv0, hv1⟩ := hbd
      have HP := hid hv
      clear hv e63
      by_cases he : decS v = s
      · have HN := hid (rd_yes (s := s) (rd_ok (v := v) (by rw [← he]; rfl) H18.out))
        have hne : ((decS v).toList == s.toList) = true := by rw [he]; simp
        go_enter Tryd.func55, Tryd.ntmps55
        go_wp2_with (first | (go_at_call 74; go_loud ((refine (Tryd.strings_TrimPrefix _ _ _).mono ?_); rintro e w' ⟨rfl, rfl⟩)) | (go_at_call 75; refine (pi_ok s v _ hs HP.out).mono ?_; rintro e w' ⟨rfl, k, rfl⟩) | (go_at_call 37; refine (idec_any v _ (by omega) (by omega)).mono ?_; rintro e w' ⟨rfl, k, rfl⟩))
        all_goals ((refine bodyPost_ret (v := _) (by simp [results, Tryd.results55, go_sem]; rfl) rfl ?_; refine ⟨by rw [(HN.out).1, (HN.out).2], ?_⟩; (refine Ok.toEx ?_; (repeat (first | (with_reducible exact Ok.rf _) | (with_reducible refine Ok.alloc ?_ _) | (with_reducible refine Ok.ex ?_ _) | (with_reducible refine Ok.drew ?_) | (with_reducible refine Ok.setCellI ?_ _ _ _) | (with_reducible refine Ok.exb ?_ _))))))
      · have hne : ((decS v).toList == s.toList) = false := by
          rw [beq_eq_false_iff_ne, ByteArray.toList_eq, ByteArray.toList_eq]
          exact fun h => he (ba_ext h)
        have HN := hid (rd_no (s := s) (rd_ne HP.out (fun h => he (by unfold decS; rw [h]))))
        go_enter Tryd.func55, Tryd.ntmps55
        go_wp2_with (first | (go_at_call 74; go_loud ((refine (Tryd.strings_TrimPrefix _ _ _).mono ?_); rintro e w' ⟨rfl, rfl⟩)) | (go_at_call 75; refine (pi_ok s v _ hs HP.out).mono ?_; rintro e w' ⟨rfl, k, rfl⟩) | (go_at_call 37; refine (idec_any v _ (by omega) (by omega)).mono ?_; rintro e w' ⟨rfl, k, rfl⟩))
        all_goals ((refine bodyPost_ret (v := _) (by simp [results, Tryd.results55, go_sem]; rfl) rfl ?_; refine ⟨by rw [(HN.out).1, (HN.out).2], ?_⟩; (refine Ok.toEx ?_; (repeat (first | (with_reducible exact Ok.rf _) | (with_reducible refine Ok.alloc ?_ _) | (with_reducible refine Ok.ex ?_ _) | (with_reducible refine Ok.drew ?_) | (with_reducible refine Ok.setCellI ?_ _ _ _) | (with_reducible refine Ok.exb ?_ _))))))
    · have HP := hid (show ∀ v, Lib.parseIntB 64 s.data.toList ≠ .ok v from fun v h => hp ⟨v, h⟩)
      have HN := hid (rd_no (rd_bad HP.out))
      clear hp
      go_enter Tryd.func55, Tryd.ntmps55
      go_wp2_with (first | (go_at_call 74; go_loud ((refine (Tryd.strings_TrimPrefix _ _ _).mono ?_); rintro e w' ⟨rfl, rfl⟩)) | (go_at_call 75; go_loud ((refine (pi_no s _ hs HP.out).mono ?_); rintro e w' ⟨z, tp, N, rfl, k, rfl⟩)) | (go_at_call 37; refine (idec_any _ _ (by omega) (by omega)).mono ?_; rintro e w' ⟨rfl, k, rfl⟩))
      all_goals ((refine bodyPost_ret (v := _) (by simp [results, Tryd.results55, go_sem]; rfl) rfl ?_; refine ⟨by rw [(HN.out).1, (HN.out).2], ?_⟩; (refine Ok.toEx ?_; (repeat (first | (with_reducible exact Ok.rf _) | (with_reducible refine Ok.alloc ?_ _) | (with_reducible refine Ok.ex ?_ _) | (with_reducible refine Ok.drew ?_) | (with_reducible refine Ok.setCellI ?_ _ _ _) | (with_reducible refine Ok.exb ?_ _))))))
/-- the digits begin here -/
def atD (s : ByteArray) : Nat := if s.data.toList.head? = some 45 then 1 else 0
theorem digs_drop (s : ByteArray) : digs s.data.toList = s.data.toList.drop (atD s) := by
  unfold digs atD
  split
  · rw [List.drop_one]
  · rw [List.drop_zero]
theorem digs_len (s : ByteArray) : (digs s.data.toList).length + atD s = s.size := by
  rw [digs_drop, List.length_drop]
  have hl : s.data.toList.length = s.size := by simp
  unfold atD
  split
  · rename_i h
    have : 0 < s.data.toList.length := by cases hh : s.data.toList with
      | nil => rw [hh] at h; simp at h
      | cons x t => simp
    omega
  · omega
theorem digs_at (s : ByteArray) (q : Nat) (h : q < (digs s.data.toList).length) : (digs s.data.toList)[q] = cB s (atD s + q) := by
  have hl : s.data.toList.length = s.size := by simp
  have h2 := digs_len s
  unfold cB
  rw [List.getD_eq_getElem?_getD, List.getElem?_eq_getElem (by omega)]
  simp only [digs_drop, List.getElem_drop, Option.getD_some]
/-- the test ahead of the digits -/
def bad0 (s : ByteArray) : Prop := s.size = atD s ∨ 18 < s.size - atD s ∨ (cB s (atD s) = 48 ∧ 1 < s.size)
theorem digs_head (s : ByteArray) (h : 0 < (digs s.data.toList).length) : (digs s.data.toList).head? = some (cB s (atD s)) := by
  rw [List.head?_eq_getElem?, List.getElem?_eq_getElem h, digs_at s 0 h, Nat.add_zero]
theorem digs_ne (s : ByteArray) : digs s.data.toList ≠ [] ↔ s.size ≠ atD s := by
  have := digs_len s
  rw [← List.length_pos_iff]
  omega
theorem rd_digs (s : ByteArray) : (rdD s.data.toList = none ∧ (bad0 s ∨ ∃ c ∈ digs s.data.toList, ¬ isD c)) ∨ (rdD s.data.toList = some (if atD s = 1 then -(dval 0 (digs s.data.toList) : Int) else (dval 0 (digs s.data.toList) : Int)) ∧ ¬ bad0 s ∧ ∀ c ∈ digs s.data.toList, isD c) := by
  have hln := digs_len s
  have hne := digs_ne s
  have hhd := digs_head s
  have key : ∀ (hx : (digs s.data.toList ≠ [] ∧ (digs s.data.toList).length ≤ 18 ∧ ∀ c ∈ digs s.data.toList, isD c) ∧ ¬ ((digs s.data.toList).head? = some 48 ∧ 1 < s.size)), ¬ bad0 s ∧ ∀ c ∈ digs s.data.toList, isD c := fun ⟨⟨h1, h2, h3⟩, h4⟩ => by
    refine ⟨fun hb => ?_, h3⟩
    have h0 := List.length_pos_iff.2 h1
    rcases hb with hb | hb | ⟨hb, hb2⟩
    · omega
    · omega
    · exact h4 ⟨by rw [hhd h0, hb], hb2⟩
  have nkey : ∀ (hx : ¬ ((digs s.data.toList ≠ [] ∧ (digs s.data.toList).length ≤ 18 ∧ ∀ c ∈ digs s.data.toList, isD c) ∧ ¬ ((digs s.data.toList).head? = some 48 ∧ 1 < s.size))), bad0 s ∨ ∃ c ∈ digs s.data.toList, ¬ isD c := fun hx => by
    by_cases h3 : ∀ c ∈ digs s.data.toList, isD c
    · refine .inl ?_
      by_cases h1 : digs s.data.toList ≠ []
      · by_cases h2 : (digs s.data.toList).length ≤ 18
        · by_cases h4 : (digs s.data.toList).head? = some 48 ∧ 1 < s.size
          · have h0 := List.length_pos_iff.2 h1
            obtain ⟨h4, h5⟩ := h4
            rw [hhd h0] at h4
            exact .inr (.inr ⟨by simpa using h4, h5⟩)
          · exact absurd ⟨⟨h1, h2, h3⟩, h4⟩ hx
        · exact .inr (.inl (by omega))
      · exact .inl (by have := mt hne.2 h1; omega)
    · refine .inr ?_
      simp only [Classical.not_forall] at h3
      obtain ⟨c, hc, hd⟩ := h3
      exact ⟨c, hc, hd⟩
  unfold rdD
  by_cases h45 : s.data.toList.head? = some 45
  · have ha : atD s = 1 := if_pos h45
    have hd : digs s.data.toList = s.data.toList.tail := if_pos h45
    rw [if_pos h45]
    rw [hd] at key nkey hln hhd ⊢
    by_cases hc : (s.data.toList.tail ≠ [] ∧ s.data.toList.tail.length ≤ 18 ∧ ∀ c ∈ s.data.toList.tail, isD c) ∧ ¬ s.data.toList.tail.head? = some 48
    · rw [if_pos hc]
      exact .inr ⟨by rw [if_pos ha], key ⟨hc.1, fun h => hc.2 h.1⟩⟩
    · rw [if_neg hc]
      refine .inl ⟨rfl, nkey fun h => hc ⟨h.1, fun e => h.2 ⟨e, ?_⟩⟩⟩
      have := List.length_pos_iff.2 h.1.1
      omega
  · have ha : atD s = 0 := if_neg h45
    have hd : digs s.data.toList = s.data.toList := if_neg h45
    rw [if_neg h45]
    rw [hd] at key nkey hln ⊢
    have hl : s.data.toList.length = s.size := by simp
    by_cases hc : (s.data.toList ≠ [] ∧ s.data.toList.length ≤ 18 ∧ ∀ c ∈ s.data.toList, isD c) ∧ ¬ (s.data.toList.head? = some 48 ∧ 1 < s.data.toList.length)
    · rw [if_pos hc]
      exact .inr ⟨by rw [if_neg (by omega)], key ⟨hc.1, fun h => hc.2 ⟨h.1, by omega⟩⟩⟩
    · rw [if_neg hc]
      exact .inl ⟨rfl, nkey fun h => hc ⟨h.1, fun e => h.2 ⟨e.1, by omega⟩⟩⟩
end
end Go.Proofs.YtonmeffhelaohaaDoor
namespace Go.Proofs.YtonmeffhelaohaaDoor
open Go.RowKit
section
set_option maxHeartbeats 3200000
set_option maxRecDepth 20000
theorem cB_lt (s : ByteArray) (k : Nat) : (cB s k).toNat ≤ 255 := by have := (cB s k).toNat_lt; omega
theorem sNum_any (s : ByteArray) (w : World) (hs : s.size ≤ 1048576) :
    Calls Tryd.prog 69 #[.string s] w fun e w' => e = .returned (.tuple #[.int .i64 (rdV s), .bool (rdO s)]) ∧ w = w' := by
  have hln := digs_len s
  have ha1 : atD s ≤ 1 := by unfold atD; split <;> omega
  by_cases hz : s.size = 0
  · have hsz : (s.size : Int) = 0 := by omega
    have ha0 : atD s = 0 := by omega
    have HN : Hid (rdV s = 0 ∧ rdO s = false) := hid (rd_no (by
      rcases rd_digs s with ⟨h, -⟩ | ⟨-, h, -⟩
      · exact h
      · exact absurd (.inl (by omega)) h))
    go_enter Tryd.func69, Tryd.ntmps69
    go_wp2_with (fail)
    (refine bodyPost_ret (v := _) (by simp [results, Tryd.results69, go_sem]; rfl) rfl ?_; exact ⟨by rw [(HN.out).1, (HN.out).2], rfl⟩)
  have hx0 := idx_cB s 0 0 rfl (by omega)
  have hp0 : (0 : Int) < (s.size : Int) := by omega
  have HA : Hid (atD s = if ((cB s 0).toNat : Int) = 45 then 1 else 0) := hid (by
    have hl : s.data.toList.length = s.size := by simp
    have e : s.data.toList.head? = some (cB s 0) := by
      rw [List.head?_eq_getElem?]
      unfold cB
      rw [List.getD_eq_getElem?_getD, List.getElem?_eq_getElem (by omega)]
      rfl
    unfold atD
    rw [e]
    by_cases h : cB s 0 = 45
    · rw [h, if_pos rfl, if_pos (by decide)]
    · rw [if_neg (fun e => h (Option.some.inj e)), if_neg (fun e => h (UInt8.toNat_inj.1 (by have : (45 : UInt8).toNat = 45 := rfl; omega)))])
  go_enter Tryd.func69, Tryd.ntmps69
  go_upto_if 14 with (fail)
  go_cut [4] from 14 to 14 (fun u4 wx => u4 = .int .i64 (atD s) ∧ wx = w)
  case first =>
    by_cases h45 : ((cB s 0).toNat : Int) = 45
    · have hh : atD s = 1 := by rw [HA.out, if_pos h45]
      go_wp2_with (fail)
      go_meet
      case rel => exact ⟨by rw [hh]; rfl, rfl⟩
    · have hh : atD s = 0 := by rw [HA.out, if_neg h45]
      go_wp2_with (fail)
      go_meet
      case rel => exact ⟨by rw [hh]; rfl, rfl⟩
  case rest =>
    obtain ⟨rfl, rfl⟩ := hcut
    have HR := hid (rd_digs s)
    have HAT := hid (digs_at s)
    have HB : Hid (bad0 s ↔ s.size = atD s ∨ 18 < s.size - atD s ∨ (cB s (atD s) = 48 ∧ 1 < s.size)) := hid Iff.rfl
    have hi0 : (0 : Int) ≤ (atD s : Int) := by omega
    have hi1 : (atD s : Int) ≤ 1 := by omega
    have HNO : Hid (bad0 s → rdV s = 0 ∧ rdO s = false) := hid fun h => rd_no (by
      rcases HR.out with ⟨h1, -⟩ | ⟨-, h1, -⟩
      · exact h1
      · exact absurd h h1)
    have HND : Hid ((∃ c ∈ digs s.data.toList, ¬ isD c) → rdV s = 0 ∧ rdO s = false) := hid fun ⟨c, hc, hd⟩ => rd_no (by
      rcases HR.out with ⟨h1, -⟩ | ⟨-, -, h1⟩
      · exact h1
      · exact absurd (h1 c hc) hd)
    have HYES : Hid (¬ bad0 s → (∀ c ∈ digs s.data.toList, isD c) → rdV s = (if atD s = 1 then -(dval 0 (digs s.data.toList) : Int) else (dval 0 (digs s.data.toList) : Int)) ∧ rdO s = true) := hid fun hb hd => rd_yes (by
      rcases HR.out with ⟨-, h1⟩ | ⟨h1, -⟩
      · rcases h1 with h1 | ⟨c, hc, h1⟩
        · exact absurd h1 hb
        · exact absurd (hd c hc) h1
      · exact h1)
    clear HA HR hx0
    generalize digs s.data.toList = d at *
    by_cases e1 : s.size = atD s
    · have HN := hid (HNO.out (HB.out.2 (.inl e1)))
      have e1i : (s.size : Int) = (atD s : Int) := by omega
      clear e1
      go_wp2_with (fail)
      (refine bodyPost_ret (v := _) (by simp [results, Tryd.results69, go_sem]; rfl) rfl ?_; exact ⟨by rw [(HN.out).1, (HN.out).2], rfl⟩)
    have hxa := idx_cB s (atD s) (atD s) rfl (by omega)
    have n1 : ¬ (s.size : Int) = (atD s : Int) := by omega
    by_cases e2 : 18 < s.size - atD s
    · have HN := hid (HNO.out (HB.out.2 (.inr (.inl e2))))
      have e2i : 18 < (s.size : Int) - (atD s : Int) := by omega
      clear e2
      go_wp2_with (fail)
      (refine bodyPost_ret (v := _) (by simp [results, Tryd.results69, go_sem]; rfl) rfl ?_; exact ⟨by rw [(HN.out).1, (HN.out).2], rfl⟩)
    have n2 : ¬ 18 < (s.size : Int) - (atD s : Int) := by omega
    by_cases e3 : cB s (atD s) = 48 ∧ 1 < s.size
    · have HN := hid (HNO.out (HB.out.2 (.inr (.inr e3))))
      have e3i : ((cB s (atD s)).toNat : Int) = 48 := by rw [e3.1]; rfl
      have e3j : 1 < (s.size : Int) := by omega
      clear e3
      go_wp2_with (fail)
      (refine bodyPost_ret (v := _) (by simp [results, Tryd.results69, go_sem]; rfl) rfl ?_; exact ⟨by rw [(HN.out).1, (HN.out).2], rfl⟩)
    have HNB : Hid (¬ bad0 s) := hid fun h => by
      rcases HB.out.1 h with h | h | h
      · exact e1 h
      · exact e2 h
      · exact e3 h
    have n3 : ¬ (((cB s (atD s)).toNat : Int) = 48 ∧ 1 < (s.size : Int)) := fun h => e3 ⟨UInt8.toNat_inj.1 (by have : (48 : UInt8).toNat = 48 := rfl; omega), by omega⟩
    have hd18 : d.length ≤ 18 := by omega
    have HDL : Hid ((s.size : Int) = (atD s : Int) + (d.length : Int)) := hid (by omega)
    clear e1 e2 e3
    go_upto_region 4 with (fail)
    go_cut [36] from 15 to 36 (fun u36 wx => u36 = .bool false ∧ wx = wc)
    case first =>
      by_cases z48 : ((cB s (atD s)).toNat : Int) = 48
      · have n4 : ¬ 1 < (s.size : Int) := fun h => n3 ⟨z48, h⟩
        clear n3
        go_wp2_with (fail)
        go_meet
        case rel => exact ⟨by first | rfl | (simp [n1]; done), rfl⟩
      · clear n3
        go_wp2_with (fail)
        go_meet
        case rel => exact ⟨by first | rfl | (simp [n1]; done), rfl⟩
    case rest =>
    obtain ⟨rfl, rfl⟩ := hcut
    clear n1 n2 n3 hxa
    go_wp2_with (fail)
    have HI : Hid (∀ q, q < d.length → ∀ (W : World), (Instr.index 9 (.string s) (.int .i64 ((atD s : Int) + q))).run Tryd.prog W = .ok (.int .u8 ((cB s (atD s + q)).toNat : Int)) W) := hid fun q hq => idx_cB s _ _ (by omega) (by omega)
    go_loopw [5, 6] (fun n i wr => ∃ q : Nat, q ≤ d.length ∧ i = .int .i64 ((atD s : Int) + q) ∧ n = .int .i64 (dval 0 (d.take q) : Int) ∧ (∀ c ∈ d.take q, isD c) ∧ wr = wc) (fun _ i _ => s.size - (intOf i).toNat)
    case atStart => exact ⟨0, Nat.zero_le _, by rw [show ((0 : Nat) : Int) = 0 from rfl, Int.add_zero], by rw [List.take_zero]; rfl, by rw [List.take_zero]; exact fun c hc => absurd hc (List.not_mem_nil), rfl⟩
    case round =>
      obtain ⟨q, hq, rfl, rfl, hd, rfl⟩ := hrel
      have hv18 := dval_18 hd (by rw [List.length_take]; omega)
      have HD := hid hd
      have hdl := HDL.out
      clear hd
      by_cases hlt : q < d.length
      · have hx := HI.out q hlt
        have hcx := HAT.out q hlt
        have hv17 : dval 0 (d.take q) < 100000000000000000 := by
          have h1 := dval_lt (d.take q) 0 HD.out
          have h2 : (10 : Nat) ^ (d.take q).length ≤ 10 ^ 17 := Nat.pow_le_pow_right (by omega) (by rw [List.length_take]; omega)
          have h3 : (10 : Nat) ^ 17 = 100000000000000000 := by decide
          omega
        have hc255 := cB_lt s (atD s + q)
        have hqi : (atD s : Int) + (q : Int) < (s.size : Int) := by omega
        have HS : Hid (dval 0 (d.take (q + 1)) = dval 0 (d.take q) * 10 + ((cB s (atD s + q)).toNat - 48)) := hid (by rw [← List.take_append_getElem hlt, dval_snoc, hcx])
        have HM : Hid (isD (cB s (atD s + q)) → ∀ c ∈ d.take (q + 1), isD c) := hid fun h c hc => by
          rw [← List.take_append_getElem hlt] at hc
          rcases List.mem_append.1 hc with h1 | h1
          · exact HD.out c h1
          · rw [List.mem_singleton.1 h1, hcx]; exact h
        have HX : Hid (¬ isD (cB s (atD s + q)) → rdV s = 0 ∧ rdO s = false) := hid fun h => HND.out ⟨d[q], List.getElem_mem hlt, by rw [hcx]; exact h⟩
        have HDI : Hid (isD (cB s (atD s + q)) ↔ 48 ≤ (cB s (atD s + q)).toNat ∧ (cB s (atD s + q)).toNat ≤ 57) := hid Iff.rfl
        clear hcx hdl
        generalize (cB s (atD s + q)).toNat = x at *
        generalize dval 0 (d.take q) = v at *
        by_cases hdg : digitI (x : Int)
        · have hg := HDI.out.2 ⟨by have := hdg.1; omega, by have := hdg.2; omega⟩
          have hdg0 := hdg.1
          have hdg1 := hdg.2
          have hw1 : IntKind.u8.wrap ((x : Int) - 48) = (x : Int) - 48 := by simp [IntKind.wrap, IntKind.bits, IntKind.signed]; omega
          have hw2 : IntKind.i64.wrap ((x : Int) - 48) = (x : Int) - 48 := IntWalk.i64_in _ (by omega)
          go_wp2_with ((go_at_call 87; refine (dg_yes _ _ (by assumption)).mono ?_; rintro e w' ⟨rfl, rfl⟩))
          go_roundw
          case rel => exact ⟨q + 1, by omega, by go_num, by rw [HS.out]; go_num, HM.out hg, by first | rfl | trivial⟩
          case measure => simp [intOf]; omega
        · have HN := hid (HX.out (fun h => hdg (by have := HDI.out.1 h; exact ⟨by omega, by omega⟩)))
          go_wp2_with ((go_at_call 87; refine (dg_no _ _ (by assumption)).mono ?_; rintro e w' ⟨rfl, rfl⟩))
          (refine bodyPost_ret (v := _) (by simp [results, Tryd.results69, go_sem]; rfl) rfl ?_; exact ⟨by rw [(HN.out).1, (HN.out).2], rfl⟩)
      · obtain rfl : q = d.length := by omega
        have hqi : ¬ (atD s : Int) + (d.length : Int) < (s.size : Int) := by omega
        have HY := HYES.out HNB.out (by have := HD.out; rwa [List.take_length] at this)
        rw [List.take_length] at *
        have HY' := hid HY
        clear HY hdl
        by_cases ha : atD s = 1
        · have hai : (atD s : Int) = 1 := by omega
          have HN : Hid (rdV s = -(dval 0 d : Int) ∧ rdO s = true) := hid (by have := HY'.out; rwa [if_pos ha] at this)
          clear HY' ha
          go_wp2_with (fail)
          (refine bodyPost_ret (v := _) (by simp [results, Tryd.results69, go_sem]; rfl) rfl ?_; exact ⟨by rw [(HN.out).1, (HN.out).2], rfl⟩)
        · have hai : ¬ (atD s : Int) = 1 := by omega
          have HN : Hid (rdV s = (dval 0 d : Int) ∧ rdO s = true) := hid (by have := HY'.out; rwa [if_neg ha] at this)
          clear HY' ha
          go_wp2_with (fail)
          (refine bodyPost_ret (v := _) (by simp [results, Tryd.results69, go_sem]; rfl) rfl ?_; exact ⟨by rw [(HN.out).1, (HN.out).2], rfl⟩)
end
end Go.Proofs.YtonmeffhelaohaaDoor
