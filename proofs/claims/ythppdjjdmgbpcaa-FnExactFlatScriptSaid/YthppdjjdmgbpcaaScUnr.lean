/-
  Contracts of UnreachedLines, and its law. Conditions: those typed at each theorem.
-/
import Derived.Test.YthppdjjdmgbpcaaScEv
namespace Go.Proofs.Ythppdjjdmgbpcaa
open Go.RowKit
/-- the lines among the first k that are not seen -/
def unrF (seen : Nat → Bool) : Nat → List Int
  | 0 => []
  | k + 1 => unrF seen k ++ (if seen k = true then [] else [(k : Int)])
theorem unrF_on {seen : Nat → Bool} {k : Nat} (h : seen k = false) : unrF seen (k + 1) = unrF seen k ++ [(k : Int)] := by simp [unrF, h]
theorem unrF_off {seen : Nat → Bool} {k : Nat} (h : seen k = true) : unrF seen (k + 1) = unrF seen k := by simp [unrF, h]
theorem unrF_len (seen : Nat → Bool) : ∀ k, (unrF seen k).length ≤ k
  | 0 => by simp [unrF]
  | k + 1 => by
    have := unrF_len seen k
    unfold unrF
    split <;> simp <;> omega
/-- what UnreachedLines answers -/
def unrR (l : List Ln) (co : Int) (s : RS) : List Int := if co = 0 then unrF s.seen l.length else []
theorem unrR_len (l : List Ln) (co : Int) (s : RS) : (unrR l co s).length ≤ l.length := by
  unfold unrR
  split
  · exact unrF_len _ _
  · simp
theorem rch_ok {l : List Ln} {s : RS} : rch l (0, s) = (List.range l.length).map s.seen := by unfold rch; rw [if_pos rfl]
theorem rch_err {l : List Ln} {co : Int} {s : RS} (h : co ≠ 0) : rch l (co, s) = [] := by unfold rch; rw [if_neg h]
section
set_option maxHeartbeats 3200000
theorem iUnr_any (A : Option Addr) (c : Nat) (l : List Ln) (budget : Int) (w : World) [hl : Lns w A l] (hcap : l.length ≤ c) (hn : l.length ≤ 1048576) {co : Int} {s : RS} (ha : ansL l budget = (co, s)) :
    Calls Try.prog 42 #[.slice A l.length c, .int .i64 budget] w fun e w' => ∃ A' c', e = .returned (.tuple #[.slice A' (unrR l co s).length c', .int .i64 co]) ∧ ∃ k : Ex w, w' = k.v ∧ Ow 1 iC k.v A' (unrR l co s) ∧ Fr w A' := by
  have HA := hid ha
  clear ha
  have HL : Hid (∀ q, q < (rch l (co, s)).length → (rch l (co, s)).getD q false = s.seen q) := hid (by
    intro q hq
    by_cases h : co = 0
    · subst h
      rw [rch_ok] at hq ⊢
      simp at hq
      simp [List.getD, hq]
    · rw [rch_err h] at hq; simp at hq)
  have HN : Hid (unrR l co s = unrF s.seen (rch l (co, s)).length) := hid (by
    unfold unrR
    by_cases h : co = 0
    · subst h; rw [if_pos rfl, rch_ok]; simp
    · rw [if_neg h, rch_err h]; rfl)
  have hrl : (rch l (co, s)).length ≤ 1048576 := by
    by_cases h : co = 0
    · subst h; rw [rch_ok]; simpa using hn
    · rw [rch_err h]; simp
  go_enter Try.func42, Try.ntmps42
  go_wp2_with (have ha := HA.out; (go_at_call 51; (refine (iRun_any _ _ l _ _ (by omega) (by omega)).mono ?_); rw [ha]; rintro e w' ⟨B, D, p, q, rfl, hBn, k, rfl, hO, hF, hR⟩); clear ha hO hF)
  generalize rch l (co, s) = rl at *
  have HD := hid hR.at_
  have hrow0 := hid (row_nil k.v k.v.heap.size 2 1 iC)
  go_loopw [8, 20] (fun v t wr => ∃ q : Nat, q ≤ rl.length ∧ t = .int .i64 q ∧ ∃ j : Ex k.v, wr = j.v ∧ j.v.ownsRow k.v.heap.size 2 1 v (unrF s.seen q).length ((unrF s.seen q).flatMap iC)) (fun _ t _ => rl.length - (intOf t).toNat)
  case atStart => exact ⟨0, Nat.zero_le _, rfl, ⟨_, (Below.refl _ _).alloc (Nat.le_refl _) _⟩, rfl, hrow0.out.alloc _⟩
  case round =>
    obtain ⟨qq, hq, rfl, j0, rfl, hrow⟩ := hrel
    have hln := unrF_len s.seen qq
    obtain ⟨A1, c1, rfl, -, -⟩ := own_of_row (w0 := k.v) (f := iC) (fun _ => rfl) hrow
    have HROW := hid hrow
    clear hrow
    by_cases hlt : qq < rl.length
    · obtain ⟨b, o, rfl, hbw, hc⟩ := HD.out (by omega)
      have c0 := hc qq hlt 0 _ rfl
      rw [Nat.mul_one] at c0
      have c0 : k.v.cell? ⟨b, o + qq, none⟩ = some (.bool rl[qq]) := c0
      have h9 := HL.out qq hlt
      have h9 : rl[qq] = s.seen qq := by simpa [List.getD, hlt] using h9
      rw [h9] at c0
      clear hc h9
      cases hs : s.seen qq
      · rw [hs] at c0
        have HU := hid (unrF_on hs)
        clear hs
        go_wp2_with (at_builtin; refine wpList_app iC _ rfl _ _ _ rfl k.v _ _ _ _ Try.underlying53 infoI64 rfl (by omega) (fun _ => ⟨rfl, by simp [iC, Value.oneCell']⟩) _ (unrF s.seen qq) rfl (HROW.out.alloc _) (qq : Int) _ _ rfl (cell1 _ _ _) (by omega) (by omega) ?_; intro v1 k1 h1')
        go_roundw
        case rel => exact ⟨qq + 1, by omega, by go_num, k1, rfl, by rw [HU.out]; exact h1'⟩
        case measure => simp [intOf]; omega
      · rw [hs] at c0
        have HU := hid (unrF_off hs)
        clear hs
        go_wp2
        go_roundw
        case rel => exact ⟨qq + 1, by omega, by go_num, j0, rfl, by rw [HU.out]; exact HROW.out⟩
        case measure => simp [intOf]; omega
    · obtain rfl : qq = rl.length := by omega
      go_wp2
      go_ret2
      obtain ⟨A2, c2, he, hO2, hF2⟩ := own_of_row (w0 := k.v) (f := iC) (fun _ => rfl) HROW.out
      cases he
      rw [HN.out]
      exact ⟨A1, c1, by rfl, k.tr j0, rfl, hO2, hF2.mono⟩
theorem sUnr_any (A : Option Addr) (c : Nat) (l : List Ln) (budget : Int) (w : World) [hl : Lns w A l] (hn : l.length ≤ 1048576) {co : Int} {s : RS} (ha : ansL l budget = (co, s)) :
    Calls Try.prog 41 #[.slice A l.length c, .int .i64 budget] w fun e w' => ∃ A' c', e = .returned (.tuple #[.slice A' (unrR l co s).length c', .int .i64 co]) ∧ ∃ k : Ex w, w' = k.v ∧ Ow 1 iC k.v A' (unrR l co s) ∧ Fr w A' := by
  have HA := hid ha
  clear ha
  by_cases hc : co = 0
  · subst hc
    have HN : Hid (unrR l 0 s = unrF s.seen l.length) := hid (by unfold unrR; rw [if_pos rfl])
    go_enter Try.func41, Try.ntmps41
    go_wp2_with (have ha := HA.out; (go_at_call 52; (refine (sRun_any _ _ l _ _ (by omega)).mono ?_); rw [ha]; rintro e w' ⟨b, rfl, k, rfl, hS⟩); clear ha; obtain ⟨B, c1, D, S, q, hS⟩ := hS rfl; haveI hSl := hS.lt; have hS1 := hS.c3; have hSn := hS.len; have hrd := hS.rd; have HM := hid hS.mem; clear hS)
    have hrow0 := hid (row_made k.v k.v.heap.size (Nat.le_refl _) 2 1 iC)
    go_loopw [8, 9] (fun v t wr => ∃ q : Nat, q ≤ l.length ∧ t = .int .i64 q ∧ ∃ j : Ex k.v, wr = j.v ∧ j.v.ownsRow k.v.heap.size 2 1 v (unrF s.seen q).length ((unrF s.seen q).flatMap iC)) (fun _ t _ => l.length - (intOf t).toNat)
    case atStart => exact ⟨0, Nat.zero_le _, rfl, ⟨_, (Below.refl _ _).alloc (Nat.le_refl _) _⟩, rfl, hrow0.out⟩
    case round =>
      obtain ⟨qq, hq, rfl, j0, rfl, hrow⟩ := hrel
      have hln := unrF_len s.seen qq
      obtain ⟨A1, c1, rfl, -, -⟩ := own_of_row (w0 := k.v) (f := iC) (fun _ => rfl) hrow
      have HROW := hid hrow
      clear hrow
      by_cases hlt : qq < l.length
      · have hm := HM.out qq hlt
        cases hs : s.seen qq
        · have hm9 : (qq : Int) ∉ S := by rw [hm, hs]; simp
          have HU := hid (unrF_on hs)
          have HM9 := hid hm9
          clear hs hm hm9
          go_wp2_with (first | (go_at_call 69; refine (has_no _ _ S _ _ (by omega) HM9.out).mono ?_; rintro e w' ⟨rfl, rfl⟩) | (at_builtin; refine wpList_app iC _ rfl _ _ _ rfl k.v _ _ _ _ Try.underlying53 infoI64 rfl (by omega) (fun _ => ⟨rfl, by simp [iC, Value.oneCell']⟩) _ (unrF s.seen qq) rfl (HROW.out.alloc _) (qq : Int) _ _ rfl (cell1 _ _ _) (by omega) (by omega) ?_; intro v1 k1 h1'))
          go_roundw
          case rel => exact ⟨qq + 1, by omega, by go_num, k1, rfl, by rw [HU.out]; exact h1'⟩
          case measure => simp [intOf]; omega
        · have hm9 : (qq : Int) ∈ S := by rw [hm, hs]
          have HU := hid (unrF_off hs)
          have HM9 := hid hm9
          clear hs hm hm9
          go_wp2_with ((go_at_call 69; refine (has_yes _ _ S _ _ (by omega) HM9.out).mono ?_; rintro e w' ⟨rfl, rfl⟩))
          go_roundw
          case rel => exact ⟨qq + 1, by omega, by go_num, j0, rfl, by rw [HU.out]; exact HROW.out⟩
          case measure => simp [intOf]; omega
      · obtain rfl : qq = l.length := by omega
        go_wp2
        go_ret2
        obtain ⟨A2, c2, he, hO2, hF2⟩ := own_of_row (w0 := k.v) (f := iC) (fun _ => rfl) HROW.out
        cases he
        rw [HN.out]
        exact ⟨A1, c1, by rfl, k.tr j0, rfl, hO2, hF2.mono⟩
  · have HN : Hid (unrR l co s = []) := hid (by unfold unrR; rw [if_neg hc])
    have hcb : (co == 0) = false := by rw [beq_eq_false_iff_ne]; exact hc
    go_enter Try.func41, Try.ntmps41
    go_wp2_with (have ha := HA.out; (go_at_call 52; (refine (sRun_any _ _ l _ _ (by omega)).mono ?_); rw [ha]; rintro e w' ⟨b, rfl, k, rfl, hS⟩); clear ha)
    go_ret2
    rw [HN.out]
    exact ⟨none, 0, by rfl, k, rfl, Ow.nil, inferInstance⟩
theorem lUnreached (A : Option Addr) (c : Nat) (l : List Ln) (budget : Int) (w : World) (hl : Lns w A l) (hb : i64' budget) :
    Calls Try.prog 11 #[.slice A l.length c, .int .i64 budget] w fun e w' => e = .returned (.bool true) ∧ ∃ k : Ex w, w' = k.v := by
  obtain ⟨co, s, ha, hs, hsn, h⟩ := ansL_facts l budget
  have HA := hid ha
  have hR := unrR_len l co s
  clear ha h hs
  go_enter Try.func11, Try.ntmps11
  go_wp2_with ((go_at_call 19; refine (szLineS_any _ _ _ _ _ (by omega) (by omega)).mono ?_; rintro e w' ⟨m, rfl, ⟨hm1, hm2, hm3⟩, hm4, k, rfl⟩))
  · (go_ret; refine ⟨by first | rfl | (simp; done), ?_⟩; (refine Ok.toEx ?_; (repeat (first | (with_reducible exact Ok.rf _) | (with_reducible refine Ok.alloc ?_ _) | (with_reducible refine Ok.ex ?_ _) | (with_reducible refine Ok.drew ?_) | (with_reducible refine Ok.setCellI ?_ _ _ _) | (with_reducible refine Ok.exb ?_ _)))))
  go_wp2_with ((go_at_call 21; refine (toLineS_any _ _ _ _ (by omega)).mono ?_; rintro e w' ⟨rfl, k1, rfl, hw1⟩))
  go_wp2_with ((go_at_call 41; refine (sUnr_any _ _ _ _ _ (by omega) HA.out).mono ?_; rintro e w' ⟨Aw, cw, rfl, k2, rfl, how, hfw⟩))
  go_wp2_with ((go_at_call 21; refine (toLineS_any _ _ _ _ (by omega)).mono ?_; rintro e w' ⟨rfl, k3, rfl, hw3⟩))
  go_wp2_with ((go_at_call 42; refine (iUnr_any _ _ _ _ _ (by omega) (by omega) HA.out).mono ?_; rintro e w' ⟨Ag, cg, rfl, k4, rfl, hog, hfg⟩))
  go_wp2_with ((go_at_call 43; refine (eqI_any _ _ _ _ _ _).mono ?_; rintro e w' ⟨rfl, k5, rfl⟩))
  go_wp2_with ((go_at_call 21; refine (toLineS_any _ _ _ _ (by omega)).mono ?_; rintro e w' ⟨rfl, k6, rfl, hw6⟩))
  go_wp2_with ((go_at_call 23; refine (eqLineS_any _ _ _ _ _ _).mono ?_; rintro e w' ⟨rfl, k7, rfl⟩))
  go_wp2_with ((go_at_call 31; refine (markLineS_any k2.v _ _ _ _ _ (by omega) (by omega) (by omega)).mono ?_; rintro e w' ⟨rfl, k8, rfl, ho8, hb8⟩))
  have hog8 : Ow 1 iC k8.v Ag (unrR l co s) := Ow.but (inferInstanceAs (Ow 1 iC k7.v Ag (unrR l co s))) hb8 (fun x o o' e h => by have h1 := hfg.h x o none e; have h2 := hw3.lt.h; cases h; omega)
  have hfg2 : Fr k2.v Ag := hfg.mono
  go_wp2_with ((go_at_call 43; refine (eqI_any _ _ _ _ _ _).mono ?_; rintro e w' ⟨rfl, k9, rfl⟩))
  go_wp2_with (go_at_call 44; refine (markI_any k2.v _ _ _ _ _ (by omega) (by omega) (by omega)).mono ?_; rintro e w' ⟨rfl, k10, rfl, ho10, hb10⟩)
  go_wp2_with ((go_at_call 45; refine (heldI_any _ _ _ _ _ (by omega) (by omega) (by omega)).mono ?_; rintro e w' ⟨rfl, k11, rfl⟩))
  go_wp2_with ((go_at_call 21; refine (toLineS_any _ _ _ _ (by omega)).mono ?_; rintro e w' ⟨rfl, k12, rfl, hw12⟩))
  go_wp2_with ((go_at_call 42; refine (iUnr_any _ _ _ _ _ (by omega) (by omega) HA.out).mono ?_; rintro e w' ⟨Ah, ch, rfl, k13, rfl, hoh, hfh⟩))
  go_wp2_with ((go_at_call 43; refine (eqI_any _ _ _ _ _ _).mono ?_; rintro e w' ⟨rfl, k14, rfl⟩))
  go_wp2_with ((go_at_call 45; refine (heldI_any _ _ _ _ _ (by omega) (by omega) (by omega)).mono ?_; rintro e w' ⟨rfl, k15, rfl⟩))
  all_goals (go_ret; refine ⟨by first | rfl | (simp; done), ?_⟩; (refine Ok.toEx ?_; (repeat (first | (with_reducible exact Ok.rf _) | (with_reducible refine Ok.alloc ?_ _) | (with_reducible refine Ok.ex ?_ _) | (with_reducible refine Ok.drew ?_) | (with_reducible refine Ok.setCellI ?_ _ _ _) | (with_reducible refine Ok.exb ?_ _)))))
end
end Go.Proofs.Ythppdjjdmgbpcaa
