/-
  Contracts of IsName and of the reference's l01Name: each says whether a text is a name. Conditions: the text's length fits.
-/
import Derived.Test.YtdhflckombkimaaDoorCore
namespace Go.Proofs.YtdhflckombkimaaDoor
open Go.RowKit

/-! ### plain -/
def smallI (c : Int) : Prop := 97 ≤ c ∧ c ≤ 122
def digitI (c : Int) : Prop := 48 ≤ c ∧ c ≤ 57
/-- a name -/
def okN (s : ByteArray) : Prop := s.size ≤ 10 ∧ ∃ h : 0 < s.size, smallI (s[0].toNat : Int) ∧ ∀ (i : Nat) (hi : i < s.size), smallI (s[i].toNat : Int) ∨ digitI (s[i].toNat : Int)
theorem notN {s : ByteArray} (h : ¬ okN s) : s.size = 0 ∨ 10 < s.size ∨ (0 < s.size ∧ s.size ≤ 10 ∧ ∃ h : 0 < s.size, ¬ smallI (s[0].toNat : Int)) ∨
    (0 < s.size ∧ s.size ≤ 10 ∧ (∃ h : 0 < s.size, smallI (s[0].toNat : Int)) ∧ ∃ (i : Nat) (hi : i < s.size), ¬ smallI (s[i].toNat : Int) ∧ ¬ digitI (s[i].toNat : Int)) := by
  rcases Nat.eq_zero_or_pos s.size with h0 | h0
  · exact .inl h0
  rcases Nat.lt_or_ge 10 s.size with h1 | h1
  · exact .inr (.inl h1)
  by_cases h2 : smallI (s[0].toNat : Int)
  · refine .inr (.inr (.inr ⟨h0, h1, ⟨h0, h2⟩, ?_⟩))
    refine Classical.byContradiction fun hc => h ⟨h1, h0, h2, fun i hi => ?_⟩
    by_cases h3 : smallI (s[i].toNat : Int)
    · exact .inl h3
    · by_cases h4 : digitI (s[i].toNat : Int)
      · exact .inr h4
      · exact absurd ⟨i, hi, h3, h4⟩ hc
  · exact .inr (.inr (.inl ⟨h0, h1, h0, h2⟩))

section
set_option maxHeartbeats 1600000
theorem isName_yes (s : ByteArray) (w : World) (h : okN s) :
    Calls Tryd.prog 76 #[.string s] w fun e w' => e = .returned (.bool true) ∧ w = w' := by
  obtain ⟨h1, h0, ⟨h2, h3⟩, h4⟩ := h
  have H := hid h4
  clear h4
  go_enter Tryd.func76, Tryd.ntmps76
  go_wp2
  go_loop [3] (fun t => ∃ k : Nat, k ≤ s.size ∧ t = .int .i64 k) (fun t => s.size - (intOf t).toNat)
  case atStart => exact ⟨0, Nat.zero_le _, rfl⟩
  case round =>
    obtain ⟨k, hk, rfl⟩ := hrel
    by_cases hlt : k < s.size
    · rcases H.out k hlt with ⟨c1, c2⟩ | ⟨c1, c2⟩
      all_goals
        go_wp2
        go_round
        case rel => exact ⟨k + 1, by omega, by go_num⟩
        case measure => simp [intOf]; omega
    · go_wp2
      go_ret
      exact ⟨rfl, rfl⟩
theorem isName_no (s : ByteArray) (w : World) (hs : s.size ≤ maxLen) (h : ¬ okN s) :
    Calls Tryd.prog 76 #[.string s] w fun e w' => e = .returned (.bool false) ∧ w = w' := by
  unfold maxLen at hs
  rcases notN h with c | c | ⟨c0, c1, h0, c⟩ | ⟨c0, c1, ⟨h0, c2, c3⟩, j, hj, c4, c5⟩ <;> clear h
  · have c : s.size < 1 := by omega
    go_enter Tryd.func76, Tryd.ntmps76
    go_wp2
    go_ret
    exact ⟨rfl, rfl⟩
  · have c' : 1 ≤ s.size := by omega
    go_enter Tryd.func76, Tryd.ntmps76
    go_wp2
    go_ret
    exact ⟨rfl, rfl⟩
  · have c : (s[0].toNat : Int) < 97 ∨ (97 ≤ (s[0].toNat : Int) ∧ 122 < (s[0].toNat : Int)) := by unfold smallI at c; omega
    rcases c with c | ⟨c, c'⟩
    all_goals
      go_enter Tryd.func76, Tryd.ntmps76
      go_wp2
      go_ret
      exact ⟨by first | rfl | (simp; done) | (simp; omega), rfl⟩
  · go_enter Tryd.func76, Tryd.ntmps76
    go_wp2
    go_loop [3] (fun t => ∃ k : Nat, k ≤ s.size ∧ k ≤ j ∧ t = .int .i64 k) (fun t => s.size - (intOf t).toNat)
    case atStart => exact ⟨0, Nat.zero_le _, Nat.zero_le _, rfl⟩
    case round =>
      obtain ⟨k, hk, hkj, rfl⟩ := hrel
      have hlt : k < s.size := by omega
      by_cases hg : smallI (s[k].toNat : Int) ∨ digitI (s[k].toNat : Int)
      · have hkj' : k < j := by
          rcases Nat.lt_or_ge k j with h | h
          · exact h
          · obtain rfl : k = j := by omega
            rcases hg with h | h
            · exact absurd h c4
            · exact absurd h c5
        clear c4 c5
        rcases hg with ⟨g1, g2⟩ | ⟨g1, g2⟩
        all_goals
          go_wp2
          go_round
          case rel => exact ⟨k + 1, by omega, by omega, by go_num⟩
          case measure => simp [intOf]; omega
      · have hg' : (s[k].toNat : Int) < 48 ∨ (57 < (s[k].toNat : Int) ∧ (s[k].toNat : Int) < 97) ∨ 122 < (s[k].toNat : Int) := by
          unfold smallI digitI at hg; omega
        clear hg c4 c5
        rcases hg' with g1 | ⟨g1, g2⟩ | g1
        all_goals
          go_wp2
          all_goals first
            | (go_ret; exact ⟨rfl, rfl⟩)
            | (exfalso; rename_i hx; simp at hx; omega)
theorem sm_yes (c : Int) (w : World) (h : smallI c) : Calls Tryd.prog 117 #[.int .u8 c] w fun e w' => e = .returned (.bool true) ∧ w = w' := by
  obtain ⟨h1, h2⟩ := h
  go_enter Tryd.func117, Tryd.ntmps117
  go_wp2
  go_ret
  exact ⟨rfl, rfl⟩
theorem sm_no (c : Int) (w : World) (h : ¬ smallI c) : Calls Tryd.prog 117 #[.int .u8 c] w fun e w' => e = .returned (.bool false) ∧ w = w' := by
  have h : c < 97 ∨ (97 ≤ c ∧ 122 < c) := by unfold smallI at h; omega
  rcases h with h | ⟨h, h'⟩
  all_goals
    go_enter Tryd.func117, Tryd.ntmps117
    go_wp2
    go_ret
    exact ⟨by first | rfl | (simp; done) | (simp; omega), rfl⟩
theorem dg_yes (c : Int) (w : World) (h : digitI c) : Calls Tryd.prog 99 #[.int .u8 c] w fun e w' => e = .returned (.bool true) ∧ w = w' := by
  obtain ⟨h1, h2⟩ := h
  go_enter Tryd.func99, Tryd.ntmps99
  go_wp2
  go_ret
  exact ⟨rfl, rfl⟩
theorem dg_no (c : Int) (w : World) (h : ¬ digitI c) : Calls Tryd.prog 99 #[.int .u8 c] w fun e w' => e = .returned (.bool false) ∧ w = w' := by
  have h : c < 48 ∨ (48 ≤ c ∧ 57 < c) := by unfold digitI at h; omega
  rcases h with h | ⟨h, h'⟩
  all_goals
    go_enter Tryd.func99, Tryd.ntmps99
    go_wp2
    go_ret
    exact ⟨by first | rfl | (simp; done) | (simp; omega), rfl⟩
theorem l01Name_yes (s : ByteArray) (w : World) (h : okN s) :
    Calls Tryd.prog 96 #[.string s] w fun e w' => e = .returned (.bool true) ∧ w = w' := by
  obtain ⟨h1, h0, h2, h4⟩ := h
  have H := hid h4
  clear h4
  have he : s.toList.isEmpty = false := by
    rw [ByteArray.toList_eq]; simp; intro hh; have : s.size = 0 := by rw [← ByteArray.size_data, hh]; rfl
    omega
  go_enter Tryd.func96, Tryd.ntmps96
  go_wp2_with ((go_at_call 117; first | (refine (sm_yes _ _ (by assumption)).mono ?_; rintro e w' ⟨rfl, rfl⟩) | (refine (sm_no _ _ (by assumption)).mono ?_; rintro e w' ⟨rfl, rfl⟩)))
  go_loop [3] (fun t => ∃ k : Nat, k ≤ s.size ∧ t = .int .i64 k) (fun t => s.size - (intOf t).toNat)
  case atStart => exact ⟨0, Nat.zero_le _, rfl⟩
  case round =>
    obtain ⟨k, hk, rfl⟩ := hrel
    by_cases hlt : k < s.size
    · have hg := H.out k hlt
      by_cases hsm : smallI (s[k].toNat : Int)
      · clear hg
        go_wp2_with ((go_at_call 117; first | (refine (sm_yes _ _ (by assumption)).mono ?_; rintro e w' ⟨rfl, rfl⟩) | (refine (sm_no _ _ (by assumption)).mono ?_; rintro e w' ⟨rfl, rfl⟩)))
        go_round
        case rel => exact ⟨k + 1, by omega, by go_num⟩
        case measure => simp [intOf]; omega
      · have hdg := hg.resolve_left hsm
        clear hg
        go_wp2_with (first | (go_at_call 117; first | (refine (sm_yes _ _ (by assumption)).mono ?_; rintro e w' ⟨rfl, rfl⟩) | (refine (sm_no _ _ (by assumption)).mono ?_; rintro e w' ⟨rfl, rfl⟩)) | (go_at_call 99; first | (refine (dg_yes _ _ (by assumption)).mono ?_; rintro e w' ⟨rfl, rfl⟩) | (refine (dg_no _ _ (by assumption)).mono ?_; rintro e w' ⟨rfl, rfl⟩)))
        go_round
        case rel => exact ⟨k + 1, by omega, by go_num⟩
        case measure => simp [intOf]; omega
    · go_wp2
      go_ret
      exact ⟨rfl, rfl⟩
theorem l01Name_no (s : ByteArray) (w : World) (hs : s.size ≤ maxLen) (h : ¬ okN s) :
    Calls Tryd.prog 96 #[.string s] w fun e w' => e = .returned (.bool false) ∧ w = w' := by
  unfold maxLen at hs
  have hem : s.size = 0 ∧ s.toList.isEmpty = true ∨ 0 < s.size ∧ s.toList.isEmpty = false := by
    rw [ByteArray.toList_eq]
    rcases Nat.eq_zero_or_pos s.size with h0 | h0
    · exact .inl ⟨h0, by simp; exact Array.eq_empty_of_size_eq_zero h0⟩
    · refine .inr ⟨h0, ?_⟩
      simp
      intro hh
      have : s.size = 0 := by rw [← ByteArray.size_data, hh]; rfl
      omega
  rcases notN h with c | c | ⟨c0, c1, h0, c⟩ | ⟨c0, c1, ⟨h0, c2⟩, j, hj, c4, c5⟩ <;> clear h
  · have he : s.toList.isEmpty = true := by
      rcases hem with h | h
      · exact h.2
      · omega
    clear hem
    go_enter Tryd.func96, Tryd.ntmps96
    go_wp2
    go_ret
    exact ⟨rfl, rfl⟩
  · have he : s.toList.isEmpty = false := by
      rcases hem with h | h
      · omega
      · exact h.2
    clear hem
    go_enter Tryd.func96, Tryd.ntmps96
    go_wp2
    go_ret
    exact ⟨rfl, rfl⟩
  · have he : s.toList.isEmpty = false := by
      rcases hem with h | h
      · omega
      · exact h.2
    clear hem
    go_enter Tryd.func96, Tryd.ntmps96
    go_wp2_with ((go_at_call 117; first | (refine (sm_yes _ _ (by assumption)).mono ?_; rintro e w' ⟨rfl, rfl⟩) | (refine (sm_no _ _ (by assumption)).mono ?_; rintro e w' ⟨rfl, rfl⟩)))
    go_ret
    exact ⟨rfl, rfl⟩
  · have he : s.toList.isEmpty = false := by
      rcases hem with h | h
      · omega
      · exact h.2
    clear hem
    go_enter Tryd.func96, Tryd.ntmps96
    go_wp2_with ((go_at_call 117; first | (refine (sm_yes _ _ (by assumption)).mono ?_; rintro e w' ⟨rfl, rfl⟩) | (refine (sm_no _ _ (by assumption)).mono ?_; rintro e w' ⟨rfl, rfl⟩)))
    go_loop [3] (fun t => ∃ k : Nat, k ≤ s.size ∧ k ≤ j ∧ t = .int .i64 k) (fun t => s.size - (intOf t).toNat)
    case atStart => exact ⟨0, Nat.zero_le _, Nat.zero_le _, rfl⟩
    case round =>
      obtain ⟨k, hk, hkj, rfl⟩ := hrel
      have hlt : k < s.size := by omega
      by_cases hg : smallI (s[k].toNat : Int) ∨ digitI (s[k].toNat : Int)
      · have hkj' : k < j := by
          rcases Nat.lt_or_ge k j with h | h
          · exact h
          · obtain rfl : k = j := by omega
            rcases hg with h | h
            · exact absurd h c4
            · exact absurd h c5
        clear c4 c5
        by_cases hsm : smallI (s[k].toNat : Int)
        · clear hg
          go_wp2_with ((go_at_call 117; first | (refine (sm_yes _ _ (by assumption)).mono ?_; rintro e w' ⟨rfl, rfl⟩) | (refine (sm_no _ _ (by assumption)).mono ?_; rintro e w' ⟨rfl, rfl⟩)))
          go_round
          case rel => exact ⟨k + 1, by omega, by omega, by go_num⟩
          case measure => simp [intOf]; omega
        · have hdg := hg.resolve_left hsm
          clear hg
          go_wp2_with (first | (go_at_call 117; first | (refine (sm_yes _ _ (by assumption)).mono ?_; rintro e w' ⟨rfl, rfl⟩) | (refine (sm_no _ _ (by assumption)).mono ?_; rintro e w' ⟨rfl, rfl⟩)) | (go_at_call 99; first | (refine (dg_yes _ _ (by assumption)).mono ?_; rintro e w' ⟨rfl, rfl⟩) | (refine (dg_no _ _ (by assumption)).mono ?_; rintro e w' ⟨rfl, rfl⟩)))
          go_round
          case rel => exact ⟨k + 1, by omega, by omega, by go_num⟩
          case measure => simp [intOf]; omega
      · have g1 : ¬ smallI (s[k].toNat : Int) := fun h => hg (.inl h)
        have g2 : ¬ digitI (s[k].toNat : Int) := fun h => hg (.inr h)
        clear hg c4 c5
        go_wp2_with (first | (go_at_call 117; first | (refine (sm_yes _ _ (by assumption)).mono ?_; rintro e w' ⟨rfl, rfl⟩) | (refine (sm_no _ _ (by assumption)).mono ?_; rintro e w' ⟨rfl, rfl⟩)) | (go_at_call 99; first | (refine (dg_yes _ _ (by assumption)).mono ?_; rintro e w' ⟨rfl, rfl⟩) | (refine (dg_no _ _ (by assumption)).mono ?_; rintro e w' ⟨rfl, rfl⟩)))
        go_ret
        exact ⟨rfl, rfl⟩
end
end Go.Proofs.YtdhflckombkimaaDoor
