/-
  Contracts of the small shared functions (bounds, absolute value, nearest quotient): each returns what its plain function says. Conditions: those typed at each theorem.
  Contracts of IsName and of the reference's l01Name: each says whether a text is a name. Conditions: the text's length fits.
-/
import Derived.Test.YtonmeffhelaohaaDoorProg
import Derived.Test.YtonmeffhelaohaaDoorV1
namespace Go.Proofs.YtonmeffhelaohaaDoor
open Go.RowKit

theorem hid {p : Prop} (h : p) : Hid p := h
/-! ### plain -/
/-- nearest quotient, halves away from 0 -/
def near (a b : Int) : Int := if a < 0 then -((b - 2 * a) / (2 * b)) else (2 * a + b) / (2 * b)
theorem half_core (a b : Int) (ha : 0 ≤ a) (hb : 0 < b) :
    (2 * a + b) / (2 * b) = if a % b < b - a % b then a / b else a / b + 1 := by
  have h := Int.mul_ediv_add_emod a b
  have h0 := Int.emod_nonneg a (by omega : b ≠ 0)
  have h1 := Int.emod_lt_of_pos a hb
  generalize a / b = q at *
  generalize a % b = r at *
  subst h
  have e : 2 * (b * q + r) + b = (2 * r + b) + (2 * b) * q := by rw [Int.mul_assoc]; omega
  rw [e, Int.add_mul_ediv_left _ _ (by omega)]
  split
  · rw [Int.ediv_eq_zero_of_lt (by omega) (by omega)]; omega
  · have : (2 * r + b) / (2 * b) = 1 := by
      rw [show 2 * r + b = (2 * r - b) + (2 * b) * 1 by omega, Int.add_mul_ediv_left _ _ (by omega), Int.ediv_eq_zero_of_lt (by omega) (by omega)]; rfl
    omega
theorem near_pos {a b : Int} (ha : 0 ≤ a) (hb : 0 < b) : near a b = if a % b < b - a % b then a / b else a / b + 1 := by
  unfold near; rw [if_neg (by omega)]; exact half_core a b ha hb
theorem near_neg {a b : Int} (ha : a < 0) (hb : 0 < b) : near a b = if (-a) % b < b - (-a) % b then -((-a) / b) else -((-a) / b) - 1 := by
  unfold near; rw [if_pos ha, show b - 2 * a = 2 * (-a) + b by omega, half_core (-a) b (by omega) hb]
  split <;> omega
theorem tdiv_neg' {a b : Int} (ha : a < 0) : a.tdiv b = -((-a) / b) := by
  have := Int.tdiv_eq_ediv_of_nonneg (a := -a) (b := b) (by omega)
  rw [← this, Int.neg_tdiv, Int.neg_neg]
theorem tmod_neg' {a b : Int} (ha : a < 0) : a.tmod b = -((-a) % b) := by
  have := Int.tmod_eq_emod_of_nonneg (a := -a) (b := b) (by omega)
  rw [← this, Int.neg_tmod, Int.neg_neg]
theorem near_bd {a b : Int} (M : Int) (hb : 0 < b) (h1 : -M ≤ a) (h2 : a ≤ M) : -(M + 1) ≤ near a b ∧ near a b ≤ M + 1 := by
  have key : ∀ c : Int, 0 ≤ c → c ≤ M → 0 ≤ (2 * c + b) / (2 * b) ∧ (2 * c + b) / (2 * b) ≤ M + 1 := fun c h0 hM =>
    ⟨Int.ediv_nonneg (by omega) (by omega), by
      refine Int.le_of_lt_add_one (Int.ediv_lt_of_lt_mul (by omega) ?_)
      have : (M + 1 + 1) * (2 * b) = (M + 1) * (2 * b) + 2 * b := by rw [Int.add_mul, Int.one_mul]
      have : (M + 1) * 1 ≤ (M + 1) * b := Int.mul_le_mul_of_nonneg_left (by omega) (by omega)
      have : (M + 1) * (2 * b) = 2 * ((M + 1) * b) := by rw [← Int.mul_assoc, Int.mul_comm (M + 1) 2, Int.mul_assoc]
      omega⟩
  unfold near
  split
  · have := key (-a) (by omega) (by omega)
    rw [show b - 2 * a = 2 * (-a) + b by omega]
    omega
  · have := key a (by omega) (by omega)
    omega

section
set_option maxHeartbeats 400000
theorem in_yes (n lo hi : Int) (w : World) (h1 : lo ≤ n) (h2 : n ≤ hi) :
    Calls Tryd.prog 41 #[.int .i64 n, .int .i64 lo, .int .i64 hi] w fun e w' => e = .returned (.bool true) ∧ w = w' := by
  go_enter Tryd.func41, Tryd.ntmps41
  go_wp2
  go_ret
  exact ⟨rfl, rfl⟩
theorem in_no (n lo hi : Int) (w : World) (h : n < lo ∨ hi < n) :
    Calls Tryd.prog 41 #[.int .i64 n, .int .i64 lo, .int .i64 hi] w fun e w' => e = .returned (.bool false) ∧ w = w' := by
  by_cases h1 : n < lo
  · clear h
    go_enter Tryd.func41, Tryd.ntmps41
    go_wp2
    go_ret
    exact ⟨rfl, rfl⟩
  · have h2 : hi < n := by omega
    have h1 : lo ≤ n := by omega
    clear h
    go_enter Tryd.func41, Tryd.ntmps41
    go_wp2
    go_ret
    exact ⟨by simp; omega, rfl⟩
theorem wi_yes (n lo hi : Int) (w : World) (h1 : lo ≤ n) (h2 : n ≤ hi) :
    Calls Tryd.prog 47 #[.int .i64 n, .int .i64 lo, .int .i64 hi] w fun e w' => e = .returned (.bool true) ∧ w = w' := by
  go_enter Tryd.func47, Tryd.ntmps47
  go_wp2
  go_ret
  exact ⟨rfl, rfl⟩
theorem wi_no (n lo hi : Int) (w : World) (h : n < lo ∨ hi < n) :
    Calls Tryd.prog 47 #[.int .i64 n, .int .i64 lo, .int .i64 hi] w fun e w' => e = .returned (.bool false) ∧ w = w' := by
  by_cases h1 : n < lo
  · clear h
    go_enter Tryd.func47, Tryd.ntmps47
    go_wp2
    go_ret
    exact ⟨rfl, rfl⟩
  · have h2 : hi < n := by omega
    have h1 : lo ≤ n := by omega
    clear h
    go_enter Tryd.func47, Tryd.ntmps47
    go_wp2
    go_ret
    exact ⟨by simp; omega, rfl⟩
end
end Go.Proofs.YtonmeffhelaohaaDoor
namespace Go.Proofs.YtonmeffhelaohaaDoor
open Go.RowKit

/-! ### plain -/
def smallI (c : Int) : Prop := 97 ≤ c ∧ c ≤ 122
def digitI (c : Int) : Prop := 48 ≤ c ∧ c ≤ 57
/-- a name -/
def okN (s : ByteArray) : Prop := s.size ≤ 10 ∧ ∃ h : 0 < s.size, smallI (s[0].toNat : Int) ∧ ∀ (i : Nat) (hi : i < s.size), smallI (s[i].toNat : Int) ∨ digitI (s[i].toNat : Int)
theorem notN {s : ByteArray} (h : ¬ okN s) : s.size = 0 ∨ 10 < s.size ∨ (0 < s.size ∧ s.size ≤ 10 ∧ ∃ h : 0 < s.size, ¬ smallI (s[0].toNat : Int)) ∨
    (0 < s.size ∧ s.size ≤ 10 ∧ (∃ h : 0 < s.size, smallI (s[0].toNat : Int)) ∧ ∃ (i : Nat) (hi : i < s.size), ¬ smallI (s[i].toNat : Int) ∧ ¬ digitI (s[i].toNat : Int)) := by
  rcases Nat.eq_zero_or_pos s.size with h0 | h0
  · exact .inl h0
  rcases Nat.lt_or_ge 10 s.size with h1 | h1
  · exact .inr (.inl h1)
  by_cases h2 : smallI (s[0].toNat : Int)
  · refine .inr (.inr (.inr ⟨h0, h1, ⟨h0, h2⟩, ?_⟩))
    refine Classical.byContradiction fun hc => h ⟨h1, h0, h2, fun i hi => ?_⟩
    by_cases h3 : smallI (s[i].toNat : Int)
    · exact .inl h3
    · by_cases h4 : digitI (s[i].toNat : Int)
      · exact .inr h4
      · exact absurd ⟨i, hi, h3, h4⟩ hc
  · exact .inr (.inr (.inl ⟨h0, h1, h0, h2⟩))

section
set_option maxHeartbeats 1600000
theorem isName_yes (s : ByteArray) (w : World) (h : okN s) :
    Calls Tryd.prog 57 #[.string s] w fun e w' => e = .returned (.bool true) ∧ w = w' := by
  obtain ⟨h1, h0, ⟨h2, h3⟩, h4⟩ := h
  have H := hid h4
  clear h4
  go_enter Tryd.func57, Tryd.ntmps57
  go_wp2
  go_loop [3] (fun t => ∃ k : Nat, k ≤ s.size ∧ t = .int .i64 k) (fun t => s.size - (intOf t).toNat)
  case atStart => exact ⟨0, Nat.zero_le _, rfl⟩
  case round =>
    obtain ⟨k, hk, rfl⟩ := hrel
    by_cases hlt : k < s.size
    · rcases H.out k hlt with ⟨c1, c2⟩ | ⟨c1, c2⟩
      all_goals
        go_wp2
        go_round
        case rel => exact ⟨k + 1, by omega, by go_num⟩
        case measure => simp [intOf]; omega
    · go_wp2
      go_ret
      exact ⟨rfl, rfl⟩
theorem isName_no (s : ByteArray) (w : World) (hs : s.size ≤ maxLen) (h : ¬ okN s) :
    Calls Tryd.prog 57 #[.string s] w fun e w' => e = .returned (.bool false) ∧ w = w' := by
  unfold maxLen at hs
  rcases notN h with c | c | ⟨c0, c1, h0, c⟩ | ⟨c0, c1, ⟨h0, c2, c3⟩, j, hj, c4, c5⟩ <;> clear h
  · have c : s.size < 1 := by omega
    go_enter Tryd.func57, Tryd.ntmps57
    go_wp2
    go_ret
    exact ⟨rfl, rfl⟩
  · have c' : 1 ≤ s.size := by omega
    go_enter Tryd.func57, Tryd.ntmps57
    go_wp2
    go_ret
    exact ⟨rfl, rfl⟩
  · have c : (s[0].toNat : Int) < 97 ∨ (97 ≤ (s[0].toNat : Int) ∧ 122 < (s[0].toNat : Int)) := by unfold smallI at c; omega
    rcases c with c | ⟨c, c'⟩
    all_goals
      go_enter Tryd.func57, Tryd.ntmps57
      go_wp2
      go_ret
      exact ⟨by first | rfl | (simp; done) | (simp; omega), rfl⟩
  · go_enter Tryd.func57, Tryd.ntmps57
    go_wp2
    go_loop [3] (fun t => ∃ k : Nat, k ≤ s.size ∧ k ≤ j ∧ t = .int .i64 k) (fun t => s.size - (intOf t).toNat)
    case atStart => exact ⟨0, Nat.zero_le _, Nat.zero_le _, rfl⟩
    case round =>
      obtain ⟨k, hk, hkj, rfl⟩ := hrel
      have hlt : k < s.size := by omega
      by_cases hg : smallI (s[k].toNat : Int) ∨ digitI (s[k].toNat : Int)
      · have hkj' : k < j := by
          rcases Nat.lt_or_ge k j with h | h
          · exact h
          · obtain rfl : k = j := by omega
            rcases hg with h | h
            · exact absurd h c4
            · exact absurd h c5
        clear c4 c5
        rcases hg with ⟨g1, g2⟩ | ⟨g1, g2⟩
        all_goals
          go_wp2
          go_round
          case rel => exact ⟨k + 1, by omega, by omega, by go_num⟩
          case measure => simp [intOf]; omega
      · have hg' : (s[k].toNat : Int) < 48 ∨ (57 < (s[k].toNat : Int) ∧ (s[k].toNat : Int) < 97) ∨ 122 < (s[k].toNat : Int) := by
          unfold smallI digitI at hg; omega
        clear hg c4 c5
        rcases hg' with g1 | ⟨g1, g2⟩ | g1
        all_goals
          go_wp2
          all_goals first
            | (go_ret; exact ⟨rfl, rfl⟩)
            | (exfalso; rename_i hx; simp at hx; omega)
theorem sm_yes (c : Int) (w : World) (h : smallI c) : Calls Tryd.prog 98 #[.int .u8 c] w fun e w' => e = .returned (.bool true) ∧ w = w' := by
  obtain ⟨h1, h2⟩ := h
  go_enter Tryd.func98, Tryd.ntmps98
  go_wp2
  go_ret
  exact ⟨rfl, rfl⟩
theorem sm_no (c : Int) (w : World) (h : ¬ smallI c) : Calls Tryd.prog 98 #[.int .u8 c] w fun e w' => e = .returned (.bool false) ∧ w = w' := by
  have h : c < 97 ∨ (97 ≤ c ∧ 122 < c) := by unfold smallI at h; omega
  rcases h with h | ⟨h, h'⟩
  all_goals
    go_enter Tryd.func98, Tryd.ntmps98
    go_wp2
    go_ret
    exact ⟨by first | rfl | (simp; done) | (simp; omega), rfl⟩
theorem dg_yes (c : Int) (w : World) (h : digitI c) : Calls Tryd.prog 87 #[.int .u8 c] w fun e w' => e = .returned (.bool true) ∧ w = w' := by
  obtain ⟨h1, h2⟩ := h
  go_enter Tryd.func87, Tryd.ntmps87
  go_wp2
  go_ret
  exact ⟨rfl, rfl⟩
theorem dg_no (c : Int) (w : World) (h : ¬ digitI c) : Calls Tryd.prog 87 #[.int .u8 c] w fun e w' => e = .returned (.bool false) ∧ w = w' := by
  have h : c < 48 ∨ (48 ≤ c ∧ 57 < c) := by unfold digitI at h; omega
  rcases h with h | ⟨h, h'⟩
  all_goals
    go_enter Tryd.func87, Tryd.ntmps87
    go_wp2
    go_ret
    exact ⟨by first | rfl | (simp; done) | (simp; omega), rfl⟩
theorem l01Name_yes (s : ByteArray) (w : World) (h : okN s) :
    Calls Tryd.prog 88 #[.string s] w fun e w' => e = .returned (.bool true) ∧ w = w' := by
  obtain ⟨h1, h0, h2, h4⟩ := h
  have H := hid h4
  clear h4
  have he : s.toList.isEmpty = false := by
    rw [ByteArray.toList_eq]; simp; intro hh; have : s.size = 0 := by rw [← ByteArray.size_data, hh]; rfl
    omega
  go_enter Tryd.func88, Tryd.ntmps88
  go_wp2_with ((go_at_call 98; first | (refine (sm_yes _ _ (by assumption)).mono ?_; rintro e w' ⟨rfl, rfl⟩) | (refine (sm_no _ _ (by assumption)).mono ?_; rintro e w' ⟨rfl, rfl⟩)))
  go_loop [3] (fun t => ∃ k : Nat, k ≤ s.size ∧ t = .int .i64 k) (fun t => s.size - (intOf t).toNat)
  case atStart => exact ⟨0, Nat.zero_le _, rfl⟩
  case round =>
    obtain ⟨k, hk, rfl⟩ := hrel
    by_cases hlt : k < s.size
    · have hg := H.out k hlt
      by_cases hsm : smallI (s[k].toNat : Int)
      · clear hg
        go_wp2_with ((go_at_call 98; first | (refine (sm_yes _ _ (by assumption)).mono ?_; rintro e w' ⟨rfl, rfl⟩) | (refine (sm_no _ _ (by assumption)).mono ?_; rintro e w' ⟨rfl, rfl⟩)))
        go_round
        case rel => exact ⟨k + 1, by omega, by go_num⟩
        case measure => simp [intOf]; omega
      · have hdg := hg.resolve_left hsm
        clear hg
        go_wp2_with (first | (go_at_call 98; first | (refine (sm_yes _ _ (by assumption)).mono ?_; rintro e w' ⟨rfl, rfl⟩) | (refine (sm_no _ _ (by assumption)).mono ?_; rintro e w' ⟨rfl, rfl⟩)) | (go_at_call 87; first | (refine (dg_yes _ _ (by assumption)).mono ?_; rintro e w' ⟨rfl, rfl⟩) | (refine (dg_no _ _ (by assumption)).mono ?_; rintro e w' ⟨rfl, rfl⟩)))
        go_round
        case rel => exact ⟨k + 1, by omega, by go_num⟩
        case measure => simp [intOf]; omega
    · go_wp2
      go_ret
      exact ⟨rfl, rfl⟩
theorem l01Name_no (s : ByteArray) (w : World) (hs : s.size ≤ maxLen) (h : ¬ okN s) :
    Calls Tryd.prog 88 #[.string s] w fun e w' => e = .returned (.bool false) ∧ w = w' := by
  unfold maxLen at hs
  have hem : s.size = 0 ∧ s.toList.isEmpty = true ∨ 0 < s.size ∧ s.toList.isEmpty = false := by
    rw [ByteArray.toList_eq]
    rcases Nat.eq_zero_or_pos s.size with h0 | h0
    · exact .inl ⟨h0, by simp; exact Array.eq_empty_of_size_eq_zero h0⟩
    · refine .inr ⟨h0, ?_⟩
      simp
      intro hh
      have : s.size = 0 := by rw [← ByteArray.size_data, hh]; rfl
      omega
  rcases notN h with c | c | ⟨c0, c1, h0, c⟩ | ⟨c0, c1, ⟨h0, c2⟩, j, hj, c4, c5⟩ <;> clear h
  · have he : s.toList.isEmpty = true := by
      rcases hem with h | h
      · exact h.2
      · omega
    clear hem
    go_enter Tryd.func88, Tryd.ntmps88
    go_wp2
    go_ret
    exact ⟨rfl, rfl⟩
  · have he : s.toList.isEmpty = false := by
      rcases hem with h | h
      · omega
      · exact h.2
    clear hem
    go_enter Tryd.func88, Tryd.ntmps88
    go_wp2
    go_ret
    exact ⟨rfl, rfl⟩
  · have he : s.toList.isEmpty = false := by
      rcases hem with h | h
      · omega
      · exact h.2
    clear hem
    go_enter Tryd.func88, Tryd.ntmps88
    go_wp2_with ((go_at_call 98; first | (refine (sm_yes _ _ (by assumption)).mono ?_; rintro e w' ⟨rfl, rfl⟩) | (refine (sm_no _ _ (by assumption)).mono ?_; rintro e w' ⟨rfl, rfl⟩)))
    go_ret
    exact ⟨rfl, rfl⟩
  · have he : s.toList.isEmpty = false := by
      rcases hem with h | h
      · omega
      · exact h.2
    clear hem
    go_enter Tryd.func88, Tryd.ntmps88
    go_wp2_with ((go_at_call 98; first | (refine (sm_yes _ _ (by assumption)).mono ?_; rintro e w' ⟨rfl, rfl⟩) | (refine (sm_no _ _ (by assumption)).mono ?_; rintro e w' ⟨rfl, rfl⟩)))
    go_loop [3] (fun t => ∃ k : Nat, k ≤ s.size ∧ k ≤ j ∧ t = .int .i64 k) (fun t => s.size - (intOf t).toNat)
    case atStart => exact ⟨0, Nat.zero_le _, Nat.zero_le _, rfl⟩
    case round =>
      obtain ⟨k, hk, hkj, rfl⟩ := hrel
      have hlt : k < s.size := by omega
      by_cases hg : smallI (s[k].toNat : Int) ∨ digitI (s[k].toNat : Int)
      · have hkj' : k < j := by
          rcases Nat.lt_or_ge k j with h | h
          · exact h
          · obtain rfl : k = j := by omega
            rcases hg with h | h
            · exact absurd h c4
            · exact absurd h c5
        clear c4 c5
        by_cases hsm : smallI (s[k].toNat : Int)
        · clear hg
          go_wp2_with ((go_at_call 98; first | (refine (sm_yes _ _ (by assumption)).mono ?_; rintro e w' ⟨rfl, rfl⟩) | (refine (sm_no _ _ (by assumption)).mono ?_; rintro e w' ⟨rfl, rfl⟩)))
          go_round
          case rel => exact ⟨k + 1, by omega, by omega, by go_num⟩
          case measure => simp [intOf]; omega
        · have hdg := hg.resolve_left hsm
          clear hg
          go_wp2_with (first | (go_at_call 98; first | (refine (sm_yes _ _ (by assumption)).mono ?_; rintro e w' ⟨rfl, rfl⟩) | (refine (sm_no _ _ (by assumption)).mono ?_; rintro e w' ⟨rfl, rfl⟩)) | (go_at_call 87; first | (refine (dg_yes _ _ (by assumption)).mono ?_; rintro e w' ⟨rfl, rfl⟩) | (refine (dg_no _ _ (by assumption)).mono ?_; rintro e w' ⟨rfl, rfl⟩)))
          go_round
          case rel => exact ⟨k + 1, by omega, by omega, by go_num⟩
          case measure => simp [intOf]; omega
      · have g1 : ¬ smallI (s[k].toNat : Int) := fun h => hg (.inl h)
        have g2 : ¬ digitI (s[k].toNat : Int) := fun h => hg (.inr h)
        clear hg c4 c5
        go_wp2_with (first | (go_at_call 98; first | (refine (sm_yes _ _ (by assumption)).mono ?_; rintro e w' ⟨rfl, rfl⟩) | (refine (sm_no _ _ (by assumption)).mono ?_; rintro e w' ⟨rfl, rfl⟩)) | (go_at_call 87; first | (refine (dg_yes _ _ (by assumption)).mono ?_; rintro e w' ⟨rfl, rfl⟩) | (refine (dg_no _ _ (by assumption)).mono ?_; rintro e w' ⟨rfl, rfl⟩)))
        go_ret
        exact ⟨rfl, rfl⟩
end
end Go.Proofs.YtonmeffhelaohaaDoor
