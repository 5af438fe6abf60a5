/-
  A line that is valid for itself. Conditions: those typed at each theorem.
-/
import Derived.Test.YtpapphhbogngcaaScF
namespace Go.Proofs.Ytpapphhbogngcaa
open Go.RowKit
open Classical in
/-- is the line valid for itself? -/
noncomputable def vOne (x : Ln) : Bool :=
  if x.kind = 1 ∨ x.kind = 3 then decide (okN x.name) && decide (x.value = 0)
  else if x.kind = 2 then x.name.toList.isEmpty && decide (1 ≤ x.value ∧ x.value ≤ 7200000)
  else if x.kind = 4 then decide (okN x.name) && decide (1 ≤ x.value ∧ x.value ≤ 100)
  else if x.kind = 5 then x.name.toList.isEmpty && decide (x.value = 0)
  else false
theorem vOne_cases (x : Ln) :
    (x.kind = 1 ∧ ((vOne x = true ∧ okN x.name ∧ x.value = 0) ∨ (vOne x = false ∧ ¬ okN x.name) ∨ (vOne x = false ∧ okN x.name ∧ x.value ≠ 0))) ∨
    (x.kind = 3 ∧ ((vOne x = true ∧ okN x.name ∧ x.value = 0) ∨ (vOne x = false ∧ ¬ okN x.name) ∨ (vOne x = false ∧ okN x.name ∧ x.value ≠ 0))) ∨
    (x.kind = 2 ∧ ((vOne x = true ∧ x.name.toList.isEmpty = true ∧ x.name.toList = [] ∧ 1 ≤ x.value ∧ x.value ≤ 7200000) ∨ (vOne x = false ∧ x.name.toList.isEmpty = false ∧ ¬ x.name.toList = []) ∨ (vOne x = false ∧ x.name.toList.isEmpty = true ∧ x.name.toList = [] ∧ (x.value < 1 ∨ 7200000 < x.value)))) ∨
    (x.kind = 4 ∧ ((vOne x = true ∧ okN x.name ∧ 1 ≤ x.value ∧ x.value ≤ 100) ∨ (vOne x = false ∧ ¬ okN x.name) ∨ (vOne x = false ∧ okN x.name ∧ (x.value < 1 ∨ 100 < x.value)))) ∨
    (x.kind = 5 ∧ ((vOne x = true ∧ x.name.toList.isEmpty = true ∧ x.name.toList = [] ∧ x.value = 0) ∨ (vOne x = false ∧ x.name.toList.isEmpty = false ∧ ¬ x.name.toList = []) ∨ (vOne x = false ∧ x.name.toList.isEmpty = true ∧ x.name.toList = [] ∧ x.value ≠ 0))) ∨
    (vOne x = false ∧ x.kind ≠ 1 ∧ x.kind ≠ 2 ∧ x.kind ≠ 3 ∧ x.kind ≠ 4 ∧ x.kind ≠ 5) := by
  unfold vOne
  by_cases h1 : x.kind = 1
  · by_cases hn : okN x.name <;> by_cases hv : x.value = 0 <;> simp [h1, hn, hv]
  by_cases h3 : x.kind = 3
  · by_cases hn : okN x.name <;> by_cases hv : x.value = 0 <;> simp [h3, hn, hv]
  by_cases h2 : x.kind = 2
  · by_cases hn : x.name.toList = [] <;> by_cases hv : 1 ≤ x.value ∧ x.value ≤ 7200000 <;> simp [h2, hn, hv] <;> omega
  by_cases h4 : x.kind = 4
  · by_cases hn : okN x.name <;> by_cases hv : 1 ≤ x.value ∧ x.value ≤ 100 <;> simp [h4, hn, hv] <;> omega
  by_cases h5 : x.kind = 5
  · by_cases hn : x.name.toList = [] <;> by_cases hv : x.value = 0 <;> simp [h5, hn, hv]
  · simp [h1, h2, h3, h4, h5]
/-- is line x, the i-th of l, valid there? -/
def okAt (l : List Ln) (i : Nat) (x : Ln) : Prop := vOne x = true ∧ (x.kind = 1 → lbl l x.name = i) ∧ (x.kind = 4 → 0 ≤ lbl l x.name)
theorem okAt_cases (l : List Ln) (i : Nat) (x : Ln) :
    (okAt l i x ∧ vOne x = true ∧ x.kind = 1 ∧ lbl l x.name = i) ∨ (okAt l i x ∧ vOne x = true ∧ x.kind = 4 ∧ 0 ≤ lbl l x.name) ∨ (okAt l i x ∧ vOne x = true ∧ x.kind ≠ 1 ∧ x.kind ≠ 4) ∨
    (¬ okAt l i x ∧ vOne x = false) ∨ (¬ okAt l i x ∧ vOne x = true ∧ x.kind = 1 ∧ lbl l x.name ≠ i) ∨ (¬ okAt l i x ∧ vOne x = true ∧ x.kind = 4 ∧ lbl l x.name < 0) := by
  unfold okAt
  cases hv : vOne x
  · simp
  by_cases h1 : x.kind = 1
  · by_cases h2 : lbl l x.name = i <;> simp [h1, h2]
  by_cases h4 : x.kind = 4
  · by_cases h2 : 0 ≤ lbl l x.name <;> simp [h4, h2] <;> omega
  · simp [h1, h4]
/-- is it a script? -/
def okL (l : List Ln) : Prop := l.length ≤ 40 ∧ ∀ i (h : i < l.length), okAt l i l[i]
open Classical in
noncomputable def vL (l : List Ln) : Bool := decide (okL l)
open Classical in
theorem vL_yes {l : List Ln} (h : okL l) : vL l = true := decide_eq_true h
open Classical in
theorem vL_no {l : List Ln} (h : ¬ okL l) : vL l = false := decide_eq_false h
section
set_option maxHeartbeats 3200000
theorem l15One_any (x : Ln) (b : Nat) (w : World) [LtW b w] (hx : x.ok) (hc : LnAt w b 0 x) :
    Calls Try.prog 92 #[.pointer (some ⟨b, 0, none⟩)] w fun e w' => e = .returned (.bool (vOne x)) ∧ ∃ k : Ex w, w' = k.v := by
  obtain ⟨c0, c1, c2⟩ := hc
  obtain ⟨_, _, hs, _⟩ := hx
  have hs : x.name.size ≤ maxLen := hs
  rcases vOne_cases x with ⟨h1, ⟨hv, h2, h3⟩ | ⟨hv, h2⟩ | ⟨hv, h2, h3⟩⟩ | ⟨h1, ⟨hv, h2, h3⟩ | ⟨hv, h2⟩ | ⟨hv, h2, h3⟩⟩ | ⟨h1, ⟨hv, h2, h2', h3, h4⟩ | ⟨hv, h2, h2'⟩ | ⟨hv, h2, h2', h3 | h3⟩⟩ | ⟨h1, ⟨hv, h2, h3, h4⟩ | ⟨hv, h2⟩ | ⟨hv, h2, h3 | h3⟩⟩ |
    ⟨h1, ⟨hv, h2, h2', h3⟩ | ⟨hv, h2, h2'⟩ | ⟨hv, h2, h2', h3⟩⟩ | ⟨hv, h1, h2, h3, h4, h5⟩
  all_goals
    have HV := hid hv
    clear hv
    go_enter Try.func92, Try.ntmps92
    go_wp2_with (first | (go_at_call 89; first | (refine (l01Name_yes _ _ (by assumption)).mono ?_; rintro e w' ⟨rfl, rfl⟩) | (refine (l01Name_no _ _ (by assumption) (by assumption)).mono ?_; rintro e w' ⟨rfl, rfl⟩)) | (go_at_call 78; first | (refine (in_yes _ _ _ _ (by omega) (by omega)).mono ?_; rintro e w' ⟨rfl, rfl⟩) | (refine (in_no _ _ _ _ (by omega)).mono ?_; rintro e w' ⟨rfl, rfl⟩)))
    go_ret
    refine ⟨by rw [HV.out]; first | rfl | (simp; done) | (simp; omega), ?_⟩
    (refine Ok.toEx ?_; (repeat (first | (with_reducible exact Ok.rf _) | (with_reducible refine Ok.alloc ?_ _) | (with_reducible refine Ok.ex ?_ _) | (with_reducible refine Ok.drew ?_) | (with_reducible refine Ok.setCellI ?_ _ _ _) | (with_reducible refine Ok.exb ?_ _))))
theorem l15Ok_any (A : Option Addr) (c : Nat) (l : List Ln) (w : World) [hl : Lns w A l] (hn : l.length ≤ 1048576) :
    Calls Try.prog 68 #[.slice A l.length c] w fun e w' => e = .returned (.bool (vL l)) ∧ ∃ k : Ex w, w' = k.v := by
  have HA := hid hl.at
  have HO := hid hl.toOks.h
  go_enter Try.func68, Try.ntmps68
  go_wp2
  go_loopw [3] (fun t wr => ∃ q : Nat, q ≤ l.length ∧ t = .int .i64 q ∧ (∀ i (h : i < l.length), i < q → okAt l i l[i]) ∧ ∃ j : Ex w, wr = j.v) (fun t _ => l.length - (intOf t).toNat)
  case atStart => exact ⟨0, Nat.zero_le _, rfl, fun i _ h => absurd h (by omega), Ex.rf w, rfl⟩
  case round =>
    obtain ⟨q, hq, rfl, hs, j0, rfl⟩ := hrel
    have HS := hid hs
    clear hs
    by_cases hlt : q < l.length
    · obtain ⟨b, o, rfl, hbw, hc⟩ := HA.out (by omega)
      obtain ⟨c0, c1, c2⟩ := hc q hlt
      have hx := HO.out _ (List.getElem_mem hlt)
      have HN : Hid (okAt l q l[q] → ∀ i (hi : i < l.length), i < q + 1 → okAt l i l[i]) := hid fun h i hi hiq => by
        rcases Nat.lt_or_ge i q with h1 | h1
        · exact HS.out i hi h1
        · obtain rfl : i = q := by omega
          exact h
      have HM : Hid (¬ okAt l q l[q] → vL l = false) := hid fun h => vL_no fun h' => h (h'.2 q hlt)
      generalize l[q] = x at *
      rcases okAt_cases l q x with ⟨h0, h1, h2, h3⟩ | ⟨h0, h1, h2, h3⟩ | ⟨h0, h1, h2, h3⟩ | ⟨h0, h1⟩ | ⟨h0, h1, h2, h3⟩ | ⟨h0, h1, h2, h3⟩
      all_goals
        have H0 := hid h0
        clear h0
        have H1 := hid h1
        clear h1
        go_wp2_with (first | (go_at_call 92; refine (l15One_any x _ _ hx (by first | (constructor <;> first | infer_instance | (simp [go_sem, *] <;> fail)) | fail)).mono ?_; rw [H1.out]; rintro e w' ⟨rfl, k, rfl⟩) | (go_at_call 80; refine (l15Label_any _ _ _ _ _ inferInstance).mono ?_; rintro e w' ⟨rfl, rfl⟩))
        first
          | (go_ret; refine ⟨by rw [HM.out H0.out]; first | rfl | (simp; done), ?_⟩; (refine Ok.toEx ?_; (repeat (first | (with_reducible exact Ok.rf _) | (with_reducible refine Ok.alloc ?_ _) | (with_reducible refine Ok.ex ?_ _) | (with_reducible refine Ok.drew ?_) | (with_reducible refine Ok.setCellI ?_ _ _ _) | (with_reducible refine Ok.exb ?_ _)))))
          | (go_roundw
             case rel => refine ⟨q + 1, by omega, by go_num, HN.out H0.out, ?_⟩; (refine Ok.toEx ?_; (repeat (first | (with_reducible exact Ok.rf _) | (with_reducible refine Ok.alloc ?_ _) | (with_reducible refine Ok.ex ?_ _) | (with_reducible refine Ok.drew ?_) | (with_reducible refine Ok.setCellI ?_ _ _ _) | (with_reducible refine Ok.exb ?_ _))))
             case measure => simp [intOf]; omega)
    · have HA : vL l = decide (l.length ≤ 40) := by
        by_cases h : l.length ≤ 40
        · rw [decide_eq_true h]; exact vL_yes ⟨h, fun i hi => HS.out i hi (by omega)⟩
        · rw [decide_eq_false h]; exact vL_no fun h' => h h'.1
      have HA := hid HA
      by_cases h : l.length ≤ 40
      all_goals
        go_wp2
        go_ret
        exact ⟨by rw [HA.out]; simp <;> omega, j0, rfl⟩
end
end Go.Proofs.Ytpapphhbogngcaa
