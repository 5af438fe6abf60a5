/-
  Contracts of the comparison of scripts, and its law. Conditions: those typed at each theorem.
  Law of SameScript. Conditions: those typed at each theorem.
  A line that is valid for itself. Conditions: those typed at each theorem.
  Contract of ValidScript, and its law. Conditions: those typed at each theorem.
-/
import Derived.Test.YtonmeffhelaohaaDoorV7
import Derived.Laws.StructEq
namespace Go.Proofs.YtonmeffhelaohaaDoor
open Go.RowKit
/-- are two lines equal? -/
def eqLn (x y : Ln) : Bool := (x.kind == y.kind) && (x.name.toList == y.name.toList) && (x.value == y.value)
/-- are two scripts equal? -/
def sameL (a b : List Ln) : Bool := a.length == b.length && decide (∀ k (h : k < a.length) (h' : k < b.length), eqLn a[k] b[k] = true)
theorem sameL_no1 {a b : List Ln} (h : a.length ≠ b.length) : sameL a b = false := by simp [sameL, h]
theorem sameL_no2 {a b : List Ln} {k : Nat} (h : k < a.length) (h' : k < b.length) (he : eqLn a[k] b[k] = false) : sameL a b = false := by
  unfold sameL
  rw [decide_eq_false (fun H => by rw [H k h h'] at he; cases he)]
  simp
theorem sameL_yes {a b : List Ln} (h : a.length = b.length) (he : ∀ k (h : k < a.length) (h' : k < b.length), eqLn a[k] b[k] = true) : sameL a b = true := by
  unfold sameL
  rw [decide_eq_true he]
  simp [h]
theorem eqLn_cases (x y : Ln) : (eqLn x y = true ∧ (x.kind == y.kind) = true ∧ (x.name.toList == y.name.toList) = true ∧ (x.value == y.value) = true) ∨
    (eqLn x y = false ∧ ((x.kind == y.kind) = false ∨ ((x.kind == y.kind) = true ∧ (x.name.toList == y.name.toList) = false) ∨ ((x.kind == y.kind) = true ∧ (x.name.toList == y.name.toList) = true ∧ (x.value == y.value) = false))) := by
  unfold eqLn
  cases (x.kind == y.kind) <;> cases (x.name.toList == y.name.toList) <;> cases (x.value == y.value) <;> simp
section
set_option maxHeartbeats 3200000
theorem l15Same_any (A B : Option Addr) (c d : Nat) (a b : List Ln) (w : World) [ha : Lns w A a] [hb : Lns w B b] :
    Calls Tryd.prog 39 #[.slice A a.length c, .slice B b.length d] w fun e w' => e = .returned (.bool (sameL a b)) ∧ ∃ k : Ex w, w' = k.v := by
  (have hla := ha.len; have hlb := hb.len; have HA := hid ha.at; have HB := hid hb.at; by_cases hn : a.length = b.length)
  · go_enter Tryd.func39, Tryd.ntmps39
    go_wp2
    go_loopw [5] (fun t wr => ∃ q : Nat, q ≤ a.length ∧ t = .int .i64 q ∧ (∀ k (h : k < a.length) (h' : k < b.length), k < q → eqLn a[k] b[k] = true) ∧ ∃ j : Ex w, wr = j.v) (fun t _ => a.length - (intOf t).toNat)
    case atStart => exact ⟨0, Nat.zero_le _, rfl, fun k _ _ h => absurd h (by omega), Ex.rf w, rfl⟩
    case round =>
      obtain ⟨q, hq, rfl, hb, j0, rfl⟩ := hrel
      have HQ := hid hb
      clear hb
      by_cases hlt : q < a.length
      · have hlt' : q < b.length := by omega
        obtain ⟨x, o, rfl, hbw, hc⟩ := HA.out (by omega)
        obtain ⟨c0, c1, c2⟩ := hc q hlt
        obtain ⟨x', o', rfl, hbw', hc'⟩ := HB.out (by omega)
        obtain ⟨d0, d1, d2⟩ := hc' q hlt'
        rcases eqLn_cases a[q] b[q] with ⟨h0, h1, h2, h3⟩ | ⟨h0, h⟩
        · have HN : Hid (∀ k (h : k < a.length) (h' : k < b.length), k < q + 1 → eqLn a[k] b[k] = true) := hid fun k h h' hk => by
            rcases Nat.lt_or_ge k q with h1 | h1
            · exact HQ.out k h h' h1
            · obtain rfl : k = q := by omega
              exact h0
          clear h0
          go_wp2
          (refine wp_region_ex (by kernel_rfl) (by kernel_rfl) ?_; (repeat (go_big_quiet_step ((fail)))); refine wpQuiet_nil ?_; rintro _ ⟨k, rfl⟩)
          go_wp2
          go_roundw
          case rel => exact ⟨q + 1, by omega, by go_num, HN.out, j0.tr k, rfl⟩
          case measure => simp [intOf]; omega
        · have HR := hid (sameL_no2 hlt hlt' h0)
          clear h0
          rcases h with h1 | ⟨h1, h2⟩ | ⟨h1, h2, h3⟩
          all_goals
            go_wp2
            (refine wp_region_ex (by kernel_rfl) (by kernel_rfl) ?_; (repeat (go_big_quiet_step ((fail)))); refine wpQuiet_nil ?_; rintro _ ⟨k, rfl⟩)
            go_wp2
            go_ret
            refine ⟨by rw [HR.out]; rfl, ?_⟩
            (refine Ok.toEx ?_; (repeat (first | (with_reducible exact Ok.rf _) | (with_reducible refine Ok.alloc ?_ _) | (with_reducible refine Ok.ex ?_ _) | (with_reducible refine Ok.drew ?_) | (with_reducible refine Ok.setCellI ?_ _ _ _) | (with_reducible refine Ok.exb ?_ _))))
      · go_wp2
        go_ret
        exact ⟨by rw [sameL_yes hn fun k h h' => HQ.out k h h' (by omega)]; rfl, j0, rfl⟩
  · have HR := hid (sameL_no1 hn)
    go_enter Tryd.func39, Tryd.ntmps39
    go_wp2
    go_ret
    refine ⟨by rw [HR.out]; rfl, ?_⟩
    (refine Ok.toEx ?_; (repeat (first | (with_reducible exact Ok.rf _) | (with_reducible refine Ok.alloc ?_ _) | (with_reducible refine Ok.ex ?_ _) | (with_reducible refine Ok.drew ?_) | (with_reducible refine Ok.setCellI ?_ _ _ _) | (with_reducible refine Ok.exb ?_ _))))
theorem sSame_any (A B : Option Addr) (c d : Nat) (a b : List Ln) (w : World) [ha : Lns w A a] [hb : Lns w B b] :
    Calls Tryd.prog 19 #[.slice A a.length c, .slice B b.length d] w fun e w' => e = .returned (.bool (sameL a b)) ∧ ∃ k : Ex w, w' = k.v := by
  go_enter Tryd.func19, Tryd.ntmps19
  go_wp2_with ((go_at_call 39; refine (l15Same_any _ _ _ _ _ _ _).mono ?_; rintro e w' ⟨rfl, k, rfl⟩))
  (go_ret; refine ⟨by first | rfl | (simp; done), ?_⟩; (refine Ok.toEx ?_; (repeat (first | (with_reducible exact Ok.rf _) | (with_reducible refine Ok.alloc ?_ _) | (with_reducible refine Ok.ex ?_ _) | (with_reducible refine Ok.drew ?_) | (with_reducible refine Ok.setCellI ?_ _ _ _) | (with_reducible refine Ok.exb ?_ _)))))
end
end Go.Proofs.YtonmeffhelaohaaDoor
namespace Go.Proofs.YtonmeffhelaohaaDoor
open Go.RowKit
section
set_option maxHeartbeats 3200000
end
end Go.Proofs.YtonmeffhelaohaaDoor
namespace Go.Proofs.YtonmeffhelaohaaDoor
open Go.RowKit
open Classical in
/-- is the line valid for itself? -/
noncomputable def vOne (x : Ln) : Bool :=
  if x.kind = 1 ∨ x.kind = 3 then decide (okN x.name) && decide (x.value = 0)
  else if x.kind = 2 then x.name.toList.isEmpty && decide (1 ≤ x.value ∧ x.value ≤ 7200000)
  else if x.kind = 4 then decide (okN x.name) && decide (1 ≤ x.value ∧ x.value ≤ 100)
  else if x.kind = 5 then x.name.toList.isEmpty && decide (x.value = 0)
  else false
theorem vOne_cases (x : Ln) :
    (x.kind = 1 ∧ ((vOne x = true ∧ okN x.name ∧ x.value = 0) ∨ (vOne x = false ∧ ¬ okN x.name) ∨ (vOne x = false ∧ okN x.name ∧ x.value ≠ 0))) ∨
    (x.kind = 3 ∧ ((vOne x = true ∧ okN x.name ∧ x.value = 0) ∨ (vOne x = false ∧ ¬ okN x.name) ∨ (vOne x = false ∧ okN x.name ∧ x.value ≠ 0))) ∨
    (x.kind = 2 ∧ ((vOne x = true ∧ x.name.toList.isEmpty = true ∧ x.name.toList = [] ∧ 1 ≤ x.value ∧ x.value ≤ 7200000) ∨ (vOne x = false ∧ x.name.toList.isEmpty = false ∧ ¬ x.name.toList = []) ∨ (vOne x = false ∧ x.name.toList.isEmpty = true ∧ x.name.toList = [] ∧ (x.value < 1 ∨ 7200000 < x.value)))) ∨
    (x.kind = 4 ∧ ((vOne x = true ∧ okN x.name ∧ 1 ≤ x.value ∧ x.value ≤ 100) ∨ (vOne x = false ∧ ¬ okN x.name) ∨ (vOne x = false ∧ okN x.name ∧ (x.value < 1 ∨ 100 < x.value)))) ∨
    (x.kind = 5 ∧ ((vOne x = true ∧ x.name.toList.isEmpty = true ∧ x.name.toList = [] ∧ x.value = 0) ∨ (vOne x = false ∧ x.name.toList.isEmpty = false ∧ ¬ x.name.toList = []) ∨ (vOne x = false ∧ x.name.toList.isEmpty = true ∧ x.name.toList = [] ∧ x.value ≠ 0))) ∨
    (vOne x = false ∧ x.kind ≠ 1 ∧ x.kind ≠ 2 ∧ x.kind ≠ 3 ∧ x.kind ≠ 4 ∧ x.kind ≠ 5) := by
  unfold vOne
  by_cases h1 : x.kind = 1
  · by_cases hn : okN x.name <;> by_cases hv : x.value = 0 <;> simp [h1, hn, hv]
  by_cases h3 : x.kind = 3
  · by_cases hn : okN x.name <;> by_cases hv : x.value = 0 <;> simp [h3, hn, hv]
  by_cases h2 : x.kind = 2
  · by_cases hn : x.name.toList = [] <;> by_cases hv : 1 ≤ x.value ∧ x.value ≤ 7200000 <;> simp [h2, hn, hv] <;> omega
  by_cases h4 : x.kind = 4
  · by_cases hn : okN x.name <;> by_cases hv : 1 ≤ x.value ∧ x.value ≤ 100 <;> simp [h4, hn, hv] <;> omega
  by_cases h5 : x.kind = 5
  · by_cases hn : x.name.toList = [] <;> by_cases hv : x.value = 0 <;> simp [h5, hn, hv]
  · simp [h1, h2, h3, h4, h5]
/-- is line x, the i-th of l, valid there? -/
def okAt (l : List Ln) (i : Nat) (x : Ln) : Prop := vOne x = true ∧ (x.kind = 1 → lbl l x.name = i) ∧ (x.kind = 4 → 0 ≤ lbl l x.name)
theorem okAt_cases (l : List Ln) (i : Nat) (x : Ln) :
    (okAt l i x ∧ vOne x = true ∧ x.kind = 1 ∧ lbl l x.name = i) ∨ (okAt l i x ∧ vOne x = true ∧ x.kind = 4 ∧ 0 ≤ lbl l x.name) ∨ (okAt l i x ∧ vOne x = true ∧ x.kind ≠ 1 ∧ x.kind ≠ 4) ∨
    (¬ okAt l i x ∧ vOne x = false) ∨ (¬ okAt l i x ∧ vOne x = true ∧ x.kind = 1 ∧ lbl l x.name ≠ i) ∨ (¬ okAt l i x ∧ vOne x = true ∧ x.kind = 4 ∧ lbl l x.name < 0) := by
  unfold okAt
  cases hv : vOne x
  · simp
  by_cases h1 : x.kind = 1
  · by_cases h2 : lbl l x.name = i <;> simp [h1, h2]
  by_cases h4 : x.kind = 4
  · by_cases h2 : 0 ≤ lbl l x.name <;> simp [h4, h2] <;> omega
  · simp [h1, h4]
/-- is it a script? -/
def okL (l : List Ln) : Prop := l.length ≤ 40 ∧ ∀ i (h : i < l.length), okAt l i l[i]
open Classical in
noncomputable def vL (l : List Ln) : Bool := decide (okL l)
open Classical in
theorem vL_yes {l : List Ln} (h : okL l) : vL l = true := decide_eq_true h
open Classical in
theorem vL_no {l : List Ln} (h : ¬ okL l) : vL l = false := decide_eq_false h
section
set_option maxHeartbeats 3200000
theorem l15One_any (x : Ln) (b : Nat) (w : World) [LtW b w] (hx : x.ok) (hc : LnAt w b 0 x) :
    Calls Tryd.prog 70 #[.pointer (some ⟨b, 0, none⟩)] w fun e w' => e = .returned (.bool (vOne x)) ∧ ∃ k : Ex w, w' = k.v := by
  obtain ⟨c0, c1, c2⟩ := hc
  obtain ⟨_, _, hs, _⟩ := hx
  have hs : x.name.size ≤ maxLen := hs
  rcases vOne_cases x with ⟨h1, ⟨hv, h2, h3⟩ | ⟨hv, h2⟩ | ⟨hv, h2, h3⟩⟩ | ⟨h1, ⟨hv, h2, h3⟩ | ⟨hv, h2⟩ | ⟨hv, h2, h3⟩⟩ | ⟨h1, ⟨hv, h2, h2', h3, h4⟩ | ⟨hv, h2, h2'⟩ | ⟨hv, h2, h2', h3 | h3⟩⟩ | ⟨h1, ⟨hv, h2, h3, h4⟩ | ⟨hv, h2⟩ | ⟨hv, h2, h3 | h3⟩⟩ |
    ⟨h1, ⟨hv, h2, h2', h3⟩ | ⟨hv, h2, h2'⟩ | ⟨hv, h2, h2', h3⟩⟩ | ⟨hv, h1, h2, h3, h4, h5⟩
  all_goals
    have HV := hid hv
    clear hv
    go_enter Tryd.func70, Tryd.ntmps70
    go_wp2_with (first | (go_at_call 88; first | (refine (l01Name_yes _ _ (by assumption)).mono ?_; rintro e w' ⟨rfl, rfl⟩) | (refine (l01Name_no _ _ (by assumption) (by assumption)).mono ?_; rintro e w' ⟨rfl, rfl⟩)) | (go_at_call 41; first | (refine (in_yes _ _ _ _ (by omega) (by omega)).mono ?_; rintro e w' ⟨rfl, rfl⟩) | (refine (in_no _ _ _ _ (by omega)).mono ?_; rintro e w' ⟨rfl, rfl⟩)))
    go_ret
    refine ⟨by rw [HV.out]; first | rfl | (simp; done) | (simp; omega), ?_⟩
    (refine Ok.toEx ?_; (repeat (first | (with_reducible exact Ok.rf _) | (with_reducible refine Ok.alloc ?_ _) | (with_reducible refine Ok.ex ?_ _) | (with_reducible refine Ok.drew ?_) | (with_reducible refine Ok.setCellI ?_ _ _ _) | (with_reducible refine Ok.exb ?_ _))))
theorem l15Ok_any (A : Option Addr) (c : Nat) (l : List Ln) (w : World) [hl : Lns w A l] (hn : l.length ≤ 1048576) :
    Calls Tryd.prog 51 #[.slice A l.length c] w fun e w' => e = .returned (.bool (vL l)) ∧ ∃ k : Ex w, w' = k.v := by
  have HA := hid hl.at
  have HO := hid hl.toOks.h
  go_enter Tryd.func51, Tryd.ntmps51
  go_wp2
  go_loopw [3] (fun t wr => ∃ q : Nat, q ≤ l.length ∧ t = .int .i64 q ∧ (∀ i (h : i < l.length), i < q → okAt l i l[i]) ∧ ∃ j : Ex w, wr = j.v) (fun t _ => l.length - (intOf t).toNat)
  case atStart => exact ⟨0, Nat.zero_le _, rfl, fun i _ h => absurd h (by omega), Ex.rf w, rfl⟩
  case round =>
    obtain ⟨q, hq, rfl, hs, j0, rfl⟩ := hrel
    have HS := hid hs
    clear hs
    by_cases hlt : q < l.length
    · obtain ⟨b, o, rfl, hbw, hc⟩ := HA.out (by omega)
      obtain ⟨c0, c1, c2⟩ := hc q hlt
      have hx := HO.out _ (List.getElem_mem hlt)
      have HN : Hid (okAt l q l[q] → ∀ i (hi : i < l.length), i < q + 1 → okAt l i l[i]) := hid fun h i hi hiq => by
        rcases Nat.lt_or_ge i q with h1 | h1
        · exact HS.out i hi h1
        · obtain rfl : i = q := by omega
          exact h
      have HM : Hid (¬ okAt l q l[q] → vL l = false) := hid fun h => vL_no fun h' => h (h'.2 q hlt)
      generalize l[q] = x at *
      rcases okAt_cases l q x with ⟨h0, h1, h2, h3⟩ | ⟨h0, h1, h2, h3⟩ | ⟨h0, h1, h2, h3⟩ | ⟨h0, h1⟩ | ⟨h0, h1, h2, h3⟩ | ⟨h0, h1, h2, h3⟩
      all_goals
        have H0 := hid h0
        clear h0
        have H1 := hid h1
        clear h1
        go_wp2_with (first | (go_at_call 70; refine (l15One_any x _ _ hx (by first | (constructor <;> first | infer_instance | (simp [go_sem, *] <;> fail)) | fail)).mono ?_; rw [H1.out]; rintro e w' ⟨rfl, k, rfl⟩) | (go_at_call 71; refine (l15Label_any _ _ _ _ _ inferInstance).mono ?_; rintro e w' ⟨rfl, rfl⟩))
        first
          | (go_ret; refine ⟨by rw [HM.out H0.out]; first | rfl | (simp; done), ?_⟩; (refine Ok.toEx ?_; (repeat (first | (with_reducible exact Ok.rf _) | (with_reducible refine Ok.alloc ?_ _) | (with_reducible refine Ok.ex ?_ _) | (with_reducible refine Ok.drew ?_) | (with_reducible refine Ok.setCellI ?_ _ _ _) | (with_reducible refine Ok.exb ?_ _)))))
          | (go_roundw
             case rel => refine ⟨q + 1, by omega, by go_num, HN.out H0.out, ?_⟩; (refine Ok.toEx ?_; (repeat (first | (with_reducible exact Ok.rf _) | (with_reducible refine Ok.alloc ?_ _) | (with_reducible refine Ok.ex ?_ _) | (with_reducible refine Ok.drew ?_) | (with_reducible refine Ok.setCellI ?_ _ _ _) | (with_reducible refine Ok.exb ?_ _))))
             case measure => simp [intOf]; omega)
    · have HA : vL l = decide (l.length ≤ 40) := by
        by_cases h : l.length ≤ 40
        · rw [decide_eq_true h]; exact vL_yes ⟨h, fun i hi => HS.out i hi (by omega)⟩
        · rw [decide_eq_false h]; exact vL_no fun h' => h h'.1
      have HA := hid HA
      by_cases h : l.length ≤ 40
      all_goals
        go_wp2
        go_ret
        exact ⟨by rw [HA.out]; simp <;> omega, j0, rfl⟩
end
end Go.Proofs.YtonmeffhelaohaaDoor
namespace Go.Proofs.YtonmeffhelaohaaDoor
open Go.RowKit
theorem lbl_lt_iff (l : List Ln) (nm : ByteArray) : lbl l nm < 0 ↔ ∀ j (hj : j < l.length), ¬ isLbl nm l[j] := by
  constructor
  · intro h j hj hp
    unfold lbl at h
    cases hf : l.findIdx? (fun x => decide (isLbl nm x)) with
    | some i => rw [hf] at h; simp at h; omega
    | none =>
      rw [List.findIdx?_eq_none_iff] at hf
      have := hf _ (List.getElem_mem hj)
      simp [hp] at this
  · intro h
    rw [lbl_miss h]; decide
theorem lbl_at {l : List Ln} {q : Nat} (hq : q < l.length) (hk : l[q].kind = 1) : lbl (l.take q) l[q].name < 0 ↔ lbl l l[q].name = q := by
  have hp : isLbl l[q].name l[q] := ⟨hk, by simp⟩
  rw [lbl_lt_iff]
  constructor
  · intro h
    refine lbl_hit hq hp fun j hj => ?_
    have := h j (by simp; omega)
    simpa using this
  · intro h j hj
    simp at hj
    simp only [List.getElem_take]
    intro hp'
    unfold lbl at h
    cases hf : l.findIdx? (fun x => decide (isLbl l[q].name x)) with
    | none => rw [hf] at h; simp at h; try omega
    | some i =>
      rw [hf] at h
      have h : i = q := by simp at h; omega
      subst h
      rw [List.findIdx?_eq_some_iff_getElem] at hf
      obtain ⟨_, _, hb⟩ := hf
      have := hb j (by omega)
      simp [hp'] at this
theorem Lns.take {w : World} {A : Option Addr} {l : List Ln} (h : Lns w A l) (q : Nat) : Lns w A (l.take q) :=
  { toOks := ⟨fun x hx => h.toOks.h x (List.mem_of_mem_take hx)⟩, toRd := ⟨by have := h.len; simp; omega, fun h0 => by
      have h1 : 0 < l.length := by simp at h0; omega
      obtain ⟨b, o, e, hb, hc⟩ := h.toRd.at_ h1
      exact ⟨b, o, e, hb, fun k hk j v hv => hc k (by simp at hk; omega) j v (by simpa using hv)⟩⟩ }
/-- what a line can be, where its name is one -/
theorem iv_yes (l : List Ln) (q : Nat) (x : Ln) (hn : okN x.name) (hI : x.kind = 1 → (lbl (l.take q) x.name < 0 ↔ lbl l x.name = q)) :
    (okAt l q x ∧ x.kind = 1 ∧ x.value = 0 ∧ lbl (l.take q) x.name < 0) ∨ (¬ okAt l q x ∧ x.kind = 1 ∧ x.value = 0 ∧ 0 ≤ lbl (l.take q) x.name) ∨ (¬ okAt l q x ∧ x.kind = 1 ∧ x.value ≠ 0) ∨
    (okAt l q x ∧ x.kind = 3 ∧ x.value = 0) ∨ (¬ okAt l q x ∧ x.kind = 3 ∧ x.value ≠ 0) ∨
    (okAt l q x ∧ x.kind = 4 ∧ (1 ≤ x.value ∧ x.value ≤ 100) ∧ 0 ≤ lbl l x.name) ∨ (¬ okAt l q x ∧ x.kind = 4 ∧ (1 ≤ x.value ∧ x.value ≤ 100) ∧ lbl l x.name < 0) ∨ (¬ okAt l q x ∧ x.kind = 4 ∧ x.value < 1) ∨ (¬ okAt l q x ∧ x.kind = 4 ∧ 100 < x.value) ∨
    (x.kind = 2 ∨ x.kind = 5 ∨ (x.kind ≠ 1 ∧ x.kind ≠ 2 ∧ x.kind ≠ 3 ∧ x.kind ≠ 4 ∧ x.kind ≠ 5)) := by
  unfold okAt vOne
  by_cases h1 : x.kind = 1
  · have := hI h1
    by_cases hv : x.value = 0 <;> by_cases ht : lbl (l.take q) x.name < 0
    all_goals
      have h3 : (lbl l x.name = q) = (lbl (l.take q) x.name < 0) := propext this.symm
      simp [h1, hn, hv, h3, ht] <;> omega
  by_cases h3 : x.kind = 3
  · by_cases hv : x.value = 0 <;> simp [h3, hn, hv]
  by_cases h4 : x.kind = 4
  · by_cases hv : 1 ≤ x.value ∧ x.value ≤ 100 <;> by_cases ht : lbl l x.name < 0 <;> simp [h4, hn, hv, ht] <;> omega
  · simp [h1, h3, h4]; omega
theorem iv_no (l : List Ln) (q : Nat) (x : Ln) (hn : ¬ okN x.name) :
    (¬ okAt l q x ∧ x.kind = 1) ∨ (¬ okAt l q x ∧ x.kind = 3) ∨ (¬ okAt l q x ∧ x.kind = 4) ∨
    (x.kind = 2 ∨ x.kind = 5 ∨ (x.kind ≠ 1 ∧ x.kind ≠ 2 ∧ x.kind ≠ 3 ∧ x.kind ≠ 4 ∧ x.kind ≠ 5)) := by
  unfold okAt vOne
  by_cases h1 : x.kind = 1
  · simp [h1, hn]
  by_cases h3 : x.kind = 3
  · simp [h3, hn]
  by_cases h4 : x.kind = 4
  · simp [h4, hn]
  · simp [h1, h3, h4]
    omega
/-- what a line can be that bears no name -/
theorem iv_rest (l : List Ln) (q : Nat) (x : Ln) (h : x.kind = 2 ∨ x.kind = 5 ∨ (x.kind ≠ 1 ∧ x.kind ≠ 2 ∧ x.kind ≠ 3 ∧ x.kind ≠ 4 ∧ x.kind ≠ 5)) :
    (okAt l q x ∧ x.kind = 2 ∧ (x.name.toList.isEmpty = true ∧ x.name.toList = []) ∧ 1 ≤ x.value ∧ x.value ≤ 7200000) ∨ (¬ okAt l q x ∧ x.kind = 2 ∧ (x.name.toList.isEmpty = true ∧ x.name.toList = []) ∧ x.value < 1) ∨
    (¬ okAt l q x ∧ x.kind = 2 ∧ (x.name.toList.isEmpty = true ∧ x.name.toList = []) ∧ 7200000 < x.value) ∨ (¬ okAt l q x ∧ x.kind = 2 ∧ (x.name.toList.isEmpty = false ∧ ¬ x.name.toList = [])) ∨
    (okAt l q x ∧ x.kind = 5 ∧ (x.name.toList.isEmpty = true ∧ x.name.toList = []) ∧ x.value = 0) ∨ (¬ okAt l q x ∧ x.kind = 5 ∧ (x.name.toList.isEmpty = true ∧ x.name.toList = []) ∧ x.value ≠ 0) ∨ (¬ okAt l q x ∧ x.kind = 5 ∧ (x.name.toList.isEmpty = false ∧ ¬ x.name.toList = [])) ∨
    (¬ okAt l q x ∧ x.kind ≠ 1 ∧ x.kind ≠ 2 ∧ x.kind ≠ 3 ∧ x.kind ≠ 4 ∧ x.kind ≠ 5) := by
  unfold okAt vOne
  rcases h with h | h | ⟨h1, h2, h3, h4, h5⟩
  · by_cases he : x.name.toList = [] <;> by_cases hv : 1 ≤ x.value ∧ x.value ≤ 7200000 <;> simp [h, he, hv] <;> omega
  · by_cases he : x.name.toList = [] <;> by_cases hv : x.value = 0 <;> simp [h, he, hv]
  · simp [h1, h2, h3, h4, h5]
section
set_option maxHeartbeats 6400000
set_option maxRecDepth 20000
theorem labelIndex_n (A : Option Addr) (c : Nat) (l : List Ln) (n : Nat) (hn : l.length = n) (nm : ByteArray) (w : World) (hl : Lns w A l) :
    Calls Tryd.prog 58 #[.slice A n c, .string nm] w fun e w' => e = .returned (.int .i64 (lbl l nm)) ∧ ∃ k : Ex w, w' = k.v := by
  subst hn
  exact labelIndex_any A c l nm w hl
theorem iValid_any (A : Option Addr) (c : Nat) (l : List Ln) (w : World) [hl : Lns w A l] (hcap : l.length ≤ c) (hn : l.length ≤ 1048576) :
    Calls Tryd.prog 30 #[.slice A l.length c] w fun e w' => e = .returned (.bool (vL l)) ∧ ∃ k : Ex w, w' = k.v := by
  by_cases h40 : 40 < l.length
  · have HA := hid (vL_no fun h : okL l => absurd h.1 (by omega))
    go_enter Tryd.func30, Tryd.ntmps30
    go_wp2
    go_ret
    refine ⟨by rw [HA.out]; rfl, ?_⟩
    (refine Ok.toEx ?_; (repeat (first | (with_reducible exact Ok.rf _) | (with_reducible refine Ok.alloc ?_ _) | (with_reducible refine Ok.ex ?_ _) | (with_reducible refine Ok.drew ?_) | (with_reducible refine Ok.setCellI ?_ _ _ _) | (with_reducible refine Ok.exb ?_ _))))
  have h40 : l.length ≤ 40 := by omega
  have HA := hid hl.at
  have HL := hid hl
  have HO := hid hl.toOks.h
  go_enter Tryd.func30, Tryd.ntmps30
  go_wp2
  go_loopw [12] (fun t wr => ∃ q : Nat, q ≤ l.length ∧ t = .int .i64 q ∧ (∀ i (h : i < l.length), i < q → okAt l i l[i]) ∧ ∃ j : Ex w, wr = j.v) (fun t _ => l.length - (intOf t).toNat)
  case atStart => exact ⟨0, Nat.zero_le _, rfl, fun i _ h => absurd h (by omega), Ex.rf w, rfl⟩
  case round =>
    obtain ⟨q, hq, rfl, hs, j0, rfl⟩ := hrel
    have HS := hid hs
    clear hs
    by_cases hlt : q < l.length
    · obtain ⟨b, o, rfl, hbw, hc⟩ := HA.out (by omega)
      obtain ⟨c0, c1, c2⟩ := hc q hlt
      have hx := HO.out _ (List.getElem_mem hlt)
      have HN : Hid (okAt l q l[q] → ∀ i (hi : i < l.length), i < q + 1 → okAt l i l[i]) := hid fun h i hi hiq => by
        rcases Nat.lt_or_ge i q with h1 | h1
        · exact HS.out i hi h1
        · obtain rfl : i = q := by omega
          exact h
      have HM : Hid (¬ okAt l q l[q] → vL l = false) := hid fun h => vL_no fun h' => h (h'.2 q hlt)
      have HI := hid (lbl_at hlt)
      have HT := hid (HL.out.take q)
      have hlen : (l.take q).length = q := by simp; omega
      generalize l[q] = x at *
      have hsz : x.name.size ≤ maxLen := hx.2.2.1
      by_cases hn : okN x.name
      · rcases iv_yes l q x hn HI.out with ⟨h0, h1, h2, h3⟩ | ⟨h0, h1, h2, h3⟩ | ⟨h0, h1, h2⟩ | ⟨h0, h1, h2⟩ | ⟨h0, h1, h2⟩ | ⟨h0, h1, ⟨h2, h3⟩, h4⟩ | ⟨h0, h1, ⟨h2, h3⟩, h4⟩ | ⟨h0, h1, h2⟩ | ⟨h0, h1, h2⟩ | h
        rotate_right
        · rcases iv_rest l q x h with ⟨h0, h1, ⟨h2, h2'⟩, h3, h4⟩ | ⟨h0, h1, ⟨h2, h2'⟩, h3⟩ | ⟨h0, h1, ⟨h2, h2'⟩, h3⟩ | ⟨h0, h1, ⟨h2, h2'⟩⟩ | ⟨h0, h1, ⟨h2, h2'⟩, h3⟩ | ⟨h0, h1, ⟨h2, h2'⟩, h3⟩ | ⟨h0, h1, ⟨h2, h2'⟩⟩ | ⟨h0, h1, h2, h3, h4, h5⟩
          all_goals (have H0 := hid h0; clear h0; (first | (have hvb : (x.value == 0) = false := by (rw [beq_eq_false_iff_ne]; omega)) | skip); go_wp2_with (first | (go_at_call 57; first | (refine (isName_yes _ _ (by assumption)).mono ?_; rintro e w' ⟨rfl, rfl⟩) | (refine (isName_no _ _ (by assumption) (by assumption)).mono ?_; rintro e w' ⟨rfl, rfl⟩)) | (go_at_call 58; refine (labelIndex_n _ _ _ _ (by first | exact hlen | rfl) _ _ (by first | (haveI := HT.out; infer_instance) | (haveI := HL.out; infer_instance))).mono ?_; rintro e w' ⟨rfl, k, rfl⟩) | (go_at_call 47; first | (refine (wi_yes _ _ _ _ (by omega) (by omega)).mono ?_; rintro e w' ⟨rfl, rfl⟩) | (refine (wi_no _ _ _ _ (by omega)).mono ?_; rintro e w' ⟨rfl, rfl⟩))); (try ((refine wp_region_ex (by kernel_rfl) (by kernel_rfl) ?_; (repeat (go_big_quiet_step (((first | (go_at_call 58; exact calls_ex (labelIndex_n _ _ (List.take q l) q hlen _ _ (haveI := HT.out; inferInstance))) | (go_at_call 58; exact calls_ex (labelIndex_n _ _ l _ rfl _ _ (haveI := HL.out; inferInstance)))))))); refine wpQuiet_nil ?_; rintro _ ⟨k, rfl⟩); go_wp2)); all_goals first | (exfalso; rename_i hx; simp at hx; omega) | (go_ret; refine ⟨by rw [HM.out H0.out]; first | rfl | (simp; done), ?_⟩; (refine Ok.toEx ?_; (repeat (first | (with_reducible exact Ok.rf _) | (with_reducible refine Ok.alloc ?_ _) | (with_reducible refine Ok.ex ?_ _) | (with_reducible refine Ok.drew ?_) | (with_reducible refine Ok.setCellI ?_ _ _ _) | (with_reducible refine Ok.exb ?_ _))))) | (go_roundw; (case rel => refine ⟨q + 1, by omega, by go_num, HN.out H0.out, ?_⟩; (refine Ok.toEx ?_; (repeat (first | (with_reducible exact Ok.rf _) | (with_reducible refine Ok.alloc ?_ _) | (with_reducible refine Ok.ex ?_ _) | (with_reducible refine Ok.drew ?_) | (with_reducible refine Ok.setCellI ?_ _ _ _) | (with_reducible refine Ok.exb ?_ _))))); (case measure => simp [intOf]; omega)))
        all_goals (have H0 := hid h0; clear h0; (first | (have hvb : (x.value == 0) = false := by (rw [beq_eq_false_iff_ne]; omega)) | skip); go_wp2_with (first | (go_at_call 57; first | (refine (isName_yes _ _ (by assumption)).mono ?_; rintro e w' ⟨rfl, rfl⟩) | (refine (isName_no _ _ (by assumption) (by assumption)).mono ?_; rintro e w' ⟨rfl, rfl⟩)) | (go_at_call 58; refine (labelIndex_n _ _ _ _ (by first | exact hlen | rfl) _ _ (by first | (haveI := HT.out; infer_instance) | (haveI := HL.out; infer_instance))).mono ?_; rintro e w' ⟨rfl, k, rfl⟩) | (go_at_call 47; first | (refine (wi_yes _ _ _ _ (by omega) (by omega)).mono ?_; rintro e w' ⟨rfl, rfl⟩) | (refine (wi_no _ _ _ _ (by omega)).mono ?_; rintro e w' ⟨rfl, rfl⟩))); (try ((refine wp_region_ex (by kernel_rfl) (by kernel_rfl) ?_; (repeat (go_big_quiet_step (((first | (go_at_call 58; exact calls_ex (labelIndex_n _ _ (List.take q l) q hlen _ _ (haveI := HT.out; inferInstance))) | (go_at_call 58; exact calls_ex (labelIndex_n _ _ l _ rfl _ _ (haveI := HL.out; inferInstance)))))))); refine wpQuiet_nil ?_; rintro _ ⟨k, rfl⟩); go_wp2)); all_goals first | (exfalso; rename_i hx; simp at hx; omega) | (go_ret; refine ⟨by rw [HM.out H0.out]; first | rfl | (simp; done), ?_⟩; (refine Ok.toEx ?_; (repeat (first | (with_reducible exact Ok.rf _) | (with_reducible refine Ok.alloc ?_ _) | (with_reducible refine Ok.ex ?_ _) | (with_reducible refine Ok.drew ?_) | (with_reducible refine Ok.setCellI ?_ _ _ _) | (with_reducible refine Ok.exb ?_ _))))) | (go_roundw; (case rel => refine ⟨q + 1, by omega, by go_num, HN.out H0.out, ?_⟩; (refine Ok.toEx ?_; (repeat (first | (with_reducible exact Ok.rf _) | (with_reducible refine Ok.alloc ?_ _) | (with_reducible refine Ok.ex ?_ _) | (with_reducible refine Ok.drew ?_) | (with_reducible refine Ok.setCellI ?_ _ _ _) | (with_reducible refine Ok.exb ?_ _))))); (case measure => simp [intOf]; omega)))
      · rcases iv_no l q x hn with ⟨h0, h1⟩ | ⟨h0, h1⟩ | ⟨h0, h1⟩ | h
        rotate_right
        · rcases iv_rest l q x h with ⟨h0, h1, ⟨h2, h2'⟩, h3, h4⟩ | ⟨h0, h1, ⟨h2, h2'⟩, h3⟩ | ⟨h0, h1, ⟨h2, h2'⟩, h3⟩ | ⟨h0, h1, ⟨h2, h2'⟩⟩ | ⟨h0, h1, ⟨h2, h2'⟩, h3⟩ | ⟨h0, h1, ⟨h2, h2'⟩, h3⟩ | ⟨h0, h1, ⟨h2, h2'⟩⟩ | ⟨h0, h1, h2, h3, h4, h5⟩
          all_goals (have H0 := hid h0; clear h0; (first | (have hvb : (x.value == 0) = false := by (rw [beq_eq_false_iff_ne]; omega)) | skip); go_wp2_with (first | (go_at_call 57; first | (refine (isName_yes _ _ (by assumption)).mono ?_; rintro e w' ⟨rfl, rfl⟩) | (refine (isName_no _ _ (by assumption) (by assumption)).mono ?_; rintro e w' ⟨rfl, rfl⟩)) | (go_at_call 58; refine (labelIndex_n _ _ _ _ (by first | exact hlen | rfl) _ _ (by first | (haveI := HT.out; infer_instance) | (haveI := HL.out; infer_instance))).mono ?_; rintro e w' ⟨rfl, k, rfl⟩) | (go_at_call 47; first | (refine (wi_yes _ _ _ _ (by omega) (by omega)).mono ?_; rintro e w' ⟨rfl, rfl⟩) | (refine (wi_no _ _ _ _ (by omega)).mono ?_; rintro e w' ⟨rfl, rfl⟩))); (try ((refine wp_region_ex (by kernel_rfl) (by kernel_rfl) ?_; (repeat (go_big_quiet_step (((first | (go_at_call 58; exact calls_ex (labelIndex_n _ _ (List.take q l) q hlen _ _ (haveI := HT.out; inferInstance))) | (go_at_call 58; exact calls_ex (labelIndex_n _ _ l _ rfl _ _ (haveI := HL.out; inferInstance)))))))); refine wpQuiet_nil ?_; rintro _ ⟨k, rfl⟩); go_wp2)); all_goals first | (exfalso; rename_i hx; simp at hx; omega) | (go_ret; refine ⟨by rw [HM.out H0.out]; first | rfl | (simp; done), ?_⟩; (refine Ok.toEx ?_; (repeat (first | (with_reducible exact Ok.rf _) | (with_reducible refine Ok.alloc ?_ _) | (with_reducible refine Ok.ex ?_ _) | (with_reducible refine Ok.drew ?_) | (with_reducible refine Ok.setCellI ?_ _ _ _) | (with_reducible refine Ok.exb ?_ _))))) | (go_roundw; (case rel => refine ⟨q + 1, by omega, by go_num, HN.out H0.out, ?_⟩; (refine Ok.toEx ?_; (repeat (first | (with_reducible exact Ok.rf _) | (with_reducible refine Ok.alloc ?_ _) | (with_reducible refine Ok.ex ?_ _) | (with_reducible refine Ok.drew ?_) | (with_reducible refine Ok.setCellI ?_ _ _ _) | (with_reducible refine Ok.exb ?_ _))))); (case measure => simp [intOf]; omega)))
        all_goals (have H0 := hid h0; clear h0; (first | (have hvb : (x.value == 0) = false := by (rw [beq_eq_false_iff_ne]; omega)) | skip); go_wp2_with (first | (go_at_call 57; first | (refine (isName_yes _ _ (by assumption)).mono ?_; rintro e w' ⟨rfl, rfl⟩) | (refine (isName_no _ _ (by assumption) (by assumption)).mono ?_; rintro e w' ⟨rfl, rfl⟩)) | (go_at_call 58; refine (labelIndex_n _ _ _ _ (by first | exact hlen | rfl) _ _ (by first | (haveI := HT.out; infer_instance) | (haveI := HL.out; infer_instance))).mono ?_; rintro e w' ⟨rfl, k, rfl⟩) | (go_at_call 47; first | (refine (wi_yes _ _ _ _ (by omega) (by omega)).mono ?_; rintro e w' ⟨rfl, rfl⟩) | (refine (wi_no _ _ _ _ (by omega)).mono ?_; rintro e w' ⟨rfl, rfl⟩))); (try ((refine wp_region_ex (by kernel_rfl) (by kernel_rfl) ?_; (repeat (go_big_quiet_step (((first | (go_at_call 58; exact calls_ex (labelIndex_n _ _ (List.take q l) q hlen _ _ (haveI := HT.out; inferInstance))) | (go_at_call 58; exact calls_ex (labelIndex_n _ _ l _ rfl _ _ (haveI := HL.out; inferInstance)))))))); refine wpQuiet_nil ?_; rintro _ ⟨k, rfl⟩); go_wp2)); all_goals first | (exfalso; rename_i hx; simp at hx; omega) | (go_ret; refine ⟨by rw [HM.out H0.out]; first | rfl | (simp; done), ?_⟩; (refine Ok.toEx ?_; (repeat (first | (with_reducible exact Ok.rf _) | (with_reducible refine Ok.alloc ?_ _) | (with_reducible refine Ok.ex ?_ _) | (with_reducible refine Ok.drew ?_) | (with_reducible refine Ok.setCellI ?_ _ _ _) | (with_reducible refine Ok.exb ?_ _))))) | (go_roundw; (case rel => refine ⟨q + 1, by omega, by go_num, HN.out H0.out, ?_⟩; (refine Ok.toEx ?_; (repeat (first | (with_reducible exact Ok.rf _) | (with_reducible refine Ok.alloc ?_ _) | (with_reducible refine Ok.ex ?_ _) | (with_reducible refine Ok.drew ?_) | (with_reducible refine Ok.setCellI ?_ _ _ _) | (with_reducible refine Ok.exb ?_ _))))); (case measure => simp [intOf]; omega)))
    · have HA := hid (vL_yes ⟨h40, fun i hi => HS.out i hi (by omega)⟩)
      go_wp2
      go_ret
      exact ⟨by rw [HA.out]; rfl, j0, rfl⟩
end
end Go.Proofs.YtonmeffhelaohaaDoor
