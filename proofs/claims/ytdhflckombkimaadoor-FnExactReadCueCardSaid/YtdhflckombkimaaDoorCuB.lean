/-
  One cue: whether it is valid. Conditions: those typed at each theorem.
-/
import Derived.Test.YtdhflckombkimaaDoorCuA
namespace Go.Proofs.YtdhflckombkimaaDoor
open Go.RowKit
/-- what a valid cue is -/
def okC (x : Cu) : Prop := okN x.id ∧ okN x.tg ∧ (0 ≤ x.t ∧ x.t ≤ 7200000) ∧ (0 ≤ x.v ∧ x.v ≤ 1000) ∧ ((x.act = 1 ∧ x.ln = 0) ∨ (x.act = 2 ∧ 1 ≤ x.ln ∧ x.ln ≤ 7200000 - x.t) ∨ (x.act = 3 ∧ x.ln = 0 ∧ x.v = 0))
open Classical in
noncomputable def vC (x : Cu) : Bool := decide (okC x)
open Classical in
theorem vC_yes {x : Cu} (h : okC x) : vC x = true := decide_eq_true h
open Classical in
theorem vC_of {x : Cu} (h : vC x = true) : okC x := of_decide_eq_true h
open Classical in
theorem vC_no {x : Cu} (h : ¬ okC x) : vC x = false := decide_eq_false h
theorem ebT {a b : Int} (h : a = b) : (a == b) = true := by rw [beq_iff_eq]; exact h
theorem ebF {a b : Int} (h : a ≠ b) : (a == b) = false := by rw [beq_eq_false_iff_ne]; exact h
/-- the ways through the test of a cue -/
theorem vC_cases (x : Cu) :
    (vC x = true ∧ okN x.id ∧ okN x.tg ∧ (0 ≤ x.t ∧ x.t ≤ 7200000) ∧ (0 ≤ x.v ∧ x.v ≤ 1000) ∧ (x.act == 1) = true ∧ (x.ln == 0) = true) ∨
    (vC x = true ∧ okN x.id ∧ okN x.tg ∧ (0 ≤ x.t ∧ x.t ≤ 7200000) ∧ (0 ≤ x.v ∧ x.v ≤ 1000) ∧ (x.act == 1) = false ∧ (x.act == 2) = true ∧ 1 ≤ x.ln ∧ x.ln ≤ 7200000 - x.t) ∨
    (vC x = true ∧ okN x.id ∧ okN x.tg ∧ (0 ≤ x.t ∧ x.t ≤ 7200000) ∧ (0 ≤ x.v ∧ x.v ≤ 1000) ∧ (x.act == 1) = false ∧ (x.act == 2) = false ∧ (x.act == 3) = true ∧ (x.ln == 0) = true ∧ (x.v == 0) = true) ∨
    (vC x = false ∧ ¬ okN x.id) ∨
    (vC x = false ∧ okN x.id ∧ ¬ okN x.tg) ∨
    (vC x = false ∧ okN x.id ∧ okN x.tg ∧ (x.t < 0 ∨ 7200000 < x.t)) ∨
    (vC x = false ∧ okN x.id ∧ okN x.tg ∧ (0 ≤ x.t ∧ x.t ≤ 7200000) ∧ (x.v < 0 ∨ 1000 < x.v)) ∨
    (vC x = false ∧ okN x.id ∧ okN x.tg ∧ (0 ≤ x.t ∧ x.t ≤ 7200000) ∧ (0 ≤ x.v ∧ x.v ≤ 1000) ∧ (x.act == 1) = true ∧ (x.ln == 0) = false) ∨
    (vC x = false ∧ okN x.id ∧ okN x.tg ∧ (0 ≤ x.t ∧ x.t ≤ 7200000) ∧ (0 ≤ x.v ∧ x.v ≤ 1000) ∧ (x.act == 1) = false ∧ (x.act == 2) = true ∧ (x.ln < 1 ∨ 7200000 - x.t < x.ln)) ∨
    (vC x = false ∧ okN x.id ∧ okN x.tg ∧ (0 ≤ x.t ∧ x.t ≤ 7200000) ∧ (0 ≤ x.v ∧ x.v ≤ 1000) ∧ (x.act == 1) = false ∧ (x.act == 2) = false ∧ (x.act == 3) = true ∧ (x.ln == 0) = false) ∨
    (vC x = false ∧ okN x.id ∧ okN x.tg ∧ (0 ≤ x.t ∧ x.t ≤ 7200000) ∧ (0 ≤ x.v ∧ x.v ≤ 1000) ∧ (x.act == 1) = false ∧ (x.act == 2) = false ∧ (x.act == 3) = true ∧ (x.ln == 0) = true ∧ (x.v == 0) = false) ∨
    (vC x = false ∧ okN x.id ∧ okN x.tg ∧ (0 ≤ x.t ∧ x.t ≤ 7200000) ∧ (0 ≤ x.v ∧ x.v ≤ 1000) ∧ (x.act == 1) = false ∧ (x.act == 2) = false ∧ (x.act == 3) = false) := by
  by_cases h1 : okN x.id
  rotate_left
  · exact .inr (.inr (.inr (.inl ⟨vC_no fun h => h1 h.1, h1⟩)))
  by_cases h2 : okN x.tg
  rotate_left
  · exact .inr (.inr (.inr (.inr (.inl ⟨vC_no fun h => h2 h.2.1, h1, h2⟩))))
  by_cases h3 : 0 ≤ x.t ∧ x.t ≤ 7200000
  rotate_left
  · exact .inr (.inr (.inr (.inr (.inr (.inl ⟨vC_no fun h => h3 h.2.2.1, h1, h2, by omega⟩)))))
  by_cases h4 : 0 ≤ x.v ∧ x.v ≤ 1000
  rotate_left
  · exact .inr (.inr (.inr (.inr (.inr (.inr (.inl ⟨vC_no fun h => h4 h.2.2.2.1, h1, h2, h3, by omega⟩))))))
  by_cases a1 : x.act = 1
  · by_cases l0 : x.ln = 0
    · exact .inl ⟨vC_yes ⟨h1, h2, h3, h4, .inl ⟨a1, l0⟩⟩, h1, h2, h3, h4, ebT a1, ebT l0⟩
    · exact .inr (.inr (.inr (.inr (.inr (.inr (.inr (.inl ⟨vC_no fun h => by have := h.2.2.2.2; omega, h1, h2, h3, h4, ebT a1, ebF l0⟩)))))))
  by_cases a2 : x.act = 2
  · by_cases l0 : 1 ≤ x.ln ∧ x.ln ≤ 7200000 - x.t
    · exact .inr (.inl ⟨vC_yes ⟨h1, h2, h3, h4, .inr (.inl ⟨a2, l0⟩)⟩, h1, h2, h3, h4, ebF a1, ebT a2, l0⟩)
    · exact .inr (.inr (.inr (.inr (.inr (.inr (.inr (.inr (.inl ⟨vC_no fun h => by have := h.2.2.2.2; omega, h1, h2, h3, h4, ebF a1, ebT a2, by omega⟩))))))))
  by_cases a3 : x.act = 3
  · by_cases l0 : x.ln = 0
    · by_cases v0 : x.v = 0
      · exact .inr (.inr (.inl ⟨vC_yes ⟨h1, h2, h3, h4, .inr (.inr ⟨a3, l0, v0⟩)⟩, h1, h2, h3, h4, ebF a1, ebF a2, ebT a3, ebT l0, ebT v0⟩))
      · exact .inr (.inr (.inr (.inr (.inr (.inr (.inr (.inr (.inr (.inr (.inl ⟨vC_no fun h => by have := h.2.2.2.2; omega, h1, h2, h3, h4, ebF a1, ebF a2, ebT a3, ebT l0, ebF v0⟩))))))))))
    · exact .inr (.inr (.inr (.inr (.inr (.inr (.inr (.inr (.inr (.inl ⟨vC_no fun h => by have := h.2.2.2.2; omega, h1, h2, h3, h4, ebF a1, ebF a2, ebT a3, ebF l0⟩)))))))))
  · exact .inr (.inr (.inr (.inr (.inr (.inr (.inr (.inr (.inr (.inr (.inr ⟨vC_no fun h => by have := h.2.2.2.2; omega, h1, h2, h3, h4, ebF a1, ebF a2, ebF a3⟩))))))))))
section
set_option maxHeartbeats 3200000
set_option maxRecDepth 20000
theorem ct_yes (n : Int) (w : World) (h1 : 0 ≤ n) (h2 : n ≤ 7200000) : Calls Tryd.prog 100 #[.int .i64 n] w fun e w' => e = .returned (.bool true) ∧ w = w' := by
  go_enter Tryd.func100, Tryd.ntmps100
  go_wp2_with ((go_at_call 101; first | (refine (in_yes _ _ _ _ (by omega) (by omega)).mono ?_; rintro e w' ⟨rfl, rfl⟩) | (refine (in_no _ _ _ _ (by omega)).mono ?_; rintro e w' ⟨rfl, rfl⟩)))
  go_ret
  exact ⟨rfl, rfl⟩
theorem ct_no (n : Int) (w : World) (h : n < 0 ∨ 7200000 < n) : Calls Tryd.prog 100 #[.int .i64 n] w fun e w' => e = .returned (.bool false) ∧ w = w' := by
  go_enter Tryd.func100, Tryd.ntmps100
  go_wp2_with ((go_at_call 101; first | (refine (in_yes _ _ _ _ (by omega) (by omega)).mono ?_; rintro e w' ⟨rfl, rfl⟩) | (refine (in_no _ _ _ _ (by omega)).mono ?_; rintro e w' ⟨rfl, rfl⟩)))
  go_ret
  exact ⟨rfl, rfl⟩
theorem iVC_any (x : Cu) (w : World) (hs1 : x.id.size ≤ maxLen) (hs2 : x.tg.size ≤ maxLen) {r : Bool} (hr : vC x = r) :
    Calls Tryd.prog 39 #[.agg #[.string x.id, .int .i64 x.t, .int .i64 x.ln, .string x.tg, .int .i64 x.act, .int .i64 x.v]] w fun e w' => e = .returned (.bool r) ∧ ∃ k : Ex w, w' = k.v := by
  subst hr
  rcases vC_cases x with ⟨hv, h1, h2, ⟨h3, h3'⟩, ⟨h4, h4'⟩, a1, l0⟩ | ⟨hv, h1, h2, ⟨h3, h3'⟩, ⟨h4, h4'⟩, a1, a2, l0, l1⟩ | ⟨hv, h1, h2, ⟨h3, h3'⟩, ⟨h4, h4'⟩, a1, a2, a3, l0, v0⟩ | ⟨hv, h1⟩ | ⟨hv, h1, h2⟩ | ⟨hv, h1, h2, h3⟩ | ⟨hv, h1, h2, ⟨h3, h3'⟩, h4⟩ | ⟨hv, h1, h2, ⟨h3, h3'⟩, ⟨h4, h4'⟩, a1, l0⟩ | ⟨hv, h1, h2, ⟨h3, h3'⟩, ⟨h4, h4'⟩, a1, a2, l0⟩ | ⟨hv, h1, h2, ⟨h3, h3'⟩, ⟨h4, h4'⟩, a1, a2, a3, l0⟩ | ⟨hv, h1, h2, ⟨h3, h3'⟩, ⟨h4, h4'⟩, a1, a2, a3, l0, v0⟩ | ⟨hv, h1, h2, ⟨h3, h3'⟩, ⟨h4, h4'⟩, a1, a2, a3⟩
  all_goals
    have HV := hid hv
    clear hv
    go_enter Tryd.func39, Tryd.ntmps39
    go_wp2_with (first | (go_at_call 76; first | (refine (isName_yes _ _ (by assumption)).mono ?_; rintro e w' ⟨rfl, rfl⟩) | (refine (isName_no _ _ (by assumption) (by assumption)).mono ?_; rintro e w' ⟨rfl, rfl⟩)) | (go_at_call 63; first | (refine (wi_yes _ _ _ _ (by omega) (by omega)).mono ?_; rintro e w' ⟨rfl, rfl⟩) | (refine (wi_no _ _ _ _ (by omega)).mono ?_; rintro e w' ⟨rfl, rfl⟩)))
    all_goals first | (go_ret; refine ⟨by rw [HV.out]; first | rfl | (simp; done) | simp_all, ?_⟩; (refine Ok.toEx ?_; (repeat (first | (with_reducible exact Ok.rf _) | (with_reducible refine Ok.alloc ?_ _) | (with_reducible refine Ok.ex ?_ _) | (with_reducible refine Ok.drew ?_) | (with_reducible refine Ok.setCellI ?_ _ _ _) | (with_reducible refine Ok.exb ?_ _))))) | (exfalso; simp_all; done) | (exfalso; simp_all; omega)
theorem sOne_any (x : Cu) (b z : Nat) (w : World) [LtW b w] (hc : CuAt w b z x) (hs1 : x.id.size ≤ maxLen) (hs2 : x.tg.size ≤ maxLen) {r : Bool} (hr : vC x = r) :
    Calls Tryd.prog 73 #[.pointer (some ⟨b, z, none⟩)] w fun e w' => e = .returned (.bool r) ∧ ∃ k : Ex w, w' = k.v := by
  subst hr
  obtain ⟨c0, c1, c2, c3, c4, c5⟩ := hc
  rcases vC_cases x with ⟨hv, h1, h2, ⟨h3, h3'⟩, ⟨h4, h4'⟩, a1, l0⟩ | ⟨hv, h1, h2, ⟨h3, h3'⟩, ⟨h4, h4'⟩, a1, a2, l0, l1⟩ | ⟨hv, h1, h2, ⟨h3, h3'⟩, ⟨h4, h4'⟩, a1, a2, a3, l0, v0⟩ | ⟨hv, h1⟩ | ⟨hv, h1, h2⟩ | ⟨hv, h1, h2, h3⟩ | ⟨hv, h1, h2, ⟨h3, h3'⟩, h4⟩ | ⟨hv, h1, h2, ⟨h3, h3'⟩, ⟨h4, h4'⟩, a1, l0⟩ | ⟨hv, h1, h2, ⟨h3, h3'⟩, ⟨h4, h4'⟩, a1, a2, l0⟩ | ⟨hv, h1, h2, ⟨h3, h3'⟩, ⟨h4, h4'⟩, a1, a2, a3, l0⟩ | ⟨hv, h1, h2, ⟨h3, h3'⟩, ⟨h4, h4'⟩, a1, a2, a3, l0, v0⟩ | ⟨hv, h1, h2, ⟨h3, h3'⟩, ⟨h4, h4'⟩, a1, a2, a3⟩
  all_goals
    have HV := hid hv
    clear hv
    go_enter Tryd.func73, Tryd.ntmps73
    go_wp2_with (first | (go_at_call 96; first | (refine (l01Name_yes _ _ (by assumption)).mono ?_; rintro e w' ⟨rfl, rfl⟩) | (refine (l01Name_no _ _ (by assumption) (by assumption)).mono ?_; rintro e w' ⟨rfl, rfl⟩)) | (go_at_call 100; first | (refine (ct_yes _ _ (by omega) (by omega)).mono ?_; rintro e w' ⟨rfl, rfl⟩) | (refine (ct_no _ _ (by omega)).mono ?_; rintro e w' ⟨rfl, rfl⟩)) | (go_at_call 101; first | (refine (in_yes _ _ _ _ (by omega) (by omega)).mono ?_; rintro e w' ⟨rfl, rfl⟩) | (refine (in_no _ _ _ _ (by omega)).mono ?_; rintro e w' ⟨rfl, rfl⟩)))
    all_goals first | (go_ret; refine ⟨by rw [HV.out]; first | rfl | (simp; done) | simp_all, ?_⟩; (refine Ok.toEx ?_; (repeat (first | (with_reducible exact Ok.rf _) | (with_reducible refine Ok.alloc ?_ _) | (with_reducible refine Ok.ex ?_ _) | (with_reducible refine Ok.drew ?_) | (with_reducible refine Ok.setCellI ?_ _ _ _) | (with_reducible refine Ok.exb ?_ _))))) | ((refine wp_region_ex (by kernel_rfl) (by kernel_rfl) ?_; (repeat (go_big_quiet_step (((go_at_call 101; first | exact calls_ex_same (in_yes _ _ _ _ (by omega) (by omega)) | exact calls_ex_same (in_no _ _ _ _ (by omega))))))); refine wpQuiet_nil ?_; rintro _ ⟨k, rfl⟩); go_wp2; go_ret; refine ⟨by rw [HV.out]; first | rfl | (simp; done) | simp_all, ?_⟩; (refine Ok.toEx ?_; (repeat (first | (with_reducible exact Ok.rf _) | (with_reducible refine Ok.alloc ?_ _) | (with_reducible refine Ok.ex ?_ _) | (with_reducible refine Ok.drew ?_) | (with_reducible refine Ok.setCellI ?_ _ _ _) | (with_reducible refine Ok.exb ?_ _))))) | (exfalso; simp_all; done) | (exfalso; simp_all; omega)
end
end Go.Proofs.YtdhflckombkimaaDoor
