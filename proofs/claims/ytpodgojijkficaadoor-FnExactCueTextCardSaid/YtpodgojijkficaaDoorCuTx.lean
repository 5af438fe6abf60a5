/-
  CueText: both, and its law. Conditions: those typed at each theorem.
-/
import Derived.Test.YtpodgojijkficaaDoorCuB
import Derived.Test.YtpodgojijkficaaDoorDec
import Derived.BigQuiet
namespace Go.Proofs.YtpodgojijkficaaDoor
open Go.RowKit
/-- the text of a cue -/
def cuS (x : Cu) : ByteArray := x.id ++ ⟨#[32]⟩ ++ decS x.t ++ ⟨#[32]⟩ ++ x.tg
def cuTx (x : Cu) : ByteArray := if x.act = 1 then cuS x ++ ⟨#[32, 115, 101, 116, 32]⟩ ++ decS x.v else if x.act = 2 then cuS x ++ ⟨#[32, 102, 97, 100, 101, 32]⟩ ++ decS x.v ++ ⟨#[32]⟩ ++ decS x.ln else cuS x ++ ⟨#[32, 115, 116, 111, 112]⟩
noncomputable def ctR (x : Cu) : ByteArray := if vC x = true then cuTx x else ⟨#[]⟩
theorem bsz (a : Array UInt8) : (⟨a⟩ : ByteArray).size = a.size := rfl
section
set_option maxHeartbeats 3200000
set_option maxRecDepth 20000
theorem stext_any (x : Cu) (b : Nat) (w : World) [LtW b w] (hc : CuAt w b 0 x) (ht : bI x.t) (hv : bI x.v) (hl : bI x.ln) (hs1 : x.id.size ≤ 1000) (hs2 : x.tg.size ≤ 1000) :
    Calls Tryd.prog 13 #[.pointer (some ⟨b, 0, none⟩)] w fun e w' => e = .returned (.string (cuTx x)) ∧ ∃ k : Ex w, w' = k.v := by
  obtain ⟨c0, c1, c2, c3, c4, c5⟩ := hc
  obtain ⟨ht1, ht2⟩ := ht
  obtain ⟨hv1, hv2⟩ := hv
  obtain ⟨hl1, hl2⟩ := hl
  (have q1 := decS_size ht1 ht2; have q2 := decS_size hv1 hv2; have q3 := decS_size hl1 hl2; have f1 := sadd (P := Tryd.prog) x.id ⟨#[32]⟩ (by simp only [ByteArray.size_append, bsz, List.size_toArray, List.length_cons, List.length_nil]; omega); have f2 := sadd (P := Tryd.prog) (x.id ++ ⟨#[32]⟩) (decS x.t) (by simp only [ByteArray.size_append, bsz, List.size_toArray, List.length_cons, List.length_nil]; omega); have f3 := sadd (P := Tryd.prog) (x.id ++ ⟨#[32]⟩ ++ decS x.t) ⟨#[32]⟩ (by simp only [ByteArray.size_append, bsz, List.size_toArray, List.length_cons, List.length_nil]; omega); have f4 := sadd (P := Tryd.prog) (x.id ++ ⟨#[32]⟩ ++ decS x.t ++ ⟨#[32]⟩) x.tg (by simp only [ByteArray.size_append, bsz, List.size_toArray, List.length_cons, List.length_nil]; omega);  have g1 := sadd (P := Tryd.prog) (x.id ++ ⟨#[32]⟩ ++ decS x.t ++ ⟨#[32]⟩ ++ x.tg) ⟨#[32, 115, 101, 116, 32]⟩ (by simp only [ByteArray.size_append, bsz, List.size_toArray, List.length_cons, List.length_nil]; omega); have g2 := sadd (P := Tryd.prog) (x.id ++ ⟨#[32]⟩ ++ decS x.t ++ ⟨#[32]⟩ ++ x.tg ++ ⟨#[32, 115, 101, 116, 32]⟩) (decS x.v) (by simp only [ByteArray.size_append, bsz, List.size_toArray, List.length_cons, List.length_nil]; omega);  have k1 := sadd (P := Tryd.prog) (x.id ++ ⟨#[32]⟩ ++ decS x.t ++ ⟨#[32]⟩ ++ x.tg) ⟨#[32, 102, 97, 100, 101, 32]⟩ (by simp only [ByteArray.size_append, bsz, List.size_toArray, List.length_cons, List.length_nil]; omega); have k2 := sadd (P := Tryd.prog) (x.id ++ ⟨#[32]⟩ ++ decS x.t ++ ⟨#[32]⟩ ++ x.tg ++ ⟨#[32, 102, 97, 100, 101, 32]⟩) (decS x.v) (by simp only [ByteArray.size_append, bsz, List.size_toArray, List.length_cons, List.length_nil]; omega); have k3 := sadd (P := Tryd.prog) (x.id ++ ⟨#[32]⟩ ++ decS x.t ++ ⟨#[32]⟩ ++ x.tg ++ ⟨#[32, 102, 97, 100, 101, 32]⟩ ++ decS x.v) ⟨#[32]⟩ (by simp only [ByteArray.size_append, bsz, List.size_toArray, List.length_cons, List.length_nil]; omega); have k4 := sadd (P := Tryd.prog) (x.id ++ ⟨#[32]⟩ ++ decS x.t ++ ⟨#[32]⟩ ++ x.tg ++ ⟨#[32, 102, 97, 100, 101, 32]⟩ ++ decS x.v ++ ⟨#[32]⟩) (decS x.ln) (by simp only [ByteArray.size_append, bsz, List.size_toArray, List.length_cons, List.length_nil]; omega);  have m1 := sadd (P := Tryd.prog) (x.id ++ ⟨#[32]⟩ ++ decS x.t ++ ⟨#[32]⟩ ++ x.tg) ⟨#[32, 115, 116, 111, 112]⟩ (by simp only [ByteArray.size_append, bsz, List.size_toArray, List.length_cons, List.length_nil]; omega))
  by_cases h1 : x.act = 1
  · have HR : Hid (cuTx x = x.id ++ ⟨#[32]⟩ ++ decS x.t ++ ⟨#[32]⟩ ++ x.tg ++ ⟨#[32, 115, 101, 116, 32]⟩ ++ decS x.v) := hid (by unfold cuTx; rw [if_pos h1]; rfl)
    have e1 : (x.act == 1) = true := by rw [beq_iff_eq]; exact h1
    clear h1
    go_enter Tryd.func13, Tryd.ntmps13
    go_wp2
    (refine wp_region_ex (by kernel_rfl) (by kernel_rfl) ?_; (repeat (go_big_quiet_step (((go_at_call 22; exact calls_ex (sdec_any _ _ (by omega) (by omega))))))); refine wpQuiet_nil ?_; rintro _ ⟨k, rfl⟩)
    go_wp2_with ((go_at_call 22; refine (sdec_any _ _ (by omega) (by omega)).mono ?_; rintro e w' ⟨rfl, k, rfl⟩))
    go_ret
    exact ⟨by rw [HR.out]; rfl, by (refine Ok.toEx ?_; (repeat (first | (with_reducible exact Ok.rf _) | (with_reducible refine Ok.alloc ?_ _) | (with_reducible refine Ok.ex ?_ _) | (with_reducible refine Ok.drew ?_) | (with_reducible refine Ok.setCellI ?_ _ _ _) | (with_reducible refine Ok.exb ?_ _))))⟩
  · have e1 : (x.act == 1) = false := by rw [beq_eq_false_iff_ne]; exact h1
    by_cases h2 : x.act = 2
    · have HR : Hid (cuTx x = x.id ++ ⟨#[32]⟩ ++ decS x.t ++ ⟨#[32]⟩ ++ x.tg ++ ⟨#[32, 102, 97, 100, 101, 32]⟩ ++ decS x.v ++ ⟨#[32]⟩ ++ decS x.ln) := hid (by unfold cuTx; rw [if_neg h1, if_pos h2]; rfl)
      have e2 : (x.act == 2) = true := by rw [beq_iff_eq]; exact h2
      clear h1 h2
      go_enter Tryd.func13, Tryd.ntmps13
      go_wp2
      (refine wp_region_ex (by kernel_rfl) (by kernel_rfl) ?_; (repeat (go_big_quiet_step (((go_at_call 22; exact calls_ex (sdec_any _ _ (by omega) (by omega))))))); refine wpQuiet_nil ?_; rintro _ ⟨k, rfl⟩)
      go_wp2
      (refine wp_region_ex (by kernel_rfl) (by kernel_rfl) ?_; (repeat (go_big_quiet_step (((go_at_call 22; exact calls_ex (sdec_any _ _ (by omega) (by omega))))))); refine wpQuiet_nil ?_; rintro _ ⟨k, rfl⟩)
      go_wp2
      go_ret
      exact ⟨by rw [HR.out]; rfl, by (refine Ok.toEx ?_; (repeat (first | (with_reducible exact Ok.rf _) | (with_reducible refine Ok.alloc ?_ _) | (with_reducible refine Ok.ex ?_ _) | (with_reducible refine Ok.drew ?_) | (with_reducible refine Ok.setCellI ?_ _ _ _) | (with_reducible refine Ok.exb ?_ _))))⟩
    · have HR : Hid (cuTx x = x.id ++ ⟨#[32]⟩ ++ decS x.t ++ ⟨#[32]⟩ ++ x.tg ++ ⟨#[32, 115, 116, 111, 112]⟩) := hid (by unfold cuTx; rw [if_neg h1, if_neg h2]; rfl)
      have e2 : (x.act == 2) = false := by rw [beq_eq_false_iff_ne]; exact h2
      clear h1 h2
      go_enter Tryd.func13, Tryd.ntmps13
      go_wp2
      (refine wp_region_ex (by kernel_rfl) (by kernel_rfl) ?_; (repeat (go_big_quiet_step (((go_at_call 22; exact calls_ex (sdec_any _ _ (by omega) (by omega))))))); refine wpQuiet_nil ?_; rintro _ ⟨k, rfl⟩)
      go_wp2
      go_ret
      exact ⟨by rw [HR.out]; rfl, by (refine Ok.toEx ?_; (repeat (first | (with_reducible exact Ok.rf _) | (with_reducible refine Ok.alloc ?_ _) | (with_reducible refine Ok.ex ?_ _) | (with_reducible refine Ok.drew ?_) | (with_reducible refine Ok.setCellI ?_ _ _ _) | (with_reducible refine Ok.exb ?_ _))))⟩
theorem itext_any (x : Cu) (w : World) [Tb w] (hx : x.ok) {r : ByteArray} (hr : ctR x = r) :
    Calls Tryd.prog 8 #[.agg #[.string x.id, .int .i64 x.t, .int .i64 x.ln, .string x.tg, .int .i64 x.act, .int .i64 x.v]] w fun e w' => e = .returned (.string r) ∧ ∃ k : Ex w, w' = k.v := by
  subst hr
  obtain ⟨hz1, hz2, ht, hl, -, hv⟩ := hx
  have hs1 : x.id.size ≤ maxLen := hz1
  have hs2 : x.tg.size ≤ maxLen := hz2
  cases hvc : vC x
  · have HR : Hid (ctR x = ⟨#[]⟩) := hid (by unfold ctR; rw [hvc]; rfl)
    have HX := hid hvc
    clear hvc
    go_enter Tryd.func8, Tryd.ntmps8
    go_wp2_with (go_at_call 14; (with_reducible refine (iVC_any x _ hs1 hs2 (HX.out)).mono ?_); rintro e w' ⟨rfl, k, rfl⟩)
    go_ret
    exact ⟨by rw [HR.out]; rfl, by (refine Ok.toEx ?_; (repeat (first | (with_reducible exact Ok.rf _) | (with_reducible refine Ok.alloc ?_ _) | (with_reducible refine Ok.ex ?_ _) | (with_reducible refine Ok.drew ?_) | (with_reducible refine Ok.setCellI ?_ _ _ _) | (with_reducible refine Ok.exb ?_ _))))⟩
  · have HX := hid hvc
    obtain ⟨⟨hn1, -⟩, ⟨hn2, -⟩, -⟩ := vC_of hvc
    have HC : Hid (ctR x = cuTx x) := hid (by unfold ctR; rw [if_pos hvc])
    clear hvc
    obtain ⟨ht1, ht2⟩ := ht
    obtain ⟨hv1, hv2⟩ := hv
    obtain ⟨hl1, hl2⟩ := hl
    (have q1 := decS_size ht1 ht2; have q2 := decS_size hv1 hv2; have q3 := decS_size hl1 hl2; have f1 := sadd (P := Tryd.prog) x.id ⟨#[32]⟩ (by simp only [ByteArray.size_append, bsz, List.size_toArray, List.length_cons, List.length_nil]; omega); have f2 := sadd (P := Tryd.prog) (x.id ++ ⟨#[32]⟩) (decS x.t) (by simp only [ByteArray.size_append, bsz, List.size_toArray, List.length_cons, List.length_nil]; omega); have f3 := sadd (P := Tryd.prog) (x.id ++ ⟨#[32]⟩ ++ decS x.t) ⟨#[32]⟩ (by simp only [ByteArray.size_append, bsz, List.size_toArray, List.length_cons, List.length_nil]; omega); have f4 := sadd (P := Tryd.prog) (x.id ++ ⟨#[32]⟩ ++ decS x.t ++ ⟨#[32]⟩) x.tg (by simp only [ByteArray.size_append, bsz, List.size_toArray, List.length_cons, List.length_nil]; omega);  have g1 := sadd (P := Tryd.prog) (x.id ++ ⟨#[32]⟩ ++ decS x.t ++ ⟨#[32]⟩ ++ x.tg) ⟨#[32, 115, 101, 116, 32]⟩ (by simp only [ByteArray.size_append, bsz, List.size_toArray, List.length_cons, List.length_nil]; omega); have g2 := sadd (P := Tryd.prog) (x.id ++ ⟨#[32]⟩ ++ decS x.t ++ ⟨#[32]⟩ ++ x.tg ++ ⟨#[32, 115, 101, 116, 32]⟩) (decS x.v) (by simp only [ByteArray.size_append, bsz, List.size_toArray, List.length_cons, List.length_nil]; omega);  have k1 := sadd (P := Tryd.prog) (x.id ++ ⟨#[32]⟩ ++ decS x.t ++ ⟨#[32]⟩ ++ x.tg) ⟨#[32, 102, 97, 100, 101, 32]⟩ (by simp only [ByteArray.size_append, bsz, List.size_toArray, List.length_cons, List.length_nil]; omega); have k2 := sadd (P := Tryd.prog) (x.id ++ ⟨#[32]⟩ ++ decS x.t ++ ⟨#[32]⟩ ++ x.tg ++ ⟨#[32, 102, 97, 100, 101, 32]⟩) (decS x.v) (by simp only [ByteArray.size_append, bsz, List.size_toArray, List.length_cons, List.length_nil]; omega); have k3 := sadd (P := Tryd.prog) (x.id ++ ⟨#[32]⟩ ++ decS x.t ++ ⟨#[32]⟩ ++ x.tg ++ ⟨#[32, 102, 97, 100, 101, 32]⟩ ++ decS x.v) ⟨#[32]⟩ (by simp only [ByteArray.size_append, bsz, List.size_toArray, List.length_cons, List.length_nil]; omega); have k4 := sadd (P := Tryd.prog) (x.id ++ ⟨#[32]⟩ ++ decS x.t ++ ⟨#[32]⟩ ++ x.tg ++ ⟨#[32, 102, 97, 100, 101, 32]⟩ ++ decS x.v ++ ⟨#[32]⟩) (decS x.ln) (by simp only [ByteArray.size_append, bsz, List.size_toArray, List.length_cons, List.length_nil]; omega);  have m1 := sadd (P := Tryd.prog) (x.id ++ ⟨#[32]⟩ ++ decS x.t ++ ⟨#[32]⟩ ++ x.tg) ⟨#[32, 115, 116, 111, 112]⟩ (by simp only [ByteArray.size_append, bsz, List.size_toArray, List.length_cons, List.length_nil]; omega))
    by_cases h1 : x.act = 1
    · have HR : Hid (cuTx x = x.id ++ ⟨#[32]⟩ ++ decS x.t ++ ⟨#[32]⟩ ++ x.tg ++ ⟨#[32, 115, 101, 116, 32]⟩ ++ decS x.v) := hid (by unfold cuTx; rw [if_pos h1]; rfl)
      have e1 : (x.act == 1) = true := by rw [beq_iff_eq]; exact h1
      clear h1
      go_enter Tryd.func8, Tryd.ntmps8
      go_wp2_with (go_at_call 14; (with_reducible refine (iVC_any x _ hs1 hs2 (HX.out)).mono ?_); rintro e w' ⟨rfl, k, rfl⟩)
      (refine wp_region_ex (by kernel_rfl) (by kernel_rfl) ?_; (repeat (go_big_quiet_step (((go_at_call 15; exact calls_ex (idec_any _ _ (by omega) (by omega))))))); refine wpQuiet_nil ?_; rintro _ ⟨k, rfl⟩)
      go_wp2_with ((go_at_call 15; refine (idec_any _ _ (by omega) (by omega)).mono ?_; rintro e w' ⟨rfl, k, rfl⟩))
      go_ret
      exact ⟨by rw [HC.out, HR.out]; rfl, by (refine Ok.toEx ?_; (repeat (first | (with_reducible exact Ok.rf _) | (with_reducible refine Ok.alloc ?_ _) | (with_reducible refine Ok.ex ?_ _) | (with_reducible refine Ok.drew ?_) | (with_reducible refine Ok.setCellI ?_ _ _ _) | (with_reducible refine Ok.exb ?_ _))))⟩
    · have e1 : (x.act == 1) = false := by rw [beq_eq_false_iff_ne]; exact h1
      by_cases h2 : x.act = 2
      · have HR : Hid (cuTx x = x.id ++ ⟨#[32]⟩ ++ decS x.t ++ ⟨#[32]⟩ ++ x.tg ++ ⟨#[32, 102, 97, 100, 101, 32]⟩ ++ decS x.v ++ ⟨#[32]⟩ ++ decS x.ln) := hid (by unfold cuTx; rw [if_neg h1, if_pos h2]; rfl)
        have e2 : (x.act == 2) = true := by rw [beq_iff_eq]; exact h2
        clear h1 h2
        go_enter Tryd.func8, Tryd.ntmps8
        go_wp2_with (go_at_call 14; (with_reducible refine (iVC_any x _ hs1 hs2 (HX.out)).mono ?_); rintro e w' ⟨rfl, k, rfl⟩)
        (refine wp_region_ex (by kernel_rfl) (by kernel_rfl) ?_; (repeat (go_big_quiet_step (((go_at_call 15; exact calls_ex (idec_any _ _ (by omega) (by omega))))))); refine wpQuiet_nil ?_; rintro _ ⟨k, rfl⟩)
        go_wp2
        (refine wp_region_ex (by kernel_rfl) (by kernel_rfl) ?_; (repeat (go_big_quiet_step (((go_at_call 15; exact calls_ex (idec_any _ _ (by omega) (by omega))))))); refine wpQuiet_nil ?_; rintro _ ⟨k, rfl⟩)
        go_wp2
        go_ret
        exact ⟨by rw [HC.out, HR.out]; rfl, by (refine Ok.toEx ?_; (repeat (first | (with_reducible exact Ok.rf _) | (with_reducible refine Ok.alloc ?_ _) | (with_reducible refine Ok.ex ?_ _) | (with_reducible refine Ok.drew ?_) | (with_reducible refine Ok.setCellI ?_ _ _ _) | (with_reducible refine Ok.exb ?_ _))))⟩
      · have HR : Hid (cuTx x = x.id ++ ⟨#[32]⟩ ++ decS x.t ++ ⟨#[32]⟩ ++ x.tg ++ ⟨#[32, 115, 116, 111, 112]⟩) := hid (by unfold cuTx; rw [if_neg h1, if_neg h2]; rfl)
        have e2 : (x.act == 2) = false := by rw [beq_eq_false_iff_ne]; exact h2
        clear h1 h2
        go_enter Tryd.func8, Tryd.ntmps8
        go_wp2_with (go_at_call 14; (with_reducible refine (iVC_any x _ hs1 hs2 (HX.out)).mono ?_); rintro e w' ⟨rfl, k, rfl⟩)
        (refine wp_region_ex (by kernel_rfl) (by kernel_rfl) ?_; (repeat (go_big_quiet_step (((go_at_call 15; exact calls_ex (idec_any _ _ (by omega) (by omega))))))); refine wpQuiet_nil ?_; rintro _ ⟨k, rfl⟩)
        go_wp2
        go_ret
        exact ⟨by rw [HC.out, HR.out]; rfl, by (refine Ok.toEx ?_; (repeat (first | (with_reducible exact Ok.rf _) | (with_reducible refine Ok.alloc ?_ _) | (with_reducible refine Ok.ex ?_ _) | (with_reducible refine Ok.drew ?_) | (with_reducible refine Ok.setCellI ?_ _ _ _) | (with_reducible refine Ok.exb ?_ _))))⟩
theorem sctext_any (x : Cu) (w : World) (hx : x.ok) {r : ByteArray} (hr : ctR x = r) :
    Calls Tryd.prog 6 #[.agg #[.string x.id, .int .i64 x.t, .int .i64 x.ln, .string x.tg, .int .i64 x.act, .int .i64 x.v]] w fun e w' => e = .returned (.string r) ∧ ∃ k : Ex w, w' = k.v := by
  subst hr
  obtain ⟨hz1, hz2, ht, hl, -, hv⟩ := hx
  have hs1 : x.id.size ≤ maxLen := hz1
  have hs2 : x.tg.size ≤ maxLen := hz2
  cases hvc : vC x
  · have HR : Hid (ctR x = ⟨#[]⟩) := hid (by unfold ctR; rw [hvc]; rfl)
    have HX := hid hvc
    clear hvc
    go_enter Tryd.func6, Tryd.ntmps6
    go_wp2_with (go_at_call 12; (with_reducible refine (sOne_any x _ 0 _ ?_ hs1 hs2 (HX.out)).mono ?_); (· exact ⟨by simp [go_sem], by simp [go_sem], by simp [go_sem], by simp [go_sem], by simp [go_sem], by simp [go_sem]⟩); rintro e w' ⟨rfl, k, rfl⟩)
    go_ret
    exact ⟨by rw [HR.out]; rfl, by (refine Ok.toEx ?_; (repeat (first | (with_reducible exact Ok.rf _) | (with_reducible refine Ok.alloc ?_ _) | (with_reducible refine Ok.ex ?_ _) | (with_reducible refine Ok.drew ?_) | (with_reducible refine Ok.setCellI ?_ _ _ _) | (with_reducible refine Ok.exb ?_ _))))⟩
  · have HX := hid hvc
    obtain ⟨⟨hn1, -⟩, ⟨hn2, -⟩, -⟩ := vC_of hvc
    have HC : Hid (ctR x = cuTx x) := hid (by unfold ctR; rw [if_pos hvc])
    clear hvc
    go_enter Tryd.func6, Tryd.ntmps6
    go_wp2_with (first | (go_at_call 12; (with_reducible refine (sOne_any x _ 0 _ ?_ hs1 hs2 (HX.out)).mono ?_); (· exact ⟨by simp [go_sem], by simp [go_sem], by simp [go_sem], by simp [go_sem], by simp [go_sem], by simp [go_sem]⟩); rintro e w' ⟨rfl, k, rfl⟩) | (go_at_call 13; go_loud ((with_reducible refine (stext_any x _ _ ?_ ht hv hl ?_ ?_).mono ?_); (· exact ⟨by simp [go_sem], by simp [go_sem], by simp [go_sem], by simp [go_sem], by simp [go_sem], by simp [go_sem]⟩); (· omega); (· omega); rintro e w' ⟨rfl, k2, rfl⟩)))
    go_ret
    exact ⟨by rw [HC.out]; rfl, by (refine Ok.toEx ?_; (repeat (first | (with_reducible exact Ok.rf _) | (with_reducible refine Ok.alloc ?_ _) | (with_reducible refine Ok.ex ?_ _) | (with_reducible refine Ok.drew ?_) | (with_reducible refine Ok.setCellI ?_ _ _ _) | (with_reducible refine Ok.exb ?_ _))))⟩
theorem lCueText (x : Cu) (w : World) [Tb w] (hx : x.ok) :
    Calls Tryd.prog 3 #[.agg #[.string x.id, .int .i64 x.t, .int .i64 x.ln, .string x.tg, .int .i64 x.act, .int .i64 x.v]] w fun e w' => e = .returned (.bool true) ∧ ∃ k : Ex w, w' = k.v := by
  obtain ⟨hc1, hc2, -⟩ := id hx
  obtain ⟨r, hr⟩ : ∃ r, ctR x = r := ⟨_, rfl⟩
  have HR := hid hr
  clear hr
  go_enter Tryd.func3, Tryd.ntmps3
  go_wp2_with (go_at_call 5; go_loud ((with_reducible refine (szCue_any x _ _ hc1 hc2 ?_ ?_).mono ?_); (· omega); (· omega); rintro e w' ⟨mm, rfl, ⟨hn1, hn2, hn3⟩, kz, rfl⟩; have hn3 := hid hn3))
  · (go_ret; refine ⟨by first | rfl | (simp; done), ?_⟩; (refine Ok.toEx ?_; (repeat (first | (with_reducible exact Ok.rf _) | (with_reducible refine Ok.alloc ?_ _) | (with_reducible refine Ok.ex ?_ _) | (with_reducible refine Ok.drew ?_) | (with_reducible refine Ok.setCellI ?_ _ _ _) | (with_reducible refine Ok.exb ?_ _)))))
  go_wp2_with (first | (go_at_call 7; (with_reducible refine (toCue_any _ _).mono ?_); rintro e w' ⟨rfl, kt, rfl⟩) | (go_at_call 6; go_loud ((refine (sctext_any x _ hx HR.out).mono ?_); rintro e w' ⟨rfl, k1, rfl⟩)) | (go_at_call 8; go_loud ((refine (itext_any x _ hx HR.out).mono ?_); rintro e w' ⟨rfl, k2, rfl⟩)))
  all_goals (go_ret; refine ⟨by first | rfl | (simp; done), ?_⟩; (refine Ok.toEx ?_; (repeat (first | (with_reducible exact Ok.rf _) | (with_reducible refine Ok.alloc ?_ _) | (with_reducible refine Ok.ex ?_ _) | (with_reducible refine Ok.drew ?_) | (with_reducible refine Ok.setCellI ?_ _ _ _) | (with_reducible refine Ok.exb ?_ _)))))
end
end Go.Proofs.YtpodgojijkficaaDoor
