/-
  CueText: both, and its law. Conditions: those typed at each theorem.
-/
import Derived.Test.YtdhflckombkimaaDoorCuB
import Derived.Test.YtdhflckombkimaaDoorDec
import Derived.BigQuiet
namespace Go.Proofs.YtdhflckombkimaaDoor
open Go.RowKit
/-- the text of a cue -/
def cuS (x : Cu) : ByteArray := x.id ++ ⟨#[32]⟩ ++ decS x.t ++ ⟨#[32]⟩ ++ x.tg
def cuTx (x : Cu) : ByteArray := if x.act = 1 then cuS x ++ ⟨#[32, 115, 101, 116, 32]⟩ ++ decS x.v else if x.act = 2 then cuS x ++ ⟨#[32, 102, 97, 100, 101, 32]⟩ ++ decS x.v ++ ⟨#[32]⟩ ++ decS x.ln else cuS x ++ ⟨#[32, 115, 116, 111, 112]⟩
noncomputable def ctR (x : Cu) : ByteArray := if vC x = true then cuTx x else ⟨#[]⟩
theorem bsz (a : Array UInt8) : (⟨a⟩ : ByteArray).size = a.size := rfl
section
set_option maxHeartbeats 3200000
set_option maxRecDepth 20000
theorem itext_any (x : Cu) (w : World) [Tb w] (hx : x.ok) {r : ByteArray} (hr : ctR x = r) :
    Calls Tryd.prog 40 #[.agg #[.string x.id, .int .i64 x.t, .int .i64 x.ln, .string x.tg, .int .i64 x.act, .int .i64 x.v]] w fun e w' => e = .returned (.string r) ∧ ∃ k : Ex w, w' = k.v := by
  subst hr
  obtain ⟨hz1, hz2, ht, hl, -, hv⟩ := hx
  have hs1 : x.id.size ≤ maxLen := hz1
  have hs2 : x.tg.size ≤ maxLen := hz2
  cases hvc : vC x
  · have HR : Hid (ctR x = ⟨#[]⟩) := hid (by unfold ctR; rw [hvc]; rfl)
    have HX := hid hvc
    clear hvc
    go_enter Tryd.func40, Tryd.ntmps40
    go_wp2_with (go_at_call 39; (with_reducible refine (iVC_any x _ hs1 hs2 (HX.out)).mono ?_); rintro e w' ⟨rfl, k, rfl⟩)
    go_ret
    exact ⟨by rw [HR.out]; rfl, by (refine Ok.toEx ?_; (repeat (first | (with_reducible exact Ok.rf _) | (with_reducible refine Ok.alloc ?_ _) | (with_reducible refine Ok.ex ?_ _) | (with_reducible refine Ok.drew ?_) | (with_reducible refine Ok.setCellI ?_ _ _ _) | (with_reducible refine Ok.exb ?_ _))))⟩
  · have HX := hid hvc
    obtain ⟨⟨hn1, -⟩, ⟨hn2, -⟩, -⟩ := vC_of hvc
    have HC : Hid (ctR x = cuTx x) := hid (by unfold ctR; rw [if_pos hvc])
    clear hvc
    obtain ⟨ht1, ht2⟩ := ht
    obtain ⟨hv1, hv2⟩ := hv
    obtain ⟨hl1, hl2⟩ := hl
    (have q1 := decS_size ht1 ht2; have q2 := decS_size hv1 hv2; have q3 := decS_size hl1 hl2; have f1 := sadd (P := Tryd.prog) x.id ⟨#[32]⟩ (by simp only [ByteArray.size_append, bsz, List.size_toArray, List.length_cons, List.length_nil]; omega); have f2 := sadd (P := Tryd.prog) (x.id ++ ⟨#[32]⟩) (decS x.t) (by simp only [ByteArray.size_append, bsz, List.size_toArray, List.length_cons, List.length_nil]; omega); have f3 := sadd (P := Tryd.prog) (x.id ++ ⟨#[32]⟩ ++ decS x.t) ⟨#[32]⟩ (by simp only [ByteArray.size_append, bsz, List.size_toArray, List.length_cons, List.length_nil]; omega); have f4 := sadd (P := Tryd.prog) (x.id ++ ⟨#[32]⟩ ++ decS x.t ++ ⟨#[32]⟩) x.tg (by simp only [ByteArray.size_append, bsz, List.size_toArray, List.length_cons, List.length_nil]; omega);  have g1 := sadd (P := Tryd.prog) (x.id ++ ⟨#[32]⟩ ++ decS x.t ++ ⟨#[32]⟩ ++ x.tg) ⟨#[32, 115, 101, 116, 32]⟩ (by simp only [ByteArray.size_append, bsz, List.size_toArray, List.length_cons, List.length_nil]; omega); have g2 := sadd (P := Tryd.prog) (x.id ++ ⟨#[32]⟩ ++ decS x.t ++ ⟨#[32]⟩ ++ x.tg ++ ⟨#[32, 115, 101, 116, 32]⟩) (decS x.v) (by simp only [ByteArray.size_append, bsz, List.size_toArray, List.length_cons, List.length_nil]; omega);  have k1 := sadd (P := Tryd.prog) (x.id ++ ⟨#[32]⟩ ++ decS x.t ++ ⟨#[32]⟩ ++ x.tg) ⟨#[32, 102, 97, 100, 101, 32]⟩ (by simp only [ByteArray.size_append, bsz, List.size_toArray, List.length_cons, List.length_nil]; omega); have k2 := sadd (P := Tryd.prog) (x.id ++ ⟨#[32]⟩ ++ decS x.t ++ ⟨#[32]⟩ ++ x.tg ++ ⟨#[32, 102, 97, 100, 101, 32]⟩) (decS x.v) (by simp only [ByteArray.size_append, bsz, List.size_toArray, List.length_cons, List.length_nil]; omega); have k3 := sadd (P := Tryd.prog) (x.id ++ ⟨#[32]⟩ ++ decS x.t ++ ⟨#[32]⟩ ++ x.tg ++ ⟨#[32, 102, 97, 100, 101, 32]⟩ ++ decS x.v) ⟨#[32]⟩ (by simp only [ByteArray.size_append, bsz, List.size_toArray, List.length_cons, List.length_nil]; omega); have k4 := sadd (P := Tryd.prog) (x.id ++ ⟨#[32]⟩ ++ decS x.t ++ ⟨#[32]⟩ ++ x.tg ++ ⟨#[32, 102, 97, 100, 101, 32]⟩ ++ decS x.v ++ ⟨#[32]⟩) (decS x.ln) (by simp only [ByteArray.size_append, bsz, List.size_toArray, List.length_cons, List.length_nil]; omega);  have m1 := sadd (P := Tryd.prog) (x.id ++ ⟨#[32]⟩ ++ decS x.t ++ ⟨#[32]⟩ ++ x.tg) ⟨#[32, 115, 116, 111, 112]⟩ (by simp only [ByteArray.size_append, bsz, List.size_toArray, List.length_cons, List.length_nil]; omega))
    by_cases h1 : x.act = 1
    · have HR : Hid (cuTx x = x.id ++ ⟨#[32]⟩ ++ decS x.t ++ ⟨#[32]⟩ ++ x.tg ++ ⟨#[32, 115, 101, 116, 32]⟩ ++ decS x.v) := hid (by unfold cuTx; rw [if_pos h1]; rfl)
      have e1 : (x.act == 1) = true := by rw [beq_iff_eq]; exact h1
      clear h1
      go_enter Tryd.func40, Tryd.ntmps40
      go_wp2_with (go_at_call 39; (with_reducible refine (iVC_any x _ hs1 hs2 (HX.out)).mono ?_); rintro e w' ⟨rfl, k, rfl⟩)
      (refine wp_region_ex (by kernel_rfl) (by kernel_rfl) ?_; (repeat (go_big_quiet_step (((go_at_call 58; exact calls_ex (idec_any _ _ (by omega) (by omega))))))); refine wpQuiet_nil ?_; rintro _ ⟨k, rfl⟩)
      go_wp2_with ((go_at_call 58; refine (idec_any _ _ (by omega) (by omega)).mono ?_; rintro e w' ⟨rfl, k, rfl⟩))
      go_ret
      exact ⟨by rw [HC.out, HR.out]; rfl, by (refine Ok.toEx ?_; (repeat (first | (with_reducible exact Ok.rf _) | (with_reducible refine Ok.alloc ?_ _) | (with_reducible refine Ok.ex ?_ _) | (with_reducible refine Ok.drew ?_) | (with_reducible refine Ok.setCellI ?_ _ _ _) | (with_reducible refine Ok.exb ?_ _))))⟩
    · have e1 : (x.act == 1) = false := by rw [beq_eq_false_iff_ne]; exact h1
      by_cases h2 : x.act = 2
      · have HR : Hid (cuTx x = x.id ++ ⟨#[32]⟩ ++ decS x.t ++ ⟨#[32]⟩ ++ x.tg ++ ⟨#[32, 102, 97, 100, 101, 32]⟩ ++ decS x.v ++ ⟨#[32]⟩ ++ decS x.ln) := hid (by unfold cuTx; rw [if_neg h1, if_pos h2]; rfl)
        have e2 : (x.act == 2) = true := by rw [beq_iff_eq]; exact h2
        clear h1 h2
        go_enter Tryd.func40, Tryd.ntmps40
        go_wp2_with (go_at_call 39; (with_reducible refine (iVC_any x _ hs1 hs2 (HX.out)).mono ?_); rintro e w' ⟨rfl, k, rfl⟩)
        (refine wp_region_ex (by kernel_rfl) (by kernel_rfl) ?_; (repeat (go_big_quiet_step (((go_at_call 58; exact calls_ex (idec_any _ _ (by omega) (by omega))))))); refine wpQuiet_nil ?_; rintro _ ⟨k, rfl⟩)
        go_wp2
        (refine wp_region_ex (by kernel_rfl) (by kernel_rfl) ?_; (repeat (go_big_quiet_step (((go_at_call 58; exact calls_ex (idec_any _ _ (by omega) (by omega))))))); refine wpQuiet_nil ?_; rintro _ ⟨k, rfl⟩)
        go_wp2
        go_ret
        exact ⟨by rw [HC.out, HR.out]; rfl, by (refine Ok.toEx ?_; (repeat (first | (with_reducible exact Ok.rf _) | (with_reducible refine Ok.alloc ?_ _) | (with_reducible refine Ok.ex ?_ _) | (with_reducible refine Ok.drew ?_) | (with_reducible refine Ok.setCellI ?_ _ _ _) | (with_reducible refine Ok.exb ?_ _))))⟩
      · have HR : Hid (cuTx x = x.id ++ ⟨#[32]⟩ ++ decS x.t ++ ⟨#[32]⟩ ++ x.tg ++ ⟨#[32, 115, 116, 111, 112]⟩) := hid (by unfold cuTx; rw [if_neg h1, if_neg h2]; rfl)
        have e2 : (x.act == 2) = false := by rw [beq_eq_false_iff_ne]; exact h2
        clear h1 h2
        go_enter Tryd.func40, Tryd.ntmps40
        go_wp2_with (go_at_call 39; (with_reducible refine (iVC_any x _ hs1 hs2 (HX.out)).mono ?_); rintro e w' ⟨rfl, k, rfl⟩)
        (refine wp_region_ex (by kernel_rfl) (by kernel_rfl) ?_; (repeat (go_big_quiet_step (((go_at_call 58; exact calls_ex (idec_any _ _ (by omega) (by omega))))))); refine wpQuiet_nil ?_; rintro _ ⟨k, rfl⟩)
        go_wp2
        go_ret
        exact ⟨by rw [HC.out, HR.out]; rfl, by (refine Ok.toEx ?_; (repeat (first | (with_reducible exact Ok.rf _) | (with_reducible refine Ok.alloc ?_ _) | (with_reducible refine Ok.ex ?_ _) | (with_reducible refine Ok.drew ?_) | (with_reducible refine Ok.setCellI ?_ _ _ _) | (with_reducible refine Ok.exb ?_ _))))⟩
end
end Go.Proofs.YtdhflckombkimaaDoor
