/-
  CodeText: both, and its law. Conditions: those typed at each theorem.
-/
import Derived.Test.YtonmeffhelaohaaDoorTcPlain
import Derived.Test.YtonmeffhelaohaaDoorTcC
import Derived.Test.YtonmeffhelaohaaDoorTcE
import Derived.Test.YtonmeffhelaohaaDoorDec
import Derived.BigQuiet
namespace Go.Proofs.YtonmeffhelaohaaDoor
open Go.RowKit Tc
theorem bszT (a : Array UInt8) : (⟨a⟩ : ByteArray).size = a.size := rfl
/-- a number with two digits -/
def twoS (n : Int) : ByteArray := if n < 10 then (⟨#[48]⟩ : ByteArray) ++ decS n else decS n
/-- the text of a code -/
def cdS (h m s f r : Int) : ByteArray := twoS h ++ ⟨#[58]⟩ ++ twoS m ++ ⟨#[58]⟩ ++ twoS s ++ ⟨#[58]⟩ ++ twoS f ++ ⟨#[64]⟩ ++ decS r

def cdR (h m s f r : Int) : ByteArray := if okCode h m s f r then cdS h m s f r else ⟨#[]⟩
theorem rdig_one {u : Nat} (h0 : 0 < u) (h1 : u < 10) : (rdig u).length = 1 := by rw [rdig_pos h0, show u / 10 = 0 by omega, rdig_zero]; rfl
theorem rdig_two {u : Nat} (h0 : 10 ≤ u) (h1 : u < 100) : (rdig u).length = 2 := by rw [rdig_pos (by omega), List.length_cons, rdig_one (by omega) (by omega)]
theorem decS_len {n : Int} (h0 : 0 < n) : (decS n).size = (rdig n.natAbs).length := by
  show (Lib.itoa n).toArray.size = _
  rw [← rdec_itoa (by omega)]
  unfold rdec
  rw [if_neg (by omega)]
  simp [byteS_len]
theorem decS_one {n : Int} (h0 : 0 ≤ n) (h1 : n < 10) : (decS n).size = 1 := by
  by_cases hz : n = 0
  · subst hz; show (Lib.itoa 0).toArray.size = 1; rw [itoa_zero]; rfl
  · rw [decS_len (by omega), rdig_one (by omega) (by omega)]
theorem decS_two {n : Int} (h0 : 10 ≤ n) (h1 : n < 100) : (decS n).size = 2 := by
  rw [decS_len (by omega), rdig_two (by omega) (by omega)]
theorem twoS_size {n : Int} (h0 : 0 ≤ n) (h1 : n < 100) : (twoS n).size = 2 := by
  unfold twoS
  split
  · rw [ByteArray.size_append, decS_one h0 (by omega)]; rfl
  · exact decS_two (by omega) h1
section
set_option maxHeartbeats 3200000
set_option maxRecDepth 20000
theorem pad_any (n : Int) (w : World) [Tb w] (h0 : 0 ≤ n) (h1 : n < 100) :
    Calls Tryd.prog 48 #[.int .i64 n, .int .i64 2] w fun e w' => e = .returned (.string (twoS n)) ∧ ∃ k : Ex w, w' = k.v := by
  by_cases hn : n < 10
  · have hs := decS_one h0 hn
    have hr : Hid (twoS n = (⟨#[48]⟩ : ByteArray) ++ decS n) := hid (by unfold twoS; rw [if_pos hn])
    have hs2 : ((⟨#[48]⟩ : ByteArray) ++ decS n).size = 2 := by rw [ByteArray.size_append, hs]; rfl
    have f1 := sadd (P := Tryd.prog) ⟨#[48]⟩ (decS n) (by rw [hs, bszT]; simp)
    go_enter Tryd.func48, Tryd.ntmps48
    go_wp2_with ((go_at_call 37; refine (idec_any _ _ (by omega) (by omega)).mono ?_; rintro e w' ⟨rfl, k, rfl⟩))
    go_loopw [5] (fun t wr => ∃ q : Nat, q ≤ 1 ∧ t = .string (if q = 0 then decS n else ⟨#[48]⟩ ++ decS n) ∧ ∃ j : Ex w, wr = j.v) (fun t _ => match t with | .string s => 2 - s.size | _ => 0)
    case atStart => exact ⟨0, by omega, rfl, k, rfl⟩
    case round =>
      obtain ⟨q, hq, rfl, j0, rfl⟩ := hrel
      rcases Nat.lt_or_ge 0 q with h | h
      · obtain rfl : q = 1 := by omega
        go_wp2
        go_ret
        exact ⟨by rw [hr.out]; rfl, by (refine Ok.toEx ?_; (repeat (first | (with_reducible exact Ok.rf _) | (with_reducible refine Ok.alloc ?_ _) | (with_reducible refine Ok.ex ?_ _) | (with_reducible refine Ok.drew ?_) | (with_reducible refine Ok.setCellI ?_ _ _ _) | (with_reducible refine Ok.exb ?_ _))))⟩
      · obtain rfl : q = 0 := by omega
        go_wp2
        go_roundw
        case rel => exact ⟨1, by omega, rfl, j0, rfl⟩
        case measure => simp [hs, hs2]
  · have hs := decS_two (n := n) (by omega) h1
    have hr : Hid (twoS n = decS n) := hid (by unfold twoS; rw [if_neg hn])
    go_enter Tryd.func48, Tryd.ntmps48
    go_wp2_with ((go_at_call 37; refine (idec_any _ _ (by omega) (by omega)).mono ?_; rintro e w' ⟨rfl, k, rfl⟩))
    go_loopw [5] (fun t wr => t = .string (decS n) ∧ ∃ j : Ex w, wr = j.v) (fun t _ => 0)
    case atStart => exact ⟨rfl, k, rfl⟩
    case round =>
      obtain ⟨rfl, j0, rfl⟩ := hrel
      go_wp2
      go_ret
      exact ⟨by rw [hr.out]; rfl, by (refine Ok.toEx ?_; (repeat (first | (with_reducible exact Ok.rf _) | (with_reducible refine Ok.alloc ?_ _) | (with_reducible refine Ok.ex ?_ _) | (with_reducible refine Ok.drew ?_) | (with_reducible refine Ok.setCellI ?_ _ _ _) | (with_reducible refine Ok.exb ?_ _))))⟩
theorem stwo_any (n : Int) (w : World) (h0 : 0 ≤ n) (h1 : n < 100) :
    Calls Tryd.prog 42 #[.int .i64 n] w fun e w' => e = .returned (.string (twoS n)) ∧ ∃ k : Ex w, w' = k.v := by
  by_cases hn : n < 10
  · have hs := decS_one h0 hn
    have hr : Hid (twoS n = (⟨#[48]⟩ : ByteArray) ++ decS n) := hid (by unfold twoS; rw [if_pos hn])
    have f1 := sadd (P := Tryd.prog) ⟨#[48]⟩ (decS n) (by rw [hs, bszT]; simp)
    go_enter Tryd.func42, Tryd.ntmps42
    go_wp2_with ((go_at_call 43; refine (sdec_any _ _ (by omega) (by omega)).mono ?_; rintro e w' ⟨rfl, k, rfl⟩))
    go_ret
    exact ⟨by rw [hr.out]; rfl, by (refine Ok.toEx ?_; (repeat (first | (with_reducible exact Ok.rf _) | (with_reducible refine Ok.alloc ?_ _) | (with_reducible refine Ok.ex ?_ _) | (with_reducible refine Ok.drew ?_) | (with_reducible refine Ok.setCellI ?_ _ _ _) | (with_reducible refine Ok.exb ?_ _))))⟩
  · have hr : Hid (twoS n = decS n) := hid (by unfold twoS; rw [if_neg hn])
    go_enter Tryd.func42, Tryd.ntmps42
    go_wp2_with ((go_at_call 43; refine (sdec_any _ _ (by omega) (by omega)).mono ?_; rintro e w' ⟨rfl, k, rfl⟩))
    go_ret
    exact ⟨by rw [hr.out]; rfl, by (refine Ok.toEx ?_; (repeat (first | (with_reducible exact Ok.rf _) | (with_reducible refine Ok.alloc ?_ _) | (with_reducible refine Ok.ex ?_ _) | (with_reducible refine Ok.drew ?_) | (with_reducible refine Ok.setCellI ?_ _ _ _) | (with_reducible refine Ok.exb ?_ _))))⟩
theorem cdtext_any (b : Nat) (h m s f r : Int) (w : World) (hc : AtCode w b h m s f r) (hk : okCode h m s f r) :
    Calls Tryd.prog 22 #[.pointer (some ⟨b, 0, none⟩)] w fun e w' => e = .returned (.string (cdS h m s f r)) ∧ ∃ k : Ex w, w' = k.v := by
  obtain ⟨lt, c0, c1, c2, c3, c4⟩ := hc
  obtain ⟨hr, a1, a2, a3, a4, a5, a6, a7, a8, -⟩ := hk
  obtain ⟨r1, r2⟩ := okRate_bd hr
  (have q1 := twoS_size (n := h) (by omega) (by omega); have q2 := twoS_size (n := m) (by omega) (by omega); have q3 := twoS_size (n := s) (by omega) (by omega); have q4 := twoS_size (n := f) (by omega) (by omega); have q5 := decS_size (n := r) (by omega) (by omega);  have f1 := sadd (P := Tryd.prog) (twoS h) ⟨#[58]⟩ (by simp only [ByteArray.size_append, bszT, List.size_toArray, List.length_cons, List.length_nil]; omega); have f2 := sadd (P := Tryd.prog) (twoS h ++ ⟨#[58]⟩) (twoS m) (by simp only [ByteArray.size_append, bszT, List.size_toArray, List.length_cons, List.length_nil]; omega); have f3 := sadd (P := Tryd.prog) (twoS h ++ ⟨#[58]⟩ ++ twoS m) ⟨#[58]⟩ (by simp only [ByteArray.size_append, bszT, List.size_toArray, List.length_cons, List.length_nil]; omega); have f4 := sadd (P := Tryd.prog) (twoS h ++ ⟨#[58]⟩ ++ twoS m ++ ⟨#[58]⟩) (twoS s) (by simp only [ByteArray.size_append, bszT, List.size_toArray, List.length_cons, List.length_nil]; omega); have f5 := sadd (P := Tryd.prog) (twoS h ++ ⟨#[58]⟩ ++ twoS m ++ ⟨#[58]⟩ ++ twoS s) ⟨#[58]⟩ (by simp only [ByteArray.size_append, bszT, List.size_toArray, List.length_cons, List.length_nil]; omega);  have f6 := sadd (P := Tryd.prog) (twoS h ++ ⟨#[58]⟩ ++ twoS m ++ ⟨#[58]⟩ ++ twoS s ++ ⟨#[58]⟩) (twoS f) (by simp only [ByteArray.size_append, bszT, List.size_toArray, List.length_cons, List.length_nil]; omega); have f7 := sadd (P := Tryd.prog) (twoS h ++ ⟨#[58]⟩ ++ twoS m ++ ⟨#[58]⟩ ++ twoS s ++ ⟨#[58]⟩ ++ twoS f) ⟨#[64]⟩ (by simp only [ByteArray.size_append, bszT, List.size_toArray, List.length_cons, List.length_nil]; omega); have f8 := sadd (P := Tryd.prog) (twoS h ++ ⟨#[58]⟩ ++ twoS m ++ ⟨#[58]⟩ ++ twoS s ++ ⟨#[58]⟩ ++ twoS f ++ ⟨#[64]⟩) (decS r) (by simp only [ByteArray.size_append, bszT, List.size_toArray, List.length_cons, List.length_nil]; omega))
  go_enter Tryd.func22, Tryd.ntmps22
  go_wp2
  (refine wp_region_ex (by kernel_rfl) (by kernel_rfl) ?_; (repeat (go_big_quiet_step (((first | (go_at_call 42; exact calls_ex (stwo_any _ _ (by omega) (by omega))) | (go_at_call 43; exact calls_ex (sdec_any _ _ (by omega) (by omega)))))))); refine wpQuiet_nil ?_; rintro _ ⟨k, rfl⟩)
  go_wp2
  go_ret
  exact ⟨by rfl, by (refine Ok.toEx ?_; (repeat (first | (with_reducible exact Ok.rf _) | (with_reducible refine Ok.alloc ?_ _) | (with_reducible refine Ok.ex ?_ _) | (with_reducible refine Ok.drew ?_) | (with_reducible refine Ok.setCellI ?_ _ _ _) | (with_reducible refine Ok.exb ?_ _))))⟩
theorem icdtext_any (h m s f r : Int) (w : World) [Tb w] {R : ByteArray} (hR : cdR h m s f r = R) :
    Calls Tryd.prog 25 #[.agg #[.int .i64 h, .int .i64 m, .int .i64 s, .int .i64 f, .int .i64 r]] w fun e w' => e = .returned (.string R) ∧ ∃ k : Ex w, w' = k.v := by
  subst hR
  by_cases hk : okCode h m s f r
  · have HR : Hid (cdR h m s f r = cdS h m s f r) := hid (by unfold cdR; rw [if_pos hk])
    have HK := hid hk
    obtain ⟨hr, a1, a2, a3, a4, a5, a6, a7, a8, -⟩ := hk
    obtain ⟨r1, r2⟩ := okRate_bd hr
    (have q1 := twoS_size (n := h) (by omega) (by omega); have q2 := twoS_size (n := m) (by omega) (by omega); have q3 := twoS_size (n := s) (by omega) (by omega); have q4 := twoS_size (n := f) (by omega) (by omega); have q5 := decS_size (n := r) (by omega) (by omega);  have f1 := sadd (P := Tryd.prog) (twoS h) ⟨#[58]⟩ (by simp only [ByteArray.size_append, bszT, List.size_toArray, List.length_cons, List.length_nil]; omega); have f2 := sadd (P := Tryd.prog) (twoS h ++ ⟨#[58]⟩) (twoS m) (by simp only [ByteArray.size_append, bszT, List.size_toArray, List.length_cons, List.length_nil]; omega); have f3 := sadd (P := Tryd.prog) (twoS h ++ ⟨#[58]⟩ ++ twoS m) ⟨#[58]⟩ (by simp only [ByteArray.size_append, bszT, List.size_toArray, List.length_cons, List.length_nil]; omega); have f4 := sadd (P := Tryd.prog) (twoS h ++ ⟨#[58]⟩ ++ twoS m ++ ⟨#[58]⟩) (twoS s) (by simp only [ByteArray.size_append, bszT, List.size_toArray, List.length_cons, List.length_nil]; omega); have f5 := sadd (P := Tryd.prog) (twoS h ++ ⟨#[58]⟩ ++ twoS m ++ ⟨#[58]⟩ ++ twoS s) ⟨#[58]⟩ (by simp only [ByteArray.size_append, bszT, List.size_toArray, List.length_cons, List.length_nil]; omega);  have f6 := sadd (P := Tryd.prog) (twoS h ++ ⟨#[58]⟩ ++ twoS m ++ ⟨#[58]⟩ ++ twoS s ++ ⟨#[58]⟩) (twoS f) (by simp only [ByteArray.size_append, bszT, List.size_toArray, List.length_cons, List.length_nil]; omega); have f7 := sadd (P := Tryd.prog) (twoS h ++ ⟨#[58]⟩ ++ twoS m ++ ⟨#[58]⟩ ++ twoS s ++ ⟨#[58]⟩ ++ twoS f) ⟨#[64]⟩ (by simp only [ByteArray.size_append, bszT, List.size_toArray, List.length_cons, List.length_nil]; omega); have f8 := sadd (P := Tryd.prog) (twoS h ++ ⟨#[58]⟩ ++ twoS m ++ ⟨#[58]⟩ ++ twoS s ++ ⟨#[58]⟩ ++ twoS f ++ ⟨#[64]⟩) (decS r) (by simp only [ByteArray.size_append, bszT, List.size_toArray, List.length_cons, List.length_nil]; omega))
    go_enter Tryd.func25, Tryd.ntmps25
    go_wp2_with ((go_at_call 24; refine (valid_yes _ _ _ _ _ _ HK.out).mono ?_; rintro e w' ⟨rfl, k, rfl⟩))
    (refine wp_region_ex (by kernel_rfl) (by kernel_rfl) ?_; (repeat (go_big_quiet_step (((first | (go_at_call 48; exact calls_ex (pad_any _ _ (by omega) (by omega))) | (go_at_call 37; exact calls_ex (idec_any _ _ (by omega) (by omega)))))))); refine wpQuiet_nil ?_; rintro _ ⟨k, rfl⟩)
    go_wp2
    go_ret
    exact ⟨by rw [HR.out]; rfl, by (refine Ok.toEx ?_; (repeat (first | (with_reducible exact Ok.rf _) | (with_reducible refine Ok.alloc ?_ _) | (with_reducible refine Ok.ex ?_ _) | (with_reducible refine Ok.drew ?_) | (with_reducible refine Ok.setCellI ?_ _ _ _) | (with_reducible refine Ok.exb ?_ _))))⟩
  · have HR : Hid (cdR h m s f r = ⟨#[]⟩) := hid (by unfold cdR; rw [if_neg hk])
    have HK := hid hk
    clear hk
    go_enter Tryd.func25, Tryd.ntmps25
    go_wp2_with ((go_at_call 24; refine (valid_no _ _ _ _ _ _ HK.out).mono ?_; rintro e w' ⟨rfl, k, rfl⟩))
    go_ret
    exact ⟨by rw [HR.out]; rfl, by (refine Ok.toEx ?_; (repeat (first | (with_reducible exact Ok.rf _) | (with_reducible refine Ok.alloc ?_ _) | (with_reducible refine Ok.ex ?_ _) | (with_reducible refine Ok.drew ?_) | (with_reducible refine Ok.setCellI ?_ _ _ _) | (with_reducible refine Ok.exb ?_ _))))⟩
end
end Go.Proofs.YtonmeffhelaohaaDoor
