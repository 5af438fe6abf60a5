/-
  Numbers in decimal: both. Conditions: those typed at each theorem.
  CueText: both, and its law. Conditions: those typed at each theorem.
  What of the library's variables lies in memory: the errors of strconv, the greatest length of a short search. Conditions: those typed at each theorem.
-/
import Derived.Test.YtdhflckombkimaaGreatDoorJ2
import Derived.Test.YtdhflckombkimaaGreatDoorJ11
import Derived.Test.YtdhflckombkimaaGreatDoorShelf
import Derived.Lib.AppendIntMem
import Derived.Lib.ItoaNum
import Derived.Laws.BytesArg
import Derived.Laws.Concat
import Derived.Test.YtdhflckombkimaaGreatDoorJ8
import Derived.BigQuiet
namespace Go.Proofs.YtdhflckombkimaaGreatDoor
open Go.RowKit
/-- the library's powers of ten lie in memory -/
class Tb (w : World) : Prop where h : Lib.TabIs Tryz.prog w "internal/strconv.uint64pow10" .u64 Lib.pow10Tab
theorem var_keep {P : Program} {w w' : World} {n : String} {cs : Array Value} (h : w.var? P n = some cs) (hk : ∀ g, g < w.heap.size → w'.heap[g]? = w.heap[g]?) : w'.var? P n = some cs := by
  unfold World.var? at h ⊢
  cases hg : P.globalNamed n with
  | none => simp [hg] at h
  | some g =>
    simp only [hg, Option.bind_some] at h ⊢
    have hlt : g < w.heap.size := by
      rcases Nat.lt_or_ge g w.heap.size with h1 | h1
      · exact h1
      · rw [Array.getElem?_eq_none h1] at h; cases h
    rw [hk g hlt]
    exact h
section
variable {w : World}
instance (priority := 900) Tb.ex [h : Tb w] (k : Ex w) : Tb k.v := ⟨var_keep h.h fun _ hg => k.block hg⟩
instance (priority := 900) Tb.alloc [h : Tb w] (o : Obj) : Tb (w.alloc o) := Tb.ex (h := h) (Ex.of ((Below.refl _ _).alloc (Nat.le_refl _) o))
instance (priority := 900) Tb.drew [h : Tb w] : Tb w.drew := Tb.ex (h := h) (Ex.of (Below.refl _ _).drew)
end
/-- a number in decimal -/
def decS (n : Int) : ByteArray := ⟨(Lib.itoa n).toArray⟩
/-- the digits of u as bytes, the last ahead -/
def rdig (u : Nat) : List Int := if u = 0 then [] else (48 + (u % 10 : Nat) : Int) :: rdig (u / 10)
termination_by u
decreasing_by omega
theorem rdig_zero : rdig 0 = [] := by rw [rdig, if_pos rfl]
theorem rdig_pos {u : Nat} (h : 0 < u) : rdig u = (48 + (u % 10 : Nat) : Int) :: rdig (u / 10) := by rw [rdig, if_neg (by omega)]
theorem rdig_len (u : Nat) : ∀ k, u < 10 ^ k → (rdig u).length ≤ k := by
  intro k
  induction k generalizing u with
  | zero => intro h; obtain rfl : u = 0 := by simpa using h
            rw [rdig_zero]; simp
  | succ k ih =>
    intro h
    rcases Nat.eq_zero_or_pos u with rfl | h0
    · rw [rdig_zero]; simp
    · rw [rdig_pos h0]
      have := ih (u / 10) (by rw [Nat.pow_succ] at h; omega)
      simp; omega
/-- bytes given as numbers -/
def byteS (l : List Int) : List UInt8 := l.map fun n => UInt8.ofNat n.toNat
theorem dig_byte (x : Nat) : UInt8.ofNat (48 + (x : Int)).toNat = UInt8.ofNat (48 + x) := by rw [show (48 + (x : Int)).toNat = 48 + x by omega]
theorem byteS_snoc (l : List Int) (x : Nat) : byteS ((48 + (x : Int)) :: l).reverse = byteS l.reverse ++ [UInt8.ofNat (48 + x)] := by
  rw [List.reverse_cons, byteS, List.map_append, List.map_singleton, dig_byte]
  rfl
theorem rdig_dec (u : Nat) (h : 0 < u) : byteS (rdig u).reverse = Lib.decDigits u := by
  induction u using Nat.strongRecOn with
  | _ u ih =>
    rw [rdig_pos h, Lib.decDigits, byteS_snoc]
    by_cases h10 : u < 10
    · rw [dif_pos h10, show u / 10 = 0 by omega, rdig_zero, Nat.mod_eq_of_lt h10]
      rfl
    · rw [dif_neg h10, ← ih (u / 10) (by omega) (by omega)]
/-- what l01Dec appends, the last byte ahead -/
def rdec (n : Int) : List Int := if n < 0 then rdig n.natAbs ++ [45] else rdig n.natAbs
theorem rdec_len {n : Int} (h0 : -9223372036854775808 ≤ n) (h1 : n ≤ 9223372036854775807) : (rdec n).length ≤ 30 := by
  have := rdig_len n.natAbs 20 (by omega)
  unfold rdec
  split <;> simp <;> omega
theorem rdec_itoa {n : Int} (h : n ≠ 0) : byteS (rdec n).reverse = Lib.itoa n := by
  unfold rdec Lib.itoa
  by_cases h0 : n < 0
  · rw [if_pos h0, if_pos h0, List.reverse_append, ← rdig_dec n.natAbs (by omega)]
    rfl
  · rw [if_neg h0, if_neg h0, show n.toNat = n.natAbs by omega, rdig_dec _ (by omega)]
theorem itoa_zero : Lib.itoa 0 = [48] := by
  unfold Lib.itoa
  rw [if_neg (by omega), Lib.decDigits]
  rfl
section
set_option maxHeartbeats 3200000
set_option maxRecDepth 20000
theorem idec_any (n : Int) (w : World) [ht : Tb w] (h0 : -9223372036854775808 ≤ n) (h1 : n ≤ 9223372036854775807) :
    Calls Tryz.prog 30 #[.int .i64 n] w fun e w' => e = .returned (.string (decS n)) ∧ ∃ k : Ex w, w' = k.v := by
  have HT := hid ht.h
  go_enter Tryz.func30, Tryz.ntmps30
  go_wp2_with (go_at_call 44; go_loud (refine (Tryz.strconv_FormatInt_10 n h0 h1 _ HT.out).mono ?_; rintro e w' ⟨rfl, k, os, rfl⟩))
  go_ret
  exact ⟨rfl, ⟨_, Lib.below_grow _ _ (Nat.le_refl _) _ _⟩, rfl⟩
/-- the cell of a byte -/
def ubC (x : Int) : List Value := [.int .u8 x]
theorem infoU8 : (Tryz.prog.info? 5).map (fun i => (i.zero, i.size, i.bytes)) = some (some (.int .u8 0), 1, 1) := by kernel_rfl
theorem t10 (m : Int) : ∃ r q : Int, m.tmod 10 = r ∧ m.tdiv 10 = q ∧ r.natAbs = m.natAbs % 10 ∧ q.natAbs = m.natAbs / 10 ∧ (m ≤ 0 → r ≤ 0 ∧ q ≤ 0) ∧ (0 ≤ m → 0 ≤ r ∧ 0 ≤ q) := by
  rcases Int.le_total 0 m with h | h
  · refine ⟨_, _, rfl, rfl, ?_⟩
    rw [Int.tmod_eq_emod_of_nonneg h, Int.tdiv_eq_ediv_of_nonneg h]
    omega
  · obtain ⟨k, rfl⟩ : ∃ k : Int, m = -k := ⟨-m, by omega⟩
    refine ⟨_, _, rfl, rfl, ?_⟩
    rw [Int.neg_tmod, Int.neg_tdiv, Int.tmod_eq_emod_of_nonneg (by omega), Int.tdiv_eq_ediv_of_nonneg (by omega)]
    omega
end
theorem byteS_len (l : List Int) : (byteS l).length = l.length := by simp [byteS]
theorem decS_size {n : Int} (h0 : -9223372036854775808 ≤ n) (h1 : n ≤ 9223372036854775807) : (decS n).size ≤ 30 := by
  show (Lib.itoa n).toArray.size ≤ 30
  by_cases hz : n = 0
  · subst hz; rw [itoa_zero]; simp
  · have := rdec_len h0 h1
    rw [← rdec_itoa hz]
    simp [byteS_len]
    exact this
theorem sadd {P : Program} (a b : ByteArray) (h : a.size + b.size ≤ 10000000) (w : World) : (Op.stringOp .add a b).run P w = .ok (.string (a ++ b)) w := run_string_add_sum w a b (by omega)
end Go.Proofs.YtdhflckombkimaaGreatDoor
namespace Go.Proofs.YtdhflckombkimaaGreatDoor
open Go.RowKit
/-- the text of a cue -/
def cuS (x : Cu) : ByteArray := x.id ++ ⟨#[32]⟩ ++ decS x.t ++ ⟨#[32]⟩ ++ x.tg
def cuTx (x : Cu) : ByteArray := if x.act = 1 then cuS x ++ ⟨#[32, 115, 101, 116, 32]⟩ ++ decS x.v else if x.act = 2 then cuS x ++ ⟨#[32, 102, 97, 100, 101, 32]⟩ ++ decS x.v ++ ⟨#[32]⟩ ++ decS x.ln else cuS x ++ ⟨#[32, 115, 116, 111, 112]⟩
noncomputable def ctR (x : Cu) : ByteArray := if vC x = true then cuTx x else ⟨#[]⟩
theorem bsz (a : Array UInt8) : (⟨a⟩ : ByteArray).size = a.size := rfl
section
set_option maxHeartbeats 3200000
set_option maxRecDepth 20000
theorem itext_any (x : Cu) (w : World) [Tb w] (hx : x.ok) {r : ByteArray} (hr : ctR x = r) :
    Calls Tryz.prog 13 #[.agg #[.string x.id, .int .i64 x.t, .int .i64 x.ln, .string x.tg, .int .i64 x.act, .int .i64 x.v]] w fun e w' => e = .returned (.string r) ∧ ∃ k : Ex w, w' = k.v := by
  subst hr
  obtain ⟨hz1, hz2, ht, hl, -, hv⟩ := hx
  have hs1 : x.id.size ≤ maxLen := hz1
  have hs2 : x.tg.size ≤ maxLen := hz2
  cases hvc : vC x
  · have HR : Hid (ctR x = ⟨#[]⟩) := hid (by unfold ctR; rw [hvc]; rfl)
    have HX := hid hvc
    clear hvc
    go_enter Tryz.func13, Tryz.ntmps13
    go_wp2_with (go_at_call 22; (with_reducible refine (iVC_any x _ hs1 hs2 (HX.out)).mono ?_); rintro e w' ⟨rfl, k, rfl⟩)
    go_ret
    exact ⟨by rw [HR.out]; rfl, by (refine Ok.toEx ?_; (repeat (first | (with_reducible exact Ok.rf _) | (with_reducible refine Ok.alloc ?_ _) | (with_reducible refine Ok.ex ?_ _) | (with_reducible refine Ok.drew ?_) | (with_reducible refine Ok.setCellI ?_ _ _ _) | (with_reducible refine Ok.exb ?_ _))))⟩
  · have HX := hid hvc
    obtain ⟨⟨hn1, -⟩, ⟨hn2, -⟩, -⟩ := vC_of hvc
    have HC : Hid (ctR x = cuTx x) := hid (by unfold ctR; rw [if_pos hvc])
    clear hvc
    obtain ⟨ht1, ht2⟩ := ht
    obtain ⟨hv1, hv2⟩ := hv
    obtain ⟨hl1, hl2⟩ := hl
    (have q1 := decS_size ht1 ht2; have q2 := decS_size hv1 hv2; have q3 := decS_size hl1 hl2; have f1 := sadd (P := Tryz.prog) x.id ⟨#[32]⟩ (by simp only [ByteArray.size_append, bsz, List.size_toArray, List.length_cons, List.length_nil]; omega); have f2 := sadd (P := Tryz.prog) (x.id ++ ⟨#[32]⟩) (decS x.t) (by simp only [ByteArray.size_append, bsz, List.size_toArray, List.length_cons, List.length_nil]; omega); have f3 := sadd (P := Tryz.prog) (x.id ++ ⟨#[32]⟩ ++ decS x.t) ⟨#[32]⟩ (by simp only [ByteArray.size_append, bsz, List.size_toArray, List.length_cons, List.length_nil]; omega); have f4 := sadd (P := Tryz.prog) (x.id ++ ⟨#[32]⟩ ++ decS x.t ++ ⟨#[32]⟩) x.tg (by simp only [ByteArray.size_append, bsz, List.size_toArray, List.length_cons, List.length_nil]; omega);  have g1 := sadd (P := Tryz.prog) (x.id ++ ⟨#[32]⟩ ++ decS x.t ++ ⟨#[32]⟩ ++ x.tg) ⟨#[32, 115, 101, 116, 32]⟩ (by simp only [ByteArray.size_append, bsz, List.size_toArray, List.length_cons, List.length_nil]; omega); have g2 := sadd (P := Tryz.prog) (x.id ++ ⟨#[32]⟩ ++ decS x.t ++ ⟨#[32]⟩ ++ x.tg ++ ⟨#[32, 115, 101, 116, 32]⟩) (decS x.v) (by simp only [ByteArray.size_append, bsz, List.size_toArray, List.length_cons, List.length_nil]; omega);  have k1 := sadd (P := Tryz.prog) (x.id ++ ⟨#[32]⟩ ++ decS x.t ++ ⟨#[32]⟩ ++ x.tg) ⟨#[32, 102, 97, 100, 101, 32]⟩ (by simp only [ByteArray.size_append, bsz, List.size_toArray, List.length_cons, List.length_nil]; omega); have k2 := sadd (P := Tryz.prog) (x.id ++ ⟨#[32]⟩ ++ decS x.t ++ ⟨#[32]⟩ ++ x.tg ++ ⟨#[32, 102, 97, 100, 101, 32]⟩) (decS x.v) (by simp only [ByteArray.size_append, bsz, List.size_toArray, List.length_cons, List.length_nil]; omega); have k3 := sadd (P := Tryz.prog) (x.id ++ ⟨#[32]⟩ ++ decS x.t ++ ⟨#[32]⟩ ++ x.tg ++ ⟨#[32, 102, 97, 100, 101, 32]⟩ ++ decS x.v) ⟨#[32]⟩ (by simp only [ByteArray.size_append, bsz, List.size_toArray, List.length_cons, List.length_nil]; omega); have k4 := sadd (P := Tryz.prog) (x.id ++ ⟨#[32]⟩ ++ decS x.t ++ ⟨#[32]⟩ ++ x.tg ++ ⟨#[32, 102, 97, 100, 101, 32]⟩ ++ decS x.v ++ ⟨#[32]⟩) (decS x.ln) (by simp only [ByteArray.size_append, bsz, List.size_toArray, List.length_cons, List.length_nil]; omega);  have m1 := sadd (P := Tryz.prog) (x.id ++ ⟨#[32]⟩ ++ decS x.t ++ ⟨#[32]⟩ ++ x.tg) ⟨#[32, 115, 116, 111, 112]⟩ (by simp only [ByteArray.size_append, bsz, List.size_toArray, List.length_cons, List.length_nil]; omega))
    by_cases h1 : x.act = 1
    · have HR : Hid (cuTx x = x.id ++ ⟨#[32]⟩ ++ decS x.t ++ ⟨#[32]⟩ ++ x.tg ++ ⟨#[32, 115, 101, 116, 32]⟩ ++ decS x.v) := hid (by unfold cuTx; rw [if_pos h1]; rfl)
      have e1 : (x.act == 1) = true := by rw [beq_iff_eq]; exact h1
      clear h1
      go_enter Tryz.func13, Tryz.ntmps13
      go_wp2_with (go_at_call 22; (with_reducible refine (iVC_any x _ hs1 hs2 (HX.out)).mono ?_); rintro e w' ⟨rfl, k, rfl⟩)
      (refine wp_region_ex (by kernel_rfl) (by kernel_rfl) ?_; (repeat (go_big_quiet_step (((go_at_call 30; exact calls_ex (idec_any _ _ (by omega) (by omega))))))); refine wpQuiet_nil ?_; rintro _ ⟨k, rfl⟩)
      go_wp2_with ((go_at_call 30; refine (idec_any _ _ (by omega) (by omega)).mono ?_; rintro e w' ⟨rfl, k, rfl⟩))
      go_ret
      exact ⟨by rw [HC.out, HR.out]; rfl, by (refine Ok.toEx ?_; (repeat (first | (with_reducible exact Ok.rf _) | (with_reducible refine Ok.alloc ?_ _) | (with_reducible refine Ok.ex ?_ _) | (with_reducible refine Ok.drew ?_) | (with_reducible refine Ok.setCellI ?_ _ _ _) | (with_reducible refine Ok.exb ?_ _))))⟩
    · have e1 : (x.act == 1) = false := by rw [beq_eq_false_iff_ne]; exact h1
      by_cases h2 : x.act = 2
      · have HR : Hid (cuTx x = x.id ++ ⟨#[32]⟩ ++ decS x.t ++ ⟨#[32]⟩ ++ x.tg ++ ⟨#[32, 102, 97, 100, 101, 32]⟩ ++ decS x.v ++ ⟨#[32]⟩ ++ decS x.ln) := hid (by unfold cuTx; rw [if_neg h1, if_pos h2]; rfl)
        have e2 : (x.act == 2) = true := by rw [beq_iff_eq]; exact h2
        clear h1 h2
        go_enter Tryz.func13, Tryz.ntmps13
        go_wp2_with (go_at_call 22; (with_reducible refine (iVC_any x _ hs1 hs2 (HX.out)).mono ?_); rintro e w' ⟨rfl, k, rfl⟩)
        (refine wp_region_ex (by kernel_rfl) (by kernel_rfl) ?_; (repeat (go_big_quiet_step (((go_at_call 30; exact calls_ex (idec_any _ _ (by omega) (by omega))))))); refine wpQuiet_nil ?_; rintro _ ⟨k, rfl⟩)
        go_wp2
        (refine wp_region_ex (by kernel_rfl) (by kernel_rfl) ?_; (repeat (go_big_quiet_step (((go_at_call 30; exact calls_ex (idec_any _ _ (by omega) (by omega))))))); refine wpQuiet_nil ?_; rintro _ ⟨k, rfl⟩)
        go_wp2
        go_ret
        exact ⟨by rw [HC.out, HR.out]; rfl, by (refine Ok.toEx ?_; (repeat (first | (with_reducible exact Ok.rf _) | (with_reducible refine Ok.alloc ?_ _) | (with_reducible refine Ok.ex ?_ _) | (with_reducible refine Ok.drew ?_) | (with_reducible refine Ok.setCellI ?_ _ _ _) | (with_reducible refine Ok.exb ?_ _))))⟩
      · have HR : Hid (cuTx x = x.id ++ ⟨#[32]⟩ ++ decS x.t ++ ⟨#[32]⟩ ++ x.tg ++ ⟨#[32, 115, 116, 111, 112]⟩) := hid (by unfold cuTx; rw [if_neg h1, if_neg h2]; rfl)
        have e2 : (x.act == 2) = false := by rw [beq_eq_false_iff_ne]; exact h2
        clear h1 h2
        go_enter Tryz.func13, Tryz.ntmps13
        go_wp2_with (go_at_call 22; (with_reducible refine (iVC_any x _ hs1 hs2 (HX.out)).mono ?_); rintro e w' ⟨rfl, k, rfl⟩)
        (refine wp_region_ex (by kernel_rfl) (by kernel_rfl) ?_; (repeat (go_big_quiet_step (((go_at_call 30; exact calls_ex (idec_any _ _ (by omega) (by omega))))))); refine wpQuiet_nil ?_; rintro _ ⟨k, rfl⟩)
        go_wp2
        go_ret
        exact ⟨by rw [HC.out, HR.out]; rfl, by (refine Ok.toEx ?_; (repeat (first | (with_reducible exact Ok.rf _) | (with_reducible refine Ok.alloc ?_ _) | (with_reducible refine Ok.ex ?_ _) | (with_reducible refine Ok.drew ?_) | (with_reducible refine Ok.setCellI ?_ _ _ _) | (with_reducible refine Ok.exb ?_ _))))⟩
end
end Go.Proofs.YtdhflckombkimaaGreatDoor
namespace Go.Proofs.YtdhflckombkimaaGreatDoor
open Go.RowKit
/-- the library's error for a text that is no number -/
class Es (w : World) : Prop where h : ∃ tp p, w.var? Tryz.prog "strconv.ErrSyntax" = some #[.iface tp p]
/-- the library's error for a number out of range -/
class Er (w : World) : Prop where h : ∃ tp p, w.var? Tryz.prog "strconv.ErrRange" = some #[.iface tp p]
section
variable {w : World}
instance (priority := 900) Es.ex [h : Es w] (k : Ex w) : Es k.v := by
  obtain ⟨tp, p, h1⟩ := h.h
  exact ⟨tp, p, var_keep h1 fun _ hg => k.block hg⟩
instance (priority := 900) Es.alloc [h : Es w] (o : Obj) : Es (w.alloc o) := Es.ex (h := h) (Ex.of ((Below.refl _ _).alloc (Nat.le_refl _) o))
instance (priority := 900) Es.drew [h : Es w] : Es w.drew := Es.ex (h := h) (Ex.of (Below.refl _ _).drew)
instance (priority := 900) Er.ex [h : Er w] (k : Ex w) : Er k.v := by
  obtain ⟨tp, p, h1⟩ := h.h
  exact ⟨tp, p, var_keep h1 fun _ hg => k.block hg⟩
instance (priority := 900) Er.alloc [h : Er w] (o : Obj) : Er (w.alloc o) := Er.ex (h := h) (Ex.of ((Below.refl _ _).alloc (Nat.le_refl _) o))
instance (priority := 900) Er.drew [h : Er w] : Er w.drew := Er.ex (h := h) (Ex.of (Below.refl _ _).drew)
end
/-- the greatest length of a short search -/
class Ml (w : World) : Prop where h : ∃ m : Int, w.cell? ⟨1, 0, none⟩ = some (.int .i64 m)
instance (priority := 900) Ml.ex {w : World} [h : Ml w] (k : Ex w) : Ml k.v := by
  obtain ⟨m, h1⟩ := h.h
  exact ⟨m, (World.cell?_of_block (k.block (World.block_lt_of_cell? _ _ h1))).trans h1⟩
instance (priority := 900) Ml.alloc {w : World} [h : Ml w] (o : Obj) : Ml (w.alloc o) := Ml.ex (h := h) (Ex.of ((Below.refl _ _).alloc (Nat.le_refl _) o))
instance (priority := 900) Ml.drew {w : World} [h : Ml w] : Ml w.drew := Ml.ex (h := h) (Ex.of (Below.refl _ _).drew)
end Go.Proofs.YtdhflckombkimaaGreatDoor
