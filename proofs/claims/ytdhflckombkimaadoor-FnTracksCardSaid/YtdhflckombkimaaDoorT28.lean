/-
  Numbers in decimal: both. Conditions: those typed at each theorem.
  What of the library's variables lies in memory: the errors of strconv, the greatest length of a short search. Conditions: those typed at each theorem.
-/
import Derived.Test.YtdhflckombkimaaDoorT2
import Derived.Test.YtdhflckombkimaaDoorT10
import Derived.Test.YtdhflckombkimaaDoorShelf
import Derived.Lib.AppendIntMem
import Derived.Lib.ItoaNum
import Derived.Laws.BytesArg
import Derived.Laws.Concat
namespace Go.Proofs.YtdhflckombkimaaDoor
open Go.RowKit
/-- the library's powers of ten lie in memory -/
class Tb (w : World) : Prop where h : Lib.TabIs Tryd.prog w "internal/strconv.uint64pow10" .u64 Lib.pow10Tab
theorem var_keep {P : Program} {w w' : World} {n : String} {cs : Array Value} (h : w.var? P n = some cs) (hk : ∀ g, g < w.heap.size → w'.heap[g]? = w.heap[g]?) : w'.var? P n = some cs := by
  unfold World.var? at h ⊢
  cases hg : P.globalNamed n with
  | none => simp [hg] at h
  | some g =>
    simp only [hg, Option.bind_some] at h ⊢
    have hlt : g < w.heap.size := by
      rcases Nat.lt_or_ge g w.heap.size with h1 | h1
      · exact h1
      · rw [Array.getElem?_eq_none h1] at h; cases h
    rw [hk g hlt]
    exact h
section
variable {w : World}
instance (priority := 900) Tb.ex [h : Tb w] (k : Ex w) : Tb k.v := ⟨var_keep h.h fun _ hg => k.block hg⟩
instance (priority := 900) Tb.alloc [h : Tb w] (o : Obj) : Tb (w.alloc o) := Tb.ex (h := h) (Ex.of ((Below.refl _ _).alloc (Nat.le_refl _) o))
instance (priority := 900) Tb.drew [h : Tb w] : Tb w.drew := Tb.ex (h := h) (Ex.of (Below.refl _ _).drew)
end
/-- a number in decimal -/
def decS (n : Int) : ByteArray := ⟨(Lib.itoa n).toArray⟩
/-- the digits of u as bytes, the last ahead -/
def rdig (u : Nat) : List Int := if u = 0 then [] else (48 + (u % 10 : Nat) : Int) :: rdig (u / 10)
termination_by u
decreasing_by omega
theorem rdig_zero : rdig 0 = [] := by rw [rdig, if_pos rfl]
theorem rdig_pos {u : Nat} (h : 0 < u) : rdig u = (48 + (u % 10 : Nat) : Int) :: rdig (u / 10) := by rw [rdig, if_neg (by omega)]
theorem rdig_len (u : Nat) : ∀ k, u < 10 ^ k → (rdig u).length ≤ k := by
  intro k
  induction k generalizing u with
  | zero => intro h; obtain rfl : u = 0 := by simpa using h
            rw [rdig_zero]; simp
  | succ k ih =>
    intro h
    rcases Nat.eq_zero_or_pos u with rfl | h0
    · rw [rdig_zero]; simp
    · rw [rdig_pos h0]
      have := ih (u / 10) (by rw [Nat.pow_succ] at h; omega)
      simp; omega
/-- bytes given as numbers -/
def byteS (l : List Int) : List UInt8 := l.map fun n => UInt8.ofNat n.toNat
theorem dig_byte (x : Nat) : UInt8.ofNat (48 + (x : Int)).toNat = UInt8.ofNat (48 + x) := by rw [show (48 + (x : Int)).toNat = 48 + x by omega]
theorem byteS_snoc (l : List Int) (x : Nat) : byteS ((48 + (x : Int)) :: l).reverse = byteS l.reverse ++ [UInt8.ofNat (48 + x)] := by
  rw [List.reverse_cons, byteS, List.map_append, List.map_singleton, dig_byte]
  rfl
theorem rdig_dec (u : Nat) (h : 0 < u) : byteS (rdig u).reverse = Lib.decDigits u := by
  induction u using Nat.strongRecOn with
  | _ u ih =>
    rw [rdig_pos h, Lib.decDigits, byteS_snoc]
    by_cases h10 : u < 10
    · rw [dif_pos h10, show u / 10 = 0 by omega, rdig_zero, Nat.mod_eq_of_lt h10]
      rfl
    · rw [dif_neg h10, ← ih (u / 10) (by omega) (by omega)]
/-- what l01Dec appends, the last byte ahead -/
def rdec (n : Int) : List Int := if n < 0 then rdig n.natAbs ++ [45] else rdig n.natAbs
theorem rdec_len {n : Int} (h0 : -9223372036854775808 ≤ n) (h1 : n ≤ 9223372036854775807) : (rdec n).length ≤ 30 := by
  have := rdig_len n.natAbs 20 (by omega)
  unfold rdec
  split <;> simp <;> omega
theorem rdec_itoa {n : Int} (h : n ≠ 0) : byteS (rdec n).reverse = Lib.itoa n := by
  unfold rdec Lib.itoa
  by_cases h0 : n < 0
  · rw [if_pos h0, if_pos h0, List.reverse_append, ← rdig_dec n.natAbs (by omega)]
    rfl
  · rw [if_neg h0, if_neg h0, show n.toNat = n.natAbs by omega, rdig_dec _ (by omega)]
theorem itoa_zero : Lib.itoa 0 = [48] := by
  unfold Lib.itoa
  rw [if_neg (by omega), Lib.decDigits]
  rfl
section
set_option maxHeartbeats 3200000
set_option maxRecDepth 20000
theorem idec_any (n : Int) (w : World) [ht : Tb w] (h0 : -9223372036854775808 ≤ n) (h1 : n ≤ 9223372036854775807) :
    Calls Tryd.prog 58 #[.int .i64 n] w fun e w' => e = .returned (.string (decS n)) ∧ ∃ k : Ex w, w' = k.v := by
  have HT := hid ht.h
  go_enter Tryd.func58, Tryd.ntmps58
  go_wp2_with (go_at_call 88; go_loud (refine (Tryd.strconv_FormatInt_10 n h0 h1 _ HT.out).mono ?_; rintro e w' ⟨rfl, k, os, rfl⟩))
  go_ret
  exact ⟨rfl, ⟨_, Lib.below_grow _ _ (Nat.le_refl _) _ _⟩, rfl⟩
/-- the cell of a byte -/
def ubC (x : Int) : List Value := [.int .u8 x]
theorem infoU8 : (Tryd.prog.info? 5).map (fun i => (i.zero, i.size, i.bytes)) = some (some (.int .u8 0), 1, 1) := by kernel_rfl
theorem t10 (m : Int) : ∃ r q : Int, m.tmod 10 = r ∧ m.tdiv 10 = q ∧ r.natAbs = m.natAbs % 10 ∧ q.natAbs = m.natAbs / 10 ∧ (m ≤ 0 → r ≤ 0 ∧ q ≤ 0) ∧ (0 ≤ m → 0 ≤ r ∧ 0 ≤ q) := by
  rcases Int.le_total 0 m with h | h
  · refine ⟨_, _, rfl, rfl, ?_⟩
    rw [Int.tmod_eq_emod_of_nonneg h, Int.tdiv_eq_ediv_of_nonneg h]
    omega
  · obtain ⟨k, rfl⟩ : ∃ k : Int, m = -k := ⟨-m, by omega⟩
    refine ⟨_, _, rfl, rfl, ?_⟩
    rw [Int.neg_tmod, Int.neg_tdiv, Int.tmod_eq_emod_of_nonneg (by omega), Int.tdiv_eq_ediv_of_nonneg (by omega)]
    omega
end
theorem byteS_len (l : List Int) : (byteS l).length = l.length := by simp [byteS]
theorem decS_size {n : Int} (h0 : -9223372036854775808 ≤ n) (h1 : n ≤ 9223372036854775807) : (decS n).size ≤ 30 := by
  show (Lib.itoa n).toArray.size ≤ 30
  by_cases hz : n = 0
  · subst hz; rw [itoa_zero]; simp
  · have := rdec_len h0 h1
    rw [← rdec_itoa hz]
    simp [byteS_len]
    exact this
theorem sadd {P : Program} (a b : ByteArray) (h : a.size + b.size ≤ 10000000) (w : World) : (Op.stringOp .add a b).run P w = .ok (.string (a ++ b)) w := run_string_add_sum w a b (by omega)
end Go.Proofs.YtdhflckombkimaaDoor
namespace Go.Proofs.YtdhflckombkimaaDoor
open Go.RowKit
/-- the library's error for a text that is no number -/
class Es (w : World) : Prop where h : ∃ tp p, w.var? Tryd.prog "strconv.ErrSyntax" = some #[.iface tp p]
/-- the library's error for a number out of range -/
class Er (w : World) : Prop where h : ∃ tp p, w.var? Tryd.prog "strconv.ErrRange" = some #[.iface tp p]
section
variable {w : World}
instance (priority := 900) Es.ex [h : Es w] (k : Ex w) : Es k.v := by
  obtain ⟨tp, p, h1⟩ := h.h
  exact ⟨tp, p, var_keep h1 fun _ hg => k.block hg⟩
instance (priority := 900) Es.alloc [h : Es w] (o : Obj) : Es (w.alloc o) := Es.ex (h := h) (Ex.of ((Below.refl _ _).alloc (Nat.le_refl _) o))
instance (priority := 900) Es.drew [h : Es w] : Es w.drew := Es.ex (h := h) (Ex.of (Below.refl _ _).drew)
instance (priority := 900) Er.ex [h : Er w] (k : Ex w) : Er k.v := by
  obtain ⟨tp, p, h1⟩ := h.h
  exact ⟨tp, p, var_keep h1 fun _ hg => k.block hg⟩
instance (priority := 900) Er.alloc [h : Er w] (o : Obj) : Er (w.alloc o) := Er.ex (h := h) (Ex.of ((Below.refl _ _).alloc (Nat.le_refl _) o))
instance (priority := 900) Er.drew [h : Er w] : Er w.drew := Er.ex (h := h) (Ex.of (Below.refl _ _).drew)
end
/-- the greatest length of a short search -/
class Ml (w : World) : Prop where h : ∃ m : Int, w.cell? ⟨0, 0, none⟩ = some (.int .i64 m)
instance (priority := 900) Ml.ex {w : World} [h : Ml w] (k : Ex w) : Ml k.v := by
  obtain ⟨m, h1⟩ := h.h
  exact ⟨m, (World.cell?_of_block (k.block (World.block_lt_of_cell? _ _ h1))).trans h1⟩
instance (priority := 900) Ml.alloc {w : World} [h : Ml w] (o : Obj) : Ml (w.alloc o) := Ml.ex (h := h) (Ex.of ((Below.refl _ _).alloc (Nat.le_refl _) o))
instance (priority := 900) Ml.drew {w : World} [h : Ml w] : Ml w.drew := Ml.ex (h := h) (Ex.of (Below.refl _ _).drew)
end Go.Proofs.YtdhflckombkimaaDoor
