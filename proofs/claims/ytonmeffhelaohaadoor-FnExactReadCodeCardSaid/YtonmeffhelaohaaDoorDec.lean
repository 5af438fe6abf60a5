/-
  Numbers in decimal: both. Conditions: those typed at each theorem.
-/
import Derived.Test.YtonmeffhelaohaaDoorCore
import Derived.Test.YtonmeffhelaohaaDoorAppZ
import Derived.Test.YtonmeffhelaohaaDoorShelf
import Derived.Lib.AppendIntMem
import Derived.Lib.ItoaNum
import Derived.Laws.BytesArg
import Derived.Laws.Concat
namespace Go.Proofs.YtonmeffhelaohaaDoor
open Go.RowKit
/-- the library's powers of ten lie in memory -/
class Tb (w : World) : Prop where h : Lib.TabIs Tryd.prog w "internal/strconv.uint64pow10" .u64 Lib.pow10Tab
theorem var_keep {P : Program} {w w' : World} {n : String} {cs : Array Value} (h : w.var? P n = some cs) (hk : ∀ g, g < w.heap.size → w'.heap[g]? = w.heap[g]?) : w'.var? P n = some cs := by
  unfold World.var? at h ⊢
  cases hg : P.globalNamed n with
  | none => simp [hg] at h
  | some g =>
    simp only [hg, Option.bind_some] at h ⊢
    have hlt : g < w.heap.size := by
      rcases Nat.lt_or_ge g w.heap.size with h1 | h1
      · exact h1
      · rw [Array.getElem?_eq_none h1] at h; cases h
    rw [hk g hlt]
    exact h
section
variable {w : World}
instance (priority := 900) Tb.ex [h : Tb w] (k : Ex w) : Tb k.v := ⟨var_keep h.h fun _ hg => k.block hg⟩
instance (priority := 900) Tb.alloc [h : Tb w] (o : Obj) : Tb (w.alloc o) := Tb.ex (h := h) (Ex.of ((Below.refl _ _).alloc (Nat.le_refl _) o))
instance (priority := 900) Tb.drew [h : Tb w] : Tb w.drew := Tb.ex (h := h) (Ex.of (Below.refl _ _).drew)
end
/-- a number in decimal -/
def decS (n : Int) : ByteArray := ⟨(Lib.itoa n).toArray⟩
/-- the digits of u as bytes, the last ahead -/
def rdig (u : Nat) : List Int := if u = 0 then [] else (48 + (u % 10 : Nat) : Int) :: rdig (u / 10)
termination_by u
decreasing_by omega
theorem rdig_zero : rdig 0 = [] := by rw [rdig, if_pos rfl]
theorem rdig_pos {u : Nat} (h : 0 < u) : rdig u = (48 + (u % 10 : Nat) : Int) :: rdig (u / 10) := by rw [rdig, if_neg (by omega)]
theorem rdig_len (u : Nat) : ∀ k, u < 10 ^ k → (rdig u).length ≤ k := by
  intro k
  induction k generalizing u with
  | zero => intro h; obtain rfl : u = 0 := by simpa using h
            rw [rdig_zero]; simp
  | succ k ih =>
    intro h
    rcases Nat.eq_zero_or_pos u with rfl | h0
    · rw [rdig_zero]; simp
    · rw [rdig_pos h0]
      have := ih (u / 10) (by rw [Nat.pow_succ] at h; omega)
      simp; omega
/-- bytes given as numbers -/
def byteS (l : List Int) : List UInt8 := l.map fun n => UInt8.ofNat n.toNat
theorem dig_byte (x : Nat) : UInt8.ofNat (48 + (x : Int)).toNat = UInt8.ofNat (48 + x) := by rw [show (48 + (x : Int)).toNat = 48 + x by omega]
theorem byteS_snoc (l : List Int) (x : Nat) : byteS ((48 + (x : Int)) :: l).reverse = byteS l.reverse ++ [UInt8.ofNat (48 + x)] := by
  rw [List.reverse_cons, byteS, List.map_append, List.map_singleton, dig_byte]
  rfl
theorem rdig_dec (u : Nat) (h : 0 < u) : byteS (rdig u).reverse = Lib.decDigits u := by
  induction u using Nat.strongRecOn with
  | _ u ih =>
    rw [rdig_pos h, Lib.decDigits, byteS_snoc]
    by_cases h10 : u < 10
    · rw [dif_pos h10, show u / 10 = 0 by omega, rdig_zero, Nat.mod_eq_of_lt h10]
      rfl
    · rw [dif_neg h10, ← ih (u / 10) (by omega) (by omega)]
/-- what l01Dec appends, the last byte ahead -/
def rdec (n : Int) : List Int := if n < 0 then rdig n.natAbs ++ [45] else rdig n.natAbs
theorem rdec_len {n : Int} (h0 : -9223372036854775808 ≤ n) (h1 : n ≤ 9223372036854775807) : (rdec n).length ≤ 30 := by
  have := rdig_len n.natAbs 20 (by omega)
  unfold rdec
  split <;> simp <;> omega
theorem rdec_itoa {n : Int} (h : n ≠ 0) : byteS (rdec n).reverse = Lib.itoa n := by
  unfold rdec Lib.itoa
  by_cases h0 : n < 0
  · rw [if_pos h0, if_pos h0, List.reverse_append, ← rdig_dec n.natAbs (by omega)]
    rfl
  · rw [if_neg h0, if_neg h0, show n.toNat = n.natAbs by omega, rdig_dec _ (by omega)]
theorem itoa_zero : Lib.itoa 0 = [48] := by
  unfold Lib.itoa
  rw [if_neg (by omega), Lib.decDigits]
  rfl
section
set_option maxHeartbeats 3200000
set_option maxRecDepth 20000
theorem idec_any (n : Int) (w : World) [ht : Tb w] (h0 : -9223372036854775808 ≤ n) (h1 : n ≤ 9223372036854775807) :
    Calls Tryd.prog 37 #[.int .i64 n] w fun e w' => e = .returned (.string (decS n)) ∧ ∃ k : Ex w, w' = k.v := by
  have HT := hid ht.h
  go_enter Tryd.func37, Tryd.ntmps37
  go_wp2_with (go_at_call 62; go_loud (refine (Tryd.strconv_FormatInt_10 n h0 h1 _ HT.out).mono ?_; rintro e w' ⟨rfl, k, os, rfl⟩))
  go_ret
  exact ⟨rfl, ⟨_, Lib.below_grow _ _ (Nat.le_refl _) _ _⟩, rfl⟩
/-- the cell of a byte -/
def ubC (x : Int) : List Value := [.int .u8 x]
theorem infoU8 : (Tryd.prog.info? 5).map (fun i => (i.zero, i.size, i.bytes)) = some (some (.int .u8 0), 1, 1) := by kernel_rfl
theorem t10 (m : Int) : ∃ r q : Int, m.tmod 10 = r ∧ m.tdiv 10 = q ∧ r.natAbs = m.natAbs % 10 ∧ q.natAbs = m.natAbs / 10 ∧ (m ≤ 0 → r ≤ 0 ∧ q ≤ 0) ∧ (0 ≤ m → 0 ≤ r ∧ 0 ≤ q) := by
  rcases Int.le_total 0 m with h | h
  · refine ⟨_, _, rfl, rfl, ?_⟩
    rw [Int.tmod_eq_emod_of_nonneg h, Int.tdiv_eq_ediv_of_nonneg h]
    omega
  · obtain ⟨k, rfl⟩ : ∃ k : Int, m = -k := ⟨-m, by omega⟩
    refine ⟨_, _, rfl, rfl, ?_⟩
    rw [Int.neg_tmod, Int.neg_tdiv, Int.tmod_eq_emod_of_nonneg (by omega), Int.tdiv_eq_ediv_of_nonneg (by omega)]
    omega
theorem sdec_any (n : Int) (w : World) (h0 : -9223372036854775808 ≤ n) (h1 : n ≤ 9223372036854775807) :
    Calls Tryd.prog 43 #[.int .i64 n] w fun e w' => e = .returned (.string (decS n)) ∧ ∃ k : Ex w, w' = k.v := by
  by_cases hz : n = 0
  · subst hz
    have hD : decS 0 = ⟨#[48]⟩ := by unfold decS; rw [itoa_zero]
    go_enter Tryd.func43, Tryd.ntmps43
    go_wp2
    go_ret
    exact ⟨by rw [hD]; rfl, Ex.rf w, rfl⟩
  · have hze : (n == 0) = false := by simpa using hz
    have hrl := rdig_len n.natAbs 20 (by omega)
    have HD := hid (rdec_itoa hz)
    go_enter Tryd.func43, Tryd.ntmps43
    go_wp2
    have hrow0 := hid (row_made w w.heap.size (Nat.le_refl _) 5 1 ubC)
    go_loopw [3, 4] (fun v t wr => ∃ (D : List Int) (m : Int) (A1 : Option Addr) (c1 : Nat), t = .int .i64 m ∧ v = .slice A1 D.length c1 ∧ -9223372036854775808 ≤ m ∧ m ≤ 9223372036854775807 ∧ (n < 0 → m ≤ 0) ∧ (0 < n → 0 ≤ m) ∧ D ++ rdig m.natAbs = rdig n.natAbs ∧ ∃ j : Ex w, wr = j.v ∧ j.v.ownsRow w.heap.size 5 1 (.slice A1 D.length c1) D.length (D.flatMap ubC)) (fun _ t _ => (intOf t).natAbs)
    case atStart => exact ⟨[], n, some ⟨w.heap.size, 0, none⟩, 0, rfl, rfl, h0, h1, fun h => by omega, fun h => by omega, rfl, Ex.of ((Below.refl _ _).alloc (Nat.le_refl _) _), rfl, hrow0.out⟩
    case round =>
      obtain ⟨D, m, A1, c1, rfl, rfl, hm0, hm1, hs0, hs1, hD, j0, rfl, hrow⟩ := hrel
      have HROW := hid hrow
      have hDl : D.length ≤ 20 := by have := congrArg List.length hD; rw [List.length_append] at this; omega
      have HDD := hid hD
      clear hD hrow
      by_cases hmz : m = 0
      · subst hmz
        have hDr : D = rdig n.natAbs := by have := HDD.out; rw [show (0 : Int).natAbs = 0 from rfl, rdig_zero, List.append_nil] at this; exact this
        clear HDD
        by_cases hn : n < 0
        · have HL : Hid (byteS (D ++ [45]).reverse = Lib.itoa n) := hid (by rw [← HD.out]; unfold rdec; rw [if_pos hn, ← hDr])
          clear hDr
          go_wp2_with ((at_builtin; go_loud (refine wpList_appZ ubC _ rfl _ _ _ rfl w.heap.size ?_ _ _ _ _ Tryd.underlying33 infoU8 rfl (by omega) (fun _ => ⟨rfl, by simp [ubC, Value.oneCell']⟩) (.slice A1 D.length c1) D rfl (HROW.out.alloc _) (45) _ _ rfl (cellsB rfl) ?_ ?_ ?_; (· have := j0.h.size; simp; omega); (· (try simp); omega); (· (try simp); omega); intro v' kk hA; have hO := hA.own; obtain ⟨A2, c2, rfl, hOw, -⟩ := Ow.of_row (f := ubC) (fun _ => rfl) hO)))
          (obtain ⟨L, hL⟩ : ∃ L, L = (D ++ [45]) := ⟨_, rfl⟩; have hLe : L.length = D.length + 1 := (by subst hL; simp); have hLp := hid (show 0 < L.length by omega); have hLl : L.length ≤ 40 := (by omega); have HRd : Hid (Rd 1 ubC kk.v A2 L) := hid (by haveI := hOw; rw [hL]; infer_instance); rw [← hL] at HL; have HB4 := hid ((j0.h.alloc j0.h.size _).trans kk.h); have HLE := hid hLe; clear hL hLe;  go_loopw [6, 7] (fun v t wr => ∃ (q : Nat) (C : List Int) (A3 : Option Addr) (c3 : Nat), q ≤ L.length ∧ t = .int .i64 ((q : Int) - 1) ∧ C = (L.drop q).reverse ∧ v = .slice A3 C.length c3 ∧ ∃ j : Ex kk.v, wr = j.v ∧ j.v.ownsRow (kk.v).heap.size 5 1 (.slice A3 C.length c3) C.length (C.flatMap ubC)) (fun _ t _ => (intOf t + 1).toNat);  (case atStart => exact ⟨D.length + 1, [], some ⟨(kk.v).heap.size, 0, none⟩, 0, by have := HLE.out; omega, by go_num, by rw [List.drop_eq_nil_of_le (by have := HLE.out; omega)]; rfl, rfl, Ex.of ((Below.refl _ _).alloc (Nat.le_refl _) _), rfl, row_made kk.v (kk.v).heap.size (Nat.le_refl _) 5 1 ubC⟩);  (case round => (obtain ⟨q, C, A3, c3, hq, rfl, hC, rfl, j1, rfl, hrow1⟩ := hrel; have HROW2 := hid hrow1; have HC := hid hC; have hCl : C.length ≤ 40 := (by rw [hC]; simp; omega); clear hrow1 hC;  rcases Nat.eq_zero_or_pos q with hq0 | hq0;  (· subst hq0; have hCe : C = L.reverse := HC.out; have hCp : 0 < C.length := (by rw [hCe, List.length_reverse]; exact hLp.out); have hfin : strOfNums C = decS n := (by show (⟨(byteS C).toArray⟩ : ByteArray) = _; rw [hCe, HL.out]; rfl); have HFIN := hid hfin; clear hCe hfin;  obtain ⟨A4, c4, he4, hOw3, -⟩ := Ow.of_row (f := ubC) (fun _ => rfl) HROW2.out; injection he4 with he4 he5 he6; subst he4 he6; obtain ⟨g, rfl, hwr⟩ := hOw3.own hCp;  have hconv := run_convert_bytes_arg (P := Tryd.prog) j1.v 33 5 Tryd.underlying33 Tryd.underlying5 g 0 C.length c3 C rfl (fun i hi => (by obtain ⟨g', o', e', -, hc'⟩ := (inferInstance : Rd 1 ubC j1.v (some ⟨g, 0, none⟩) C).at_ hCp; cases e'; have := hc' i hi 0 _ rfl; rw [Nat.mul_one, Nat.add_zero] at this; rw [this]; simp [List.getD, hi])) 9 Tryd.underlying9;  rw [HFIN.out] at hconv; go_wp2; go_ret; exact ⟨rfl, ⟨⟨j1.v, HB4.out.trans (j1.h.mono HB4.out.size)⟩, rfl⟩⟩);  (· obtain ⟨p, rfl⟩ : ∃ p, q = p + 1 := ⟨q - 1, by omega⟩; haveI hrd := HRd.out; obtain ⟨g, o, rfl, hg, hcl⟩ := hrd.at_ (by omega); have hcp := hcl p (by omega) 0 _ rfl; rw [Nat.mul_one, Nat.add_zero] at hcp; have HN2 : Hid (C ++ [L[p]'(by omega)] = (L.drop p).reverse) := hid (by rw [HC.out, List.drop_eq_getElem_cons (show p < L.length by omega), List.reverse_cons]); clear hcl hrd; have z1 : ((p + 1 : Nat) : Int) - 1 = (p : Int) := (by omega); have z2 : (0 : Int) ≤ (p : Int) := (by omega); have z3 : (p : Int) < ((D.length + 1 : Nat) : Int) := (by have := HLE.out; omega); generalize L[p]'(by omega) = x at *;  go_wp2_with (at_builtin; go_loud (refine wpList_appZ ubC _ rfl _ _ _ rfl (kk.v).heap.size ?_ _ _ _ _ Tryd.underlying33 infoU8 rfl (by omega) (fun _ => ⟨rfl, by simp [ubC, Value.oneCell']⟩) (.slice A3 C.length c3) C rfl (HROW2.out.alloc _) x _ _ rfl (cellsB rfl) ?_ ?_ ?_; (· have := j1.h.size; simp; omega); (· (try simp); omega); (· (try simp); omega); intro v' kk2 hA2; have hO2 := hA2.own; obtain ⟨A4, c4, rfl, hOw2, -⟩ := Ow.of_row (f := ubC) (fun _ => rfl) hO2));  go_roundw;  (case rel => exact ⟨p, C ++ [x], A4, c4, by omega, by go_num, HN2.out, by simp, ⟨kk2.v, (j1.h.alloc j1.h.size _).trans kk2.h⟩, rfl, hO2⟩);  (case measure => (first | (simp [intOf]; done) | (simp [intOf]; omega))))))) 
        · have HL : Hid (byteS D.reverse = Lib.itoa n) := hid (by rw [← HD.out]; unfold rdec; rw [if_neg hn, ← hDr])
          obtain ⟨A2, c2, he, hOw, -⟩ := Ow.of_row (f := ubC) (fun _ => rfl) HROW.out
          injection he with he1 he2 he3
          subst he1 he3
          have hDp : 0 < D.length := by rw [hDr, rdig_pos (by omega)]; simp
          clear hDr
          go_wp2
          (obtain ⟨L, hL⟩ : ∃ L, L = D := ⟨_, rfl⟩; have hLe : L.length = D.length := (by subst hL; simp); have hLp := hid (show 0 < L.length by omega); have hLl : L.length ≤ 40 := (by omega); have HRd : Hid (Rd 1 ubC j0.v A1 L) := hid (by haveI := hOw; rw [hL]; infer_instance); rw [← hL] at HL; have HB4 := hid j0.h; have HLE := hid hLe; clear hL hLe;  go_loopw [6, 7] (fun v t wr => ∃ (q : Nat) (C : List Int) (A3 : Option Addr) (c3 : Nat), q ≤ L.length ∧ t = .int .i64 ((q : Int) - 1) ∧ C = (L.drop q).reverse ∧ v = .slice A3 C.length c3 ∧ ∃ j : Ex j0.v, wr = j.v ∧ j.v.ownsRow (j0.v).heap.size 5 1 (.slice A3 C.length c3) C.length (C.flatMap ubC)) (fun _ t _ => (intOf t + 1).toNat);  (case atStart => exact ⟨D.length, [], some ⟨(j0.v).heap.size, 0, none⟩, 0, by have := HLE.out; omega, by go_num, by rw [List.drop_eq_nil_of_le (by have := HLE.out; omega)]; rfl, rfl, Ex.of ((Below.refl _ _).alloc (Nat.le_refl _) _), rfl, row_made j0.v (j0.v).heap.size (Nat.le_refl _) 5 1 ubC⟩);  (case round => (obtain ⟨q, C, A3, c3, hq, rfl, hC, rfl, j1, rfl, hrow1⟩ := hrel; have HROW2 := hid hrow1; have HC := hid hC; have hCl : C.length ≤ 40 := (by rw [hC]; simp; omega); clear hrow1 hC;  rcases Nat.eq_zero_or_pos q with hq0 | hq0;  (· subst hq0; have hCe : C = L.reverse := HC.out; have hCp : 0 < C.length := (by rw [hCe, List.length_reverse]; exact hLp.out); have hfin : strOfNums C = decS n := (by show (⟨(byteS C).toArray⟩ : ByteArray) = _; rw [hCe, HL.out]; rfl); have HFIN := hid hfin; clear hCe hfin;  obtain ⟨A4, c4, he4, hOw3, -⟩ := Ow.of_row (f := ubC) (fun _ => rfl) HROW2.out; injection he4 with he4 he5 he6; subst he4 he6; obtain ⟨g, rfl, hwr⟩ := hOw3.own hCp;  have hconv := run_convert_bytes_arg (P := Tryd.prog) j1.v 33 5 Tryd.underlying33 Tryd.underlying5 g 0 C.length c3 C rfl (fun i hi => (by obtain ⟨g', o', e', -, hc'⟩ := (inferInstance : Rd 1 ubC j1.v (some ⟨g, 0, none⟩) C).at_ hCp; cases e'; have := hc' i hi 0 _ rfl; rw [Nat.mul_one, Nat.add_zero] at this; rw [this]; simp [List.getD, hi])) 9 Tryd.underlying9;  rw [HFIN.out] at hconv; go_wp2; go_ret; exact ⟨rfl, ⟨⟨j1.v, HB4.out.trans (j1.h.mono HB4.out.size)⟩, rfl⟩⟩);  (· obtain ⟨p, rfl⟩ : ∃ p, q = p + 1 := ⟨q - 1, by omega⟩; haveI hrd := HRd.out; obtain ⟨g, o, rfl, hg, hcl⟩ := hrd.at_ (by omega); have hcp := hcl p (by omega) 0 _ rfl; rw [Nat.mul_one, Nat.add_zero] at hcp; have HN2 : Hid (C ++ [L[p]'(by omega)] = (L.drop p).reverse) := hid (by rw [HC.out, List.drop_eq_getElem_cons (show p < L.length by omega), List.reverse_cons]); clear hcl hrd; have z1 : ((p + 1 : Nat) : Int) - 1 = (p : Int) := (by omega); have z2 : (0 : Int) ≤ (p : Int) := (by omega); have z3 : (p : Int) < ((D.length : Nat) : Int) := (by have := HLE.out; omega); generalize L[p]'(by omega) = x at *;  go_wp2_with (at_builtin; go_loud (refine wpList_appZ ubC _ rfl _ _ _ rfl (j0.v).heap.size ?_ _ _ _ _ Tryd.underlying33 infoU8 rfl (by omega) (fun _ => ⟨rfl, by simp [ubC, Value.oneCell']⟩) (.slice A3 C.length c3) C rfl (HROW2.out.alloc _) x _ _ rfl (cellsB rfl) ?_ ?_ ?_; (· have := j1.h.size; simp; omega); (· (try simp); omega); (· (try simp); omega); intro v' kk2 hA2; have hO2 := hA2.own; obtain ⟨A4, c4, rfl, hOw2, -⟩ := Ow.of_row (f := ubC) (fun _ => rfl) hO2));  go_roundw;  (case rel => exact ⟨p, C ++ [x], A4, c4, by omega, by go_num, HN2.out, by simp, ⟨kk2.v, (j1.h.alloc j1.h.size _).trans kk2.h⟩, rfl, hO2⟩);  (case measure => (first | (simp [intOf]; done) | (simp [intOf]; omega))))))) 
      · obtain ⟨r, q, e1, e2, a1, a2, a3, a4⟩ := t10 m
        have hpos : 0 < m.natAbs := by omega
        have hmz1 : (m != 0) = true := by simpa using hmz
        have hrb : -9 ≤ r ∧ r ≤ 9 := by omega
        have hqb : -9223372036854775808 ≤ q ∧ q ≤ 9223372036854775807 := by omega
        have hq1 : n < 0 → q ≤ 0 := fun h => by have := hs0 h; omega
        have hq2 : 0 < n → 0 ≤ q := fun h => by have := hs1 h; omega
        have hqm : q.natAbs < m.natAbs := by omega
        have b5 : IntKind.i64.wrap q = q := IntWalk.i64_in _ hqb
        have b6 : RowKit.wrap64 q = q := IntWalk.wrap64_in _ hqb
        have HN : Hid (D ++ [48 + ((m.natAbs % 10 : Nat) : Int)] ++ rdig q.natAbs = rdig n.natAbs) := hid (by rw [a2, List.append_assoc, List.singleton_append, ← rdig_pos hpos]; exact HDD.out)
        by_cases hneg : r < 0
        · have hy : 48 + ((m.natAbs % 10 : Nat) : Int) = 48 + -r := by omega
          rw [hy] at HN
          have b1 : IntKind.i64.wrap (-r) = -r := IntWalk.i64_in _ (by omega)
          have b2 : IntKind.i64.wrap (48 + -r) = 48 + -r := IntWalk.i64_in _ (by omega)
          have b3 : IntKind.u8.wrap (48 + -r) = 48 + -r := by simp [IntKind.wrap, IntKind.bits, IntKind.signed]; omega
          have b4 : (48 + -r) % 256 = 48 + -r := by omega
          clear hy a1 a2
          go_wp2_with ((at_builtin; go_loud (refine wpList_appZ ubC _ rfl _ _ _ rfl w.heap.size ?_ _ _ _ _ Tryd.underlying33 infoU8 rfl (by omega) (fun _ => ⟨rfl, by simp [ubC, Value.oneCell']⟩) (.slice A1 D.length c1) D rfl (HROW.out.alloc _) (48 + -r) _ _ rfl (cellsB rfl) ?_ ?_ ?_; (· have := j0.h.size; simp; omega); (· (try simp); omega); (· (try simp); omega); intro v' kk hA; have hO := hA.own; obtain ⟨A2, c2, rfl, hOw, -⟩ := Ow.of_row (f := ubC) (fun _ => rfl) hO)))
          go_roundw
          case rel => exact ⟨D ++ [48 + -r], q, A2, c2, rfl, by simp, hqb.1, hqb.2, hq1, hq2, HN.out, ⟨kk.v, (j0.h.alloc j0.h.size _).trans kk.h⟩, rfl, hO⟩
          case measure => simp [intOf]; omega
        · have hy : 48 + ((m.natAbs % 10 : Nat) : Int) = 48 + r := by omega
          rw [hy] at HN
          have b2 : IntKind.i64.wrap (48 + r) = 48 + r := IntWalk.i64_in _ (by omega)
          have b3 : IntKind.u8.wrap (48 + r) = 48 + r := by simp [IntKind.wrap, IntKind.bits, IntKind.signed]; omega
          have b4 : (48 + r) % 256 = 48 + r := by omega
          clear hy a1 a2
          go_wp2_with ((at_builtin; go_loud (refine wpList_appZ ubC _ rfl _ _ _ rfl w.heap.size ?_ _ _ _ _ Tryd.underlying33 infoU8 rfl (by omega) (fun _ => ⟨rfl, by simp [ubC, Value.oneCell']⟩) (.slice A1 D.length c1) D rfl (HROW.out.alloc _) (48 + r) _ _ rfl (cellsB rfl) ?_ ?_ ?_; (· have := j0.h.size; simp; omega); (· (try simp); omega); (· (try simp); omega); intro v' kk hA; have hO := hA.own; obtain ⟨A2, c2, rfl, hOw, -⟩ := Ow.of_row (f := ubC) (fun _ => rfl) hO)))
          go_roundw
          case rel => exact ⟨D ++ [48 + r], q, A2, c2, rfl, by simp, hqb.1, hqb.2, hq1, hq2, HN.out, ⟨kk.v, (j0.h.alloc j0.h.size _).trans kk.h⟩, rfl, hO⟩
          case measure => simp [intOf]; omega
end
theorem byteS_len (l : List Int) : (byteS l).length = l.length := by simp [byteS]
theorem decS_size {n : Int} (h0 : -9223372036854775808 ≤ n) (h1 : n ≤ 9223372036854775807) : (decS n).size ≤ 30 := by
  show (Lib.itoa n).toArray.size ≤ 30
  by_cases hz : n = 0
  · subst hz; rw [itoa_zero]; simp
  · have := rdec_len h0 h1
    rw [← rdec_itoa hz]
    simp [byteS_len]
    exact this
theorem sadd {P : Program} (a b : ByteArray) (h : a.size + b.size ≤ 10000000) (w : World) : (Op.stringOp .add a b).run P w = .ok (.string (a ++ b)) w := run_string_add_sum w a b (by omega)
end Go.Proofs.YtonmeffhelaohaaDoor
