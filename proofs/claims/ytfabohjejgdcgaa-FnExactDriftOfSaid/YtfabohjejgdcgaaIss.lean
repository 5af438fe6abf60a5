/-
  Slices of slices of numbers: the laws' helpers. Conditions: those typed at each theorem.
-/
import Derived.Test.YtfabohjejgdcgaaInts
import Derived.Test.YtfabohjejgdcgaaApp
namespace Go.Proofs.Ytfabohjejgdcgaa
open Go.RowKit
/-- a slice of numbers, and where it lies -/
structure IR where
  A : Option Addr
  c : Nat
  l : List Int
def irC (x : IR) : List Value := [.slice x.A x.l.length x.c]
/-- the slice with base A holds slices that read as V -/
class Iss (w : World) (A : Option Addr) (V : List (List Int)) : Prop where
  len : V.length ≤ 9223372036854775807
  at_ : 0 < V.length → ∃ b o, A = some ⟨b, o, none⟩ ∧ LtW b w ∧ ∀ (k : Nat) (h : k < V.length), ∃ B c, w.cell? ⟨b, o + k, none⟩ = some (.slice B V[k].length c) ∧ Rd 1 iC w B V[k]
instance (priority := 900) Iss.ex {w : World} {A : Option Addr} {V : List (List Int)} [h : Iss w A V] (k : Ex w) : Iss k.v A V :=
  ⟨h.len, fun h0 => by
    obtain ⟨b, o, e, hb, hc⟩ := h.at_ h0
    refine ⟨b, o, e, inferInstance, fun i hi => ?_⟩
    obtain ⟨B, c, h1, h2⟩ := hc i hi
    exact ⟨B, c, (k.cell b _).trans h1, inferInstance⟩⟩
theorem Rd.but {α : Type} {sz : Nat} {f : α → List Value} {w w' : World} {A B : Option Addr} {l : List α} (h : Rd sz f w A l) (hb : But B w w') (hne : ∀ x o o', A = some ⟨x, o, none⟩ → B ≠ some ⟨x, o', none⟩) : Rd sz f w' A l :=
  ⟨h.len, fun h0 => by
    obtain ⟨b, o, e, hl, hc⟩ := h.at_ h0
    exact ⟨b, o, e, ⟨Nat.lt_of_lt_of_le hl.h hb.size⟩, fun i hi j v hv => (World.cell?_of_block (hb.block b hl.h fun o' => hne b o o' e)).trans (hc i hi j v hv)⟩⟩
/-- out of records -/
theorem Iss.of {w : World} {A : Option Addr} {L : List IR} (h : Rd 1 irC w A L) (hi : ∀ x ∈ L, Rd 1 iC w x.A x.l) : Iss w A (L.map IR.l) :=
  ⟨by have := h.len; simpa using this, fun h0 => by
    obtain ⟨b, o, e, hb, hc⟩ := h.at_ (by simpa using h0)
    refine ⟨b, o, e, hb, fun k hk => ?_⟩
    have hk' : k < L.length := by simpa using hk
    have h1 := hc k hk' 0 _ rfl
    rw [Nat.mul_one] at h1
    refine ⟨L[k].A, L[k].c, by simpa using h1, ?_⟩
    have := hi _ (List.getElem_mem hk')
    simpa using this⟩
section
set_option maxHeartbeats 1600000
theorem infoI64s : (Try.prog.info? 36).map (fun i => (i.zero, i.size, i.bytes)) = some (some (.slice none 0 0), 1, 24) := by kernel_rfl
theorem toSS_any (A : Option Addr) (c : Nat) (V : List (List Int)) (w : World) [hl : Iss w A V] (hn : V.length ≤ 1048576) (hm : ∀ x ∈ V, x.length ≤ 1048576) :
    Calls Try.prog 39 #[.slice A V.length c] w fun e w' => e = .returned (.slice (some ⟨w.heap.size, 0, none⟩) V.length V.length) ∧ ∃ k : Ex w, w' = k.v ∧ Iss k.v (some ⟨w.heap.size, 0, none⟩) V := by
  have HA := hid hl.at_
  have HM := hid hm
  clear hm
  go_enter Try.func39, Try.ntmps39
  go_wp2_with (at_make; refine wpList_mk _ rfl _ _ _ rfl _ _ _ _ Try.underlying46 infoI64s V.length rfl rfl (by omega) (by omega) ?_; intro k0 hb0 hr0)
  have hr0 := hid (PFill.start (f := irC) (sz := 1) hr0)
  go_loopw [4] (fun t wr => ∃ L : List IR, L.length ≤ V.length ∧ L.map IR.l = V.take L.length ∧ t = .int .i64 L.length ∧ ∃ j : Ex w, wr = j.v ∧ PFill 36 1 irC j.v w.heap.size (V.length * 1) L ∧ ∀ x ∈ L, Rd 1 iC j.v x.A x.l ∧ ∀ o, x.A ≠ some ⟨w.heap.size, o, none⟩) (fun t _ => V.length - (intOf t).toNat)
  case atStart => exact ⟨[], by simp, rfl, rfl, k0, rfl, hr0.out, by simp⟩
  case round =>
    obtain ⟨L, hq, hV, rfl, j0, rfl, hF, hI⟩ := hrel
    have HV := hid hV
    have HI := hid hI
    clear hV hI
    by_cases hlt : L.length < V.length
    · obtain ⟨b, o, rfl, hbw, hc⟩ := HA.out (by omega)
      obtain ⟨B, c1, c0, hB⟩ := hc L.length hlt
      have hmx := HM.out _ (List.getElem_mem hlt)
      have hb1 := hF.lt
      obtain ⟨_, r0, f0⟩ := hF.cell L.length (by omega)
      have HF := hid hF
      clear hF hc
      have HT : Hid (L.map IR.l ++ [V[L.length]] = V.take (L.length + 1)) := hid (by rw [HV.out, List.take_succ_eq_append_getElem hlt])
      generalize V[L.length] = y at *
      go_wp2_with (go_at_call 29; refine (toI_any _ _ _ _ hmx).mono ?_; rintro e w' ⟨rfl, k, rfl, hwr⟩)
      go_roundw
      case rel => 
        refine ⟨L ++ [(⟨some ⟨j0.v.heap.size, 0, none⟩, y.length, y⟩ : IR)], by simp; omega, by simpa using HT.out, by simp, ex_and (fun W => PFill _ 1 irC W w.heap.size _ (L ++ [(⟨some ⟨j0.v.heap.size, 0, none⟩, y.length, y⟩ : IR)]) ∧ ∀ x ∈ (L ++ [(⟨some ⟨j0.v.heap.size, 0, none⟩, y.length, y⟩ : IR)]), Rd 1 iC W x.A x.l ∧ ∀ o, x.A ≠ some ⟨w.heap.size, o, none⟩) ?_ ⟨(HF.out.ex k).step1 _ rfl, fun x hx => ?_⟩⟩
        · (refine Ok.toEx ?_; (repeat (first | (with_reducible exact Ok.rf _) | (with_reducible refine Ok.alloc ?_ _) | (with_reducible refine Ok.ex ?_ _) | (with_reducible refine Ok.drew ?_) | (with_reducible refine Ok.setCellI ?_ _ _ _))))
        · have hne : ∀ o, x.A ≠ some ⟨w.heap.size, o, none⟩ := by
            rcases List.mem_append.1 hx with hx | hx
            · exact (HI.out x hx).2
            · obtain rfl := List.mem_singleton.1 hx
              intro o h
              have := hb1.h
              simp at h <;> omega
          have hrd : Rd 1 iC k.v x.A x.l := by
            rcases List.mem_append.1 hx with hx | hx
            · haveI := (HI.out x hx).1; infer_instance
            · obtain rfl := List.mem_singleton.1 hx
              infer_instance
          exact ⟨Rd.but hrd ((But.rf (some ⟨w.heap.size, 0, none⟩) _).set _ _) (fun b o o' e h => by cases h; exact hne _ e), hne⟩
      case measure => simp [intOf]; omega
    · go_wp2
      go_ret
      have hL : L.map IR.l = V := by rw [HV.out, List.take_of_length_le (by omega)]
      have hw := hF.done (by omega) (by omega) (fun _ => rfl)
      exact ⟨rfl, j0, rfl, by rw [← hL]; exact Iss.of (inferInstance) fun x hx => (HI.out x hx).1⟩
theorem szI_any (A : Option Addr) (c : Nat) (l : List Int) (n : Int) (w : World) [hl : Rd 1 iC w A l] (h0 : 0 ≤ n) (h1 : n ≤ 1048576) :
    Calls Try.prog 69 #[.slice A l.length c, .int .i64 n] w fun e w' => ∃ m : Int, e = .returned (.int .i64 m) ∧ (-1 ≤ m ∧ m ≤ n ∧ (0 ≤ m → l.length ≤ 1048576)) ∧ ∃ k : Ex w, w' = k.v := by
  have hlen := hl.len
  by_cases hs : n - l.length < 0
  all_goals
    go_enter Try.func69, Try.ntmps69
    go_wp2
    go_ret
    refine ⟨_, rfl, by omega, ?_⟩
    (refine Ok.toEx ?_; (repeat (first | (with_reducible exact Ok.rf _) | (with_reducible refine Ok.alloc ?_ _) | (with_reducible refine Ok.ex ?_ _) | (with_reducible refine Ok.drew ?_) | (with_reducible refine Ok.setCellI ?_ _ _ _))))
theorem szSS_any (A : Option Addr) (c : Nat) (V : List (List Int)) (n : Int) (w : World) [hl : Iss w A V] (h0 : 0 ≤ n) (h1 : n ≤ 1048576) :
    Calls Try.prog 37 #[.slice A V.length c, .int .i64 n] w fun e w' => ∃ m : Int, e = .returned (.int .i64 m) ∧ (-1 ≤ m ∧ m ≤ n ∧ (0 ≤ m → V.length ≤ 1048576)) ∧ (0 ≤ m → ∀ x ∈ V, x.length ≤ 1048576) ∧ ∃ k : Ex w, w' = k.v := by
  have hlen := hl.len
  have HA := hid hl.at_
  by_cases hs : n - V.length < 0
  · go_enter Try.func37, Try.ntmps37
    go_wp2
    go_ret
    refine ⟨_, rfl, by omega, fun h => absurd h (by omega), ?_⟩
    (refine Ok.toEx ?_; (repeat (first | (with_reducible exact Ok.rf _) | (with_reducible refine Ok.alloc ?_ _) | (with_reducible refine Ok.ex ?_ _) | (with_reducible refine Ok.drew ?_) | (with_reducible refine Ok.setCellI ?_ _ _ _))))
  · have hs : (V.length : Int) ≤ n := by omega
    go_enter Try.func37, Try.ntmps37
    go_wp2
    go_loopw [5, 1] (fun t u wr => ∃ (q : Nat) (m : Int), q ≤ V.length ∧ t = .int .i64 q ∧ u = .int .i64 m ∧ 0 ≤ m ∧ m ≤ n ∧ (∀ i (hi : i < V.length), i < q → V[i].length ≤ 1048576) ∧ ∃ j : Ex w, wr = j.v) (fun t _ _ => V.length - (intOf t).toNat)
    case atStart => exact ⟨0, n - V.length, Nat.zero_le _, rfl, by go_num, by omega, by omega, fun i _ h => absurd h (by omega), Ex.rf w, rfl⟩
    case round =>
      obtain ⟨q, m, hq, rfl, rfl, hm0, hm1, hs, j0, rfl⟩ := hrel
      have HS := hid hs
      clear hs
      by_cases hlt : q < V.length
      · obtain ⟨b, o, rfl, hbw, hc⟩ := HA.out (by omega)
        obtain ⟨B, c1, c0, hB⟩ := hc q hlt
        have HN : Hid (V[q].length ≤ 1048576 → ∀ i (hi : i < V.length), i < q + 1 → V[i].length ≤ 1048576) := hid fun h i hi hiq => by
          rcases Nat.lt_or_ge i q with h1 | h1
          · exact HS.out i hi h1
          · obtain rfl : i = q := by omega
            exact h
        clear hc
        generalize V[q] = x at *
        go_wp2_with (go_at_call 69; refine (szI_any _ _ x m _ hm0 (by omega)).mono ?_; rintro e w' ⟨m', rfl, ⟨hm2, hm3, hm4⟩, k, rfl⟩)
        · go_ret
          refine ⟨_, rfl, by omega, fun h => absurd h (by omega), ?_⟩
          (refine Ok.toEx ?_; (repeat (first | (with_reducible exact Ok.rf _) | (with_reducible refine Ok.alloc ?_ _) | (with_reducible refine Ok.ex ?_ _) | (with_reducible refine Ok.drew ?_) | (with_reducible refine Ok.setCellI ?_ _ _ _))))
        · go_roundw
          case rel => exact ⟨q + 1, m', by omega, by go_num, rfl, by omega, by omega, HN.out (by omega), j0.tr k, rfl⟩
          case measure => simp [intOf]; omega
      · go_wp2
        go_ret
        exact ⟨m, rfl, by omega, fun _ x hx => by obtain ⟨i, hi, rfl⟩ := List.getElem_of_mem hx; exact HS.out i hi (by omega), j0, rfl⟩
theorem eqSS_any (A B : Option Addr) (c d : Nat) (V : List (List Int)) (w : World) [hl : Iss w A V] [hm : Iss w B V] :
    Calls Try.prog 41 #[.slice A V.length c, .slice B V.length d] w fun e w' => e = .returned (.bool true) ∧ ∃ k : Ex w, w' = k.v := by
  have hlen := hl.len
  have HA := hid hl.at_
  have HB := hid hm.at_
  go_enter Try.func41, Try.ntmps41
  go_wp2
  go_loopw [5] (fun t wr => ∃ q : Nat, q ≤ V.length ∧ t = .int .i64 q ∧ ∃ j : Ex w, wr = j.v) (fun t _ => V.length - (intOf t).toNat)
  case atStart => exact ⟨0, Nat.zero_le _, rfl, Ex.rf w, rfl⟩
  case round =>
    obtain ⟨q, hq, rfl, j0, rfl⟩ := hrel
    by_cases hlt : q < V.length
    · obtain ⟨b, o, rfl, hbw, hc⟩ := HA.out (by omega)
      obtain ⟨B1, c1, c0, hB1⟩ := hc q hlt
      obtain ⟨b', o', rfl, hbw', hc'⟩ := HB.out (by omega)
      obtain ⟨B2, c2, d0, hB2⟩ := hc' q hlt
      clear hc hc'
      go_wp2
      (refine wp_region_ex (by kernel_rfl) (by kernel_rfl) ?_; (repeat (go_big_quiet_step (((go_at_call 31; exact calls_ex (eqI_any _ _ _ _ V[q] _)))))); refine wpQuiet_nil ?_; rintro _ ⟨k, rfl⟩)
      go_wp2
      go_roundw
      case rel => exact ⟨q + 1, by omega, by go_num, j0.tr k, rfl⟩
      case measure => simp [intOf]; omega
    · go_wp2
      go_ret
      exact ⟨rfl, j0, rfl⟩
end
end Go.Proofs.Ytfabohjejgdcgaa
