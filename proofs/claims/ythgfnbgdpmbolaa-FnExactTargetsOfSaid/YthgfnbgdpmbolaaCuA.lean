/-
  Cues: what it means that a slice holds them; the laws' helpers: size, copy, comparison. Conditions: those typed at each theorem.
-/
import Derived.Test.YthgfnbgdpmbolaaName
import Derived.Test.YthgfnbgdpmbolaaRow
namespace Go.Proofs.Ythgfnbgdpmbolaa
open Go.RowKit
structure Cu where
  id : ByteArray
  t : Int
  ln : Int
  tg : ByteArray
  act : Int
  v : Int
instance : Inhabited Cu := ⟨⟨⟨#[]⟩, 0, 0, ⟨#[]⟩, 0, 0⟩⟩
def bI (n : Int) : Prop := -9223372036854775808 ≤ n ∧ n ≤ 9223372036854775807
def Cu.ok (x : Cu) : Prop := x.id.size ≤ 9223372036854775807 ∧ x.tg.size ≤ 9223372036854775807 ∧ bI x.t ∧ bI x.ln ∧ bI x.act ∧ bI x.v
/-- the cells of a cue -/
def cC (x : Cu) : List Value := [.string x.id, .int .i64 x.t, .int .i64 x.ln, .string x.tg, .int .i64 x.act, .int .i64 x.v]
/-- the cells of cue x lie at offset p of block b -/
structure CuAt (w : World) (b p : Nat) (x : Cu) : Prop where
  c0 : w.cell? ⟨b, p, none⟩ = some (.string x.id)
  c1 : w.cell? ⟨b, p + 1, none⟩ = some (.int .i64 x.t)
  c2 : w.cell? ⟨b, p + 2, none⟩ = some (.int .i64 x.ln)
  c3 : w.cell? ⟨b, p + 3, none⟩ = some (.string x.tg)
  c4 : w.cell? ⟨b, p + 4, none⟩ = some (.int .i64 x.act)
  c5 : w.cell? ⟨b, p + 5, none⟩ = some (.int .i64 x.v)
theorem CuAt.of {w : World} {b p : Nat} {x : Cu} (h : ∀ (j : Nat) (v : Value), (cC x)[j]? = some v → w.cell? ⟨b, p + j, none⟩ = some v) : CuAt w b p x := ⟨h 0 _ rfl, h 1 _ rfl, h 2 _ rfl, h 3 _ rfl, h 4 _ rfl, h 5 _ rfl⟩
/-- each cue is one that memory can hold -/
class COks (l : List Cu) : Prop where h : ∀ x ∈ l, x.ok
/-- each text is short -/
class CSm (l : List Cu) : Prop where h : ∀ x ∈ l, x.id.size ≤ 1048576 ∧ x.tg.size ≤ 1048576
/-- cue k, or none -/
def cuG (l : List Cu) (k : Nat) : Cu := l.getD k default
theorem cuG_at {l : List Cu} {k : Nat} (h : k < l.length) : cuG l k = l[k] := by simp [cuG, List.getD, h]
theorem Rd.cu {w : World} {A : Option Addr} {l : List Cu} (h : Rd 6 cC w A l) : 0 < l.length → ∃ b o, A = some ⟨b, o, none⟩ ∧ LtW b w ∧ ∀ (k : Nat) (_ : k < l.length), CuAt w b (o + k * 6) (cuG l k) := fun h0 => by
  obtain ⟨b, o, e, hb, hc⟩ := h.at_ h0
  exact ⟨b, o, e, hb, fun k hk => by rw [cuG_at hk]; exact CuAt.of (hc k hk)⟩
theorem Filling.stepc {e : TypeId} {w : World} {b : Nat} {l : List Cu} {q : Nat} (h : Filling e 6 cC w b l q) (hq : q < l.length) {x : Cu} (hx : cuG l q = x) : Filling e 6 cC (setCells w b (q * 6) (cC x)) b l (q + 1) := by
  have := h.step hq rfl
  rw [cuG_at hq] at hx
  rwa [hx] at this
section
set_option maxHeartbeats 3200000
set_option maxRecDepth 20000
theorem toCue_any (x : Cu) (w : World) : Calls Try.prog 27 #[.agg #[.string x.id, .int .i64 x.t, .int .i64 x.ln, .string x.tg, .int .i64 x.act, .int .i64 x.v]] w fun e w' => e = .returned (.agg #[.string x.id, .int .i64 x.t, .int .i64 x.ln, .string x.tg, .int .i64 x.act, .int .i64 x.v]) ∧ ∃ k : Ex w, w' = k.v := by
  go_enter Try.func27, Try.ntmps27
  go_wp2
  (refine bodyPost_ret (v := _) (by simp [results, Try.results27, go_sem]; rfl) rfl ⟨by first | rfl | (simp; done), ?_⟩; (refine Ok.toEx ?_; (repeat (first | (with_reducible exact Ok.rf _) | (with_reducible refine Ok.alloc ?_ _) | (with_reducible refine Ok.ex ?_ _) | (with_reducible refine Ok.drew ?_) | (with_reducible refine Ok.setCellI ?_ _ _ _) | (with_reducible refine Ok.exb ?_ _)))))
theorem szCue_any (x : Cu) (n : Int) (w : World) (h1 : x.id.size ≤ 9223372036854775807) (h2 : x.tg.size ≤ 9223372036854775807) (h3 : 0 ≤ n) (h4 : n ≤ 1048576) :
    Calls Try.prog 24 #[.agg #[.string x.id, .int .i64 x.t, .int .i64 x.ln, .string x.tg, .int .i64 x.act, .int .i64 x.v], .int .i64 n] w fun e w' => ∃ m : Int, e = .returned (.int .i64 m) ∧ (-1 ≤ m ∧ m ≤ n ∧ (0 ≤ m → x.id.size ≤ 1048576 ∧ x.tg.size ≤ 1048576)) ∧ ∃ k : Ex w, w' = k.v := by
  by_cases hs : n - x.id.size < 0
  · go_enter Try.func24, Try.ntmps24
    go_wp2
    go_ret
    refine ⟨_, rfl, by omega, ?_⟩
    (refine Ok.toEx ?_; (repeat (first | (with_reducible exact Ok.rf _) | (with_reducible refine Ok.alloc ?_ _) | (with_reducible refine Ok.ex ?_ _) | (with_reducible refine Ok.drew ?_) | (with_reducible refine Ok.setCellI ?_ _ _ _) | (with_reducible refine Ok.exb ?_ _))))
  · by_cases hs2 : n - x.id.size - x.tg.size < 0
    all_goals
      go_enter Try.func24, Try.ntmps24
      go_wp2
      go_ret
      refine ⟨_, rfl, by omega, ?_⟩
      (refine Ok.toEx ?_; (repeat (first | (with_reducible exact Ok.rf _) | (with_reducible refine Ok.alloc ?_ _) | (with_reducible refine Ok.ex ?_ _) | (with_reducible refine Ok.drew ?_) | (with_reducible refine Ok.setCellI ?_ _ _ _) | (with_reducible refine Ok.exb ?_ _))))
theorem szCueS_any (A : Option Addr) (c : Nat) (l : List Cu) (n : Int) (w : World) [hk : COks l] [hl : Rd 6 cC w A l] (h0 : 0 ≤ n) (h1 : n ≤ 1048576) :
    Calls Try.prog 10 #[.slice A l.length c, .int .i64 n] w fun e w' => ∃ m : Int, e = .returned (.int .i64 m) ∧ (-1 ≤ m ∧ m ≤ n ∧ (0 ≤ m → l.length ≤ n)) ∧ (0 ≤ m → CSm l) ∧ ∃ k : Ex w, w' = k.v := by
  have hlen := hl.len
  have HA := hid hl.cu
  have HO := hid hk.h
  by_cases hs : n - l.length < 0
  · go_enter Try.func10, Try.ntmps10
    go_wp2
    go_ret
    refine ⟨_, rfl, by omega, fun h => absurd h (by omega), ?_⟩
    (refine Ok.toEx ?_; (repeat (first | (with_reducible exact Ok.rf _) | (with_reducible refine Ok.alloc ?_ _) | (with_reducible refine Ok.ex ?_ _) | (with_reducible refine Ok.drew ?_) | (with_reducible refine Ok.setCellI ?_ _ _ _) | (with_reducible refine Ok.exb ?_ _))))
  · have hs : (l.length : Int) ≤ n := by omega
    go_enter Try.func10, Try.ntmps10
    go_wp2
    go_loopw [5, 1] (fun t u wr => ∃ (q : Nat) (m : Int), q ≤ l.length ∧ t = .int .i64 q ∧ u = .int .i64 m ∧ 0 ≤ m ∧ m ≤ n ∧ (∀ i (_ : i < l.length), i < q → (cuG l i).id.size ≤ 1048576 ∧ (cuG l i).tg.size ≤ 1048576) ∧ ∃ j : Ex w, wr = j.v) (fun t _ _ => l.length - (intOf t).toNat)
    case atStart => exact ⟨0, n - l.length, Nat.zero_le _, rfl, by go_num, by omega, by omega, fun i _ h => absurd h (by omega), Ex.rf w, rfl⟩
    case round =>
      obtain ⟨q, m, hq, rfl, rfl, hm0, hm1, hs, j0, rfl⟩ := hrel
      have HS := hid hs
      clear hs
      by_cases hlt : q < l.length
      · obtain ⟨b, o, rfl, hbw, hc⟩ := HA.out (by omega)
        obtain ⟨c0, c1, c2, c3, c4, c5⟩ := hc q hlt
        have hx := HO.out _ (List.getElem_mem hlt)
        rw [← cuG_at hlt] at hx
        obtain ⟨hx1, hx2, -⟩ := hx
        have HN : Hid ((cuG l q).id.size ≤ 1048576 ∧ (cuG l q).tg.size ≤ 1048576 → ∀ i (_ : i < l.length), i < q + 1 → (cuG l i).id.size ≤ 1048576 ∧ (cuG l i).tg.size ≤ 1048576) := hid fun h i hi hiq => by
          rcases Nat.lt_or_ge i q with h1 | h1
          · exact HS.out i hi h1
          · obtain rfl : i = q := by omega
            exact h
        clear hc
        generalize cuG l q = x at *
        go_wp2_with (go_at_call 24; (with_reducible refine (szCue_any x m _ hx1 hx2 hm0 ?_).mono ?_); (· omega); rintro e w' ⟨m', rfl, ⟨hm2, hm3, hm4⟩, k, rfl⟩)
        · go_ret
          refine ⟨_, rfl, by omega, fun h => absurd h (by omega), ?_⟩
          (refine Ok.toEx ?_; (repeat (first | (with_reducible exact Ok.rf _) | (with_reducible refine Ok.alloc ?_ _) | (with_reducible refine Ok.ex ?_ _) | (with_reducible refine Ok.drew ?_) | (with_reducible refine Ok.setCellI ?_ _ _ _) | (with_reducible refine Ok.exb ?_ _))))
        · go_roundw
          case rel => exact ⟨q + 1, m', by omega, by go_num, rfl, by omega, by omega, HN.out (hm4 (by omega)), j0.tr k, rfl⟩
          case measure => simp [intOf]; omega
      · go_wp2
        go_ret
        exact ⟨m, rfl, by omega, fun _ => ⟨fun x hx => by obtain ⟨i, hi, rfl⟩ := List.getElem_of_mem hx; rw [← cuG_at hi]; exact HS.out i hi (by omega)⟩, j0, rfl⟩
theorem infoCue : (Try.prog.info? 31).map (fun i => (i.zero, i.size, i.bytes)) = some (some (.agg #[.string ⟨#[]⟩, .int .i64 0, .int .i64 0, .string ⟨#[]⟩, .int .i64 0, .int .i64 0]), 6, 64) := by kernel_rfl
theorem toCueS_any (A : Option Addr) (c : Nat) (l : List Cu) (w : World) [hk : COks l] [hl : Rd 6 cC w A l] (hn : l.length ≤ 1048576) :
    Calls Try.prog 12 #[.slice A l.length c] w fun e w' => e = .returned (.slice (some ⟨w.heap.size, 0, none⟩) l.length l.length) ∧ ∃ k : Ex w, w' = k.v ∧ Wr 6 cC k.v w.heap.size l := by
  have hlen := hl.len
  have HA := hid hl.cu
  go_enter Try.func12, Try.ntmps12
  go_wp2_with (at_make; refine wpList_mk _ rfl _ _ _ rfl _ _ _ _ Try.underlying24 infoCue l.length rfl rfl (by omega) (by omega) ?_; intro k0 hb0 hr0)
  have hr0 := hid (Filling.start (f := cC) (l := l) hr0 (Nat.le_refl _))
  go_loopw [4] (fun t wr => ∃ q : Nat, q ≤ l.length ∧ t = .int .i64 q ∧ ∃ j : Ex w, wr = j.v ∧ Filling 31 6 cC j.v w.heap.size l q) (fun t _ => l.length - (intOf t).toNat)
  case atStart => exact ⟨0, Nat.zero_le _, rfl, k0, rfl, hr0.out⟩
  case round =>
    obtain ⟨q, hq, rfl, j0, rfl, hF⟩ := hrel
    by_cases hlt : q < l.length
    · obtain ⟨b, o, rfl, hbw, hc⟩ := HA.out (by omega)
      obtain ⟨c0, c1, c2, c3, c4, c5⟩ := hc q hlt
      have hb1 := hF.lt
      obtain ⟨_, r0, f0⟩ := hF.cell (q * 6) (by omega)
      obtain ⟨_, r1, f1⟩ := hF.cell (q * 6 + 1) (by omega)
      obtain ⟨_, r2, f2⟩ := hF.cell (q * 6 + 2) (by omega)
      obtain ⟨_, r3, f3⟩ := hF.cell (q * 6 + 3) (by omega)
      obtain ⟨_, r4, f4⟩ := hF.cell (q * 6 + 4) (by omega)
      obtain ⟨_, r5, f5⟩ := hF.cell (q * 6 + 5) (by omega)
      have HF := hid hF
      clear hF hc
      generalize hx : cuG l q = x at *
      have HX := hid hx
      clear hx
      go_wp2_with ((go_at_call 27; refine (toCue_any x _).mono ?_; rintro e w' ⟨rfl, k, rfl⟩))
      go_roundw
      case rel =>
        refine ⟨q + 1, by omega, by go_num, ex_and (fun W => Filling _ 6 cC W w.heap.size l (q + 1)) ?_ ((HF.out.ex k).stepc hlt HX.out)⟩
        (refine Ok.toEx ?_; (repeat (first | (with_reducible exact Ok.rf _) | (with_reducible refine Ok.alloc ?_ _) | (with_reducible refine Ok.ex ?_ _) | (with_reducible refine Ok.drew ?_) | (with_reducible refine Ok.setCellI ?_ _ _ _) | (with_reducible refine Ok.exb ?_ _))))
      case measure => simp [intOf]; omega
    · go_wp2
      go_ret
      exact ⟨rfl, j0, rfl, hF.done (by omega) hlen fun _ => rfl⟩
end
end Go.Proofs.Ythgfnbgdpmbolaa
