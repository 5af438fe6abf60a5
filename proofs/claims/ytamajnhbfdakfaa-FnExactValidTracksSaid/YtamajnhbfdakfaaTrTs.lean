/-
  Slices of tracks: the laws' helpers; ValidTracks, and its law. Conditions: those typed at each theorem.
-/
import Derived.Test.YtamajnhbfdakfaaTrB
import Derived.Test.YtamajnhbfdakfaaTrO
import Derived.Test.YtamajnhbfdakfaaTrC
namespace Go.Proofs.Ytamajnhbfdakfaa
open Go.RowKit
structure TV where
  nm : ByteArray
  l : List Ky
def trV (x : Tr) : TV := ⟨x.nm, x.l⟩
/-- the slice with base A holds tracks that read as V -/
class Ts (w : World) (A : Option Addr) (V : List TV) : Prop where
  len : V.length ≤ 9223372036854775807
  at_ : 0 < V.length → ∃ b o, A = some ⟨b, o, none⟩ ∧ LtW b w ∧ ∀ (k : Nat) (h : k < V.length), ∃ B c, w.cell? ⟨b, o + k * 2, none⟩ = some (.string V[k].nm) ∧ w.cell? ⟨b, o + k * 2 + 1, none⟩ = some (.slice B V[k].l.length c) ∧ Rd 2 kC w B V[k].l
instance (priority := 900) Ts.ex {w : World} {A : Option Addr} {V : List TV} [h : Ts w A V] (k : Ex w) : Ts k.v A V :=
  ⟨h.len, fun h0 => by
    obtain ⟨b, o, e, hb, hc⟩ := h.at_ h0
    refine ⟨b, o, e, inferInstance, fun i hi => ?_⟩
    obtain ⟨B, c, h1, h2, h3⟩ := hc i hi
    exact ⟨B, c, (k.cell b _).trans h1, (k.cell b _).trans h2, inferInstance⟩⟩
instance (priority := 900) Ts.alloc {w : World} {A : Option Addr} {V : List TV} [h : Ts w A V] (o : Obj) : Ts (w.alloc o) A V := Ts.ex (h := h) (Ex.of ((Below.refl _ _).alloc (Nat.le_refl _) o))
instance (priority := 900) Ts.drew {w : World} {A : Option Addr} {V : List TV} [h : Ts w A V] : Ts w.drew A V := Ts.ex (h := h) (Ex.of (Below.refl _ _).drew)
theorem Ts.of {w : World} {A : Option Addr} {L : List Tr} (h : Rd 2 trC w A L) (hi : ∀ x ∈ L, Rd 2 kC w x.A x.l) : Ts w A (L.map trV) :=
  ⟨by have := h.len; simpa using this, fun h0 => by
    obtain ⟨b, o, e, hb, hc⟩ := h.at_ (by simpa using h0)
    refine ⟨b, o, e, hb, fun k hk => ?_⟩
    have hk' : k < L.length := by simpa using hk
    have h1 := hc k hk' 0 _ rfl
    have h2 := hc k hk' 1 _ rfl
    refine ⟨L[k].A, L[k].c, by simpa [trV] using h1, by simpa [trV] using h2, ?_⟩
    have := hi _ (List.getElem_mem hk')
    simpa [trV] using this⟩
theorem Rd.butT {α : Type} {sz : Nat} {f : α → List Value} {w w' : World} {A B : Option Addr} {l : List α} (h : Rd sz f w A l) (hb : But B w w') (hne : ∀ x o o', A = some ⟨x, o, none⟩ → B ≠ some ⟨x, o', none⟩) : Rd sz f w' A l :=
  ⟨h.len, fun h0 => by
    obtain ⟨b, o, e, hl, hc⟩ := h.at_ h0
    exact ⟨b, o, e, ⟨Nat.lt_of_lt_of_le hl.h hb.size⟩, fun i hi j v hv => (World.cell?_of_block (hb.block b hl.h fun o' => hne b o o' e)).trans (hc i hi j v hv)⟩⟩
/-- is track i one that may stand there? -/
def okTs (V : List TV) (i : Nat) (h : i < V.length) : Prop := vT V[i].nm V[i].l = true ∧ ∀ _ : 0 < i, Op.bytesLess V[i - 1].nm.toList V[i].nm.toList = true
open Classical in
noncomputable def vTs (V : List TV) : Bool := decide (V.length ≤ 16 ∧ ∀ i (h : i < V.length), okTs V i h)
open Classical in
theorem vTs_all {V : List TV} (h : ∀ i (h : i < V.length), okTs V i h) : vTs V = decide (V.length ≤ 16) := by
  unfold vTs; rw [decide_eq_decide]; exact ⟨fun h => h.1, fun h1 => ⟨h1, h⟩⟩
open Classical in
theorem vTs_bad {V : List TV} {i : Nat} {hi : i < V.length} (h : ¬ okTs V i hi) : vTs V = false := decide_eq_false fun h1 => h (h1.2 i hi)
open Classical in
theorem vTs_long {V : List TV} (h : 16 < V.length) : vTs V = false := decide_eq_false fun h1 => by omega
theorem okTs_cases (V : List TV) (i : Nat) (h : i < V.length) :
    (okTs V i h ∧ vT V[i].nm V[i].l = true ∧ (i = 0 ∨ 0 < i ∧ Op.bytesLess V[i - 1].nm.toList V[i].nm.toList = true)) ∨ (¬ okTs V i h ∧ vT V[i].nm V[i].l = false) ∨ (¬ okTs V i h ∧ vT V[i].nm V[i].l = true ∧ 0 < i ∧ Op.bytesLess V[i - 1].nm.toList V[i].nm.toList = false) := by
  unfold okTs
  by_cases h1 : vT V[i].nm V[i].l = true
  · by_cases h0 : 0 < i
    · by_cases h2 : Op.bytesLess V[i - 1].nm.toList V[i].nm.toList = true
      · exact .inl ⟨⟨h1, fun _ => h2⟩, h1, .inr ⟨h0, h2⟩⟩
      · exact .inr (.inr ⟨fun h => h2 (h.2 h0), h1, h0, by simpa using h2⟩)
    · exact .inl ⟨⟨h1, fun h => absurd h h0⟩, h1, .inl (by omega)⟩
  · exact .inr (.inl ⟨fun h => h1 h.1, by simpa using h1⟩)
section
set_option maxHeartbeats 3200000
set_option maxRecDepth 20000
theorem infoTrk : (Try.prog.info? 29).map (fun i => (i.zero, i.size, i.bytes)) = some (some (.agg #[.string ⟨#[]⟩, .slice none 0 0]), 2, 40) := by kernel_rfl
theorem toTs_any (A : Option Addr) (c : Nat) (V : List TV) (w : World) [hl : Ts w A V] (hn : V.length ≤ 1048576) (hm : ∀ x ∈ V, x.l.length ≤ 1048576) :
    Calls Try.prog 28 #[.slice A V.length c] w fun e w' => e = .returned (.slice (some ⟨w.heap.size, 0, none⟩) V.length V.length) ∧ ∃ k : Ex w, w' = k.v ∧ Ts k.v (some ⟨w.heap.size, 0, none⟩) V := by
  have HA := hid hl.at_
  have HM := hid hm
  clear hm
  go_enter Try.func28, Try.ntmps28
  go_wp2_with (at_make; refine wpList_mk _ rfl _ _ _ rfl _ _ _ _ Try.underlying39 infoTrk V.length rfl rfl (by omega) (by omega) ?_; intro k0 hb0 hr0)
  have hr0 := hid (PFill.start (f := trC) (sz := 2) hr0)
  go_loopw [4] (fun t wr => ∃ L : List Tr, L.length ≤ V.length ∧ L.map trV = V.take L.length ∧ t = .int .i64 L.length ∧ ∃ j : Ex w, wr = j.v ∧ PFill 29 2 trC j.v w.heap.size (V.length * 2) L ∧ ∀ x ∈ L, Rd 2 kC j.v x.A x.l ∧ ∀ o, x.A ≠ some ⟨w.heap.size, o, none⟩) (fun t _ => V.length - (intOf t).toNat)
  case atStart => exact ⟨[], by simp, rfl, rfl, k0, rfl, hr0.out, by simp⟩
  case round =>
    obtain ⟨L, hq, hV, rfl, j0, rfl, hF, hI⟩ := hrel
    have HV := hid hV
    have HI := hid hI
    clear hV hI
    by_cases hlt : L.length < V.length
    · obtain ⟨b, o, rfl, hbw, hc⟩ := HA.out (by omega)
      obtain ⟨B, c1, c0, c0', hB⟩ := hc L.length hlt
      have hmx := HM.out _ (List.getElem_mem hlt)
      have hb1 := hF.lt
      obtain ⟨_, r0, f0⟩ := hF.cell (L.length * 2) (by omega)
      obtain ⟨_, r1, f1⟩ := hF.cell (L.length * 2 + 1) (by omega)
      have HF := hid hF
      clear hF hc
      have HT : Hid (L.map trV ++ [V[L.length]] = V.take (L.length + 1)) := hid (by rw [HV.out, List.take_succ_eq_append_getElem hlt])
      generalize V[L.length] = y at *
      go_wp2_with ((go_at_call 19; (with_reducible refine (toTrack_any y.nm _ _ y.l _ ?_).mono ?_); (· omega); rintro e w' ⟨b1, rfl, k, rfl, hwr, hle⟩))
      go_roundw
      case rel =>
        refine ⟨L ++ [(⟨y.nm, some ⟨b1, 0, none⟩, y.l.length, y.l⟩ : Tr)], by simp; omega, by simpa [trV] using HT.out, by simp, ex_and (fun W => PFill _ 2 trC W w.heap.size _ (L ++ [(⟨y.nm, some ⟨b1, 0, none⟩, y.l.length, y.l⟩ : Tr)]) ∧ ∀ x ∈ (L ++ [(⟨y.nm, some ⟨b1, 0, none⟩, y.l.length, y.l⟩ : Tr)]), Rd 2 kC W x.A x.l ∧ ∀ o, x.A ≠ some ⟨w.heap.size, o, none⟩) ?_ ⟨(HF.out.ex k).step (⟨y.nm, some ⟨b1, 0, none⟩, y.l.length, y.l⟩ : Tr) rfl, fun x hx => ?_⟩⟩
        · (refine Ok.toEx ?_; (repeat (first | (with_reducible exact Ok.rf _) | (with_reducible refine Ok.alloc ?_ _) | (with_reducible refine Ok.ex ?_ _) | (with_reducible refine Ok.drew ?_) | (with_reducible refine Ok.setCellI ?_ _ _ _) | (with_reducible refine Ok.exb ?_ _))))
        · have hne : ∀ o, x.A ≠ some ⟨w.heap.size, o, none⟩ := by
            rcases List.mem_append.1 hx with hx | hx
            · exact (HI.out x hx).2
            · obtain rfl := List.mem_singleton.1 hx
              intro o h
              have h1 := hb1.h
              have h2 := hle.h
              simp at h <;> omega
          have hrd : Rd 2 kC k.v x.A x.l := by
            rcases List.mem_append.1 hx with hx | hx
            · haveI := (HI.out x hx).1; infer_instance
            · obtain rfl := List.mem_singleton.1 hx
              infer_instance
          exact ⟨Rd.butT hrd (((But.rf (some ⟨w.heap.size, 0, none⟩) _).set _ _).set _ _) (fun b o o' e h => by cases h; exact hne _ e), hne⟩
      case measure => simp [intOf]; omega
    · go_wp2
      go_ret
      have hL : L.map trV = V := by rw [HV.out, List.take_of_length_le (by omega)]
      haveI hw := hF.done (by omega) (by omega) (fun _ => rfl)
      exact ⟨rfl, j0, rfl, by rw [← hL]; exact Ts.of (inferInstance) fun x hx => (HI.out x hx).1⟩
theorem szTs_any (A : Option Addr) (c : Nat) (V : List TV) (n : Int) (w : World) [hl : Ts w A V] (hm : ∀ x ∈ V, x.nm.size ≤ 9223372036854775807) (h0 : 0 ≤ n) (h1 : n ≤ 1048576) :
    Calls Try.prog 26 #[.slice A V.length c, .int .i64 n] w fun e w' => ∃ m : Int, e = .returned (.int .i64 m) ∧ (-1 ≤ m ∧ m ≤ n ∧ (0 ≤ m → V.length ≤ 1048576)) ∧ (0 ≤ m → ∀ x ∈ V, x.l.length ≤ 1048576 ∧ x.nm.size ≤ 1048576) ∧ ∃ k : Ex w, w' = k.v := by
  have hlen := hl.len
  have HA := hid hl.at_
  have HM := hid hm
  clear hm
  by_cases hs : n - V.length < 0
  · go_enter Try.func26, Try.ntmps26
    go_wp2
    go_ret
    refine ⟨_, rfl, by omega, fun h => absurd h (by omega), ?_⟩
    (refine Ok.toEx ?_; (repeat (first | (with_reducible exact Ok.rf _) | (with_reducible refine Ok.alloc ?_ _) | (with_reducible refine Ok.ex ?_ _) | (with_reducible refine Ok.drew ?_) | (with_reducible refine Ok.setCellI ?_ _ _ _) | (with_reducible refine Ok.exb ?_ _))))
  · have hs : (V.length : Int) ≤ n := by omega
    go_enter Try.func26, Try.ntmps26
    go_wp2
    go_loopw [5, 1] (fun t u wr => ∃ (q : Nat) (m : Int), q ≤ V.length ∧ t = .int .i64 q ∧ u = .int .i64 m ∧ 0 ≤ m ∧ m ≤ n ∧ (∀ i (hi : i < V.length), i < q → V[i].l.length ≤ 1048576 ∧ V[i].nm.size ≤ 1048576) ∧ ∃ j : Ex w, wr = j.v) (fun t _ _ => V.length - (intOf t).toNat)
    case atStart => exact ⟨0, n - V.length, Nat.zero_le _, rfl, by go_num, by omega, by omega, fun i _ h => absurd h (by omega), Ex.rf w, rfl⟩
    case round =>
      obtain ⟨q, m, hq, rfl, rfl, hm0, hm1, hs, j0, rfl⟩ := hrel
      have HS := hid hs
      clear hs
      by_cases hlt : q < V.length
      · obtain ⟨b, o, rfl, hbw, hc⟩ := HA.out (by omega)
        obtain ⟨B, c1, c0, c0', hB⟩ := hc q hlt
        have hsz := HM.out _ (List.getElem_mem hlt)
        have HN : Hid (V[q].l.length ≤ 1048576 ∧ V[q].nm.size ≤ 1048576 → ∀ i (hi : i < V.length), i < q + 1 → V[i].l.length ≤ 1048576 ∧ V[i].nm.size ≤ 1048576) := hid fun h i hi hiq => by
          rcases Nat.lt_or_ge i q with h1 | h1
          · exact HS.out i hi h1
          · obtain rfl : i = q := by omega
            exact h
        clear hc
        generalize V[q] = x at *
        go_wp2_with (go_at_call 17; (with_reducible refine (szTrack_any x.nm _ _ x.l m _ hsz hm0 ?_).mono ?_); (· omega); rintro e w' ⟨m', rfl, ⟨hm2, hm3, hm4⟩, k, rfl⟩)
        · go_ret
          refine ⟨_, rfl, by omega, fun h => absurd h (by omega), ?_⟩
          (refine Ok.toEx ?_; (repeat (first | (with_reducible exact Ok.rf _) | (with_reducible refine Ok.alloc ?_ _) | (with_reducible refine Ok.ex ?_ _) | (with_reducible refine Ok.drew ?_) | (with_reducible refine Ok.setCellI ?_ _ _ _) | (with_reducible refine Ok.exb ?_ _))))
        · go_roundw
          case rel => exact ⟨q + 1, m', by omega, by go_num, rfl, by omega, by omega, HN.out (hm4 (by omega)), j0.tr k, rfl⟩
          case measure => simp [intOf]; omega
      · go_wp2
        go_ret
        exact ⟨m, rfl, by omega, fun _ x hx => by obtain ⟨i, hi, rfl⟩ := List.getElem_of_mem hx; exact HS.out i hi (by omega), j0, rfl⟩
theorem eqTs_any (A B : Option Addr) (c d : Nat) (V : List TV) (w : World) [hl : Ts w A V] [hm : Ts w B V] :
    Calls Try.prog 30 #[.slice A V.length c, .slice B V.length d] w fun e w' => e = .returned (.bool true) ∧ ∃ k : Ex w, w' = k.v := by
  have hlen := hl.len
  have HA := hid hl.at_
  have HB := hid hm.at_
  go_enter Try.func30, Try.ntmps30
  go_wp2
  go_loopw [5] (fun t wr => ∃ q : Nat, q ≤ V.length ∧ t = .int .i64 q ∧ ∃ j : Ex w, wr = j.v) (fun t _ => V.length - (intOf t).toNat)
  case atStart => exact ⟨0, Nat.zero_le _, rfl, Ex.rf w, rfl⟩
  case round =>
    obtain ⟨q, hq, rfl, j0, rfl⟩ := hrel
    by_cases hlt : q < V.length
    · obtain ⟨b, o, rfl, hbw, hc⟩ := HA.out (by omega)
      obtain ⟨B1, c1, c0, c0', hB1⟩ := hc q hlt
      obtain ⟨b', o', rfl, hbw', hc'⟩ := HB.out (by omega)
      obtain ⟨B2, c2, d0, d0', hB2⟩ := hc' q hlt
      clear hc hc'
      go_wp2
      (refine wp_region_ex (by kernel_rfl) (by kernel_rfl) ?_; (repeat (go_big_quiet_step (((go_at_call 21; exact calls_ex (eqTrack_any V[q].nm _ _ _ _ V[q].l _)))))); refine wpQuiet_nil ?_; rintro _ ⟨k, rfl⟩)
      go_wp2
      go_roundw
      case rel => exact ⟨q + 1, by omega, by go_num, j0.tr k, rfl⟩
      case measure => simp [intOf]; omega
    · go_wp2
      go_ret
      exact ⟨rfl, j0, rfl⟩
end
end Go.Proofs.Ytamajnhbfdakfaa
