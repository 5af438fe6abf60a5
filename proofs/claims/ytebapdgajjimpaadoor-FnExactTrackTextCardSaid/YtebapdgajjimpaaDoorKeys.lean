/-
  The laws' helpers over keys and tracks. Conditions: those typed at each theorem.
-/
import Derived.Test.YtebapdgajjimpaaDoorTrPlain
import Derived.Test.YtebapdgajjimpaaDoorInts
import Derived.Test.YtebapdgajjimpaaDoorRowF
namespace Go.Proofs.YtebapdgajjimpaaDoor
open Go.RowKit
/-- the cells of a key lie at offset p of block b -/
structure KyAt (w : World) (b p : Nat) (x : Ky) : Prop where
  c0 : w.cell? ⟨b, p, none⟩ = some (.int .i64 x.t)
  c1 : w.cell? ⟨b, p + 1, none⟩ = some (.int .i64 x.v)
theorem Rd.k {w : World} {A : Option Addr} {l : List Ky} (h : Rd 2 kC w A l) : 0 < l.length → ∃ b o, A = some ⟨b, o, none⟩ ∧ LtW b w ∧ ∀ (k : Nat) (h : k < l.length), KyAt w b (o + k * 2) l[k] := fun h0 => by
  obtain ⟨b, o, e, hb, hc⟩ := h.at_ h0
  exact ⟨b, o, e, hb, fun k hk => ⟨hc k hk 0 _ rfl, hc k hk 1 _ rfl⟩⟩
/-- the keys that marking lays -/
def kMk (n : Nat) (k : Int) : List Ky := (List.range n).map fun (i : Nat) => ⟨k + 2 * (i : Int), k + 2 * (i : Int) + 1⟩
theorem kMk_len (n : Nat) (k : Int) : (kMk n k).length = n := by simp [kMk]
theorem kMk_get {n : Nat} {k : Int} {i : Nat} (h : i < (kMk n k).length) : (kMk n k)[i] = ⟨k + 2 * i, k + 2 * i + 1⟩ := by simp [kMk]
theorem Filling.stepv {α : Type} {e : TypeId} {sz : Nat} {f : α → List Value} {w : World} {b : Nat} {l : List α} {q : Nat} (h : Filling e sz f w b l q) {vs : List Value} (hq : q < l.length) (hl : f l[q] = vs) (hs : vs.length = sz) : Filling e sz f (setCells w b (q * sz) vs) b l (q + 1) := by subst hl; exact h.step hq hs
section
set_option maxHeartbeats 1600000
theorem toKey_any (x : Ky) (w : World) : Calls Tryd.prog 47 #[.agg #[.int .i64 x.t, .int .i64 x.v]] w fun e w' => e = .returned (.agg #[.int .i64 x.t, .int .i64 x.v]) ∧ ∃ k : Ex w, w' = k.v := by
  go_enter Tryd.func47, Tryd.ntmps47
  go_wp2
  (refine bodyPost_ret (v := _) (by simp [results, Tryd.results47, go_sem]; rfl) rfl ⟨by first | rfl | (simp; done), ?_⟩; (refine Ok.toEx ?_; (repeat (first | (with_reducible exact Ok.rf _) | (with_reducible refine Ok.alloc ?_ _) | (with_reducible refine Ok.ex ?_ _) | (with_reducible refine Ok.drew ?_) | (with_reducible refine Ok.setCellI ?_ _ _ _) | (with_reducible refine Ok.exb ?_ _)))))
theorem eqKey_any (x : Ky) (w : World) : Calls Tryd.prog 52 #[.agg #[.int .i64 x.t, .int .i64 x.v], .agg #[.int .i64 x.t, .int .i64 x.v]] w fun e w' => e = .returned (.bool true) ∧ ∃ k : Ex w, w' = k.v := by
  go_enter Tryd.func52, Tryd.ntmps52
  go_wp2
  (go_ret; refine ⟨by first | rfl | (simp; done), ?_⟩; (refine Ok.toEx ?_; (repeat (first | (with_reducible exact Ok.rf _) | (with_reducible refine Ok.alloc ?_ _) | (with_reducible refine Ok.ex ?_ _) | (with_reducible refine Ok.drew ?_) | (with_reducible refine Ok.setCellI ?_ _ _ _) | (with_reducible refine Ok.exb ?_ _)))))
theorem infoKey : (Tryd.prog.info? 57).map (fun i => (i.zero, i.size, i.bytes)) = some (some (.agg #[.int .i64 0, .int .i64 0]), 2, 16) := by kernel_rfl
theorem toKeyS_any (A : Option Addr) (c : Nat) (l : List Ky) (w : World) [hl : Rd 2 kC w A l] (hn : l.length ≤ 1048576) :
    Calls Tryd.prog 26 #[.slice A l.length c] w fun e w' => e = .returned (.slice (some ⟨w.heap.size, 0, none⟩) l.length l.length) ∧ ∃ k : Ex w, w' = k.v ∧ Wr 2 kC k.v w.heap.size l := by
  have hlen := hl.len
  have HA := hid hl.k
  go_enter Tryd.func26, Tryd.ntmps26
  go_wp2_with (at_make; refine wpList_mk _ rfl _ _ _ rfl _ _ _ _ Tryd.underlying27 infoKey l.length rfl rfl (by omega) (by omega) ?_; intro k0 hb0 hr0)
  have hr0 := hid (Filling.start (f := kC) (l := l) hr0 (Nat.le_refl _))
  go_loopw [4] (fun t wr => ∃ q : Nat, q ≤ l.length ∧ t = .int .i64 q ∧ ∃ j : Ex w, wr = j.v ∧ Filling 57 2 kC j.v w.heap.size l q) (fun t _ => l.length - (intOf t).toNat)
  case atStart => exact ⟨0, Nat.zero_le _, rfl, k0, rfl, hr0.out⟩
  case round =>
    obtain ⟨q, hq, rfl, j0, rfl, hF⟩ := hrel
    by_cases hlt : q < l.length
    · obtain ⟨b, o, rfl, hbw, hc⟩ := HA.out (by omega)
      obtain ⟨c0, c1⟩ := hc q hlt
      have hb1 := hF.lt
      obtain ⟨_, r0, f0⟩ := hF.cell (q * 2) (by omega)
      obtain ⟨_, r1, f1⟩ := hF.cell (q * 2 + 1) (by omega)
      have HF := hid hF
      clear hF
      go_wp2_with ((go_at_call 47; refine (toKey_any l[q] _).mono ?_; rintro e w' ⟨rfl, k, rfl⟩))
      go_roundw
      case rel =>
        refine ⟨q + 1, by omega, by go_num, ex_and (fun W => Filling _ 2 kC W w.heap.size l (q + 1)) ?_ ((HF.out.ex k).step hlt rfl)⟩
        (refine Ok.toEx ?_; (repeat (first | (with_reducible exact Ok.rf _) | (with_reducible refine Ok.alloc ?_ _) | (with_reducible refine Ok.ex ?_ _) | (with_reducible refine Ok.drew ?_) | (with_reducible refine Ok.setCellI ?_ _ _ _) | (with_reducible refine Ok.exb ?_ _))))
      case measure => simp [intOf]; omega
    · go_wp2
      go_ret
      exact ⟨rfl, j0, rfl, hF.done (by omega) hlen fun _ => rfl⟩
theorem eqKeyS_any (A B : Option Addr) (c d : Nat) (l : List Ky) (w : World) [hl : Rd 2 kC w A l] [hm : Rd 2 kC w B l] :
    Calls Tryd.prog 29 #[.slice A l.length c, .slice B l.length d] w fun e w' => e = .returned (.bool true) ∧ ∃ k : Ex w, w' = k.v := by
  have hlen := hl.len
  have HA := hid hl.k
  have HB := hid hm.k
  go_enter Tryd.func29, Tryd.ntmps29
  go_wp2
  go_loopw [5] (fun t wr => ∃ q : Nat, q ≤ l.length ∧ t = .int .i64 q ∧ ∃ j : Ex w, wr = j.v) (fun t _ => l.length - (intOf t).toNat)
  case atStart => exact ⟨0, Nat.zero_le _, rfl, Ex.rf w, rfl⟩
  case round =>
    obtain ⟨q, hq, rfl, j0, rfl⟩ := hrel
    by_cases hlt : q < l.length
    · obtain ⟨b, o, rfl, hbw, hc⟩ := HA.out (by omega)
      obtain ⟨c0, c1⟩ := hc q hlt
      obtain ⟨b', o', rfl, hbw', hc'⟩ := HB.out (by omega)
      obtain ⟨d0, d1⟩ := hc' q hlt
      go_wp2
      (refine wp_region_ex (by kernel_rfl) (by kernel_rfl) ?_; (repeat (go_big_quiet_step (((go_at_call 52; exact calls_ex (eqKey_any l[q] _)))))); refine wpQuiet_nil ?_; rintro _ ⟨k, rfl⟩)
      go_wp2
      go_roundw
      case rel => exact ⟨q + 1, by omega, by go_num, j0.tr k, rfl⟩
      case measure => simp [intOf]; omega
    · go_wp2
      go_ret
      exact ⟨rfl, j0, rfl⟩
theorem szKeyS_any (A : Option Addr) (c : Nat) (l : List Ky) (n : Int) (w : World) [hl : Rd 2 kC w A l] (h0 : 0 ≤ n) (h1 : n ≤ 1048576) :
    Calls Tryd.prog 23 #[.slice A l.length c, .int .i64 n] w fun e w' => ∃ m : Int, e = .returned (.int .i64 m) ∧ (-1 ≤ m ∧ m ≤ n ∧ (0 ≤ m → l.length ≤ 1048576)) ∧ ∃ k : Ex w, w' = k.v := by
  have hlen := hl.len
  by_cases hs : n - l.length < 0
  all_goals
    go_enter Tryd.func23, Tryd.ntmps23
    go_wp2
    go_ret
    refine ⟨_, rfl, by omega, ?_⟩
    (refine Ok.toEx ?_; (repeat (first | (with_reducible exact Ok.rf _) | (with_reducible refine Ok.alloc ?_ _) | (with_reducible refine Ok.ex ?_ _) | (with_reducible refine Ok.drew ?_) | (with_reducible refine Ok.setCellI ?_ _ _ _) | (with_reducible refine Ok.exb ?_ _))))
theorem szTrack_any (nm : ByteArray) (A : Option Addr) (c : Nat) (l : List Ky) (n : Int) (w : World) [hl : Rd 2 kC w A l] (hs : nm.size ≤ 9223372036854775807) (h0 : 0 ≤ n) (h1 : n ≤ 1048576) :
    Calls Tryd.prog 7 #[.agg #[.string nm, .slice A l.length c], .int .i64 n] w fun e w' => ∃ m : Int, e = .returned (.int .i64 m) ∧ (-1 ≤ m ∧ m ≤ n ∧ (0 ≤ m → l.length ≤ 1048576 ∧ nm.size ≤ 1048576)) ∧ ∃ k : Ex w, w' = k.v := by
  have hlen := hl.len
  by_cases hs : n - nm.size < 0
  · go_enter Tryd.func7, Tryd.ntmps7
    go_wp2
    go_ret
    refine ⟨_, rfl, by omega, ?_⟩
    (refine Ok.toEx ?_; (repeat (first | (with_reducible exact Ok.rf _) | (with_reducible refine Ok.alloc ?_ _) | (with_reducible refine Ok.ex ?_ _) | (with_reducible refine Ok.drew ?_) | (with_reducible refine Ok.setCellI ?_ _ _ _) | (with_reducible refine Ok.exb ?_ _))))
  · go_enter Tryd.func7, Tryd.ntmps7
    go_wp2_with (go_at_call 23; refine (szKeyS_any _ _ l _ _ (by omega) (by omega)).mono ?_; rintro e w' ⟨m, rfl, ⟨hm1, hm2, hm3⟩, k, rfl⟩)
    all_goals
      go_ret
      refine ⟨_, rfl, by omega, ?_⟩
      (refine Ok.toEx ?_; (repeat (first | (with_reducible exact Ok.rf _) | (with_reducible refine Ok.alloc ?_ _) | (with_reducible refine Ok.ex ?_ _) | (with_reducible refine Ok.drew ?_) | (with_reducible refine Ok.setCellI ?_ _ _ _) | (with_reducible refine Ok.exb ?_ _))))
theorem toTrack_any (nm : ByteArray) (A : Option Addr) (c : Nat) (l : List Ky) (w : World) [hl : Rd 2 kC w A l] (hn : l.length ≤ 1048576) :
    Calls Tryd.prog 9 #[.agg #[.string nm, .slice A l.length c]] w fun e w' => ∃ b, e = .returned (.agg #[.string nm, .slice (some ⟨b, 0, none⟩) l.length l.length]) ∧ ∃ k : Ex w, w' = k.v ∧ Wr 2 kC k.v b l ∧ LeB w.heap.size b := by
  have hlen := hl.len
  go_enter Tryd.func9, Tryd.ntmps9
  go_wp2_with (go_at_call 26; refine (toKeyS_any _ _ l _ hn).mono ?_; rintro e w' ⟨rfl, k, rfl, hwr⟩)
  have hwr : Hid (Wr 2 kC k.v (w.heap.size + 1 + 1 + 1) l) := hid (by simpa using hwr)
  refine bodyPost_ret (v := _) (by first | (simp [results, Tryd.results9, go_sem]; done) | (simp [results, Tryd.results9, go_sem]; rfl)) rfl ⟨w.heap.size + 1 + 1 + 1, rfl, ex_and (fun W => Wr 2 kC W (w.heap.size + 1 + 1 + 1) l ∧ LeB w.heap.size (w.heap.size + 1 + 1 + 1)) (by (refine Ok.toEx ?_; (repeat (first | (with_reducible exact Ok.rf _) | (with_reducible refine Ok.alloc ?_ _) | (with_reducible refine Ok.ex ?_ _) | (with_reducible refine Ok.drew ?_) | (with_reducible refine Ok.setCellI ?_ _ _ _) | (with_reducible refine Ok.exb ?_ _))))) ⟨hwr.out.congr ?_, inferInstance⟩⟩
  simp [World.setCell, Array.getElem?_modify]
theorem eqTrack_any (nm : ByteArray) (A B : Option Addr) (c d : Nat) (l : List Ky) (w : World) [hl : Rd 2 kC w A l] [hm : Rd 2 kC w B l] :
    Calls Tryd.prog 11 #[.agg #[.string nm, .slice A l.length c], .agg #[.string nm, .slice B l.length d]] w fun e w' => e = .returned (.bool true) ∧ ∃ k : Ex w, w' = k.v := by
  go_enter Tryd.func11, Tryd.ntmps11
  go_wp2_with ((go_at_call 29; refine (eqKeyS_any _ _ _ _ l _).mono ?_; rintro e w' ⟨rfl, k, rfl⟩))
  (go_ret; refine ⟨by first | rfl | (simp; done), ?_⟩; (refine Ok.toEx ?_; (repeat (first | (with_reducible exact Ok.rf _) | (with_reducible refine Ok.alloc ?_ _) | (with_reducible refine Ok.ex ?_ _) | (with_reducible refine Ok.drew ?_) | (with_reducible refine Ok.setCellI ?_ _ _ _) | (with_reducible refine Ok.exb ?_ _)))))
end
end Go.Proofs.YtebapdgajjimpaaDoor
