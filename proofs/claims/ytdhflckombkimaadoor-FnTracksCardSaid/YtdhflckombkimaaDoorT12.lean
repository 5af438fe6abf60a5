/-
  The laws' helpers over keys and tracks. Conditions: those typed at each theorem.
  Contracts of the tests of a track. Conditions: those typed at each theorem.
  Contracts of ValidTrack; its law. Conditions: those typed at each theorem.
-/
import Derived.Test.YtdhflckombkimaaDoorT9
import Derived.Test.YtdhflckombkimaaDoorT10
namespace Go.Proofs.YtdhflckombkimaaDoor
open Go.RowKit
/-- the cells of a key lie at offset p of block b -/
structure KyAt (w : World) (b p : Nat) (x : Ky) : Prop where
  c0 : w.cell? ⟨b, p, none⟩ = some (.int .i64 x.t)
  c1 : w.cell? ⟨b, p + 1, none⟩ = some (.int .i64 x.v)
theorem Rd.k {w : World} {A : Option Addr} {l : List Ky} (h : Rd 2 kC w A l) : 0 < l.length → ∃ b o, A = some ⟨b, o, none⟩ ∧ LtW b w ∧ ∀ (k : Nat) (h : k < l.length), KyAt w b (o + k * 2) l[k] := fun h0 => by
  obtain ⟨b, o, e, hb, hc⟩ := h.at_ h0
  exact ⟨b, o, e, hb, fun k hk => ⟨hc k hk 0 _ rfl, hc k hk 1 _ rfl⟩⟩
/-- the keys that marking lays -/
def kMk (n : Nat) (k : Int) : List Ky := (List.range n).map fun (i : Nat) => ⟨k + 2 * (i : Int), k + 2 * (i : Int) + 1⟩
theorem kMk_len (n : Nat) (k : Int) : (kMk n k).length = n := by simp [kMk]
theorem kMk_get {n : Nat} {k : Int} {i : Nat} (h : i < (kMk n k).length) : (kMk n k)[i] = ⟨k + 2 * i, k + 2 * i + 1⟩ := by simp [kMk]
theorem Filling.stepv {α : Type} {e : TypeId} {sz : Nat} {f : α → List Value} {w : World} {b : Nat} {l : List α} {q : Nat} (h : Filling e sz f w b l q) {vs : List Value} (hq : q < l.length) (hl : f l[q] = vs) (hs : vs.length = sz) : Filling e sz f (setCells w b (q * sz) vs) b l (q + 1) := by subst hl; exact h.step hq hs
section
set_option maxHeartbeats 1600000
theorem eqKey_any (x : Ky) (w : World) : Calls Tryd.prog 78 #[.agg #[.int .i64 x.t, .int .i64 x.v], .agg #[.int .i64 x.t, .int .i64 x.v]] w fun e w' => e = .returned (.bool true) ∧ ∃ k : Ex w, w' = k.v := by
  go_enter Tryd.func78, Tryd.ntmps78
  go_wp2
  (go_ret; refine ⟨by first | rfl | (simp; done), ?_⟩; (refine Ok.toEx ?_; (repeat (first | (with_reducible exact Ok.rf _) | (with_reducible refine Ok.alloc ?_ _) | (with_reducible refine Ok.ex ?_ _) | (with_reducible refine Ok.drew ?_) | (with_reducible refine Ok.setCellI ?_ _ _ _) | (with_reducible refine Ok.exb ?_ _)))))
theorem infoKey : (Tryd.prog.info? 58).map (fun i => (i.zero, i.size, i.bytes)) = some (some (.agg #[.int .i64 0, .int .i64 0]), 2, 16) := by kernel_rfl
theorem eqKeyS_any (A B : Option Addr) (c d : Nat) (l : List Ky) (w : World) [hl : Rd 2 kC w A l] [hm : Rd 2 kC w B l] :
    Calls Tryd.prog 44 #[.slice A l.length c, .slice B l.length d] w fun e w' => e = .returned (.bool true) ∧ ∃ k : Ex w, w' = k.v := by
  have hlen := hl.len
  have HA := hid hl.k
  have HB := hid hm.k
  go_enter Tryd.func44, Tryd.ntmps44
  go_wp2
  go_loopw [5] (fun t wr => ∃ q : Nat, q ≤ l.length ∧ t = .int .i64 q ∧ ∃ j : Ex w, wr = j.v) (fun t _ => l.length - (intOf t).toNat)
  case atStart => exact ⟨0, Nat.zero_le _, rfl, Ex.rf w, rfl⟩
  case round =>
    obtain ⟨q, hq, rfl, j0, rfl⟩ := hrel
    by_cases hlt : q < l.length
    · obtain ⟨b, o, rfl, hbw, hc⟩ := HA.out (by omega)
      obtain ⟨c0, c1⟩ := hc q hlt
      obtain ⟨b', o', rfl, hbw', hc'⟩ := HB.out (by omega)
      obtain ⟨d0, d1⟩ := hc' q hlt
      go_wp2
      (refine wp_region_ex (by kernel_rfl) (by kernel_rfl) ?_; (repeat (go_big_quiet_step (((go_at_call 78; exact calls_ex (eqKey_any l[q] _)))))); refine wpQuiet_nil ?_; rintro _ ⟨k, rfl⟩)
      go_wp2
      go_roundw
      case rel => exact ⟨q + 1, by omega, by go_num, j0.tr k, rfl⟩
      case measure => simp [intOf]; omega
    · go_wp2
      go_ret
      exact ⟨rfl, j0, rfl⟩
theorem eqTrack_any (nm : ByteArray) (A B : Option Addr) (c d : Nat) (l : List Ky) (w : World) [hl : Rd 2 kC w A l] [hm : Rd 2 kC w B l] :
    Calls Tryd.prog 13 #[.agg #[.string nm, .slice A l.length c], .agg #[.string nm, .slice B l.length d]] w fun e w' => e = .returned (.bool true) ∧ ∃ k : Ex w, w' = k.v := by
  go_enter Tryd.func13, Tryd.ntmps13
  go_wp2_with ((go_at_call 44; refine (eqKeyS_any _ _ _ _ l _).mono ?_; rintro e w' ⟨rfl, k, rfl⟩))
  (go_ret; refine ⟨by first | rfl | (simp; done), ?_⟩; (refine Ok.toEx ?_; (repeat (first | (with_reducible exact Ok.rf _) | (with_reducible refine Ok.alloc ?_ _) | (with_reducible refine Ok.ex ?_ _) | (with_reducible refine Ok.drew ?_) | (with_reducible refine Ok.setCellI ?_ _ _ _) | (with_reducible refine Ok.exb ?_ _)))))
theorem markKeyS_any (W0 : World) (A : Option Addr) (c : Nat) (l : List Ky) (k0 : Int) (w : World) [hu : Up W0 w] [hf : Fr W0 A] [ho : Ow 2 kC w A l] (hn : l.length ≤ 1048576) (h0 : 0 ≤ k0) (h1 : k0 ≤ 4194304) :
    Calls Tryd.prog 45 #[.slice A l.length c, .int .i64 k0] w fun e w' => e = .returned (.int .i64 (k0 + 2 * l.length)) ∧ ∃ k : Ex W0, w' = k.v ∧ Ow 2 kC k.v A (kMk l.length k0) ∧ But A w k.v := by
  by_cases hl0 : 0 < l.length
  · obtain ⟨b, rfl, hw⟩ := ho.own hl0
    have hle : LeB W0.heap.size b := ⟨hf.h b 0 none rfl⟩
    have hml := kMk_len l.length k0
    obtain ⟨e, N, F, hN, hr, -⟩ := hw.row
    have hr0 := hid (Filling.start (f := kC) (l := kMk l.length k0) hr (by rw [hml]; exact hN))
    clear hr hw
    go_enter Tryd.func45, Tryd.ntmps45
    go_wp2
    go_loopw [5, 1] (fun t u wr => ∃ q : Nat, q ≤ l.length ∧ t = .int .i64 q ∧ u = .int .i64 (k0 + 2 * q) ∧ ∃ j : Ex W0, wr = j.v ∧ Filling e 2 kC j.v b (kMk l.length k0) q ∧ But (some ⟨b, 0, none⟩) w j.v) (fun t _ _ => l.length - (intOf t).toNat)
    case atStart => exact ⟨0, Nat.zero_le _, rfl, by go_num, ⟨w, hu.h⟩, rfl, hr0.out, But.rf _ _⟩
    case round =>
      obtain ⟨q, hq, rfl, rfl, j0, rfl, hF, hB⟩ := hrel
      have HB := hid hB
      clear hB
      by_cases hlt : q < l.length
      · have hb1 := hF.lt
        obtain ⟨_, r0, f0⟩ := hF.cell (q * 2) (by omega)
        obtain ⟨_, r1, f1⟩ := hF.cell (q * 2 + 1) (by omega)
        have HF := hid hF
        clear hF
        go_wp2
        go_roundw
        case rel =>
          refine ⟨q + 1, by omega, by go_num, by go_num, ex_and (fun W => Filling _ 2 kC W b _ (q + 1) ∧ But _ w W) ?_ ⟨HF.out.stepv (vs := [.int .i64 (k0 + 2 * q), .int .i64 (k0 + 2 * q + 1)]) (by omega) (by rw [kMk_get]; rfl) rfl, (HB.out.set _ _).set _ _⟩⟩
          (refine Ok.toEx ?_; (repeat (first | (with_reducible exact Ok.rf _) | (with_reducible refine Ok.alloc ?_ _) | (with_reducible refine Ok.ex ?_ _) | (with_reducible refine Ok.drew ?_) | (with_reducible refine Ok.setCellI ?_ _ _ _) | (with_reducible refine Ok.exb ?_ _))))
        case measure => simp [intOf]; omega
      · obtain rfl : q = l.length := by omega
        go_wp2
        go_ret
        exact ⟨rfl, j0, rfl, ⟨fun _ => ⟨b, rfl, hF.done (by omega) (by omega) fun _ => rfl⟩⟩, HB.out⟩
  · have hz : l = [] := List.eq_nil_of_length_eq_zero (by omega)
    subst hz
    go_enter Tryd.func45, Tryd.ntmps45
    go_wp2
    go_loop [5, 1] (fun t u => t = .int .i64 0 ∧ u = .int .i64 k0) (fun t _ => 0)
    case atStart => exact ⟨rfl, rfl⟩
    case round =>
      obtain ⟨rfl, rfl⟩ := hrel
      go_wp2
      go_ret
      exact ⟨by simp, ⟨w, hu.h⟩, rfl, inferInstanceAs (Ow 2 kC w A ([] : List Ky)), But.rf _ _⟩
end
end Go.Proofs.YtdhflckombkimaaDoor
namespace Go.Proofs.YtdhflckombkimaaDoor
open Go.RowKit
section
set_option maxHeartbeats 3200000
set_option maxRecDepth 20000
theorem tm_yes (n : Int) (w : World) (h1 : 0 ≤ n) (h2 : n ≤ 7200000) : Calls Tryd.prog 97 #[.int .i64 n] w fun e w' => e = .returned (.bool true) ∧ w = w' := by
  go_enter Tryd.func97, Tryd.ntmps97
  go_wp2_with ((go_at_call 101; first | (refine (in_yes _ _ _ _ (by omega) (by omega)).mono ?_; rintro e w' ⟨rfl, rfl⟩) | (refine (in_no _ _ _ _ (by omega)).mono ?_; rintro e w' ⟨rfl, rfl⟩)))
  go_ret
  exact ⟨rfl, rfl⟩
theorem tm_no (n : Int) (w : World) (h : n < 0 ∨ 7200000 < n) : Calls Tryd.prog 97 #[.int .i64 n] w fun e w' => e = .returned (.bool false) ∧ w = w' := by
  go_enter Tryd.func97, Tryd.ntmps97
  go_wp2_with ((go_at_call 101; first | (refine (in_yes _ _ _ _ (by omega) (by omega)).mono ?_; rintro e w' ⟨rfl, rfl⟩) | (refine (in_no _ _ _ _ (by omega)).mono ?_; rintro e w' ⟨rfl, rfl⟩)))
  go_ret
  exact ⟨rfl, rfl⟩
theorem vl_yes (n : Int) (w : World) (h1 : -1000000 ≤ n) (h2 : n ≤ 1000000) : Calls Tryd.prog 98 #[.int .i64 n] w fun e w' => e = .returned (.bool true) ∧ w = w' := by
  go_enter Tryd.func98, Tryd.ntmps98
  go_wp2_with ((go_at_call 101; first | (refine (in_yes _ _ _ _ (by omega) (by omega)).mono ?_; rintro e w' ⟨rfl, rfl⟩) | (refine (in_no _ _ _ _ (by omega)).mono ?_; rintro e w' ⟨rfl, rfl⟩)))
  go_ret
  exact ⟨rfl, rfl⟩
theorem vl_no (n : Int) (w : World) (h : n < -1000000 ∨ 1000000 < n) : Calls Tryd.prog 98 #[.int .i64 n] w fun e w' => e = .returned (.bool false) ∧ w = w' := by
  go_enter Tryd.func98, Tryd.ntmps98
  go_wp2_with ((go_at_call 101; first | (refine (in_yes _ _ _ _ (by omega) (by omega)).mono ?_; rintro e w' ⟨rfl, rfl⟩) | (refine (in_no _ _ _ _ (by omega)).mono ?_; rintro e w' ⟨rfl, rfl⟩)))
  go_ret
  exact ⟨rfl, rfl⟩
theorem vk_yes (x : Ky) (w : World) (h1 : 0 ≤ x.t) (h2 : x.t ≤ 7200000) (h3 : -1000000 ≤ x.v) (h4 : x.v ≤ 1000000) : Calls Tryd.prog 67 #[.agg #[.int .i64 x.t, .int .i64 x.v]] w fun e w' => e = .returned (.bool true) ∧ ∃ k : Ex w, w' = k.v := by
  go_enter Tryd.func67, Tryd.ntmps67
  go_wp2_with ((go_at_call 63; first | (refine (wi_yes _ _ _ _ (by omega) (by omega)).mono ?_; rintro e w' ⟨rfl, rfl⟩) | (refine (wi_no _ _ _ _ (by omega)).mono ?_; rintro e w' ⟨rfl, rfl⟩)))
  (go_ret; refine ⟨by first | rfl | (simp; done), ?_⟩; (refine Ok.toEx ?_; (repeat (first | (with_reducible exact Ok.rf _) | (with_reducible refine Ok.alloc ?_ _) | (with_reducible refine Ok.ex ?_ _) | (with_reducible refine Ok.drew ?_) | (with_reducible refine Ok.setCellI ?_ _ _ _) | (with_reducible refine Ok.exb ?_ _)))))
theorem vk_no (x : Ky) (w : World) (h : (x.t < 0 ∨ 7200000 < x.t) ∨ ((0 ≤ x.t ∧ x.t ≤ 7200000) ∧ (x.v < -1000000 ∨ 1000000 < x.v))) : Calls Tryd.prog 67 #[.agg #[.int .i64 x.t, .int .i64 x.v]] w fun e w' => e = .returned (.bool false) ∧ ∃ k : Ex w, w' = k.v := by
  rcases h with h | ⟨⟨h1, h2⟩, h⟩
  all_goals
    go_enter Tryd.func67, Tryd.ntmps67
    go_wp2_with ((go_at_call 63; first | (refine (wi_yes _ _ _ _ (by omega) (by omega)).mono ?_; rintro e w' ⟨rfl, rfl⟩) | (refine (wi_no _ _ _ _ (by omega)).mono ?_; rintro e w' ⟨rfl, rfl⟩)))
    (go_ret; refine ⟨by first | rfl | (simp; done), ?_⟩; (refine Ok.toEx ?_; (repeat (first | (with_reducible exact Ok.rf _) | (with_reducible refine Ok.alloc ?_ _) | (with_reducible refine Ok.ex ?_ _) | (with_reducible refine Ok.drew ?_) | (with_reducible refine Ok.setCellI ?_ _ _ _) | (with_reducible refine Ok.exb ?_ _)))))
theorem one_yes (nm : ByteArray) (A : Option Addr) (c : Nat) (l : List Ky) (b : Nat) (w : World) [LtW b w] [hl : Rd 2 kC w A l] (hc0 : w.cell? ⟨b, 0, none⟩ = some (.string nm)) (hc1 : w.cell? ⟨b, 1, none⟩ = some (.slice A l.length c)) (h1 : okN nm) (h2 : okK l) :
    Calls Tryd.prog 70 #[.pointer (some ⟨b, 0, none⟩)] w fun e w' => e = .returned (.bool true) ∧ ∃ k : Ex w, w' = k.v := by
  have HA := hid hl.k
  have hln := h2.1.1
  have hln2 := h2.1.2
  have HR := hid h2.2
  clear h2
  go_enter Tryd.func70, Tryd.ntmps70
  go_wp2_with ((go_at_call 96; first | (refine (l01Name_yes _ _ (by assumption)).mono ?_; rintro e w' ⟨rfl, rfl⟩) | (refine (l01Name_no _ _ (by assumption) (by assumption)).mono ?_; rintro e w' ⟨rfl, rfl⟩)))
  go_loopw [3] (fun t wr => ∃ q : Nat, q ≤ l.length ∧ t = .int .i64 q ∧ ∃ j : Ex w, wr = j.v) (fun t _ => l.length - (intOf t).toNat)
  case atStart => exact ⟨0, Nat.zero_le _, rfl, Ex.rf w, rfl⟩
  case round =>
    obtain ⟨q, hq, rfl, j0, rfl⟩ := hrel
    by_cases hlt : q < l.length
    · obtain ⟨b', o, rfl, hbw, hc⟩ := HA.out (by omega)
      obtain ⟨⟨k1, k2⟩, ⟨k3, k4⟩, k5⟩ := HR.out q hlt
      obtain ⟨c0, c1⟩ := hc q hlt
      by_cases hq0 : 0 < q
      · have k5 := k5 hq0
        obtain ⟨p, rfl⟩ : ∃ p, q = p + 1 := ⟨q - 1, by omega⟩
        obtain ⟨d0, d1⟩ := hc p (by omega)
        simp only [Nat.add_sub_cancel] at k5
        clear hc
        go_wp2
        (refine wp_region_ex (by kernel_rfl) (by kernel_rfl) ?_; (repeat (go_big_quiet_step (((first | (go_at_call 97; first | exact calls_ex_same (tm_yes _ _ (by omega) (by omega)) | exact calls_ex_same (tm_no _ _ (by omega))) | (go_at_call 98; first | exact calls_ex_same (vl_yes _ _ (by omega) (by omega)) | exact calls_ex_same (vl_no _ _ (by omega)))))))); refine wpQuiet_nil ?_; rintro _ ⟨k, rfl⟩)
        go_wp2
        go_roundw
        case rel => exact ⟨p + 1 + 1, by omega, by go_num, j0.tr k, rfl⟩
        case measure => simp [intOf]; omega
      · obtain rfl : q = 0 := by omega
        have c0 : w.cell? ⟨b', o, none⟩ = _ := c0
        have c1 : w.cell? ⟨b', o + 1, none⟩ = _ := c1
        clear hc k5
        go_wp2
        (refine wp_region_ex (by kernel_rfl) (by kernel_rfl) ?_; (repeat (go_big_quiet_step (((first | (go_at_call 97; first | exact calls_ex_same (tm_yes _ _ (by omega) (by omega)) | exact calls_ex_same (tm_no _ _ (by omega))) | (go_at_call 98; first | exact calls_ex_same (vl_yes _ _ (by omega) (by omega)) | exact calls_ex_same (vl_no _ _ (by omega)))))))); refine wpQuiet_nil ?_; rintro _ ⟨k, rfl⟩)
        go_wp2
        go_roundw
        case rel => exact ⟨1, by omega, by go_num, j0.tr k, rfl⟩
        case measure => simp [intOf]; omega
    · go_wp2
      go_ret
      exact ⟨rfl, j0, rfl⟩
theorem one_no (nm : ByteArray) (A : Option Addr) (c : Nat) (l : List Ky) (b : Nat) (w : World) [LtW b w] [hl : Rd 2 kC w A l] (hs : nm.size ≤ maxLen) (hn : l.length ≤ 1048576) (hc0 : w.cell? ⟨b, 0, none⟩ = some (.string nm)) (hc1 : w.cell? ⟨b, 1, none⟩ = some (.slice A l.length c)) (h : vT nm l = false) :
    Calls Tryd.prog 70 #[.pointer (some ⟨b, 0, none⟩)] w fun e w' => e = .returned (.bool false) ∧ ∃ k : Ex w, w' = k.v := by
  have HA := hid hl.k
  rcases vT_why h with h1 | ⟨h1, h2⟩ | ⟨h1, h2, h3⟩ | ⟨h1, h2, h3, h4⟩
  · clear h
    go_enter Tryd.func70, Tryd.ntmps70
    go_wp2_with ((go_at_call 96; first | (refine (l01Name_yes _ _ (by assumption)).mono ?_; rintro e w' ⟨rfl, rfl⟩) | (refine (l01Name_no _ _ (by assumption) (by assumption)).mono ?_; rintro e w' ⟨rfl, rfl⟩)))
    (go_ret; refine ⟨by first | rfl | (simp; done), ?_⟩; (refine Ok.toEx ?_; (repeat (first | (with_reducible exact Ok.rf _) | (with_reducible refine Ok.alloc ?_ _) | (with_reducible refine Ok.ex ?_ _) | (with_reducible refine Ok.drew ?_) | (with_reducible refine Ok.setCellI ?_ _ _ _) | (with_reducible refine Ok.exb ?_ _)))))
  · clear h
    go_enter Tryd.func70, Tryd.ntmps70
    go_wp2_with ((go_at_call 96; first | (refine (l01Name_yes _ _ (by assumption)).mono ?_; rintro e w' ⟨rfl, rfl⟩) | (refine (l01Name_no _ _ (by assumption) (by assumption)).mono ?_; rintro e w' ⟨rfl, rfl⟩)))
    (go_ret; refine ⟨by first | rfl | (simp; done), ?_⟩; (refine Ok.toEx ?_; (repeat (first | (with_reducible exact Ok.rf _) | (with_reducible refine Ok.alloc ?_ _) | (with_reducible refine Ok.ex ?_ _) | (with_reducible refine Ok.drew ?_) | (with_reducible refine Ok.setCellI ?_ _ _ _) | (with_reducible refine Ok.exb ?_ _)))))
  · clear h
    go_enter Tryd.func70, Tryd.ntmps70
    go_wp2_with ((go_at_call 96; first | (refine (l01Name_yes _ _ (by assumption)).mono ?_; rintro e w' ⟨rfl, rfl⟩) | (refine (l01Name_no _ _ (by assumption) (by assumption)).mono ?_; rintro e w' ⟨rfl, rfl⟩)))
    (go_ret; refine ⟨by first | rfl | (simp; done), ?_⟩; (refine Ok.toEx ?_; (repeat (first | (with_reducible exact Ok.rf _) | (with_reducible refine Ok.alloc ?_ _) | (with_reducible refine Ok.ex ?_ _) | (with_reducible refine Ok.drew ?_) | (with_reducible refine Ok.setCellI ?_ _ _ _) | (with_reducible refine Ok.exb ?_ _)))))
  · have HR := hid h4
    clear h h4
    go_enter Tryd.func70, Tryd.ntmps70
    go_wp2_with ((go_at_call 96; first | (refine (l01Name_yes _ _ (by assumption)).mono ?_; rintro e w' ⟨rfl, rfl⟩) | (refine (l01Name_no _ _ (by assumption) (by assumption)).mono ?_; rintro e w' ⟨rfl, rfl⟩)))
    go_loopw [3] (fun t wr => ∃ q : Nat, q ≤ l.length ∧ t = .int .i64 q ∧ (∀ i (h : i < l.length), i < q → kAt l i h) ∧ ∃ j : Ex w, wr = j.v) (fun t _ => l.length - (intOf t).toNat)
    case atStart => exact ⟨0, Nat.zero_le _, rfl, fun i _ h => absurd h (by omega), Ex.rf w, rfl⟩
    case round =>
      obtain ⟨q, hq, rfl, hs, j0, rfl⟩ := hrel
      have HS := hid hs
      clear hs
      by_cases hlt : q < l.length
      · obtain ⟨b', o, rfl, hbw, hc⟩ := HA.out (by omega)
        have HN : Hid (kAt l q hlt → ∀ i (h : i < l.length), i < q + 1 → kAt l i h) := hid fun h i hi hiq => by
          rcases Nat.lt_or_ge i q with h1 | h1
          · exact HS.out i hi h1
          · obtain rfl : i = q := by omega
            exact h
        obtain ⟨c0, c1⟩ := hc q hlt
        rcases kAt_cases l q hlt with ⟨k0, ⟨k1, k2⟩, ⟨k3, k4⟩, k5 | ⟨k5, k6⟩⟩ | ⟨k0, k1 | k1⟩ | ⟨k0, ⟨k1, k2⟩, k3 | k3⟩ | ⟨k0, ⟨k1, k2⟩, ⟨k3, k4⟩, k5, k6⟩
        · subst k5
          have c0 : w.cell? ⟨b', o, none⟩ = _ := c0
          have c1 : w.cell? ⟨b', o + 1, none⟩ = _ := c1
          have H0 := hid k0
          clear hc k0
          go_wp2
          (refine wp_region_ex (by kernel_rfl) (by kernel_rfl) ?_; (repeat (go_big_quiet_step (((first | (go_at_call 97; first | exact calls_ex_same (tm_yes _ _ (by omega) (by omega)) | exact calls_ex_same (tm_no _ _ (by omega))) | (go_at_call 98; first | exact calls_ex_same (vl_yes _ _ (by omega) (by omega)) | exact calls_ex_same (vl_no _ _ (by omega)))))))); refine wpQuiet_nil ?_; rintro _ ⟨k, rfl⟩)
          go_wp2
          go_roundw
          case rel => exact ⟨1, by omega, by go_num, HN.out H0.out, j0.tr k, rfl⟩
          case measure => simp [intOf]; omega
        · obtain ⟨p, rfl⟩ : ∃ p, q = p + 1 := ⟨q - 1, by omega⟩
          obtain ⟨d0, d1⟩ := hc p (by omega)
          simp only [Nat.add_sub_cancel] at k6
          have H0 := hid k0
          clear hc k0
          go_wp2
          (refine wp_region_ex (by kernel_rfl) (by kernel_rfl) ?_; (repeat (go_big_quiet_step (((first | (go_at_call 97; first | exact calls_ex_same (tm_yes _ _ (by omega) (by omega)) | exact calls_ex_same (tm_no _ _ (by omega))) | (go_at_call 98; first | exact calls_ex_same (vl_yes _ _ (by omega) (by omega)) | exact calls_ex_same (vl_no _ _ (by omega)))))))); refine wpQuiet_nil ?_; rintro _ ⟨k, rfl⟩)
          go_wp2
          go_roundw
          case rel => exact ⟨p + 1 + 1, by omega, by go_num, HN.out H0.out, j0.tr k, rfl⟩
          case measure => simp [intOf]; omega
        · clear hc
          go_wp2
          (refine wp_region_ex (by kernel_rfl) (by kernel_rfl) ?_; (repeat (go_big_quiet_step (((first | (go_at_call 97; first | exact calls_ex_same (tm_yes _ _ (by omega) (by omega)) | exact calls_ex_same (tm_no _ _ (by omega))) | (go_at_call 98; first | exact calls_ex_same (vl_yes _ _ (by omega) (by omega)) | exact calls_ex_same (vl_no _ _ (by omega)))))))); refine wpQuiet_nil ?_; rintro _ ⟨k, rfl⟩)
          go_wp2
          (go_ret; refine ⟨by first | rfl | (simp; done), ?_⟩; (refine Ok.toEx ?_; (repeat (first | (with_reducible exact Ok.rf _) | (with_reducible refine Ok.alloc ?_ _) | (with_reducible refine Ok.ex ?_ _) | (with_reducible refine Ok.drew ?_) | (with_reducible refine Ok.setCellI ?_ _ _ _) | (with_reducible refine Ok.exb ?_ _)))))
        · clear hc
          go_wp2
          (refine wp_region_ex (by kernel_rfl) (by kernel_rfl) ?_; (repeat (go_big_quiet_step (((first | (go_at_call 97; first | exact calls_ex_same (tm_yes _ _ (by omega) (by omega)) | exact calls_ex_same (tm_no _ _ (by omega))) | (go_at_call 98; first | exact calls_ex_same (vl_yes _ _ (by omega) (by omega)) | exact calls_ex_same (vl_no _ _ (by omega)))))))); refine wpQuiet_nil ?_; rintro _ ⟨k, rfl⟩)
          go_wp2
          (go_ret; refine ⟨by first | rfl | (simp; done), ?_⟩; (refine Ok.toEx ?_; (repeat (first | (with_reducible exact Ok.rf _) | (with_reducible refine Ok.alloc ?_ _) | (with_reducible refine Ok.ex ?_ _) | (with_reducible refine Ok.drew ?_) | (with_reducible refine Ok.setCellI ?_ _ _ _) | (with_reducible refine Ok.exb ?_ _)))))
        · clear hc
          go_wp2
          (refine wp_region_ex (by kernel_rfl) (by kernel_rfl) ?_; (repeat (go_big_quiet_step (((first | (go_at_call 97; first | exact calls_ex_same (tm_yes _ _ (by omega) (by omega)) | exact calls_ex_same (tm_no _ _ (by omega))) | (go_at_call 98; first | exact calls_ex_same (vl_yes _ _ (by omega) (by omega)) | exact calls_ex_same (vl_no _ _ (by omega)))))))); refine wpQuiet_nil ?_; rintro _ ⟨k, rfl⟩)
          go_wp2
          (go_ret; refine ⟨by first | rfl | (simp; done), ?_⟩; (refine Ok.toEx ?_; (repeat (first | (with_reducible exact Ok.rf _) | (with_reducible refine Ok.alloc ?_ _) | (with_reducible refine Ok.ex ?_ _) | (with_reducible refine Ok.drew ?_) | (with_reducible refine Ok.setCellI ?_ _ _ _) | (with_reducible refine Ok.exb ?_ _)))))
        · clear hc
          go_wp2
          (refine wp_region_ex (by kernel_rfl) (by kernel_rfl) ?_; (repeat (go_big_quiet_step (((first | (go_at_call 97; first | exact calls_ex_same (tm_yes _ _ (by omega) (by omega)) | exact calls_ex_same (tm_no _ _ (by omega))) | (go_at_call 98; first | exact calls_ex_same (vl_yes _ _ (by omega) (by omega)) | exact calls_ex_same (vl_no _ _ (by omega)))))))); refine wpQuiet_nil ?_; rintro _ ⟨k, rfl⟩)
          go_wp2
          (go_ret; refine ⟨by first | rfl | (simp; done), ?_⟩; (refine Ok.toEx ?_; (repeat (first | (with_reducible exact Ok.rf _) | (with_reducible refine Ok.alloc ?_ _) | (with_reducible refine Ok.ex ?_ _) | (with_reducible refine Ok.drew ?_) | (with_reducible refine Ok.setCellI ?_ _ _ _) | (with_reducible refine Ok.exb ?_ _)))))
        · obtain ⟨p, rfl⟩ : ∃ p, q = p + 1 := ⟨q - 1, by omega⟩
          obtain ⟨d0, d1⟩ := hc p (by omega)
          simp only [Nat.add_sub_cancel] at k6
          clear hc
          go_wp2
          (refine wp_region_ex (by kernel_rfl) (by kernel_rfl) ?_; (repeat (go_big_quiet_step (((first | (go_at_call 97; first | exact calls_ex_same (tm_yes _ _ (by omega) (by omega)) | exact calls_ex_same (tm_no _ _ (by omega))) | (go_at_call 98; first | exact calls_ex_same (vl_yes _ _ (by omega) (by omega)) | exact calls_ex_same (vl_no _ _ (by omega)))))))); refine wpQuiet_nil ?_; rintro _ ⟨k, rfl⟩)
          go_wp2
          (go_ret; refine ⟨by first | rfl | (simp; done), ?_⟩; (refine Ok.toEx ?_; (repeat (first | (with_reducible exact Ok.rf _) | (with_reducible refine Ok.alloc ?_ _) | (with_reducible refine Ok.ex ?_ _) | (with_reducible refine Ok.drew ?_) | (with_reducible refine Ok.setCellI ?_ _ _ _) | (with_reducible refine Ok.exb ?_ _)))))
      · exact absurd (fun i hi => HS.out i hi (by omega)) HR.out
end
end Go.Proofs.YtdhflckombkimaaDoor
namespace Go.Proofs.YtdhflckombkimaaDoor
open Go.RowKit
section
set_option maxHeartbeats 3200000
set_option maxRecDepth 20000
theorem one_any (nm : ByteArray) (A : Option Addr) (c : Nat) (l : List Ky) (b : Nat) (w : World) [LtW b w] [hl : Rd 2 kC w A l] (hs : nm.size ≤ maxLen) (hn : l.length ≤ 1048576) (hc0 : w.cell? ⟨b, 0, none⟩ = some (.string nm)) (hc1 : w.cell? ⟨b, 1, none⟩ = some (.slice A l.length c)) :
    Calls Tryd.prog 70 #[.pointer (some ⟨b, 0, none⟩)] w fun e w' => e = .returned (.bool (vT nm l)) ∧ ∃ k : Ex w, w' = k.v := by
  cases h : vT nm l
  · exact one_no nm A c l b w hs hn hc0 hc1 h
  · obtain ⟨h1, h2⟩ := vT_of h
    exact one_yes nm A c l b w hc0 hc1 h1 h2
theorem sVT_any (nm : ByteArray) (A : Option Addr) (c : Nat) (l : List Ky) (w : World) [hl : Rd 2 kC w A l] (hs : nm.size ≤ maxLen) (hn : l.length ≤ 1048576) :
    Calls Tryd.prog 35 #[.agg #[.string nm, .slice A l.length c]] w fun e w' => e = .returned (.bool (vT nm l)) ∧ ∃ k : Ex w, w' = k.v := by
  go_enter Tryd.func35, Tryd.ntmps35
  go_wp2_with ((go_at_call 70; refine (one_any nm A c l _ _ hs hn (by simp [go_sem]) (by simp [go_sem])).mono ?_; rintro e w' ⟨rfl, k, rfl⟩))
  (go_ret; refine ⟨by first | rfl | (simp; done), ?_⟩; (refine Ok.toEx ?_; (repeat (first | (with_reducible exact Ok.rf _) | (with_reducible refine Ok.alloc ?_ _) | (with_reducible refine Ok.ex ?_ _) | (with_reducible refine Ok.drew ?_) | (with_reducible refine Ok.setCellI ?_ _ _ _) | (with_reducible refine Ok.exb ?_ _)))))
theorem iVT_yes (nm : ByteArray) (A : Option Addr) (c : Nat) (l : List Ky) (w : World) [hl : Rd 2 kC w A l] (h1 : okN nm) (h2 : okK l) :
    Calls Tryd.prog 43 #[.agg #[.string nm, .slice A l.length c]] w fun e w' => e = .returned (.bool true) ∧ ∃ k : Ex w, w' = k.v := by
  have HA := hid hl.k
  have hln := h2.1.1
  have hln2 := h2.1.2
  have HR := hid h2.2
  clear h2
  go_enter Tryd.func43, Tryd.ntmps43
  go_wp2_with (first | (go_at_call 76; first | (refine (isName_yes _ _ (by assumption)).mono ?_; rintro e w' ⟨rfl, rfl⟩) | (refine (isName_no _ _ (by assumption) (by assumption)).mono ?_; rintro e w' ⟨rfl, rfl⟩)) | (go_at_call 63; first | (refine (wi_yes _ _ _ _ (by omega) (by omega)).mono ?_; rintro e w' ⟨rfl, rfl⟩) | (refine (wi_no _ _ _ _ (by omega)).mono ?_; rintro e w' ⟨rfl, rfl⟩)))
  go_loopw [19] (fun t wr => ∃ q : Nat, q ≤ l.length ∧ t = .int .i64 q ∧ ∃ j : Ex (w.alloc (.cells #[.string nm, .slice A l.length c] 30)), wr = j.v) (fun t _ => l.length - (intOf t).toNat)
  case atStart => exact ⟨0, Nat.zero_le _, rfl, Ex.rf _, rfl⟩
  case round =>
    obtain ⟨q, hq, rfl, j0, rfl⟩ := hrel
    by_cases hlt : q < l.length
    · obtain ⟨b', o, rfl, hbw, hc⟩ := HA.out (by omega)
      obtain ⟨⟨k1, k2⟩, ⟨k3, k4⟩, k5⟩ := HR.out q hlt
      obtain ⟨c0, c1⟩ := hc q hlt
      by_cases hq0 : 0 < q
      · have k5 := k5 hq0
        obtain ⟨p, rfl⟩ : ∃ p, q = p + 1 := ⟨q - 1, by omega⟩
        obtain ⟨d0, d1⟩ := hc p (by omega)
        simp only [Nat.add_sub_cancel] at k5
        clear hc
        generalize l[p + 1] = x at *
        go_wp2
        (refine wp_region_ex (by kernel_rfl) (by kernel_rfl) ?_; (repeat (go_big_quiet_step (((go_at_call 67; first | exact calls_ex (vk_yes x _ (by omega) (by omega) (by omega) (by omega)) | exact calls_ex (vk_no x _ (by omega))))))); refine wpQuiet_nil ?_; rintro _ ⟨k, rfl⟩)
        go_wp2
        go_roundw
        case rel => refine ⟨p + 1 + 1, by omega, by go_num, ?_⟩; (refine Ok.toEx ?_; (repeat (first | (with_reducible exact Ok.rf _) | (with_reducible refine Ok.alloc ?_ _) | (with_reducible refine Ok.ex ?_ _) | (with_reducible refine Ok.drew ?_) | (with_reducible refine Ok.setCellI ?_ _ _ _) | (with_reducible refine Ok.exb ?_ _))))
        case measure => simp [intOf]; omega
      · obtain rfl : q = 0 := by omega
        have c0 : w.cell? ⟨b', o, none⟩ = _ := c0
        have c1 : w.cell? ⟨b', o + 1, none⟩ = _ := c1
        clear hc k5
        generalize l[0] = x at *
        go_wp2
        (refine wp_region_ex (by kernel_rfl) (by kernel_rfl) ?_; (repeat (go_big_quiet_step (((go_at_call 67; first | exact calls_ex (vk_yes x _ (by omega) (by omega) (by omega) (by omega)) | exact calls_ex (vk_no x _ (by omega))))))); refine wpQuiet_nil ?_; rintro _ ⟨k, rfl⟩)
        go_wp2
        go_roundw
        case rel => refine ⟨1, by omega, by go_num, ?_⟩; (refine Ok.toEx ?_; (repeat (first | (with_reducible exact Ok.rf _) | (with_reducible refine Ok.alloc ?_ _) | (with_reducible refine Ok.ex ?_ _) | (with_reducible refine Ok.drew ?_) | (with_reducible refine Ok.setCellI ?_ _ _ _) | (with_reducible refine Ok.exb ?_ _))))
        case measure => simp [intOf]; omega
    · go_wp2
      go_ret
      refine ⟨rfl, ?_⟩
      (refine Ok.toEx ?_; (repeat (first | (with_reducible exact Ok.rf _) | (with_reducible refine Ok.alloc ?_ _) | (with_reducible refine Ok.ex ?_ _) | (with_reducible refine Ok.drew ?_) | (with_reducible refine Ok.setCellI ?_ _ _ _) | (with_reducible refine Ok.exb ?_ _))))
theorem iVT_no (nm : ByteArray) (A : Option Addr) (c : Nat) (l : List Ky) (w : World) [hl : Rd 2 kC w A l] (hs : nm.size ≤ maxLen) (hn : l.length ≤ 1048576) (h : vT nm l = false) :
    Calls Tryd.prog 43 #[.agg #[.string nm, .slice A l.length c]] w fun e w' => e = .returned (.bool false) ∧ ∃ k : Ex w, w' = k.v := by
  have HA := hid hl.k
  rcases vT_why h with h1 | ⟨h1, h2⟩ | ⟨h1, h2, h3⟩ | ⟨h1, h2, h3, h4⟩
  · clear h
    go_enter Tryd.func43, Tryd.ntmps43
    go_wp2_with (first | (go_at_call 76; first | (refine (isName_yes _ _ (by assumption)).mono ?_; rintro e w' ⟨rfl, rfl⟩) | (refine (isName_no _ _ (by assumption) (by assumption)).mono ?_; rintro e w' ⟨rfl, rfl⟩)) | (go_at_call 63; first | (refine (wi_yes _ _ _ _ (by omega) (by omega)).mono ?_; rintro e w' ⟨rfl, rfl⟩) | (refine (wi_no _ _ _ _ (by omega)).mono ?_; rintro e w' ⟨rfl, rfl⟩)))
    (go_ret; refine ⟨by first | rfl | (simp; done), ?_⟩; (refine Ok.toEx ?_; (repeat (first | (with_reducible exact Ok.rf _) | (with_reducible refine Ok.alloc ?_ _) | (with_reducible refine Ok.ex ?_ _) | (with_reducible refine Ok.drew ?_) | (with_reducible refine Ok.setCellI ?_ _ _ _) | (with_reducible refine Ok.exb ?_ _)))))
  · clear h
    go_enter Tryd.func43, Tryd.ntmps43
    go_wp2_with (first | (go_at_call 76; first | (refine (isName_yes _ _ (by assumption)).mono ?_; rintro e w' ⟨rfl, rfl⟩) | (refine (isName_no _ _ (by assumption) (by assumption)).mono ?_; rintro e w' ⟨rfl, rfl⟩)) | (go_at_call 63; first | (refine (wi_yes _ _ _ _ (by omega) (by omega)).mono ?_; rintro e w' ⟨rfl, rfl⟩) | (refine (wi_no _ _ _ _ (by omega)).mono ?_; rintro e w' ⟨rfl, rfl⟩)))
    (go_ret; refine ⟨by first | rfl | (simp; done), ?_⟩; (refine Ok.toEx ?_; (repeat (first | (with_reducible exact Ok.rf _) | (with_reducible refine Ok.alloc ?_ _) | (with_reducible refine Ok.ex ?_ _) | (with_reducible refine Ok.drew ?_) | (with_reducible refine Ok.setCellI ?_ _ _ _) | (with_reducible refine Ok.exb ?_ _)))))
  · clear h
    go_enter Tryd.func43, Tryd.ntmps43
    go_wp2_with (first | (go_at_call 76; first | (refine (isName_yes _ _ (by assumption)).mono ?_; rintro e w' ⟨rfl, rfl⟩) | (refine (isName_no _ _ (by assumption) (by assumption)).mono ?_; rintro e w' ⟨rfl, rfl⟩)) | (go_at_call 63; first | (refine (wi_yes _ _ _ _ (by omega) (by omega)).mono ?_; rintro e w' ⟨rfl, rfl⟩) | (refine (wi_no _ _ _ _ (by omega)).mono ?_; rintro e w' ⟨rfl, rfl⟩)))
    (go_ret; refine ⟨by first | rfl | (simp; done), ?_⟩; (refine Ok.toEx ?_; (repeat (first | (with_reducible exact Ok.rf _) | (with_reducible refine Ok.alloc ?_ _) | (with_reducible refine Ok.ex ?_ _) | (with_reducible refine Ok.drew ?_) | (with_reducible refine Ok.setCellI ?_ _ _ _) | (with_reducible refine Ok.exb ?_ _)))))
  · have HR := hid h4
    clear h h4
    go_enter Tryd.func43, Tryd.ntmps43
    go_wp2_with (first | (go_at_call 76; first | (refine (isName_yes _ _ (by assumption)).mono ?_; rintro e w' ⟨rfl, rfl⟩) | (refine (isName_no _ _ (by assumption) (by assumption)).mono ?_; rintro e w' ⟨rfl, rfl⟩)) | (go_at_call 63; first | (refine (wi_yes _ _ _ _ (by omega) (by omega)).mono ?_; rintro e w' ⟨rfl, rfl⟩) | (refine (wi_no _ _ _ _ (by omega)).mono ?_; rintro e w' ⟨rfl, rfl⟩)))
    go_loopw [19] (fun t wr => ∃ q : Nat, q ≤ l.length ∧ t = .int .i64 q ∧ (∀ i (h : i < l.length), i < q → kAt l i h) ∧ ∃ j : Ex (w.alloc (.cells #[.string nm, .slice A l.length c] 30)), wr = j.v) (fun t _ => l.length - (intOf t).toNat)
    case atStart => exact ⟨0, Nat.zero_le _, rfl, fun i _ h => absurd h (by omega), Ex.rf _, rfl⟩
    case round =>
      obtain ⟨q, hq, rfl, hs, j0, rfl⟩ := hrel
      have HS := hid hs
      clear hs
      by_cases hlt : q < l.length
      · obtain ⟨b', o, rfl, hbw, hc⟩ := HA.out (by omega)
        have HN : Hid (kAt l q hlt → ∀ i (h : i < l.length), i < q + 1 → kAt l i h) := hid fun h i hi hiq => by
          rcases Nat.lt_or_ge i q with h1 | h1
          · exact HS.out i hi h1
          · obtain rfl : i = q := by omega
            exact h
        obtain ⟨c0, c1⟩ := hc q hlt
        rcases kAt_cases l q hlt with ⟨k0, ⟨k1, k2⟩, ⟨k3, k4⟩, k5 | ⟨k5, k6⟩⟩ | ⟨k0, k1 | k1⟩ | ⟨k0, ⟨k1, k2⟩, k3 | k3⟩ | ⟨k0, ⟨k1, k2⟩, ⟨k3, k4⟩, k5, k6⟩
        · subst k5
          have c0 : w.cell? ⟨b', o, none⟩ = _ := c0
          have c1 : w.cell? ⟨b', o + 1, none⟩ = _ := c1
          have H0 := hid k0
          clear hc k0
          generalize l[0] = x at *
          go_wp2
          (refine wp_region_ex (by kernel_rfl) (by kernel_rfl) ?_; (repeat (go_big_quiet_step (((go_at_call 67; first | exact calls_ex (vk_yes x _ (by omega) (by omega) (by omega) (by omega)) | exact calls_ex (vk_no x _ (by omega))))))); refine wpQuiet_nil ?_; rintro _ ⟨k, rfl⟩)
          go_wp2
          go_roundw
          case rel => refine ⟨1, by omega, by go_num, HN.out H0.out, ?_⟩; (refine Ok.toEx ?_; (repeat (first | (with_reducible exact Ok.rf _) | (with_reducible refine Ok.alloc ?_ _) | (with_reducible refine Ok.ex ?_ _) | (with_reducible refine Ok.drew ?_) | (with_reducible refine Ok.setCellI ?_ _ _ _) | (with_reducible refine Ok.exb ?_ _))))
          case measure => simp [intOf]; omega
        · obtain ⟨p, rfl⟩ : ∃ p, q = p + 1 := ⟨q - 1, by omega⟩
          obtain ⟨d0, d1⟩ := hc p (by omega)
          simp only [Nat.add_sub_cancel] at k6
          have H0 := hid k0
          clear hc k0
          generalize l[p + 1] = x at *
          go_wp2
          (refine wp_region_ex (by kernel_rfl) (by kernel_rfl) ?_; (repeat (go_big_quiet_step (((go_at_call 67; first | exact calls_ex (vk_yes x _ (by omega) (by omega) (by omega) (by omega)) | exact calls_ex (vk_no x _ (by omega))))))); refine wpQuiet_nil ?_; rintro _ ⟨k, rfl⟩)
          go_wp2
          go_roundw
          case rel => refine ⟨p + 1 + 1, by omega, by go_num, HN.out H0.out, ?_⟩; (refine Ok.toEx ?_; (repeat (first | (with_reducible exact Ok.rf _) | (with_reducible refine Ok.alloc ?_ _) | (with_reducible refine Ok.ex ?_ _) | (with_reducible refine Ok.drew ?_) | (with_reducible refine Ok.setCellI ?_ _ _ _) | (with_reducible refine Ok.exb ?_ _))))
          case measure => simp [intOf]; omega
        · clear hc HN k0
          generalize l[q] = x at *
          go_wp2
          (refine wp_region_ex (by kernel_rfl) (by kernel_rfl) ?_; (repeat (go_big_quiet_step (((go_at_call 67; first | exact calls_ex (vk_yes x _ (by omega) (by omega) (by omega) (by omega)) | exact calls_ex (vk_no x _ (by omega))))))); refine wpQuiet_nil ?_; rintro _ ⟨k, rfl⟩)
          go_wp2
          (go_ret; refine ⟨by first | rfl | (simp; done), ?_⟩; (refine Ok.toEx ?_; (repeat (first | (with_reducible exact Ok.rf _) | (with_reducible refine Ok.alloc ?_ _) | (with_reducible refine Ok.ex ?_ _) | (with_reducible refine Ok.drew ?_) | (with_reducible refine Ok.setCellI ?_ _ _ _) | (with_reducible refine Ok.exb ?_ _)))))
        · clear hc HN k0
          generalize l[q] = x at *
          go_wp2
          (refine wp_region_ex (by kernel_rfl) (by kernel_rfl) ?_; (repeat (go_big_quiet_step (((go_at_call 67; first | exact calls_ex (vk_yes x _ (by omega) (by omega) (by omega) (by omega)) | exact calls_ex (vk_no x _ (by omega))))))); refine wpQuiet_nil ?_; rintro _ ⟨k, rfl⟩)
          go_wp2
          (go_ret; refine ⟨by first | rfl | (simp; done), ?_⟩; (refine Ok.toEx ?_; (repeat (first | (with_reducible exact Ok.rf _) | (with_reducible refine Ok.alloc ?_ _) | (with_reducible refine Ok.ex ?_ _) | (with_reducible refine Ok.drew ?_) | (with_reducible refine Ok.setCellI ?_ _ _ _) | (with_reducible refine Ok.exb ?_ _)))))
        · clear hc HN k0
          generalize l[q] = x at *
          go_wp2
          (refine wp_region_ex (by kernel_rfl) (by kernel_rfl) ?_; (repeat (go_big_quiet_step (((go_at_call 67; first | exact calls_ex (vk_yes x _ (by omega) (by omega) (by omega) (by omega)) | exact calls_ex (vk_no x _ (by omega))))))); refine wpQuiet_nil ?_; rintro _ ⟨k, rfl⟩)
          go_wp2
          (go_ret; refine ⟨by first | rfl | (simp; done), ?_⟩; (refine Ok.toEx ?_; (repeat (first | (with_reducible exact Ok.rf _) | (with_reducible refine Ok.alloc ?_ _) | (with_reducible refine Ok.ex ?_ _) | (with_reducible refine Ok.drew ?_) | (with_reducible refine Ok.setCellI ?_ _ _ _) | (with_reducible refine Ok.exb ?_ _)))))
        · clear hc HN k0
          generalize l[q] = x at *
          go_wp2
          (refine wp_region_ex (by kernel_rfl) (by kernel_rfl) ?_; (repeat (go_big_quiet_step (((go_at_call 67; first | exact calls_ex (vk_yes x _ (by omega) (by omega) (by omega) (by omega)) | exact calls_ex (vk_no x _ (by omega))))))); refine wpQuiet_nil ?_; rintro _ ⟨k, rfl⟩)
          go_wp2
          (go_ret; refine ⟨by first | rfl | (simp; done), ?_⟩; (refine Ok.toEx ?_; (repeat (first | (with_reducible exact Ok.rf _) | (with_reducible refine Ok.alloc ?_ _) | (with_reducible refine Ok.ex ?_ _) | (with_reducible refine Ok.drew ?_) | (with_reducible refine Ok.setCellI ?_ _ _ _) | (with_reducible refine Ok.exb ?_ _)))))
        · obtain ⟨p, rfl⟩ : ∃ p, q = p + 1 := ⟨q - 1, by omega⟩
          obtain ⟨d0, d1⟩ := hc p (by omega)
          simp only [Nat.add_sub_cancel] at k6
          clear hc HN k0
          generalize l[p + 1] = x at *
          go_wp2
          (refine wp_region_ex (by kernel_rfl) (by kernel_rfl) ?_; (repeat (go_big_quiet_step (((go_at_call 67; first | exact calls_ex (vk_yes x _ (by omega) (by omega) (by omega) (by omega)) | exact calls_ex (vk_no x _ (by omega))))))); refine wpQuiet_nil ?_; rintro _ ⟨k, rfl⟩)
          go_wp2
          (go_ret; refine ⟨by first | rfl | (simp; done), ?_⟩; (refine Ok.toEx ?_; (repeat (first | (with_reducible exact Ok.rf _) | (with_reducible refine Ok.alloc ?_ _) | (with_reducible refine Ok.ex ?_ _) | (with_reducible refine Ok.drew ?_) | (with_reducible refine Ok.setCellI ?_ _ _ _) | (with_reducible refine Ok.exb ?_ _)))))
      · exact absurd (fun i hi => HS.out i hi (by omega)) HR.out
theorem iVT_any (nm : ByteArray) (A : Option Addr) (c : Nat) (l : List Ky) (w : World) [hl : Rd 2 kC w A l] (hs : nm.size ≤ maxLen) (hn : l.length ≤ 1048576) :
    Calls Tryd.prog 43 #[.agg #[.string nm, .slice A l.length c]] w fun e w' => e = .returned (.bool (vT nm l)) ∧ ∃ k : Ex w, w' = k.v := by
  cases h : vT nm l
  · exact iVT_no nm A c l w hs hn h
  · obtain ⟨h1, h2⟩ := vT_of h
    exact iVT_yes nm A c l w h1 h2
end
end Go.Proofs.YtdhflckombkimaaDoor
