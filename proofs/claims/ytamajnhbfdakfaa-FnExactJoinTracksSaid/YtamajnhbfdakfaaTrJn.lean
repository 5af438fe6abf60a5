/-
  slices.Grow of nil, slices.Concat of two; JoinTracks of the program. Conditions: those typed at each theorem.
-/
import Derived.Test.YtamajnhbfdakfaaTrNd
import Derived.Test.YtamajnhbfdakfaaAppB
import Derived.Lib.AppendZeros
namespace Go.Proofs.Ytamajnhbfdakfaa
open Go.RowKit
/-- by how much the second track moves -/
def joinBy (a b : List Ky) (gap : Int) : Int := (kyG a (a.length - 1)).t + gap - (kyG b 0).t
noncomputable def joinR (n1 : ByteArray) (a : List Ky) (n2 : ByteArray) (b : List Ky) (gap : Int) : TR3 :=
  if vT n1 a = true ∧ vT n2 b = true then (if 1 ≤ gap ∧ gap ≤ 7200000 then (if 24 < a.length + b.length then trErr 5 else trChk n1 (a ++ shiftK b (joinBy a b gap))) else trErr 2) else trErr 1
theorem joinR_inv {n1 n2 : ByteArray} {a b : List Ky} {gap : Int} (h : vT n1 a = false ∨ vT n2 b = false) : joinR n1 a n2 b gap = trErr 1 := by unfold joinR; rw [if_neg]; rintro ⟨h1, h2⟩; rcases h with h | h <;> simp_all
theorem joinR_rng {n1 n2 : ByteArray} {a b : List Ky} {gap : Int} (h1 : vT n1 a = true) (h2 : vT n2 b = true) (h : ¬ (1 ≤ gap ∧ gap ≤ 7200000)) : joinR n1 a n2 b gap = trErr 2 := by unfold joinR; rw [if_pos ⟨h1, h2⟩, if_neg h]
theorem joinR_full {n1 n2 : ByteArray} {a b : List Ky} {gap : Int} (h1 : vT n1 a = true) (h2 : vT n2 b = true) (h : 1 ≤ gap ∧ gap ≤ 7200000) (hf : 24 < a.length + b.length) : joinR n1 a n2 b gap = trErr 5 := by unfold joinR; rw [if_pos ⟨h1, h2⟩, if_pos h, if_pos hf]
theorem joinR_go {n1 n2 : ByteArray} {a b : List Ky} {gap : Int} (h1 : vT n1 a = true) (h2 : vT n2 b = true) (h : 1 ≤ gap ∧ gap ≤ 7200000) (hf : ¬ 24 < a.length + b.length) : joinR n1 a n2 b gap = trChk n1 (a ++ shiftK b (joinBy a b gap)) := by unfold joinR; rw [if_pos ⟨h1, h2⟩, if_pos h, if_neg hf]
theorem joinR_len (n1 : ByteArray) (a : List Ky) (n2 : ByteArray) (b : List Ky) (gap : Int) : (joinR n1 a n2 b gap).l.length ≤ 24 := by
  unfold joinR
  split
  · split
    · split
      · simp [trErr]
      · exact trChk_len _ _
    · simp [trErr]
  · simp [trErr]
/-- the slices put together -/
def ccF (x y : List Ky) : Nat → List Ky
  | 0 => []
  | 1 => x
  | _ => x ++ y
section
set_option maxHeartbeats 3200000
set_option maxRecDepth 20000
theorem grow_nil (n : Nat) (w : World) (h1 : 1 ≤ n) (hn : n ≤ 1048576) :
    Calls Try.prog 102 #[.slice none 0 0, .int .i64 n] w fun e w' => ∃ c, e = .returned (.slice (some ⟨w.heap.size, 0, none⟩) 0 c) ∧ ∃ k : Ex w, w' = k.v ∧ k.v.ownsRow w.heap.size 63 2 (.slice (some ⟨w.heap.size, 0, none⟩) 0 c) ([] : List Ky).length (([] : List Ky).flatMap kC) := by
  obtain ⟨i0, hi0, hz0, hs0, hb0⟩ := info_parts infoKey
  have hrz : ∀ ty, (Builtin.append_ #[27, 3] ty #[.slice none 0 0, .int .i64 n]).run Try.prog w = .ok (.slice (some ⟨w.heap.size, 0, none⟩) n (grownCap w n 0 63)) _ := fun ty =>
    Lib.run_append_nil_zeros w 27 3 ty 63 i0 _ .i64 .i64 Try.underlying27 Try.underlying3 hi0 hz0 n (by omega) (by omega) (by omega) (by rw [hb0]; omega)
  have hge := grownCap_ge w n 0 63
  have hle := grownCap_le_maxLen w n 0 63 (by simp only [maxLen]; omega)
  generalize grownCap w n 0 63 = G at *
  have hrow := hid (World.ownsRow_made (base := w.heap.size) (e := 63) (size := 2) w.drew (Builtin.zeroCells (Value.agg #[.int .i64 0, .int .i64 0]).cells n ++ Builtin.zeroCells (Value.agg #[.int .i64 0, .int .i64 0]).cells (G - n)) G (Nat.le_refl _) hle (by rw [Array.size_append, size_zeroCells, size_zeroCells, show (Value.agg #[.int .i64 0, .int .i64 0]).cells.size = 2 from rfl, ← Nat.add_mul]; congr 1; omega))
  have HG := hid hge
  have hge2 : (n : Int) ≤ (G : Int) := by omega
  have hG0 : ¬ G = 0 := by omega
  clear hge hle hi0 hz0 hs0 hb0
  go_enter Try.func102, Try.ntmps102
  go_wp2_with (at_builtin; refine Lib.wpList_append_run _ rfl _ _ _ _ rfl _ _ rfl rfl _ _ (hrz _) ?_)
  go_ret
  exact ⟨G, by rfl, ex_and (fun W => W.ownsRow w.heap.size 63 2 (.slice (some ⟨w.heap.size, 0, none⟩) 0 G) ([] : List Ky).length (([] : List Ky).flatMap kC)) (by (refine Ok.toEx ?_; (repeat (first | (with_reducible exact Ok.rf _) | (with_reducible refine Ok.alloc ?_ _) | (with_reducible refine Ok.ex ?_ _) | (with_reducible refine Ok.drew ?_) | (with_reducible refine Ok.setCellI ?_ _ _ _) | (with_reducible refine Ok.exb ?_ _))))) hrow.out⟩
theorem concat_any (b : Nat) (A B : Option Addr) (ca cb : Nat) (x y : List Ky) (w : World) [LtW b w] [hx : Rd 2 kC w A x] [hy : Rd 2 kC w B y] (h1 : 1 ≤ x.length) (h2 : 1 ≤ y.length) (hn : x.length + y.length ≤ 48) (c0 : w.cell? ⟨b, 0, none⟩ = some (.slice A x.length ca)) (c1 : w.cell? ⟨b, 1, none⟩ = some (.slice B y.length cb)) :
    Calls Try.prog 89 #[.slice (some ⟨b, 0, none⟩) 2 2] w fun e w' => ∃ g c, e = .returned (.slice (some ⟨g, 0, none⟩) (x.length + y.length) c) ∧ ∃ k : Ex w, w' = k.v ∧ Wr 2 kC k.v g (x ++ y) ∧ LeB w.heap.size g := by
  obtain ⟨ba, oa, rfl, hba, -⟩ := hx.at_ (by omega)
  obtain ⟨bb, ob, rfl, hbb, -⟩ := hy.at_ (by omega)
  go_enter Try.func89, Try.ntmps89
  go_wp2
  go_loop [3, 11] (fun s t => (t = .int .i64 0 ∧ s = .int .i64 0) ∨ (t = .int .i64 1 ∧ s = .int .i64 x.length) ∨ (t = .int .i64 2 ∧ s = .int .i64 (x.length + y.length))) (fun _ t => 2 - (intOf t).toNat)
  case atStart => exact .inl ⟨rfl, rfl⟩
  case round =>
    rcases hrel with ⟨rfl, rfl⟩ | ⟨rfl, rfl⟩ | ⟨rfl, rfl⟩
    · go_wp2
      go_round
      case rel => exact .inr (.inl ⟨rfl, by go_num⟩)
      case measure => simp [intOf]
    · go_wp2
      go_round
      case rel => exact .inr (.inr ⟨rfl, by go_num⟩)
      case measure => simp [intOf]
    · have HW := hid (grow_nil (x.length + y.length) w (by omega) (by omega))
      go_wp2_with (go_at_call 102; refine (HW.out).mono ?_; rintro e w' ⟨cg, rfl, k, rfl, hrow0⟩)
      have hrow0 := hid hrow0
      go_loopw [6, 27] (fun v t wr => ∃ q : Nat, q ≤ 2 ∧ t = .int .i64 q ∧ ∃ j : Ex w, wr = j.v ∧ j.v.ownsRow w.heap.size 63 2 v (ccF x y q).length ((ccF x y q).flatMap kC)) (fun _ t _ => 2 - (intOf t).toNat)
      case atStart => exact ⟨0, by omega, rfl, k, rfl, hrow0.out⟩
      case round =>
        obtain ⟨q, hq, rfl, j0, rfl, hrow⟩ := hrel
        rcases (by omega : q = 0 ∨ q = 1 ∨ q = 2) with rfl | rfl | rfl
        · obtain ⟨A1, c9, rfl, -, -⟩ := own_of_row (w0 := w) (f := kC) (fun _ => rfl) hrow
          haveI hro : OwR w.heap.size 63 2 (.slice A1 ([] : List Ky).length c9) ([] : List Ky).length (([] : List Ky).flatMap kC) j0.v := ⟨hrow⟩
          clear hrow
          go_wp2_with (at_builtin; refine wpList_appN kC _ rfl _ _ _ rfl w.heap.size (LeB.h) _ _ _ _ Try.underlying27 infoKey rfl (by omega) (fun _ => ⟨rfl, by simp [kC, Value.oneCell']⟩) (.slice A1 ([] : List Ky).length c9) [] rfl owR_h (some ⟨ba, oa, none⟩) x ca rfl (inferInstance) (fun h => by cases h) (by simp; omega) (by simp; omega) ?_; intro v1 k1 h1')
          go_roundw
          case rel => exact ⟨1, by omega, rfl, ex_and (fun W => W.ownsRow w.heap.size 63 2 v1 (ccF x y 1).length ((ccF x y 1).flatMap kC)) (by (refine Ok.toEx ?_; (repeat (first | (with_reducible exact Ok.rf _) | (with_reducible refine Ok.alloc ?_ _) | (with_reducible refine Ok.ex ?_ _) | (with_reducible refine Ok.drew ?_) | (with_reducible refine Ok.setCellI ?_ _ _ _) | (with_reducible refine Ok.exb ?_ _))))) h1'⟩
          case measure => simp [intOf]
        · obtain ⟨A1, c9, rfl, -, -⟩ := own_of_row (w0 := w) (f := kC) (fun _ => rfl) hrow
          haveI hro : OwR w.heap.size 63 2 (.slice A1 x.length c9) x.length (x.flatMap kC) j0.v := ⟨hrow⟩
          clear hrow
          go_wp2_with (at_builtin; refine wpList_appN kC _ rfl _ _ _ rfl w.heap.size (LeB.h) _ _ _ _ Try.underlying27 infoKey rfl (by omega) (fun _ => ⟨rfl, by simp [kC, Value.oneCell']⟩) (.slice A1 x.length c9) x rfl owR_h (some ⟨bb, ob, none⟩) y cb rfl (inferInstance) (fun h => by cases h) (by omega) (by omega) ?_; intro v1 k1 h1')
          go_roundw
          case rel => exact ⟨2, by omega, rfl, ex_and (fun W => W.ownsRow w.heap.size 63 2 v1 (ccF x y 2).length ((ccF x y 2).flatMap kC)) (by (refine Ok.toEx ?_; (repeat (first | (with_reducible exact Ok.rf _) | (with_reducible refine Ok.alloc ?_ _) | (with_reducible refine Ok.ex ?_ _) | (with_reducible refine Ok.drew ?_) | (with_reducible refine Ok.setCellI ?_ _ _ _) | (with_reducible refine Ok.exb ?_ _))))) h1'⟩
          case measure => simp [intOf]
        · obtain ⟨A1, c9, rfl, hO, hF⟩ := own_of_row (w0 := w) (f := kC) (fun _ => rfl) hrow
          obtain ⟨g, rfl, hw⟩ := hO.own (by show 0 < (x ++ y).length; rw [List.length_append]; omega)
          have HW := hid hw
          clear hrow hw hO
          go_wp2
          go_ret
          exact ⟨g, c9, by show _ = Ending.returned (.slice _ (x.length + y.length) _); rw [← List.length_append]; rfl, j0, rfl, HW.out, ⟨hF.h _ _ _ rfl⟩⟩
end
end Go.Proofs.Ytamajnhbfdakfaa
