/-
  slices.Delete of elements of an own row. Conditions: those typed at each theorem.
-/
import Derived.Test.YtdhflckombkimaaGreatDoorJ16
import Derived.Test.YtdhflckombkimaaGreatDoorJ14
import Derived.Test.YtdhflckombkimaaGreatDoorJ8
import Derived.Deep.RegionLaw
import Derived.Lib.SliceRun
namespace Go.Proofs.YtdhflckombkimaaGreatDoor
open Go.RowKit
section
set_option maxHeartbeats 3200000
set_option maxRecDepth 20000
theorem zeroElt (w : World) : (zeroValue 28).run Tryz.prog w = .ok (.agg #[.string ⟨#[]⟩, .int .i64 0, .int .i64 0, .string ⟨#[]⟩, .int .i64 0, .int .i64 0]) w := by rfl
theorem clear_one {n : Nat} (hn : n = 1) (w : World) (ty : TypeId) (b o c : Nat) (hc : ∀ j, j < 6 → (w.cell? ⟨b, o + j, none⟩).isSome = true) (hf : ∀ j, j < 6 → w.frozen? ⟨b, o + j, none⟩ = false) :
    (Builtin.clear_ #[24] ty #[.slice (some ⟨b, o, none⟩) n c]).run Tryz.prog w = .ok (.tuple #[]) (w.setCells b o [.string ⟨#[]⟩, .int .i64 0, .int .i64 0, .string ⟨#[]⟩, .int .i64 0, .int .i64 0]) := by
  subst hn
  have hst := run_storeCells_cells (P := Tryz.prog) b o [.string ⟨#[]⟩, .int .i64 0, .int .i64 0, .string ⟨#[]⟩, .int .i64 0, .int .i64 0] 0 w (by simpa using hc) (by simpa using hf) (by intro v hv; simp at hv; repeat (first | (subst hv; rfl) | (rcases hv with hv | hv)))
  simp only [Nat.add_zero] at hst
  have hz : (Builtin.zeroCells (Value.agg #[.string ⟨#[]⟩, .int .i64 0, .int .i64 0, .string ⟨#[]⟩, .int .i64 0, .int .i64 0]).cells 1).toList = [.string ⟨#[]⟩, .int .i64 0, .int .i64 0, .string ⟨#[]⟩, .int .i64 0, .int .i64 0] := by
    have h : (Value.agg #[.string ⟨#[]⟩, .int .i64 0, .int .i64 0, .string ⟨#[]⟩, .int .i64 0, .int .i64 0]).cells = #[.string ⟨#[]⟩, .int .i64 0, .int .i64 0, .string ⟨#[]⟩, .int .i64 0, .int .i64 0] := by first | rfl | kernel_rfl | simp [Value.cells]
    rw [h]; (first | rfl | kernel_rfl | simp [Builtin.zeroCells, List.range_succ])
  simp [Builtin.clear_, run_underlying Tryz.underlying24, hz, hst]
theorem wsetCells (b : Nat) : ∀ (vs : List Value) (p : Nat) (w : World), w.setCells b p vs = setCells w b p vs
  | [], _, _ => rfl
  | v :: vs, p, w => wsetCells b vs (p + 1) _
theorem up_setCells {W0 : World} {b : Nat} [hb : LeB W0.heap.size b] : ∀ (vs : List Value) (p : Nat) (w : World), Up W0 w → Up W0 (setCells w b p vs)
  | [], _, _, h => h
  | v :: vs, p, w, h => up_setCells vs (p + 1) _ (Up.set b p v)
theorem but_setCells {b : Nat} {w : World} : ∀ (vs : List Value) (p : Nat) (w' : World), But (some ⟨b, 0, none⟩) w w' → But (some ⟨b, 0, none⟩) w (setCells w' b p vs)
  | [], _, _, h => h
  | v :: vs, p, w', h => but_setCells vs (p + 1) _ (h.set p v)
theorem delJ_any {W0 : World} (g cap i j : Nat) (l : List Cu) (w : World) (hg : LeB W0.heap.size g) (hw : Wr 6 cC w g l) [hu : Up W0 w] (hj : j = i + 1) (hi : i < l.length) (hc : l.length ≤ cap) (hn : l.length ≤ 1048576) :
    Calls Tryz.prog 26 #[.slice (some ⟨g, 0, none⟩) l.length cap, .int .i64 i, .int .i64 j] w fun e w' => e = .returned (.slice (some ⟨g, 0, none⟩) (l.length - 1) cap) ∧ ∃ j : Ex W0, w' = j.v ∧ Wr 6 cC j.v g (l.take i ++ l.drop (i + 1)) ∧ But (some ⟨g, 0, none⟩) w j.v ∧ ∀ e N F, w.rowIs g e N F → ∃ F', j.v.rowIs g e N F' := by
  obtain ⟨e0, N, F0, hN, hr, hF0⟩ := hw.row
  obtain ⟨i0, hi0, hz0, hs0, hb0⟩ := info_parts infoCue
  have HI := hid hi0
  have HS := hid hs0
  clear hi0 hz0 hs0 hb0
  have hij : i < j := by omega
  have hjl : j ≤ l.length := by omega
  have hic : i ≤ cap := by omega
  have hjc : j ≤ cap := by omega
  obtain ⟨news, hnews⟩ : ∃ news, news = (l.drop (i + 1)).flatMap cC := ⟨_, rfl⟩
  have hlen : news.length = (l.length - j) * 6 := by rw [hnews, flat_len (f := cC) (sz := 6) (fun _ => rfl), List.length_drop, hj]
  have hmul : (l.length - j) * 6 + j * 6 = l.length * 6 := by rw [← Nat.add_mul, Nat.sub_add_cancel hjl]
  have hjm : j * 6 = i * 6 + 6 := by rw [hj, Nat.succ_mul]
  obtain ⟨A, hA, hsrc⟩ : ∃ A : Addr, (if cap = j then some (⟨g, 0, none⟩ : Addr) else some ⟨g, j * 6, none⟩) = some A ∧ Hid (∀ t u, news[t]? = some u → w.drew.cell? (A.add t) = some u) := by
    by_cases h : cap = j
    · refine ⟨⟨g, 0, none⟩, by simp [h], hid fun t u hu => ?_⟩
      have h0 : news.length = 0 := by rw [hlen, show l.length - j = 0 by omega, Nat.zero_mul]
      rw [List.length_eq_zero_iff.1 h0] at hu
      simp at hu
    · refine ⟨⟨g, j * 6, none⟩, by simp [h], hid fun t u hu => ?_⟩
      rw [hnews] at hu
      obtain ⟨k, hk, i', hi', rfl, hgt⟩ := flat_get (f := cC) (sz := 6) (fun _ => rfl) _ _ _ hu
      rw [List.length_drop] at hk
      rw [List.getElem_drop] at hgt
      have h3 := hF0 (i + 1 + k) (by omega) i' u hgt hi'
      have h4 := hr.cell (i := (i + 1 + k) * 6 + i') (by have := Nat.mul_le_mul_right 6 (show i + 1 + k + 1 ≤ l.length by omega); rw [Nat.succ_mul] at this; omega)
      rw [h3] at h4
      rw [show (⟨g, j * 6, none⟩ : Addr).add (k * 6 + i') = ⟨g, j * 6 + (k * 6 + i'), none⟩ from Go.WideShapes.add_plain .., show j * 6 + (k * 6 + i') = (i + 1 + k) * 6 + i' by rw [hj, Nat.add_mul (i + 1) k]; omega]
      exact h4
  have s1 := hid hlen
  have s2 : Hid (∀ u ∈ news, u.oneCell' = true) := hid (by
    intro u hu
    rw [hnews] at hu
    obtain ⟨x, _, hx⟩ := List.mem_flatMap.1 hu
    simp [cC] at hx
    repeat (first | (subst hx; rfl) | (rcases hx with hx | hx)))
  have s3 : Hid (∀ t, t < news.length → (w.drew.cell? ⟨g, 0 + i * 6 + t, none⟩).isSome = true ∧ w.drew.frozen? ⟨g, 0 + i * 6 + t, none⟩ = false) := hid (by
    intro t ht
    rw [hlen] at ht
    have h4 := hr.cell (i := 0 + i * 6 + t) (by omega)
    exact ⟨by show (w.cell? _).isSome = true; rw [h4]; rfl, hr.frozen _⟩)
  obtain ⟨W1, hW1⟩ : ∃ W1, W1 = w.drew.setCells g (0 + i * 6) news := ⟨_, rfl⟩
  have hwd : Wr 6 cC w.drew g l := hw.congr rfl
  have hW1' : W1 = setCells w.drew g (i * 6) ((l.drop (i + 1)).flatMap cC) := by rw [hW1, wsetCells, hnews, Nat.zero_add]
  have hw1 : Wr 6 cC W1 g (l.take i ++ l.drop (i + 1)) := by rw [hW1']; exact Wr.del (f := cC) (sz := 6) (fun _ => rfl) hwd i hi
  have hu1 : Up W0 W1 := by rw [hW1']; exact up_setCells _ _ _ ⟨hu.h.drew⟩
  have hb1 : But (some ⟨g, 0, none⟩) w W1 := by rw [hW1']; exact but_setCells _ _ _ ⟨Nat.le_refl _, fun _ _ _ => rfl⟩
  obtain ⟨F1, hr1, -, -⟩ := rowIs_setCells ((l.drop (i + 1)).flatMap cC) w.drew (i * 6) F0 hr
  rw [← hW1'] at hr1
  have hm1 : i + (l.length - j) = l.length - 1 := by omega
  have hcl : ∀ ty, (Builtin.clear_ #[24] ty #[.slice (some ⟨g, (i + (l.length - j)) * 6, none⟩) (l.length - (i + (l.length - j))) (cap - (i + (l.length - j)))]).run Tryz.prog W1 = .ok (.tuple #[]) (W1.setCells g ((i + (l.length - j)) * 6) [.string ⟨#[]⟩, .int .i64 0, .int .i64 0, .string ⟨#[]⟩, .int .i64 0, .int .i64 0]) := fun ty =>
    clear_one (by omega) W1 ty g _ _ (fun t ht => by rw [hr1.cell (by omega)]; rfl) (fun t _ => hr1.frozen _)
  have hW2 : Wr 6 cC (W1.setCells g ((i + (l.length - j)) * 6) [.string ⟨#[]⟩, .int .i64 0, .int .i64 0, .string ⟨#[]⟩, .int .i64 0, .int .i64 0]) g (l.take i ++ l.drop (i + 1)) ∧ Up W0 (W1.setCells g ((i + (l.length - j)) * 6) [.string ⟨#[]⟩, .int .i64 0, .int .i64 0, .string ⟨#[]⟩, .int .i64 0, .int .i64 0]) ∧ But (some ⟨g, 0, none⟩) w (W1.setCells g ((i + (l.length - j)) * 6) [.string ⟨#[]⟩, .int .i64 0, .int .i64 0, .string ⟨#[]⟩, .int .i64 0, .int .i64 0]) ∧ ∀ e N F, w.rowIs g e N F → ∃ F', (W1.setCells g ((i + (l.length - j)) * 6) [.string ⟨#[]⟩, .int .i64 0, .int .i64 0, .string ⟨#[]⟩, .int .i64 0, .int .i64 0]).rowIs g e N F' := by
    rw [wsetCells]
    refine ⟨hw1.tail _ (by rw [List.length_append, List.length_take, List.length_drop]; omega) _, up_setCells _ _ _ hu1, but_setCells _ _ _ hb1, fun e N F hF => ?_⟩
    obtain ⟨G1, g1, -, -⟩ := rowIs_setCells ((l.drop (i + 1)).flatMap cC) w.drew (i * 6) F hF
    rw [← hW1'] at g1
    obtain ⟨G2, g2, -, -⟩ := rowIs_setCells _ W1 ((i + (l.length - j)) * 6) G1 g1
    exact ⟨G2, g2⟩
  have HW2 := hid hW2
  have X : Hid (W1 = w.drew.setCells g (0 + i * 6) news) := hid hW1
  have hm2 : l.length - (i + (l.length - j)) = 1 := by omega
  have hlc : ¬ (i + (l.length - j) = cap) := by omega
  have hlj := hid hj
  have HM := hid hm1
  clear hW1 hW1' hw1 hu1 hb1 hr1 hW2 hwd hw hu hr hF0 hlen hnews hmul hjm hm1 hm2 hj
  go_enter Tryz.func26, Tryz.ntmps26
  go_wp2_with fail
  go_region_law (refine step_append_room rfl (.tmp 22) (.tmp 25) 24 rfl 28 i0 6 Tryz.underlying24 HI.out HS.out g 0 i cap (by simp [Act.eval, Act.put]) A (l.length - j) (cap - j) news (by simp [Act.eval, Act.put]) s1.out hsrc.out s2.out (by omega) s3.out ?_; rw [← X.out])
  go_wp2
  go_ret
  exact ⟨by rw [HM.out]; rfl, ⟨_, HW2.out.2.1.h⟩, rfl, HW2.out.1, HW2.out.2.2.1, HW2.out.2.2.2⟩
theorem del_any {W0 : World} (g cap n i : Nat) (l : List Cu) (w : World) (hg : LeB W0.heap.size g) (hw : Wr 6 cC w g l) [hu : Up W0 w] (hnl : l.length = n) (hi : i < l.length) (hc : l.length ≤ cap) (hn : l.length ≤ 1048576) :
    Calls Tryz.prog 26 #[.slice (some ⟨g, 0, none⟩) n cap, .int .i64 i, .int .i64 ((i : Int) + 1)] w fun e w' => e = .returned (.slice (some ⟨g, 0, none⟩) (n - 1) cap) ∧ ∃ j : Ex W0, w' = j.v ∧ Wr 6 cC j.v g (l.take i ++ l.drop (i + 1)) ∧ But (some ⟨g, 0, none⟩) w j.v := by
  subst hnl
  refine (delJ_any g cap i (i + 1) l w hg hw rfl hi hc hn).mono ?_
  rintro e w' ⟨he, j, hj, h1, h2, -⟩
  exact ⟨he, j, hj, h1, h2⟩
theorem delK_any {W0 : World} (g cap n i : Nat) (l : List Cu) (w : World) (hrow : w.ownsRow W0.heap.size 28 6 (.slice (some ⟨g, 0, none⟩) l.length cap) l.length (l.flatMap cC)) [hu : Up W0 w] (hnl : l.length = n) (hi : i < l.length) (hn : l.length ≤ 1048576) :
    Calls Tryz.prog 26 #[.slice (some ⟨g, 0, none⟩) n cap, .int .i64 i, .int .i64 ((i : Int) + 1)] w fun e w' => e = .returned (.slice (some ⟨g, 0, none⟩) (n - 1) cap) ∧ ∃ j : Ex W0, w' = j.v ∧ j.v.ownsRow W0.heap.size 28 6 (.slice (some ⟨g, 0, none⟩) (l.take i ++ l.drop (i + 1)).length cap) (l.take i ++ l.drop (i + 1)).length ((l.take i ++ l.drop (i + 1)).flatMap cC) := by
  subst hnl
  obtain ⟨hk, hB⟩ := Wk.of_own (f := cC) (sz := 6) (fun _ => rfl) hrow
  have hle := hk.le
  have hcm := hk.cm
  obtain ⟨F, hr, -⟩ := hk.row
  refine (delJ_any g cap i (i + 1) l w ⟨hB⟩ (hk.wr (fun _ => rfl)) rfl hi hle hn).mono ?_
  rintro e w' ⟨he, j, rfl, h1, -, h3⟩
  obtain ⟨F', h4⟩ := h3 _ _ _ hr
  exact ⟨he, j, rfl, (Wk.of_wr h1 h4 (by rw [List.length_append, List.length_take, List.length_drop]; omega) hcm).own (fun _ => rfl) (by omega) hB⟩
end
end Go.Proofs.YtdhflckombkimaaGreatDoor
