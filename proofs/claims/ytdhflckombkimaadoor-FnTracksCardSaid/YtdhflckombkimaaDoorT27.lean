/-
  slices.Insert of one element into a row of the call's own. Conditions: those typed at each theorem.
  SetKey of the program. Conditions: those typed at each theorem.
-/
import Derived.Test.YtdhflckombkimaaDoorT24
import Derived.Test.YtdhflckombkimaaDoorT13
import Derived.Deep.RegionLaw
import Derived.Lib.SliceRun
import Derived.Lib.Overlaps
import Derived.Lib.AppendZerosOnto
import Derived.Laws.Externs
import Derived.Laws.NewBlocks
import Derived.Test.YtdhflckombkimaaDoorT23
namespace Go.Proofs.YtdhflckombkimaaDoor
open Go.RowKit
section
set_option maxHeartbeats 3200000
set_option maxRecDepth 20000
/-- what Insert leaves -/
def InsPost (W0 : World) (n : Nat) (L : List Ky) (e : Ending) (w' : World) : Prop := ∃ g c', e = .returned (.slice (some ⟨g, 0, none⟩) (n + 1) c') ∧ ∃ j : Ex W0, w' = j.v ∧ Wr 2 kC j.v g L ∧ LeB W0.heap.size g
theorem oneKy (x : Ky) : ∀ v ∈ kC x, v.oneCell' = true := by
  intro v hv
  simp [kC] at hv
  repeat (first | (subst hv; rfl) | (rcases hv with hv | hv))
theorem onesKy (l : List Ky) : ∀ v ∈ l.flatMap kC, v.oneCell' = true := by
  intro v hv
  obtain ⟨x, _, hx⟩ := List.mem_flatMap.1 hv
  exact oneKy x v hx
theorem drew_setCellsH (b : Nat) : ∀ (vs : List Value) (o : Nat) (w : World) (g : Nat), (w.drew.setCells b o vs).heap[g]? = (w.setCells b o vs).heap[g]?
  | [], _, _, _ => rfl
  | v :: r, o, w, g => drew_setCellsH b r (o + 1) (w.setCell ⟨b, o, none⟩ v) g
theorem setCells_drewW {α : Type} {sz : Nat} {f : α → List Value} {b p q g : Nat} {vs us : List Value} {w : World} {l : List α} (h : Wr sz f (setCells (setCells w b p vs) b q us) g l) : Wr sz f (setCells (setCells w b p vs).drew b q us) g l := by
  refine h.congr ?_
  rw [← wsetCells, ← wsetCells, ← wsetCells]
  have := drew_setCellsH b us q (w.setCells b p vs) g
  exact this
/-- at the end -/
theorem insEnd {W0 : World} (A : Option Addr) (cap : Nat) (l : List Ky) (x : Ky) (vb vc : Nat) (w : World) [hu : Up W0 w] (hrow : w.ownsRow W0.heap.size 58 2 (.slice A l.length cap) l.length (l.flatMap kC)) (hc : l.length ≤ cap)
    (hn : l.length ≤ 1048576) (hvb : ∀ j u, (kC x)[j]? = some u → w.cell? ⟨vb, j, none⟩ = some u) :
    Calls Tryd.prog 69 #[.slice A l.length cap, .int .i64 l.length, .slice (some ⟨vb, 0, none⟩) 1 vc] w fun e w' => InsPost W0 l.length (insL l l.length x) e w' := by
  have hown := hid hrow
  have hcell := hid hvb
  have hins := hid (show insL l l.length x = l ++ [x] by simp [insL])
  clear hvb
  have hA : (A = none ∧ cap = 0 ∧ l.length = 0) ∨ ∃ g, A = some ⟨g, 0, none⟩ := by
    rcases hrow.2 with ⟨h1, h2⟩ | ⟨g, cap', cur, h1, -⟩
    · injection h1 with e1 e2 e3; exact .inl ⟨e1, e3, h2⟩
    · injection h1 with e1 e2 e3; exact .inr ⟨g, e1⟩
  clear hrow
  rcases hA with ⟨rfl, rfl, h0⟩ | ⟨g, rfl⟩
  · obtain rfl : l = [] := List.eq_nil_of_length_eq_zero h0
    clear h0
    go_enter Tryd.func69, Tryd.ntmps69
    go_wp2_with (at_builtin; go_loud (refine wpList_appZ kC _ rfl _ _ _ rfl W0.heap.size ?_ _ _ _ _ Tryd.underlying28 infoKey rfl (by omega) (fun _ => ⟨rfl, oneKy _⟩) (.slice none 0 0) [] rfl hown.out x vb vc rfl hcell.out ?_ ?_ ?_; (· exact hu.h.size); (· simp); (· simp); intro v' k hA))
    go_ret
    rw [show insL ([] : List Ky) 0 x = [x] from rfl]
    obtain ⟨A2, c2, hv, hO2, hF2⟩ := Ow.of_row (f := kC) (fun _ => rfl) hA.own
    subst hv
    obtain ⟨g, rfl, hg⟩ := hO2.own (by simp)
    exact ⟨g, c2, rfl, ⟨_, hu.h.trans (k.h.mono (Nat.le_refl _))⟩, rfl, hg, ⟨hF2 g 0 none rfl⟩⟩
  · by_cases hcc : cap = l.length
    · subst hcc
      go_enter Tryd.func69, Tryd.ntmps69
      go_wp2_with (at_builtin; go_loud (refine wpList_appZ kC _ rfl _ _ _ rfl W0.heap.size ?_ _ _ _ _ Tryd.underlying28 infoKey rfl (by omega) (fun _ => ⟨rfl, oneKy _⟩) (.slice (some ⟨g, 0, none⟩) l.length l.length) l rfl hown.out x vb vc rfl hcell.out ?_ ?_ ?_; (· exact hu.h.size); (· omega); (· omega); intro v' k hA))
      go_ret
      rw [hins.out]
      obtain ⟨A2, c2, hv, hO2, hF2⟩ := Ow.of_row (f := kC) (fun _ => rfl) hA.own
      subst hv
      obtain ⟨g, rfl, hg⟩ := hO2.own (by simp)
      exact ⟨g, c2, by simp, ⟨_, hu.h.trans (k.h.mono (Nat.le_refl _))⟩, rfl, hg, ⟨hF2 g 0 none rfl⟩⟩
    · go_enter Tryd.func69, Tryd.ntmps69
      go_wp2_with (at_builtin; go_loud (refine wpList_appZ kC _ rfl _ _ _ rfl W0.heap.size ?_ _ _ _ _ Tryd.underlying28 infoKey rfl (by omega) (fun _ => ⟨rfl, oneKy _⟩) (.slice (some ⟨g, 0, none⟩) l.length cap) l rfl hown.out x vb vc rfl hcell.out ?_ ?_ ?_; (· exact hu.h.size); (· omega); (· omega); intro v' k hA))
      go_ret
      rw [hins.out]
      obtain ⟨A2, c2, hv, hO2, hF2⟩ := Ow.of_row (f := kC) (fun _ => rfl) hA.own
      subst hv
      obtain ⟨g, rfl, hg⟩ := hO2.own (by simp)
      exact ⟨g, c2, by simp, ⟨_, hu.h.trans (k.h.mono (Nat.le_refl _))⟩, rfl, hg, ⟨hF2 g 0 none rfl⟩⟩
/-- in place -/
theorem insRoom {W0 : World} (g cap i : Nat) (l : List Ky) (x : Ky) (vb vc : Nat) (w : World) [hu : Up W0 w] (hg : LeB W0.heap.size g) (hk : Wk 58 2 kC w g l cap) (hroom : l.length + 1 ≤ cap) (hi : i < l.length)
    (hn : l.length ≤ 1048576) (hvb : w.heap[vb]? = some (.cells (kC x).toArray 58 (0, 0))) (hne : vb ≠ g) :
    Calls Tryd.prog 69 #[.slice (some ⟨g, 0, none⟩) l.length cap, .int .i64 i, .slice (some ⟨vb, 0, none⟩) 1 vc] w fun e w' => InsPost W0 l.length (insL l i x) e w' := by
  obtain ⟨F, hr, hF⟩ := hk.row
  obtain ⟨i0, hi0, hz0, hs0, hb0⟩ := info_parts infoKey
  have hsz : (Tryd.prog.info? 58).map (·.size) = some 2 := by rw [hi0]; simp [hs0]
  have hzz : ∀ w, (Go.sizeOf 58).run Tryd.prog w = .ok 2 w := fun w => by simp [sizeOf, typeInfo, hi0, hs0]
  have hsa : w.shape? vb = some (58, 2) := by simp [World.shape?, hvb]; rfl
  have hsb : w.shape? g = some (58, cap * 2) := by obtain ⟨c, hb, hs, -⟩ := hr; simp [World.shape?, hb, hs]
  have hkB : cap * 2 ≠ 0 := by omega
  have hfa : ∀ o, w.frozen? ⟨vb, o, none⟩ = false := fun o => by simp [World.frozen?, hvb]
  have hov : ∀ lb cb, (callFunc 94 #[.slice (some ⟨vb, 0, none⟩) 1 vc, .slice (some ⟨g, (i + 1) * 2, none⟩) lb cb]).run Tryd.prog w = .ok (.value (.bool false)) w := fun lb cb => by
    rw [run_callFunc_extern (fn := Tryd.f94) (by kernel_rfl) (by kernel_rfl) (by kernel_rfl) (by kernel_rfl) (e := Extern.SlicesOverlaps.overlaps #[28, 28] #[4]) (by kernel_rfl),
      Lib.run_overlaps_apart w 28 4 58 Tryd.underlying28 2 hzz ⟨vb, 0, none⟩ ⟨g, (i + 1) * 2, none⟩ 1 vc lb cb hne 58 58 2 (cap * 2) hsa hsb hkB (hfa _) (hfa _)]
    rfl
  have hle := Nat.mul_le_mul_right 2 hroom
  rw [Nat.succ_mul] at hle
  have hmi : (i + 1) * 2 = i * 2 + 2 := Nat.succ_mul ..
  have hdl : ((l.drop i).flatMap kC).length = (l.length - i) * 2 := by rw [flat_len (f := kC) (sz := 2) (fun _ => rfl), List.length_drop]
  have hmm : (l.length - i) * 2 + i * 2 = l.length * 2 := by rw [← Nat.add_mul, Nat.sub_add_cancel (by omega)]
  have hcp1 : ∀ ty dc sc, (Builtin.copy_ #[28, 28] ty #[.slice (some ⟨g, (i + 1) * 2, none⟩) (l.length - i) dc, .slice (some ⟨g, i * 2, none⟩) (l.length + 1 - i) sc]).run Tryd.prog w.drew = .ok (goInt (Nat.min (l.length + 1 - i) (l.length - i))) (w.drew.setCells g ((i + 1) * 2) ((l.drop i).flatMap kC)) := fun ty dc sc =>
    run_copyN 2 w.drew _ _ ty 58 g ((i + 1) * 2) _ dc ⟨g, i * 2, none⟩ _ sc _ Tryd.underlying28 hsz (by rw [hdl]; congr 1; exact (Nat.min_eq_right (by omega)).symm)
      (fun t v ht => by rw [show (⟨g, i * 2, none⟩ : Addr).add t = ⟨g, i * 2 + t, none⟩ from Go.WideShapes.add_plain ..]; exact Wk.cells (f := kC) (sz := 2) (fun _ => rfl) hk i t v ht)
      (fun t ht => by rw [hdl] at ht; show (w.cell? _).isSome = true; rw [hr.cell (by omega)]; rfl) (fun t _ => hr.frozen _) (onesKy _)
  obtain ⟨W1, hW1⟩ : ∃ W1, W1 = w.drew.setCells g ((i + 1) * 2) ((l.drop i).flatMap kC) := ⟨_, rfl⟩
  have hW1' : W1 = setCells w.drew g (i * 2 + 2) ((l.drop i).flatMap kC) := by rw [hW1, wsetCells, hmi]
  obtain ⟨F1, hr1, -, -⟩ := rowIs_setCells ((l.drop i).flatMap kC) w.drew (i * 2 + 2) F hr
  rw [← hW1'] at hr1
  have hcv : ∀ j u, (kC x)[j]? = some u → W1.cell? ⟨vb, j, none⟩ = some u := fun j u hj => by
    rw [hW1, World.cell?_setCells_out g _ _ _ _ (fun h _ => absurd h hne)]
    show w.cell? _ = _
    simp only [World.cell?, hvb]
    simpa using hj
  have hcp2 : ∀ ty dc, (Builtin.copy_ #[28, 28] ty #[.slice (some ⟨g, i * 2, none⟩) (l.length + 1 - i) dc, .slice (some ⟨vb, 0, none⟩) 1 vc]).run Tryd.prog W1 = .ok (goInt (Nat.min 1 (l.length + 1 - i))) (W1.setCells g (i * 2) (kC x)) := fun ty dc =>
    run_copyN 2 W1 _ _ ty 58 g (i * 2) _ dc ⟨vb, 0, none⟩ 1 vc _ Tryd.underlying28 hsz (by show _ = min 1 (l.length + 1 - i) * 2; rw [Nat.min_eq_left (by omega)]; rfl)
      (fun t v ht => by rw [show (⟨vb, 0, none⟩ : Addr).add t = ⟨vb, 0 + t, none⟩ from Go.WideShapes.add_plain .., Nat.zero_add]; exact hcv t v ht)
      (fun t ht => by have : (kC x).length = 2 := rfl
                      rw [hr1.cell (by omega)]; rfl) (fun t _ => hr1.frozen _) (oneKy x)
  have hres : Wr 2 kC (W1.setCells g (i * 2) (kC x)) g (insL l i x) ∧ Up W0 (W1.setCells g (i * 2) (kC x)) := by
    rw [wsetCells, hW1']
    exact ⟨Wr.insRoom (f := kC) (sz := 2) (fun _ => rfl) x i (by omega) (by omega) (show Wk 58 2 kC w.drew g l cap from hk.congr rfl) hroom, up_setCells _ _ _ (up_setCells _ _ _ ⟨hu.h.drew⟩)⟩
  have H1 := hid hcp1
  have H2 := hid hcp2
  have HR := hid hres
  have HG := hid hg
  have X := hid hW1
  have h1 : IntKind.i64.wrap ((i : Int) + 1) = (i : Int) + 1 := IntWalk.i64_in _ (by omega)
  have h2 : ((i : Int) + 1).toNat = i + 1 := by omega
  have h3 : (0 : Int) ≤ (i : Int) + 1 := by omega
  have h4 : IntKind.i64.wrap ((l.length : Int) + 1) = (l.length : Int) + 1 := IntWalk.i64_in _ (by omega)
  have h5 : ((l.length : Int) + 1).toNat = l.length + 1 := by omega
  have h6 : (0 : Int) ≤ (l.length : Int) + 1 := by omega
  have h7 : (l.length : Int) + 1 ≤ (cap : Int) := by omega
  have h8 : ¬ ((i : Int) = (l.length : Int)) := by omega
  have h9 : ¬ (cap = i + 1) := by omega
  have h10 : ¬ (cap = i) := by omega
  have h11 : (i : Int) + 1 ≤ (l.length : Int) + 1 := by omega
  have h12 : (i : Int) ≤ (l.length : Int) + 1 := by omega
  have h13 : (i : Int) ≤ (l.length : Int) := by omega
  have h14 : i + 1 ≤ l.length + 1 := by omega
  have h15 : l.length + 1 ≤ cap := hroom
  clear hcp1 hcp2 hres hW1 hW1' hcv hr1 hdl hmm hmi hle hr hF hk hsz hzz hsa hsb hkB hfa hvb hs0 hb0 hz0 hi0 hu hg
  go_enter Tryd.func69, Tryd.ntmps69
  go_wp2_with (simp only [hov])
  go_region_law (go_loud (refine step_copyI rfl (.tmp 73) (.tmp 76) 28 28 rfl (.slice (some ⟨g, (i + 1) * 2, none⟩) (l.length - i) (cap - (i + 1))) (.slice (some ⟨g, i * 2, none⟩) (l.length + 1 - i) (cap - i)) (by simp [Act.eval, Act.put]) (by simp [Act.eval, Act.put]) (H1.out _ _ _) ?_; rw [← X.out]))
  go_wp2_with (with_reducible refine wpList_copyI (o := ⟨some 82, _, _, _, _, _⟩) _ rfl (.tmp 80) (.tmp 81) 28 28 rfl _ _ rfl rfl (H2.out _ _) ?_)
  go_ret
  exact ⟨g, cap, by simp, ⟨_, HR.out.2.h⟩, rfl, HR.out.1, HG.out⟩
/-- into a new row -/
theorem insGrow {W0 : World} (g cap i : Nat) (l : List Ky) (x : Ky) (vb vc : Nat) (w : World) [hu : Up W0 w] (hk : Wk 58 2 kC w g l cap) (hroom : cap < l.length + 1) (hi : i < l.length)
    (hn : l.length ≤ 1048576) (hvb : ∀ j u, (kC x)[j]? = some u → w.cell? ⟨vb, j, none⟩ = some u) :
    Calls Tryd.prog 69 #[.slice (some ⟨g, 0, none⟩) l.length cap, .int .i64 i, .slice (some ⟨vb, 0, none⟩) 1 vc] w fun e w' => InsPost W0 l.length (insL l i x) e w' := by
  have hcl : cap = l.length := by have := hk.le; omega
  subst hcl
  have hgw : g < w.heap.size := hk.lt.h
  have hvw : vb < w.heap.size := block_lt_of_cell (hvb 0 _ rfl)
  obtain ⟨i0, hi0, hz0, hs0, hb0⟩ := info_parts infoKey
  have hsz : (Tryd.prog.info? 58).map (·.size) = some 2 := by rw [hi0]; simp [hs0]
  have hold : (Builtin.firstCells i0.size i (.slice (some ⟨g, 0, none⟩) i l.length)).run Tryd.prog w.drew = .ok ((l.take i).flatMap kC).toArray w.drew := by
    rw [hs0]
    exact run_firstCells_some w.drew 2 i ⟨g, 0, none⟩ i l.length _ (by rw [flat_len (f := kC) (sz := 2) (fun _ => rfl), List.length_take, Nat.min_eq_left (by omega)]) (fun j v hj => by
      rw [show (⟨g, 0, none⟩ : Addr).add j = ⟨g, 0 + j, none⟩ from Go.WideShapes.add_plain .., Nat.zero_add]
      exact Wk.front (f := kC) (sz := 2) (fun _ => rfl) hk i j v hj)
  have hkk : (l.length : Int) + 1 - (i : Int) = ((l.length + 1 - i : Nat) : Int) := by omega
  have hik : i + (l.length + 1 - i) = l.length + 1 := by omega
  obtain ⟨z, hz1, hzc⟩ : ∃ z : Value, i0.zero = some z ∧ z.cells.size = 2 := ⟨_, hz0, rfl⟩
  obtain ⟨G, hG⟩ : ∃ G, G = grownCap w (l.length + 1) l.length 58 := ⟨_, rfl⟩
  obtain ⟨ROW, hROW⟩ : ∃ ROW : Array Value, ROW = ((l.take i).flatMap kC).toArray ++ Builtin.zeroCells z.cells (l.length + 1 - i) ++ Builtin.zeroCells z.cells (G - (l.length + 1)) := ⟨_, rfl⟩
  have hrz : ∀ ty, (Builtin.append_ #[28, 3] ty #[.slice (some ⟨g, 0, none⟩) i l.length, .int .i64 ((l.length : Int) + 1 - (i : Int))]).run Tryd.prog w = .ok (.slice (some ⟨w.heap.size, 0, none⟩) (l.length + 1) G) (w.drew.alloc (.cells ROW 58)) := fun ty => by
    have h := Lib.run_append_grow_zeros (P := Tryd.prog) w 28 3 ty 58 i0 _ .i64 .i64 Tryd.underlying28 Tryd.underlying3 hi0 hz1 (some ⟨g, 0, none⟩) i l.length ((l.take i).flatMap kC) hold (l.length + 1 - i) (by omega) (by omega) (by omega) (by omega) (by rw [hb0]; omega) (by rw [hb0, hik]; exact growslice_fits (by omega) (by omega))
    rw [hik, ← hG, ← hROW] at h
    rw [hkk]
    exact h
  have hGn : l.length + 1 ≤ G := by rw [hG]; exact grownCap_ge w _ _ _
  have hG63 : G ≤ 9223372036854775807 := by
    have := grownCap_le_maxLen w (l.length + 1) l.length 58 (by unfold maxLen; omega)
    rw [← hG] at this
    unfold maxLen at this
    omega
  have htl : ((l.take i).flatMap kC).length = i * 2 := by rw [flat_len (f := kC) (sz := 2) (fun _ => rfl), List.length_take, Nat.min_eq_left (by omega)]
  have hRl : (l.length + 1) * 2 ≤ ROW.size := by
    rw [hROW]
    simp only [Array.size_append, size_zeroCells, List.size_toArray, htl, hzc, Nat.sub_mul]
    have := Nat.mul_le_mul_right 2 (show i ≤ l.length + 1 by omega)
    omega
  have hRf : ∀ t v, ((l.take i).flatMap kC)[t]? = some v → ROW[t]? = some v := fun t v ht => by
    have hlt := (List.getElem?_eq_some_iff.1 ht).1
    rw [hROW, Array.append_assoc, Array.getElem?_append_left (by simpa using hlt)]
    simpa using ht
  obtain ⟨W1, hW1⟩ : ∃ W1, W1 = w.drew.alloc (.cells ROW 58) := ⟨_, rfl⟩
  rw [← hW1] at hrz
  have hr0 : W1.rowIs w.heap.size 58 ROW.size (fun t => (ROW[t]?).getD undef) := by
    rw [hW1]; exact World.rowIs_alloc w.drew ROW 58 _ (fun t ht => by simp [ht])
  have hOb : ∀ b j v, b < w.heap.size → w.cell? ⟨b, j, none⟩ = some v → W1.cell? ⟨b, j, none⟩ = some v := fun b j v hb h => by rw [hW1, World.cell?_alloc_past (w := w.drew) _ b j hb]; exact h
  have hmi : (i + 1) * 2 = i * 2 + 2 := Nat.succ_mul ..
  have hle := Nat.mul_le_mul_right 2 (show i + 1 ≤ l.length + 1 by omega)
  have hle2 : (l.length + 1) * 2 = l.length * 2 + 2 := Nat.succ_mul ..
  have hdl : ((l.drop i).flatMap kC).length = (l.length - i) * 2 := by rw [flat_len (f := kC) (sz := 2) (fun _ => rfl), List.length_drop]
  have hmm : (l.length - i) * 2 + i * 2 = l.length * 2 := by rw [← Nat.add_mul, Nat.sub_add_cancel (by omega)]
  have hxl : (kC x).length = 2 := rfl
  have hcp1 : ∀ ty dc, (Builtin.copy_ #[28, 28] ty #[.slice (some ⟨w.heap.size, i * 2, none⟩) (l.length + 1 - i) dc, .slice (some ⟨vb, 0, none⟩) 1 vc]).run Tryd.prog W1 = .ok (goInt (Nat.min 1 (l.length + 1 - i))) (W1.setCells w.heap.size (i * 2) (kC x)) := fun ty dc =>
    run_copyN 2 W1 _ _ ty 58 w.heap.size (i * 2) _ dc ⟨vb, 0, none⟩ 1 vc _ Tryd.underlying28 hsz (by show _ = min 1 (l.length + 1 - i) * 2; rw [Nat.min_eq_left (by omega)]; rfl)
      (fun t v ht => by rw [show (⟨vb, 0, none⟩ : Addr).add t = ⟨vb, 0 + t, none⟩ from Go.WideShapes.add_plain .., Nat.zero_add]; exact hOb vb t v hvw (hvb t v ht))
      (fun t ht => by rw [hr0.cell (by omega)]; rfl) (fun t _ => hr0.frozen _) (oneKy x)
  obtain ⟨W2, hW2⟩ : ∃ W2, W2 = W1.setCells w.heap.size (i * 2) (kC x) := ⟨_, rfl⟩
  rw [← hW2] at hcp1
  have hW2' : W2 = setCells W1 w.heap.size (i * 2) (kC x) := by rw [hW2, wsetCells]
  obtain ⟨F2, hr2, -, -⟩ := rowIs_setCells (kC x) W1 (i * 2) _ hr0
  rw [← hW2'] at hr2
  have hcp2 : ∀ ty dc sc, (Builtin.copy_ #[28, 28] ty #[.slice (some ⟨w.heap.size, (i + 1) * 2, none⟩) (l.length - i) dc, .slice (some ⟨g, i * 2, none⟩) (l.length - i) sc]).run Tryd.prog W2.drew = .ok (goInt (Nat.min (l.length - i) (l.length - i))) (W2.drew.setCells w.heap.size ((i + 1) * 2) ((l.drop i).flatMap kC)) := fun ty dc sc =>
    run_copyN 2 W2.drew _ _ ty 58 w.heap.size ((i + 1) * 2) _ dc ⟨g, i * 2, none⟩ _ sc _ Tryd.underlying28 hsz (by rw [hdl]; congr 1; exact (Nat.min_self _).symm)
      (fun t v ht => by
        rw [show (⟨g, i * 2, none⟩ : Addr).add t = ⟨g, i * 2 + t, none⟩ from Go.WideShapes.add_plain ..]
        show W2.cell? _ = _
        rw [hW2, World.cell?_setCells_out w.heap.size _ _ _ _ (fun h _ => absurd h (by show g ≠ _; omega))]
        exact hOb g _ v hgw (Wk.cells (f := kC) (sz := 2) (fun _ => rfl) hk i t v ht))
      (fun t ht => by rw [hdl] at ht; show (W2.cell? _).isSome = true; rw [hr2.cell (by omega)]; rfl) (fun t _ => hr2.frozen _) (onesKy _)
  have hL : LeB W0.heap.size w.heap.size := ⟨hu.h.size⟩
  have hres : Wr 2 kC (W2.drew.setCells w.heap.size ((i + 1) * 2) ((l.drop i).flatMap kC)) w.heap.size (insL l i x) ∧ Up W0 (W2.drew.setCells w.heap.size ((i + 1) * 2) ((l.drop i).flatMap kC)) := by
    rw [wsetCells, hW2', hmi]
    refine ⟨?_, up_setCells _ _ _ ?_⟩
    · have h := Wr.insNew (f := kC) (sz := 2) (fun _ => rfl) x i (by omega) (by omega) hr0 hRl (fun t v ht => by rw [hRf t v ht]; rfl)
      refine (setCells_drewW h)
    · have h1 : Up W0 W1 := by rw [hW1]; exact ⟨(hu.h.drew).alloc hu.h.size _⟩
      exact ⟨(up_setCells (kC x) _ _ h1).h.drew⟩
  have HZ := hid hrz
  have H1 := hid hcp1
  have H2 := hid hcp2
  have HR := hid hres
  have HG := hid hL
  have h1 : IntKind.i64.wrap ((i : Int) + 1) = (i : Int) + 1 := IntWalk.i64_in _ (by omega)
  have h2 : ((i : Int) + 1).toNat = i + 1 := by omega
  have h3 : (0 : Int) ≤ (i : Int) + 1 := by omega
  have h4 : IntKind.i64.wrap ((l.length : Int) + 1) = (l.length : Int) + 1 := IntWalk.i64_in _ (by omega)
  have h8 : ¬ ((i : Int) = (l.length : Int)) := by omega
  have h9 : ¬ (G = i + 1) := by omega
  have h10 : ¬ (G = i) := by omega
  have h16 : ¬ (l.length = i) := by omega
  have h11 : (i : Int) + 1 ≤ (l.length : Int) + 1 := by omega
  have h12 : (i : Int) ≤ (l.length : Int) + 1 := by omega
  have h13 : (i : Int) ≤ (l.length : Int) := by omega
  have h14 : i + 1 ≤ l.length + 1 := by omega
  have h17 : (l.length : Int) < (l.length : Int) + 1 := by omega
  have h18 : i ≤ l.length := by omega
  clear hrz hz1 hzc hcp1 hcp2 hres hL hW2' hW2 hr2 hxl hmm hdl hle2 hle hmi hOb hr0 hW1 hRf hRl htl hROW hik hkk hold hsz hb0 hs0 hz0 hi0 hvw hgw hu hk hvb hG
  go_enter Tryd.func69, Tryd.ntmps69
  go_wp2_with (first | (at_builtin; go_loud (refine Lib.wpList_append_run _ rfl _ _ _ _ rfl _ _ rfl rfl _ _ (HZ.out _) ?_)) | (with_reducible refine wpList_copyI (o := ⟨some 45, _, _, _, _, _⟩) _ rfl (.tmp 43) (.tmp 44) 28 28 rfl _ _ rfl rfl (H1.out _ _) ?_))
  go_region_law (go_loud (refine step_copyI rfl (.tmp 50) (.tmp 53) 28 28 rfl (.slice (some ⟨w.heap.size, (i + 1) * 2, none⟩) (l.length - i) (G - (i + 1))) (.slice (some ⟨g, i * 2, none⟩) (l.length - i) (l.length - i)) (by simp [Act.eval, Act.put]) (by simp [Act.eval, Act.put]) (H2.out _ _ _) ?_))
  go_wp2
  go_ret
  exact ⟨w.heap.size, G, by simp, ⟨_, HR.out.2.h⟩, rfl, HR.out.1, HG.out⟩
/-- at whatever place -/
theorem insAt {W0 : World} (A : Option Addr) (cap n i : Nat) (l : List Ky) (x : Ky) (vb vc : Nat) (w : World) [hu : Up W0 w] (hrow : w.ownsRow W0.heap.size 58 2 (.slice A l.length cap) l.length (l.flatMap kC)) (hn' : l.length = n) (hi : i ≤ l.length)
    (hn : l.length ≤ 1048576) (hvb : w.heap[vb]? = some (.cells (kC x).toArray 58 (0, 0))) (hne : ∀ g, A = some ⟨g, 0, none⟩ → vb ≠ g) :
    Calls Tryd.prog 69 #[.slice A n cap, .int .i64 i, .slice (some ⟨vb, 0, none⟩) 1 vc] w fun e w' => InsPost W0 n (insL l i x) e w' := by
  subst hn'
  have hcell : ∀ j u, (kC x)[j]? = some u → w.cell? ⟨vb, j, none⟩ = some u := fun j u hj => by
    simp only [World.cell?, hvb]
    simpa using hj
  by_cases h : i = l.length
  · subst h
    refine insEnd A cap l x vb vc w hrow ?_ hn hcell
    rcases hrow.2 with ⟨h1, h2⟩ | ⟨g, cap', cur, h1, -, -, h2, -⟩
    · omega
    · injection h1 with e1 e2 e3; omega
  · rcases hrow.2 with ⟨h1, h2⟩ | ⟨g, cap', cur, h1, -⟩
    · omega
    · injection h1 with e1 e2 e3
      subst e1
      obtain ⟨hk, hB⟩ := Wk.of_own (f := kC) (sz := 2) (fun _ => rfl) hrow
      by_cases hr : l.length + 1 ≤ cap
      · exact insRoom g cap i l x vb vc w ⟨hB⟩ hk hr (by omega) hn hvb (hne g rfl)
      · exact insGrow g cap i l x vb vc w hk (by omega) (by omega) hn hcell
end
end Go.Proofs.YtdhflckombkimaaDoor
namespace Go.Proofs.YtdhflckombkimaaDoor
open Go.RowKit
section
variable {α : Type} {sz : Nat} {f : α → List Value} {w : World} {g : Nat} {l : List α}
/-- the list with x in place p -/
def setL (l : List α) (p : Nat) (x : α) : List α := l.set p x
theorem Wr.put (hf : ∀ x, (f x).length = sz) (h : Wr sz f w g l) (p : Nat) (hp : p < l.length) (x : α) : Wr sz f (setCells w g (p * sz) (f x)) g (l.set p x) := by
  obtain ⟨e, N, F, hN, hr, hc⟩ := h.row
  obtain ⟨G, a1, a2, a3⟩ := rowIs_setCells (f x) w (p * sz) F hr
  refine ⟨by rw [List.length_set]; exact h.len, ⟨e, N, G, by rw [List.length_set]; exact hN, a1, fun k hk j v hv hj => ?_⟩, fun y _ => hf y⟩
  rw [List.length_set] at hk
  rw [List.getElem_set] at hv
  by_cases hkp : p = k
  · subst hkp
    rw [if_pos rfl] at hv
    exact a3 j v hv
  · rw [if_neg hkp] at hv
    rw [a2 _ ?_]
    · exact hc k hk j v hv hj
    · rw [hf]
      rcases Nat.lt_or_ge k p with h1 | h1
      · have := Nat.mul_le_mul_right sz (Nat.succ_le_of_lt h1)
        rw [Nat.succ_mul] at this
        exact .inl (by omega)
      · have := Nat.mul_le_mul_right sz (show p + 1 ≤ k by omega)
        rw [Nat.succ_mul] at this
        exact .inr (by omega)
end
theorem repL_set {l : List Ky} {p : Nat} (hp : p < l.length) (x : Ky) : repL l p x = l.set p x := by
  rw [List.set_eq_take_append_cons_drop, if_pos hp]
  unfold repL
  simp
/-- the place where x goes -/
theorem st_at (l : List Ky) (t : Int) : ∃ p, p ≤ l.length ∧ (∀ j, j < p → (kyG l j).t < t) ∧ (p < l.length → t ≤ (kyG l p).t) := by
  rcases st_part l t with ⟨q, hq, h1, h2⟩ | h
  · exact ⟨q, by omega, h2, fun _ => h1⟩
  · exact ⟨l.length, Nat.le_refl _, h, fun h => absurd h (by omega)⟩
theorem vT_ris {nm : ByteArray} {l : List Ky} (h : vT nm l = true) : risK l := (vT_of h).2.ris
section
set_option maxHeartbeats 6400000
set_option maxRecDepth 20000
theorem cloneK_row (A : Option Addr) (c : Nat) (l : List Ky) (w : World) [hl : Rd 2 kC w A l] (h1 : 1 ≤ l.length) (hn : l.length ≤ 1048576) :
    Calls Tryd.prog 68 #[.slice A l.length c] w fun e w' => ∃ g c', e = .returned (.slice (some ⟨g, 0, none⟩) l.length c') ∧ l.length ≤ c' ∧ ∃ k : Ex w, w' = k.v ∧ k.v.ownsRow w.heap.size 58 2 (.slice (some ⟨g, 0, none⟩) l.length c') l.length (l.flatMap kC) ∧ Wr 2 kC k.v g l ∧ LeB w.heap.size g := by
  obtain ⟨b, o, rfl, hbw, -⟩ := hl.at_ (by omega)
  have q27 : ∀ (w : World) (a : Option Addr) (n c n' c' : Nat), (binOp .eql 28 (.slice a n c) (.slice none n' c')).run Tryd.prog w = .ok (.bool a.isNone) w := fun w a n c n' c' => Lib.run_eql_slice_nil w _ _ a n c n' c' Tryd.underlying28
  go_enter Tryd.func68, Tryd.ntmps68
  go_wp2_with (at_builtin; refine wpList_appN kC _ rfl _ _ _ rfl w.heap.size ?_ _ _ _ _ Tryd.underlying28 infoKey rfl (by omega) (fun _ => ⟨rfl, by simp [kC, Value.oneCell']⟩) (.slice (some ⟨w.heap.size, 0, none⟩) 0 0) [] rfl ?_ (some ⟨b, o, none⟩) l c rfl ?_ (fun h => by cases h) ?_ ?_ ?_; (· simp); (· exact World.ownsRow_made _ #[] 0 (Nat.le_refl _) (by simp [maxLen]) (by simp)); (· infer_instance); (· simp; omega); (· simp; omega); intro v' k' hown')
  go_ret
  obtain ⟨A2, c2, hv, hO2, hF2⟩ := Ow.of_row (f := kC) (fun _ => rfl) hown'
  subst hv
  obtain ⟨g, rfl, hg⟩ := hO2.own (by simp; omega)
  refine ⟨g, c2, by simp, ?_, ex_and (fun W => W.ownsRow w.heap.size 58 2 (.slice (some ⟨g, 0, none⟩) l.length c2) l.length (l.flatMap kC) ∧ Wr 2 kC W g l ∧ LeB w.heap.size g) (by (refine Ok.toEx ?_; (repeat (first | (with_reducible exact Ok.rf _) | (with_reducible refine Ok.alloc ?_ _) | (with_reducible refine Ok.ex ?_ _) | (with_reducible refine Ok.drew ?_) | (with_reducible refine Ok.setCellI ?_ _ _ _) | (with_reducible refine Ok.exb ?_ _))))) ⟨by simpa using hown', by simpa using hg, ⟨hF2 g 0 none rfl⟩⟩⟩
  rcases hown'.2 with ⟨h, _⟩ | ⟨g', cap, cur, h, _, _, hc, _⟩
  · cases h
  · cases h; simpa using hc

theorem iSet_any (nm : ByteArray) (A : Option Addr) (c : Nat) (l : List Ky) (x : Ky) (w : World) [hl : Rd 2 kC w A l] (hs : nm.size ≤ maxLen) (hn : l.length ≤ 1048576) :
    Calls Tryd.prog 34 #[.agg #[.string nm, .slice A l.length c], .agg #[.int .i64 x.t, .int .i64 x.v]] w (TrPost (stR nm l x) w) := by
  cases hv : vT nm l
  · have HR := hid (stR_inv (x := x) hv)
    go_enter Tryd.func34, Tryd.ntmps34
    go_wp2_with ((go_at_call 43; (with_reducible refine (iVT_any nm _ _ l _ hs hn).mono ?_); rw [hv]; rintro e w' ⟨rfl, k, rfl⟩))
    (refine bodyPost_ret (v := _) (by first | (simp [results, Tryd.results34, go_sem]; done) | (simp [results, Tryd.results34, go_sem]; rfl)) rfl ?_; rw [HR.out]; refine trPost_err (by rfl) ?_; (refine Ok.toEx ?_; (repeat (first | (with_reducible exact Ok.rf _) | (with_reducible refine Ok.alloc ?_ _) | (with_reducible refine Ok.ex ?_ _) | (with_reducible refine Ok.drew ?_) | (with_reducible refine Ok.setCellI ?_ _ _ _) | (with_reducible refine Ok.exb ?_ _)))))
  · by_cases hd : okKy x
    rotate_left
    · have HR := hid (stR_rng hv hd)
      rcases okKy_not hd with h | ⟨h1, h⟩
      all_goals
        clear hd
        go_enter Tryd.func34, Tryd.ntmps34
        go_wp2_with (first | (go_at_call 43; (with_reducible refine (iVT_any nm _ _ l _ hs hn).mono ?_); rw [hv]; rintro e w' ⟨rfl, k, rfl⟩) | (go_at_call 67; first | (refine (vk_yes x _ (by omega) (by omega) (by omega) (by omega)).mono ?_; rintro e w' ⟨rfl, k, rfl⟩) | (refine (vk_no x _ (by omega)).mono ?_; rintro e w' ⟨rfl, k, rfl⟩)))
        (refine bodyPost_ret (v := _) (by first | (simp [results, Tryd.results34, go_sem]; done) | (simp [results, Tryd.results34, go_sem]; rfl)) rfl ?_; rw [HR.out]; refine trPost_err (by rfl) ?_; (refine Ok.toEx ?_; (repeat (first | (with_reducible exact Ok.rf _) | (with_reducible refine Ok.alloc ?_ _) | (with_reducible refine Ok.ex ?_ _) | (with_reducible refine Ok.drew ?_) | (with_reducible refine Ok.setCellI ?_ _ _ _) | (with_reducible refine Ok.exb ?_ _)))))
    · have hk := (vT_of hv).2.vk
      obtain ⟨hk1, hk2⟩ := hk.n
      have hr := vT_ris hv
      have HFull := hid (stR_full hv hd)
      have HGo := hid (stR_go hv hd)
      obtain ⟨⟨hx1, hx2⟩, ⟨hx3, hx4⟩⟩ := hd
      obtain ⟨p, hp, hlo, hhi⟩ := st_at l x.t
      have HHit := hid (fun h1 h2 => stA_hit (x := x) h1 hlo h2 hr)
      have HIns := hid (fun h1 h2 => stA_ins (x := x) h1 hlo h2 hr)
      have HEnd : Hid (p = l.length → stA l x = insL l l.length x) := hid (fun h => stA_end (by rw [← h]; exact hlo))
      have HLO := hid hlo
      have HHI := hid hhi
      clear hk hr hlo hhi
      go_enter Tryd.func34, Tryd.ntmps34
      go_wp2_with (first | (go_at_call 43; (with_reducible refine (iVT_any nm _ _ l _ hs hn).mono ?_); rw [hv]; rintro e w' ⟨rfl, k, rfl⟩) | (go_at_call 67; first | (refine (vk_yes x _ (by omega) (by omega) (by omega) (by omega)).mono ?_; rintro e w' ⟨rfl, k, rfl⟩) | (refine (vk_no x _ (by omega)).mono ?_; rintro e w' ⟨rfl, k, rfl⟩)) | (go_at_call 68; go_loud ((with_reducible refine (cloneK_row _ _ l _ ?_ ?_).mono ?_); (· omega); (· omega); rintro e w' ⟨g, c9, rfl, hcc, k9, rfl, hO9, hw9, hg9⟩)))
      clear hv
      have hlt9 := hw9.lt
      haveI howr : OwR k.v.heap.size 58 2 (.slice (some ⟨g, 0, none⟩) l.length c9) l.length (l.flatMap kC) k9.v := ⟨hO9⟩
      clear hO9
      have hfz : ∀ i, k9.v.frozen? ⟨g, i, none⟩ = false := by
        obtain ⟨e, N, F, -, hr, -⟩ := hw9.row
        exact fun i => hr.frozen i
      have HFZ := hid hfz
      clear hfz
      have hkw := (inferInstance : LtW (w.heap.size + 1 + 1) k.v).h
      have hgk := hg9.h
      haveI hlwg : LeB w.heap.size g := ⟨by omega⟩
      haveI : NeB w.heap.size g := ⟨by omega⟩
      haveI : NeB (w.heap.size + 1) g := ⟨by omega⟩
      haveI : NeB (w.heap.size + 1 + 1) g := ⟨by omega⟩
      go_loopw [7] (fun t wr => ∃ q : Nat, q ≤ p ∧ t = .int .i64 q ∧ ∃ j : Ex k9.v, wr = j.v) (fun t _ => p - (intOf t).toNat)
      case atStart => exact ⟨0, Nat.zero_le _, rfl, Ex.rf _, rfl⟩
      case round =>
        obtain ⟨q, hq, rfl, j0, rfl⟩ := hrel
        have HK9 := hid ((inferInstance : Rd 2 kC j0.v (some ⟨g, 0, none⟩) l).kg)
        have hz1 : (0 : Int) ≤ (q : Int) := by omega
        by_cases hlt : q < p
        · obtain ⟨b', o', hbo, hbw, hca⟩ := HK9.out (by omega)
          cases hbo
          obtain ⟨c0, c1⟩ := hca q (by omega)
          simp only [Nat.zero_add] at c0 c1
          clear hca
          have hy := HLO.out q hlt
          have hz2 : (q : Int) < (l.length : Int) := by omega
          have g1 : decide ((q : Int) < (l.length : Int)) = true := by simp; omega
          generalize kyG l q = y at *
          have g2 : decide (y.t < x.t) = true := by simp; omega
          go_wp2_with (fail)
          (refine wp_region_ex (by kernel_rfl) (by kernel_rfl) ?_; (repeat (go_big_quiet_step (fail))); refine wpQuiet_nil ?_; rintro _ ⟨k2, rfl⟩)
          go_wp2
          go_roundw
          case rel => exact ⟨q + 1, by omega, by go_num, by (refine Ok.toEx ?_; (repeat (first | (with_reducible exact Ok.rf _) | (with_reducible refine Ok.alloc ?_ _) | (with_reducible refine Ok.ex ?_ _) | (with_reducible refine Ok.drew ?_) | (with_reducible refine Ok.setCellI ?_ _ _ _) | (with_reducible refine Ok.exb ?_ _))))⟩
          case measure => simp [intOf]; omega
        · obtain rfl : q = p := by omega
          by_cases hpl : q < l.length
          · obtain ⟨b', o', hbo, hbw, hca⟩ := HK9.out (by omega)
            cases hbo
            obtain ⟨c0, c1⟩ := hca q (by omega)
            simp only [Nat.zero_add] at c0 c1
            clear hca
            have hy := HHI.out hpl
            have hz2 : (q : Int) < (l.length : Int) := by omega
            have g1 : decide ((q : Int) < (l.length : Int)) = true := by simp; omega
            have g2 : decide ((kyG l q).t < x.t) = false := by simp; omega
            by_cases he : (kyG l q).t = x.t
            · have HL : Hid (stA l x = l.set q x) := hid (by rw [HHit.out hpl he, repL_set hpl])
              have hlen : (l.set q x).length = l.length := List.length_set ..
              have HR := hid (HGo.out (by rw [HL.out, hlen]; omega))
              clear hlen
              generalize kyG l q = y at *
              have g3 : (y.t == x.t) = true := by rw [beq_iff_eq]; exact he
              have f0 := HFZ.out (q * 2)
              have f1 := HFZ.out (q * 2 + 1)
              go_wp2_with (fail)
              (refine wp_region_ex (by kernel_rfl) (by kernel_rfl) ?_; (repeat (go_big_quiet_step (fail))); refine wpQuiet_nil ?_; rintro _ ⟨k2, rfl⟩)
              go_wp2_with (fail)
              (refine wp_region_ex (by kernel_rfl) (by kernel_rfl) ?_; (repeat (go_big_quiet_step (fail))); refine wpQuiet_nil ?_; rintro _ ⟨k3, rfl⟩)
              go_wp2
              have hw5 := Wr.put (f := kC) (fun _ => rfl) (inferInstance : Wr 2 kC k3.v g l) q hpl x
              haveI hw6 : Wr 2 kC ((k3.v.setCell ⟨g, q * 2, none⟩ (.int .i64 x.t)).setCell ⟨g, q * 2 + 1, none⟩ (.int .i64 x.v)) g (l.set q x) := hw5
              refine bodyPost_ret (v := _) (by first | (simp [results, Tryd.results34, go_sem]; done) | (simp [results, Tryd.results34, go_sem]; rfl)) rfl ?_
              rw [HR.out, HL.out]
              refine trPostN_ok (List.length_set ..) (by rfl) ?_ (by infer_instance) ⟨by omega⟩
              (refine Ok.toEx ?_; (repeat (first | (with_reducible exact Ok.rf _) | (with_reducible refine Ok.alloc ?_ _) | (with_reducible refine Ok.ex ?_ _) | (with_reducible refine Ok.drew ?_) | (with_reducible refine Ok.setCellI ?_ _ _ _) | (with_reducible refine Ok.exb ?_ _))))
            · have HL : Hid (stA l x = insL l q x) := hid (HIns.out hpl (by omega))
              generalize kyG l q = y at *
              have g3 : (y.t == x.t) = false := by rw [beq_eq_false_iff_ne]; exact he
              go_wp2_with (fail)
              (refine wp_region_ex (by kernel_rfl) (by kernel_rfl) ?_; (repeat (go_big_quiet_step (fail))); refine wpQuiet_nil ?_; rintro _ ⟨k2, rfl⟩)
              go_wp2_with (fail)
              (refine wp_region_ex (by kernel_rfl) (by kernel_rfl) ?_; (repeat (go_big_quiet_step (fail))); refine wpQuiet_nil ?_; rintro _ ⟨k3, rfl⟩)
              by_cases hfl : l.length = 24
              · have hfi : ((l.length : Int) == 24) = true := by rw [hfl]; rfl
                have HR := hid (HFull.out (by rw [HL.out, insL_len l _ x (by omega)]; omega))
                clear hfl
                go_wp2
                (refine bodyPost_ret (v := _) (by first | (simp [results, Tryd.results34, go_sem]; done) | (simp [results, Tryd.results34, go_sem]; rfl)) rfl ?_; rw [HR.out]; refine trPost_err (by rfl) ?_; (refine Ok.toEx ?_; (repeat (first | (with_reducible exact Ok.rf _) | (with_reducible refine Ok.alloc ?_ _) | (with_reducible refine Ok.ex ?_ _) | (with_reducible refine Ok.drew ?_) | (with_reducible refine Ok.setCellI ?_ _ _ _) | (with_reducible refine Ok.exb ?_ _)))))
              · have hfi : ((l.length : Int) == 24) = false := by rw [beq_eq_false_iff_ne]; omega
                have HR := hid (HGo.out (by rw [HL.out, insL_len l _ x (by omega)]; omega))
                clear hfl
                go_wp2_with ((go_at_call 69; go_loud ((refine (insAt (W0 := k.v) (some ⟨g, 0, none⟩) c9 l.length q l x _ _ _ owR_h rfl (by omega) hn ?_ ?_).mono ?_); (· exact (heap_alloc_new _ _)); (· intro g' hg'; cases hg'; have h1 := (inferInstance : LtW g k3.v).h; omega); rintro e w' h; unfold InsPost at h; obtain ⟨g2, c2, rfl, k8, rfl, hw2, hg2⟩ := h)))
                haveI : NeB (w.heap.size + 1 + 1) g2 := ⟨by have := hg2.h; omega⟩
                refine bodyPost_ret (v := _) (by first | (simp [results, Tryd.results34, go_sem]; done) | (simp [results, Tryd.results34, go_sem]; rfl)) rfl ?_
                rw [HR.out, HL.out]
                refine trPostN_ok (insL_len l _ x (by omega)) (by rfl) ?_ (by infer_instance) ⟨Nat.le_trans (by have := (inferInstance : LeB w.heap.size k.v.heap.size).h; exact this) hg2.h⟩
                (refine Ok.toEx ?_; (repeat (first | (with_reducible exact Ok.rf _) | (with_reducible refine Ok.alloc ?_ _) | (with_reducible refine Ok.ex ?_ _) | (with_reducible refine Ok.drew ?_) | (with_reducible refine Ok.setCellI ?_ _ _ _) | (with_reducible refine Ok.exb ?_ _))))
          · have hpe : q = l.length := by omega
            have HL : Hid (stA l x = insL l q x) := hid (by rw [HEnd.out hpe, hpe])
            have hz2 : ¬ (q : Int) < (l.length : Int) := by omega
            have g1 : decide ((q : Int) < (l.length : Int)) = false := by simp; omega
            clear hpe
            go_wp2_with (fail)
            (refine wp_region_ex (by kernel_rfl) (by kernel_rfl) ?_; (repeat (go_big_quiet_step (fail))); refine wpQuiet_nil ?_; rintro _ ⟨k2, rfl⟩)
            go_wp2_with (fail)
            (refine wp_region_ex (by kernel_rfl) (by kernel_rfl) ?_; (repeat (go_big_quiet_step (fail))); refine wpQuiet_nil ?_; rintro _ ⟨k3, rfl⟩)
            by_cases hfl : l.length = 24
            · have hfi : ((l.length : Int) == 24) = true := by rw [hfl]; rfl
              have HR := hid (HFull.out (by rw [HL.out, insL_len l _ x (by omega)]; omega))
              clear hfl
              go_wp2
              (refine bodyPost_ret (v := _) (by first | (simp [results, Tryd.results34, go_sem]; done) | (simp [results, Tryd.results34, go_sem]; rfl)) rfl ?_; rw [HR.out]; refine trPost_err (by rfl) ?_; (refine Ok.toEx ?_; (repeat (first | (with_reducible exact Ok.rf _) | (with_reducible refine Ok.alloc ?_ _) | (with_reducible refine Ok.ex ?_ _) | (with_reducible refine Ok.drew ?_) | (with_reducible refine Ok.setCellI ?_ _ _ _) | (with_reducible refine Ok.exb ?_ _)))))
            · have hfi : ((l.length : Int) == 24) = false := by rw [beq_eq_false_iff_ne]; omega
              have HR := hid (HGo.out (by rw [HL.out, insL_len l _ x (by omega)]; omega))
              clear hfl
              go_wp2_with ((go_at_call 69; go_loud ((refine (insAt (W0 := k.v) (some ⟨g, 0, none⟩) c9 l.length q l x _ _ _ owR_h rfl (by omega) hn ?_ ?_).mono ?_); (· exact (heap_alloc_new _ _)); (· intro g' hg'; cases hg'; have h1 := (inferInstance : LtW g k3.v).h; omega); rintro e w' h; unfold InsPost at h; obtain ⟨g2, c2, rfl, k8, rfl, hw2, hg2⟩ := h)))
              haveI : NeB (w.heap.size + 1 + 1) g2 := ⟨by have := hg2.h; omega⟩
              refine bodyPost_ret (v := _) (by first | (simp [results, Tryd.results34, go_sem]; done) | (simp [results, Tryd.results34, go_sem]; rfl)) rfl ?_
              rw [HR.out, HL.out]
              refine trPostN_ok (insL_len l _ x (by omega)) (by rfl) ?_ (by infer_instance) ⟨Nat.le_trans (by have := (inferInstance : LeB w.heap.size k.v.heap.size).h; exact this) hg2.h⟩
              (refine Ok.toEx ?_; (repeat (first | (with_reducible exact Ok.rf _) | (with_reducible refine Ok.alloc ?_ _) | (with_reducible refine Ok.ex ?_ _) | (with_reducible refine Ok.drew ?_) | (with_reducible refine Ok.setCellI ?_ _ _ _) | (with_reducible refine Ok.exb ?_ _))))
end
end Go.Proofs.YtdhflckombkimaaDoor
