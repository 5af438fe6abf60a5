/-
  slices.Insert of one element into a row of the call's own. Conditions: those typed at each theorem.
-/
import Derived.Test.YtebapdgajjimpaaTrV
import Derived.Test.YtebapdgajjimpaaInsP
import Derived.Test.YtebapdgajjimpaaTrY
import Derived.Deep.RegionLaw
import Derived.Lib.SliceRun
import Derived.Lib.Overlaps
import Derived.Lib.AppendZerosOnto
import Derived.Laws.Externs
import Derived.Laws.NewBlocks
namespace Go.Proofs.Ytebapdgajjimpaa
open Go.RowKit
section
set_option maxHeartbeats 3200000
set_option maxRecDepth 20000
/-- what Insert leaves -/
def InsPost (W0 : World) (n : Nat) (L : List Ky) (e : Ending) (w' : World) : Prop := ∃ g c', e = .returned (.slice (some ⟨g, 0, none⟩) (n + 1) c') ∧ ∃ j : Ex W0, w' = j.v ∧ Wr 2 kC j.v g L ∧ LeB W0.heap.size g
theorem oneKy (x : Ky) : ∀ v ∈ kC x, v.oneCell' = true := by
  intro v hv
  simp [kC] at hv
  repeat (first | (subst hv; rfl) | (rcases hv with hv | hv))
theorem onesKy (l : List Ky) : ∀ v ∈ l.flatMap kC, v.oneCell' = true := by
  intro v hv
  obtain ⟨x, _, hx⟩ := List.mem_flatMap.1 hv
  exact oneKy x v hx
theorem drew_setCellsH (b : Nat) : ∀ (vs : List Value) (o : Nat) (w : World) (g : Nat), (w.drew.setCells b o vs).heap[g]? = (w.setCells b o vs).heap[g]?
  | [], _, _, _ => rfl
  | v :: r, o, w, g => drew_setCellsH b r (o + 1) (w.setCell ⟨b, o, none⟩ v) g
theorem setCells_drewW {α : Type} {sz : Nat} {f : α → List Value} {b p q g : Nat} {vs us : List Value} {w : World} {l : List α} (h : Wr sz f (setCells (setCells w b p vs) b q us) g l) : Wr sz f (setCells (setCells w b p vs).drew b q us) g l := by
  refine h.congr ?_
  rw [← wsetCells, ← wsetCells, ← wsetCells]
  have := drew_setCellsH b us q (w.setCells b p vs) g
  exact this
/-- at the end -/
theorem insEnd {W0 : World} (A : Option Addr) (cap : Nat) (l : List Ky) (x : Ky) (vb vc : Nat) (w : World) [hu : Up W0 w] (hrow : w.ownsRow W0.heap.size 34 2 (.slice A l.length cap) l.length (l.flatMap kC)) (hc : l.length ≤ cap)
    (hn : l.length ≤ 1048576) (hvb : ∀ j u, (kC x)[j]? = some u → w.cell? ⟨vb, j, none⟩ = some u) :
    Calls Try.prog 30 #[.slice A l.length cap, .int .i64 l.length, .slice (some ⟨vb, 0, none⟩) 1 vc] w fun e w' => InsPost W0 l.length (insL l l.length x) e w' := by
  have hown := hid hrow
  have hcell := hid hvb
  have hins := hid (show insL l l.length x = l ++ [x] by simp [insL])
  clear hvb
  have hA : (A = none ∧ cap = 0 ∧ l.length = 0) ∨ ∃ g, A = some ⟨g, 0, none⟩ := by
    rcases hrow.2 with ⟨h1, h2⟩ | ⟨g, cap', cur, h1, -⟩
    · injection h1 with e1 e2 e3; exact .inl ⟨e1, e3, h2⟩
    · injection h1 with e1 e2 e3; exact .inr ⟨g, e1⟩
  clear hrow
  rcases hA with ⟨rfl, rfl, h0⟩ | ⟨g, rfl⟩
  · obtain rfl : l = [] := List.eq_nil_of_length_eq_zero h0
    clear h0
    go_enter Try.func30, Try.ntmps30
    go_wp2_with (at_builtin; go_loud (refine wpList_appZ kC _ rfl _ _ _ rfl W0.heap.size ?_ _ _ _ _ Try.underlying28 infoKey rfl (by omega) (fun _ => ⟨rfl, oneKy _⟩) (.slice none 0 0) [] rfl hown.out x vb vc rfl hcell.out ?_ ?_ ?_; (· exact hu.h.size); (· simp); (· simp); intro v' k hA))
    go_ret
    rw [show insL ([] : List Ky) 0 x = [x] from rfl]
    obtain ⟨A2, c2, hv, hO2, hF2⟩ := Ow.of_row (f := kC) (fun _ => rfl) hA.own
    subst hv
    obtain ⟨g, rfl, hg⟩ := hO2.own (by simp)
    exact ⟨g, c2, rfl, ⟨_, hu.h.trans (k.h.mono (Nat.le_refl _))⟩, rfl, hg, ⟨hF2 g 0 none rfl⟩⟩
  · by_cases hcc : cap = l.length
    · subst hcc
      go_enter Try.func30, Try.ntmps30
      go_wp2_with (at_builtin; go_loud (refine wpList_appZ kC _ rfl _ _ _ rfl W0.heap.size ?_ _ _ _ _ Try.underlying28 infoKey rfl (by omega) (fun _ => ⟨rfl, oneKy _⟩) (.slice (some ⟨g, 0, none⟩) l.length l.length) l rfl hown.out x vb vc rfl hcell.out ?_ ?_ ?_; (· exact hu.h.size); (· omega); (· omega); intro v' k hA))
      go_ret
      rw [hins.out]
      obtain ⟨A2, c2, hv, hO2, hF2⟩ := Ow.of_row (f := kC) (fun _ => rfl) hA.own
      subst hv
      obtain ⟨g, rfl, hg⟩ := hO2.own (by simp)
      exact ⟨g, c2, by simp, ⟨_, hu.h.trans (k.h.mono (Nat.le_refl _))⟩, rfl, hg, ⟨hF2 g 0 none rfl⟩⟩
    · go_enter Try.func30, Try.ntmps30
      go_wp2_with (at_builtin; go_loud (refine wpList_appZ kC _ rfl _ _ _ rfl W0.heap.size ?_ _ _ _ _ Try.underlying28 infoKey rfl (by omega) (fun _ => ⟨rfl, oneKy _⟩) (.slice (some ⟨g, 0, none⟩) l.length cap) l rfl hown.out x vb vc rfl hcell.out ?_ ?_ ?_; (· exact hu.h.size); (· omega); (· omega); intro v' k hA))
      go_ret
      rw [hins.out]
      obtain ⟨A2, c2, hv, hO2, hF2⟩ := Ow.of_row (f := kC) (fun _ => rfl) hA.own
      subst hv
      obtain ⟨g, rfl, hg⟩ := hO2.own (by simp)
      exact ⟨g, c2, by simp, ⟨_, hu.h.trans (k.h.mono (Nat.le_refl _))⟩, rfl, hg, ⟨hF2 g 0 none rfl⟩⟩
/-- in place -/
theorem insRoom {W0 : World} (g cap i : Nat) (l : List Ky) (x : Ky) (vb vc : Nat) (w : World) [hu : Up W0 w] (hg : LeB W0.heap.size g) (hk : Wk 34 2 kC w g l cap) (hroom : l.length + 1 ≤ cap) (hi : i < l.length)
    (hn : l.length ≤ 1048576) (hvb : w.heap[vb]? = some (.cells (kC x).toArray 34 (0, 0))) (hne : vb ≠ g) :
    Calls Try.prog 30 #[.slice (some ⟨g, 0, none⟩) l.length cap, .int .i64 i, .slice (some ⟨vb, 0, none⟩) 1 vc] w fun e w' => InsPost W0 l.length (insL l i x) e w' := by
  obtain ⟨F, hr, hF⟩ := hk.row
  obtain ⟨i0, hi0, hz0, hs0, hb0⟩ := info_parts infoKey
  have hsz : (Try.prog.info? 34).map (·.size) = some 2 := by rw [hi0]; simp [hs0]
  have hzz : ∀ w, (Go.sizeOf 34).run Try.prog w = .ok 2 w := fun w => by simp [sizeOf, typeInfo, hi0, hs0]
  have hsa : w.shape? vb = some (34, 2) := by simp [World.shape?, hvb]; rfl
  have hsb : w.shape? g = some (34, cap * 2) := by obtain ⟨c, hb, hs, -⟩ := hr; simp [World.shape?, hb, hs]
  have hkB : cap * 2 ≠ 0 := by omega
  have hfa : ∀ o, w.frozen? ⟨vb, o, none⟩ = false := fun o => by simp [World.frozen?, hvb]
  have hov : ∀ lb cb, (callFunc 47 #[.slice (some ⟨vb, 0, none⟩) 1 vc, .slice (some ⟨g, (i + 1) * 2, none⟩) lb cb]).run Try.prog w = .ok (.value (.bool false)) w := fun lb cb => by
    rw [run_callFunc_extern (fn := Try.f47) (by kernel_rfl) (by kernel_rfl) (by kernel_rfl) (by kernel_rfl) (e := Extern.SlicesOverlaps.overlaps #[28, 28] #[4]) (by kernel_rfl),
      Lib.run_overlaps_apart w 28 4 34 Try.underlying28 2 hzz ⟨vb, 0, none⟩ ⟨g, (i + 1) * 2, none⟩ 1 vc lb cb hne 34 34 2 (cap * 2) hsa hsb hkB (hfa _) (hfa _)]
    rfl
  have hle := Nat.mul_le_mul_right 2 hroom
  rw [Nat.succ_mul] at hle
  have hmi : (i + 1) * 2 = i * 2 + 2 := Nat.succ_mul ..
  have hdl : ((l.drop i).flatMap kC).length = (l.length - i) * 2 := by rw [flat_len (f := kC) (sz := 2) (fun _ => rfl), List.length_drop]
  have hmm : (l.length - i) * 2 + i * 2 = l.length * 2 := by rw [← Nat.add_mul, Nat.sub_add_cancel (by omega)]
  have hcp1 : ∀ ty dc sc, (Builtin.copy_ #[28, 28] ty #[.slice (some ⟨g, (i + 1) * 2, none⟩) (l.length - i) dc, .slice (some ⟨g, i * 2, none⟩) (l.length + 1 - i) sc]).run Try.prog w.drew = .ok (goInt (Nat.min (l.length + 1 - i) (l.length - i))) (w.drew.setCells g ((i + 1) * 2) ((l.drop i).flatMap kC)) := fun ty dc sc =>
    run_copyN 2 w.drew _ _ ty 34 g ((i + 1) * 2) _ dc ⟨g, i * 2, none⟩ _ sc _ Try.underlying28 hsz (by rw [hdl]; congr 1; exact (Nat.min_eq_right (by omega)).symm)
      (fun t v ht => by rw [show (⟨g, i * 2, none⟩ : Addr).add t = ⟨g, i * 2 + t, none⟩ from Go.WideShapes.add_plain ..]; exact Wk.cells (f := kC) (sz := 2) (fun _ => rfl) hk i t v ht)
      (fun t ht => by rw [hdl] at ht; show (w.cell? _).isSome = true; rw [hr.cell (by omega)]; rfl) (fun t _ => hr.frozen _) (onesKy _)
  obtain ⟨W1, hW1⟩ : ∃ W1, W1 = w.drew.setCells g ((i + 1) * 2) ((l.drop i).flatMap kC) := ⟨_, rfl⟩
  have hW1' : W1 = setCells w.drew g (i * 2 + 2) ((l.drop i).flatMap kC) := by rw [hW1, wsetCells, hmi]
  obtain ⟨F1, hr1, -, -⟩ := rowIs_setCells ((l.drop i).flatMap kC) w.drew (i * 2 + 2) F hr
  rw [← hW1'] at hr1
  have hcv : ∀ j u, (kC x)[j]? = some u → W1.cell? ⟨vb, j, none⟩ = some u := fun j u hj => by
    rw [hW1, World.cell?_setCells_out g _ _ _ _ (fun h _ => absurd h hne)]
    show w.cell? _ = _
    simp only [World.cell?, hvb]
    simpa using hj
  have hcp2 : ∀ ty dc, (Builtin.copy_ #[28, 28] ty #[.slice (some ⟨g, i * 2, none⟩) (l.length + 1 - i) dc, .slice (some ⟨vb, 0, none⟩) 1 vc]).run Try.prog W1 = .ok (goInt (Nat.min 1 (l.length + 1 - i))) (W1.setCells g (i * 2) (kC x)) := fun ty dc =>
    run_copyN 2 W1 _ _ ty 34 g (i * 2) _ dc ⟨vb, 0, none⟩ 1 vc _ Try.underlying28 hsz (by show _ = min 1 (l.length + 1 - i) * 2; rw [Nat.min_eq_left (by omega)]; rfl)
      (fun t v ht => by rw [show (⟨vb, 0, none⟩ : Addr).add t = ⟨vb, 0 + t, none⟩ from Go.WideShapes.add_plain .., Nat.zero_add]; exact hcv t v ht)
      (fun t ht => by have : (kC x).length = 2 := rfl
                      rw [hr1.cell (by omega)]; rfl) (fun t _ => hr1.frozen _) (oneKy x)
  have hres : Wr 2 kC (W1.setCells g (i * 2) (kC x)) g (insL l i x) ∧ Up W0 (W1.setCells g (i * 2) (kC x)) := by
    rw [wsetCells, hW1']
    exact ⟨Wr.insRoom (f := kC) (sz := 2) (fun _ => rfl) x i (by omega) (by omega) (show Wk 34 2 kC w.drew g l cap from hk.congr rfl) hroom, up_setCells _ _ _ (up_setCells _ _ _ ⟨hu.h.drew⟩)⟩
  have H1 := hid hcp1
  have H2 := hid hcp2
  have HR := hid hres
  have HG := hid hg
  have X := hid hW1
  have h1 : IntKind.i64.wrap ((i : Int) + 1) = (i : Int) + 1 := IntWalk.i64_in _ (by omega)
  have h2 : ((i : Int) + 1).toNat = i + 1 := by omega
  have h3 : (0 : Int) ≤ (i : Int) + 1 := by omega
  have h4 : IntKind.i64.wrap ((l.length : Int) + 1) = (l.length : Int) + 1 := IntWalk.i64_in _ (by omega)
  have h5 : ((l.length : Int) + 1).toNat = l.length + 1 := by omega
  have h6 : (0 : Int) ≤ (l.length : Int) + 1 := by omega
  have h7 : (l.length : Int) + 1 ≤ (cap : Int) := by omega
  have h8 : ¬ ((i : Int) = (l.length : Int)) := by omega
  have h9 : ¬ (cap = i + 1) := by omega
  have h10 : ¬ (cap = i) := by omega
  have h11 : (i : Int) + 1 ≤ (l.length : Int) + 1 := by omega
  have h12 : (i : Int) ≤ (l.length : Int) + 1 := by omega
  have h13 : (i : Int) ≤ (l.length : Int) := by omega
  have h14 : i + 1 ≤ l.length + 1 := by omega
  have h15 : l.length + 1 ≤ cap := hroom
  clear hcp1 hcp2 hres hW1 hW1' hcv hr1 hdl hmm hmi hle hr hF hk hsz hzz hsa hsb hkB hfa hvb hs0 hb0 hz0 hi0 hu hg
  go_enter Try.func30, Try.ntmps30
  go_wp2_with (simp only [hov])
  go_region_law (go_loud (refine step_copyI rfl (.tmp 73) (.tmp 76) 28 28 rfl (.slice (some ⟨g, (i + 1) * 2, none⟩) (l.length - i) (cap - (i + 1))) (.slice (some ⟨g, i * 2, none⟩) (l.length + 1 - i) (cap - i)) (by simp [Act.eval, Act.put]) (by simp [Act.eval, Act.put]) (H1.out _ _ _) ?_; rw [← X.out]))
  go_wp2_with (with_reducible refine wpList_copyI (o := ⟨some 82, _, _, _, _, _⟩) _ rfl (.tmp 80) (.tmp 81) 28 28 rfl _ _ rfl rfl (H2.out _ _) ?_)
  go_ret
  exact ⟨g, cap, by simp, ⟨_, HR.out.2.h⟩, rfl, HR.out.1, HG.out⟩
/-- into a new row -/
theorem insGrow {W0 : World} (g cap i : Nat) (l : List Ky) (x : Ky) (vb vc : Nat) (w : World) [hu : Up W0 w] (hk : Wk 34 2 kC w g l cap) (hroom : cap < l.length + 1) (hi : i < l.length)
    (hn : l.length ≤ 1048576) (hvb : ∀ j u, (kC x)[j]? = some u → w.cell? ⟨vb, j, none⟩ = some u) :
    Calls Try.prog 30 #[.slice (some ⟨g, 0, none⟩) l.length cap, .int .i64 i, .slice (some ⟨vb, 0, none⟩) 1 vc] w fun e w' => InsPost W0 l.length (insL l i x) e w' := by
  have hcl : cap = l.length := by have := hk.le; omega
  subst hcl
  have hgw : g < w.heap.size := hk.lt.h
  have hvw : vb < w.heap.size := block_lt_of_cell (hvb 0 _ rfl)
  obtain ⟨i0, hi0, hz0, hs0, hb0⟩ := info_parts infoKey
  have hsz : (Try.prog.info? 34).map (·.size) = some 2 := by rw [hi0]; simp [hs0]
  have hold : (Builtin.firstCells i0.size i (.slice (some ⟨g, 0, none⟩) i l.length)).run Try.prog w.drew = .ok ((l.take i).flatMap kC).toArray w.drew := by
    rw [hs0]
    exact run_firstCells_some w.drew 2 i ⟨g, 0, none⟩ i l.length _ (by rw [flat_len (f := kC) (sz := 2) (fun _ => rfl), List.length_take, Nat.min_eq_left (by omega)]) (fun j v hj => by
      rw [show (⟨g, 0, none⟩ : Addr).add j = ⟨g, 0 + j, none⟩ from Go.WideShapes.add_plain .., Nat.zero_add]
      exact Wk.front (f := kC) (sz := 2) (fun _ => rfl) hk i j v hj)
  have hkk : (l.length : Int) + 1 - (i : Int) = ((l.length + 1 - i : Nat) : Int) := by omega
  have hik : i + (l.length + 1 - i) = l.length + 1 := by omega
  obtain ⟨z, hz1, hzc⟩ : ∃ z : Value, i0.zero = some z ∧ z.cells.size = 2 := ⟨_, hz0, rfl⟩
  obtain ⟨G, hG⟩ : ∃ G, G = grownCap w (l.length + 1) l.length 34 := ⟨_, rfl⟩
  obtain ⟨ROW, hROW⟩ : ∃ ROW : Array Value, ROW = ((l.take i).flatMap kC).toArray ++ Builtin.zeroCells z.cells (l.length + 1 - i) ++ Builtin.zeroCells z.cells (G - (l.length + 1)) := ⟨_, rfl⟩
  have hrz : ∀ ty, (Builtin.append_ #[28, 3] ty #[.slice (some ⟨g, 0, none⟩) i l.length, .int .i64 ((l.length : Int) + 1 - (i : Int))]).run Try.prog w = .ok (.slice (some ⟨w.heap.size, 0, none⟩) (l.length + 1) G) (w.drew.alloc (.cells ROW 34)) := fun ty => by
    have h := Lib.run_append_grow_zeros (P := Try.prog) w 28 3 ty 34 i0 _ .i64 .i64 Try.underlying28 Try.underlying3 hi0 hz1 (some ⟨g, 0, none⟩) i l.length ((l.take i).flatMap kC) hold (l.length + 1 - i) (by omega) (by omega) (by omega) (by omega) (by rw [hb0]; omega) (by rw [hb0, hik]; exact growslice_fits (by omega) (by omega))
    rw [hik, ← hG, ← hROW] at h
    rw [hkk]
    exact h
  have hGn : l.length + 1 ≤ G := by rw [hG]; exact grownCap_ge w _ _ _
  have hG63 : G ≤ 9223372036854775807 := by
    have := grownCap_le_maxLen w (l.length + 1) l.length 34 (by unfold maxLen; omega)
    rw [← hG] at this
    unfold maxLen at this
    omega
  have htl : ((l.take i).flatMap kC).length = i * 2 := by rw [flat_len (f := kC) (sz := 2) (fun _ => rfl), List.length_take, Nat.min_eq_left (by omega)]
  have hRl : (l.length + 1) * 2 ≤ ROW.size := by
    rw [hROW]
    simp only [Array.size_append, size_zeroCells, List.size_toArray, htl, hzc, Nat.sub_mul]
    have := Nat.mul_le_mul_right 2 (show i ≤ l.length + 1 by omega)
    omega
  have hRf : ∀ t v, ((l.take i).flatMap kC)[t]? = some v → ROW[t]? = some v := fun t v ht => by
    have hlt := (List.getElem?_eq_some_iff.1 ht).1
    rw [hROW, Array.append_assoc, Array.getElem?_append_left (by simpa using hlt)]
    simpa using ht
  obtain ⟨W1, hW1⟩ : ∃ W1, W1 = w.drew.alloc (.cells ROW 34) := ⟨_, rfl⟩
  rw [← hW1] at hrz
  have hr0 : W1.rowIs w.heap.size 34 ROW.size (fun t => (ROW[t]?).getD undef) := by
    rw [hW1]; exact World.rowIs_alloc w.drew ROW 34 _ (fun t ht => by simp [ht])
  have hOb : ∀ b j v, b < w.heap.size → w.cell? ⟨b, j, none⟩ = some v → W1.cell? ⟨b, j, none⟩ = some v := fun b j v hb h => by rw [hW1, World.cell?_alloc_past (w := w.drew) _ b j hb]; exact h
  have hmi : (i + 1) * 2 = i * 2 + 2 := Nat.succ_mul ..
  have hle := Nat.mul_le_mul_right 2 (show i + 1 ≤ l.length + 1 by omega)
  have hle2 : (l.length + 1) * 2 = l.length * 2 + 2 := Nat.succ_mul ..
  have hdl : ((l.drop i).flatMap kC).length = (l.length - i) * 2 := by rw [flat_len (f := kC) (sz := 2) (fun _ => rfl), List.length_drop]
  have hmm : (l.length - i) * 2 + i * 2 = l.length * 2 := by rw [← Nat.add_mul, Nat.sub_add_cancel (by omega)]
  have hxl : (kC x).length = 2 := rfl
  have hcp1 : ∀ ty dc, (Builtin.copy_ #[28, 28] ty #[.slice (some ⟨w.heap.size, i * 2, none⟩) (l.length + 1 - i) dc, .slice (some ⟨vb, 0, none⟩) 1 vc]).run Try.prog W1 = .ok (goInt (Nat.min 1 (l.length + 1 - i))) (W1.setCells w.heap.size (i * 2) (kC x)) := fun ty dc =>
    run_copyN 2 W1 _ _ ty 34 w.heap.size (i * 2) _ dc ⟨vb, 0, none⟩ 1 vc _ Try.underlying28 hsz (by show _ = min 1 (l.length + 1 - i) * 2; rw [Nat.min_eq_left (by omega)]; rfl)
      (fun t v ht => by rw [show (⟨vb, 0, none⟩ : Addr).add t = ⟨vb, 0 + t, none⟩ from Go.WideShapes.add_plain .., Nat.zero_add]; exact hOb vb t v hvw (hvb t v ht))
      (fun t ht => by rw [hr0.cell (by omega)]; rfl) (fun t _ => hr0.frozen _) (oneKy x)
  obtain ⟨W2, hW2⟩ : ∃ W2, W2 = W1.setCells w.heap.size (i * 2) (kC x) := ⟨_, rfl⟩
  rw [← hW2] at hcp1
  have hW2' : W2 = setCells W1 w.heap.size (i * 2) (kC x) := by rw [hW2, wsetCells]
  obtain ⟨F2, hr2, -, -⟩ := rowIs_setCells (kC x) W1 (i * 2) _ hr0
  rw [← hW2'] at hr2
  have hcp2 : ∀ ty dc sc, (Builtin.copy_ #[28, 28] ty #[.slice (some ⟨w.heap.size, (i + 1) * 2, none⟩) (l.length - i) dc, .slice (some ⟨g, i * 2, none⟩) (l.length - i) sc]).run Try.prog W2.drew = .ok (goInt (Nat.min (l.length - i) (l.length - i))) (W2.drew.setCells w.heap.size ((i + 1) * 2) ((l.drop i).flatMap kC)) := fun ty dc sc =>
    run_copyN 2 W2.drew _ _ ty 34 w.heap.size ((i + 1) * 2) _ dc ⟨g, i * 2, none⟩ _ sc _ Try.underlying28 hsz (by rw [hdl]; congr 1; exact (Nat.min_self _).symm)
      (fun t v ht => by
        rw [show (⟨g, i * 2, none⟩ : Addr).add t = ⟨g, i * 2 + t, none⟩ from Go.WideShapes.add_plain ..]
        show W2.cell? _ = _
        rw [hW2, World.cell?_setCells_out w.heap.size _ _ _ _ (fun h _ => absurd h (by show g ≠ _; omega))]
        exact hOb g _ v hgw (Wk.cells (f := kC) (sz := 2) (fun _ => rfl) hk i t v ht))
      (fun t ht => by rw [hdl] at ht; show (W2.cell? _).isSome = true; rw [hr2.cell (by omega)]; rfl) (fun t _ => hr2.frozen _) (onesKy _)
  have hL : LeB W0.heap.size w.heap.size := ⟨hu.h.size⟩
  have hres : Wr 2 kC (W2.drew.setCells w.heap.size ((i + 1) * 2) ((l.drop i).flatMap kC)) w.heap.size (insL l i x) ∧ Up W0 (W2.drew.setCells w.heap.size ((i + 1) * 2) ((l.drop i).flatMap kC)) := by
    rw [wsetCells, hW2', hmi]
    refine ⟨?_, up_setCells _ _ _ ?_⟩
    · have h := Wr.insNew (f := kC) (sz := 2) (fun _ => rfl) x i (by omega) (by omega) hr0 hRl (fun t v ht => by rw [hRf t v ht]; rfl)
      refine (setCells_drewW h)
    · have h1 : Up W0 W1 := by rw [hW1]; exact ⟨(hu.h.drew).alloc hu.h.size _⟩
      exact ⟨(up_setCells (kC x) _ _ h1).h.drew⟩
  have HZ := hid hrz
  have H1 := hid hcp1
  have H2 := hid hcp2
  have HR := hid hres
  have HG := hid hL
  have h1 : IntKind.i64.wrap ((i : Int) + 1) = (i : Int) + 1 := IntWalk.i64_in _ (by omega)
  have h2 : ((i : Int) + 1).toNat = i + 1 := by omega
  have h3 : (0 : Int) ≤ (i : Int) + 1 := by omega
  have h4 : IntKind.i64.wrap ((l.length : Int) + 1) = (l.length : Int) + 1 := IntWalk.i64_in _ (by omega)
  have h8 : ¬ ((i : Int) = (l.length : Int)) := by omega
  have h9 : ¬ (G = i + 1) := by omega
  have h10 : ¬ (G = i) := by omega
  have h16 : ¬ (l.length = i) := by omega
  have h11 : (i : Int) + 1 ≤ (l.length : Int) + 1 := by omega
  have h12 : (i : Int) ≤ (l.length : Int) + 1 := by omega
  have h13 : (i : Int) ≤ (l.length : Int) := by omega
  have h14 : i + 1 ≤ l.length + 1 := by omega
  have h17 : (l.length : Int) < (l.length : Int) + 1 := by omega
  have h18 : i ≤ l.length := by omega
  clear hrz hz1 hzc hcp1 hcp2 hres hL hW2' hW2 hr2 hxl hmm hdl hle2 hle hmi hOb hr0 hW1 hRf hRl htl hROW hik hkk hold hsz hb0 hs0 hz0 hi0 hvw hgw hu hk hvb hG
  go_enter Try.func30, Try.ntmps30
  go_wp2_with (first | (at_builtin; go_loud (refine Lib.wpList_append_run _ rfl _ _ _ _ rfl _ _ rfl rfl _ _ (HZ.out _) ?_)) | (with_reducible refine wpList_copyI (o := ⟨some 45, _, _, _, _, _⟩) _ rfl (.tmp 43) (.tmp 44) 28 28 rfl _ _ rfl rfl (H1.out _ _) ?_))
  go_region_law (go_loud (refine step_copyI rfl (.tmp 50) (.tmp 53) 28 28 rfl (.slice (some ⟨w.heap.size, (i + 1) * 2, none⟩) (l.length - i) (G - (i + 1))) (.slice (some ⟨g, i * 2, none⟩) (l.length - i) (l.length - i)) (by simp [Act.eval, Act.put]) (by simp [Act.eval, Act.put]) (H2.out _ _ _) ?_))
  go_wp2
  go_ret
  exact ⟨w.heap.size, G, by simp, ⟨_, HR.out.2.h⟩, rfl, HR.out.1, HG.out⟩
/-- at whatever place -/
theorem insAt {W0 : World} (A : Option Addr) (cap n i : Nat) (l : List Ky) (x : Ky) (vb vc : Nat) (w : World) [hu : Up W0 w] (hrow : w.ownsRow W0.heap.size 34 2 (.slice A l.length cap) l.length (l.flatMap kC)) (hn' : l.length = n) (hi : i ≤ l.length)
    (hn : l.length ≤ 1048576) (hvb : w.heap[vb]? = some (.cells (kC x).toArray 34 (0, 0))) (hne : ∀ g, A = some ⟨g, 0, none⟩ → vb ≠ g) :
    Calls Try.prog 30 #[.slice A n cap, .int .i64 i, .slice (some ⟨vb, 0, none⟩) 1 vc] w fun e w' => InsPost W0 n (insL l i x) e w' := by
  subst hn'
  have hcell : ∀ j u, (kC x)[j]? = some u → w.cell? ⟨vb, j, none⟩ = some u := fun j u hj => by
    simp only [World.cell?, hvb]
    simpa using hj
  by_cases h : i = l.length
  · subst h
    refine insEnd A cap l x vb vc w hrow ?_ hn hcell
    rcases hrow.2 with ⟨h1, h2⟩ | ⟨g, cap', cur, h1, -, -, h2, -⟩
    · omega
    · injection h1 with e1 e2 e3; omega
  · rcases hrow.2 with ⟨h1, h2⟩ | ⟨g, cap', cur, h1, -⟩
    · omega
    · injection h1 with e1 e2 e3
      subst e1
      obtain ⟨hk, hB⟩ := Wk.of_own (f := kC) (sz := 2) (fun _ => rfl) hrow
      by_cases hr : l.length + 1 ≤ cap
      · exact insRoom g cap i l x vb vc w ⟨hB⟩ hk hr (by omega) hn hvb (hne g rfl)
      · exact insGrow g cap i l x vb vc w hk (by omega) (by omega) hn hcell
end
end Go.Proofs.Ytebapdgajjimpaa
