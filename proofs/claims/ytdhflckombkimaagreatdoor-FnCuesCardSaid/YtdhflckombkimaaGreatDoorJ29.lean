/-
  slices.Insert of one element into a row of the call's own. Conditions: those typed at each theorem.
  A cue put to its place by slices.Insert: placeCue. Conditions: those typed at each theorem.
  The two searches of a cue's place agree. Conditions: those typed at each theorem.
  What AddCue hands back is valid. Conditions: those typed at each theorem.
-/
import Derived.Test.YtdhflckombkimaaGreatDoorJ16
import Derived.Test.YtdhflckombkimaaGreatDoorJ14
import Derived.Test.YtdhflckombkimaaGreatDoorJ11
import Derived.Test.YtdhflckombkimaaGreatDoorJ23
import Derived.Deep.RegionLaw
import Derived.Lib.SliceRun
import Derived.Lib.Overlaps
import Derived.Lib.AppendZerosOnto
import Derived.Laws.Externs
import Derived.Laws.NewBlocks
import Derived.Test.YtdhflckombkimaaGreatDoorJ18
import Derived.Test.YtdhflckombkimaaGreatDoorJ1
namespace Go.Proofs.YtdhflckombkimaaGreatDoor
open Go.RowKit
section
set_option maxHeartbeats 3200000
set_option maxRecDepth 20000
/-- what Insert leaves -/
def InsPost (W0 : World) (n : Nat) (L : List Cu) (e : Ending) (w' : World) : Prop := ∃ g c', e = .returned (.slice (some ⟨g, 0, none⟩) (n + 1) c') ∧ ∃ j : Ex W0, w' = j.v ∧ Wr 6 cC j.v g L ∧ LeB W0.heap.size g ∧ Hid (n + 1 ≤ c')
theorem oneCu (x : Cu) : ∀ v ∈ cC x, v.oneCell' = true := by
  intro v hv
  simp [cC] at hv
  repeat (first | (subst hv; rfl) | (rcases hv with hv | hv))
theorem onesCu (l : List Cu) : ∀ v ∈ l.flatMap cC, v.oneCell' = true := by
  intro v hv
  obtain ⟨x, _, hx⟩ := List.mem_flatMap.1 hv
  exact oneCu x v hx
theorem drew_setCellsH (b : Nat) : ∀ (vs : List Value) (o : Nat) (w : World) (g : Nat), (w.drew.setCells b o vs).heap[g]? = (w.setCells b o vs).heap[g]?
  | [], _, _, _ => rfl
  | v :: r, o, w, g => drew_setCellsH b r (o + 1) (w.setCell ⟨b, o, none⟩ v) g
theorem setCells_drewW {α : Type} {sz : Nat} {f : α → List Value} {b p q g : Nat} {vs us : List Value} {w : World} {l : List α} (h : Wr sz f (setCells (setCells w b p vs) b q us) g l) : Wr sz f (setCells (setCells w b p vs).drew b q us) g l := by
  refine h.congr ?_
  rw [← wsetCells, ← wsetCells, ← wsetCells]
  have := drew_setCellsH b us q (w.setCells b p vs) g
  exact this
/-- at the end -/
theorem insEnd {W0 : World} (A : Option Addr) (cap : Nat) (l : List Cu) (x : Cu) (vb vc : Nat) (w : World) [hu : Up W0 w] (hrow : w.ownsRow W0.heap.size 28 6 (.slice A l.length cap) l.length (l.flatMap cC)) (hc : l.length ≤ cap)
    (hn : l.length ≤ 1048576) (hvb : ∀ j u, (cC x)[j]? = some u → w.cell? ⟨vb, j, none⟩ = some u) :
    Calls Tryz.prog 41 #[.slice A l.length cap, .int .i64 l.length, .slice (some ⟨vb, 0, none⟩) 1 vc] w fun e w' => InsPost W0 l.length (insL l l.length x) e w' := by
  have hown := hid hrow
  have hcell := hid hvb
  have hins := hid (show insL l l.length x = l ++ [x] by simp [insL])
  clear hvb
  have hA : (A = none ∧ cap = 0 ∧ l.length = 0) ∨ ∃ g, A = some ⟨g, 0, none⟩ := by
    rcases hrow.2 with ⟨h1, h2⟩ | ⟨g, cap', cur, h1, -⟩
    · injection h1 with e1 e2 e3; exact .inl ⟨e1, e3, h2⟩
    · injection h1 with e1 e2 e3; exact .inr ⟨g, e1⟩
  clear hrow
  rcases hA with ⟨rfl, rfl, h0⟩ | ⟨g, rfl⟩
  · obtain rfl : l = [] := List.eq_nil_of_length_eq_zero h0
    clear h0
    go_enter Tryz.func41, Tryz.ntmps41
    go_wp2_with (at_builtin; go_loud (refine wpList_appZ cC _ rfl _ _ _ rfl W0.heap.size ?_ _ _ _ _ Tryz.underlying24 infoCue rfl (by omega) (fun _ => ⟨rfl, oneCu _⟩) (.slice none 0 0) [] rfl hown.out x vb vc rfl hcell.out ?_ ?_ ?_; (· exact hu.h.size); (· simp); (· simp); intro v' k hA))
    go_ret
    rw [show insL ([] : List Cu) 0 x = [x] from rfl]
    obtain ⟨A2, c2, hv, hO2, hF2⟩ := Ow.of_row (f := cC) (fun _ => rfl) hA.own
    subst hv
    obtain ⟨g, rfl, hg⟩ := hO2.own (by simp)
    exact ⟨g, c2, rfl, ⟨_, hu.h.trans (k.h.mono (Nat.le_refl _))⟩, rfl, hg, ⟨hF2 g 0 none rfl⟩, hid (by have := (own_cap hA.own).1; simpa using this)⟩
  · by_cases hcc : cap = l.length
    · subst hcc
      go_enter Tryz.func41, Tryz.ntmps41
      go_wp2_with (at_builtin; go_loud (refine wpList_appZ cC _ rfl _ _ _ rfl W0.heap.size ?_ _ _ _ _ Tryz.underlying24 infoCue rfl (by omega) (fun _ => ⟨rfl, oneCu _⟩) (.slice (some ⟨g, 0, none⟩) l.length l.length) l rfl hown.out x vb vc rfl hcell.out ?_ ?_ ?_; (· exact hu.h.size); (· omega); (· omega); intro v' k hA))
      go_ret
      rw [hins.out]
      obtain ⟨A2, c2, hv, hO2, hF2⟩ := Ow.of_row (f := cC) (fun _ => rfl) hA.own
      subst hv
      obtain ⟨g, rfl, hg⟩ := hO2.own (by simp)
      exact ⟨g, c2, by simp, ⟨_, hu.h.trans (k.h.mono (Nat.le_refl _))⟩, rfl, hg, ⟨hF2 g 0 none rfl⟩, hid (by have := (own_cap hA.own).1; simpa using this)⟩
    · go_enter Tryz.func41, Tryz.ntmps41
      go_wp2_with (at_builtin; go_loud (refine wpList_appZ cC _ rfl _ _ _ rfl W0.heap.size ?_ _ _ _ _ Tryz.underlying24 infoCue rfl (by omega) (fun _ => ⟨rfl, oneCu _⟩) (.slice (some ⟨g, 0, none⟩) l.length cap) l rfl hown.out x vb vc rfl hcell.out ?_ ?_ ?_; (· exact hu.h.size); (· omega); (· omega); intro v' k hA))
      go_ret
      rw [hins.out]
      obtain ⟨A2, c2, hv, hO2, hF2⟩ := Ow.of_row (f := cC) (fun _ => rfl) hA.own
      subst hv
      obtain ⟨g, rfl, hg⟩ := hO2.own (by simp)
      exact ⟨g, c2, by simp, ⟨_, hu.h.trans (k.h.mono (Nat.le_refl _))⟩, rfl, hg, ⟨hF2 g 0 none rfl⟩, hid (by have := (own_cap hA.own).1; simpa using this)⟩
/-- in place -/
theorem insRoom {W0 : World} (g cap i : Nat) (l : List Cu) (x : Cu) (vb vc : Nat) (w : World) [hu : Up W0 w] (hg : LeB W0.heap.size g) (hk : Wk 28 6 cC w g l cap) (hroom : l.length + 1 ≤ cap) (hi : i < l.length)
    (hn : l.length ≤ 1048576) (hvb : w.heap[vb]? = some (.cells (cC x).toArray 28 (0, 0))) (hne : vb ≠ g) :
    Calls Tryz.prog 41 #[.slice (some ⟨g, 0, none⟩) l.length cap, .int .i64 i, .slice (some ⟨vb, 0, none⟩) 1 vc] w fun e w' => InsPost W0 l.length (insL l i x) e w' := by
  obtain ⟨F, hr, hF⟩ := hk.row
  obtain ⟨i0, hi0, hz0, hs0, hb0⟩ := info_parts infoCue
  have hsz : (Tryz.prog.info? 28).map (·.size) = some 6 := by rw [hi0]; simp [hs0]
  have hzz : ∀ w, (Go.sizeOf 28).run Tryz.prog w = .ok 6 w := fun w => by simp [sizeOf, typeInfo, hi0, hs0]
  have hsa : w.shape? vb = some (28, 6) := by simp [World.shape?, hvb]; rfl
  have hsb : w.shape? g = some (28, cap * 6) := by obtain ⟨c, hb, hs, -⟩ := hr; simp [World.shape?, hb, hs]
  have hkB : cap * 6 ≠ 0 := by omega
  have hfa : ∀ o, w.frozen? ⟨vb, o, none⟩ = false := fun o => by simp [World.frozen?, hvb]
  have hov : ∀ lb cb, (callFunc 56 #[.slice (some ⟨vb, 0, none⟩) 1 vc, .slice (some ⟨g, (i + 1) * 6, none⟩) lb cb]).run Tryz.prog w = .ok (.value (.bool false)) w := fun lb cb => by
    rw [run_callFunc_extern (fn := Tryz.f56) (by kernel_rfl) (by kernel_rfl) (by kernel_rfl) (by kernel_rfl) (e := Extern.SlicesOverlaps.overlaps #[24, 24] #[4]) (by kernel_rfl),
      Lib.run_overlaps_apart w 24 4 28 Tryz.underlying24 6 hzz ⟨vb, 0, none⟩ ⟨g, (i + 1) * 6, none⟩ 1 vc lb cb hne 28 28 6 (cap * 6) hsa hsb hkB (hfa _) (hfa _)]
    rfl
  have hle := Nat.mul_le_mul_right 6 hroom
  rw [Nat.succ_mul] at hle
  have hmi : (i + 1) * 6 = i * 6 + 6 := Nat.succ_mul ..
  have hdl : ((l.drop i).flatMap cC).length = (l.length - i) * 6 := by rw [flat_len (f := cC) (sz := 6) (fun _ => rfl), List.length_drop]
  have hmm : (l.length - i) * 6 + i * 6 = l.length * 6 := by rw [← Nat.add_mul, Nat.sub_add_cancel (by omega)]
  have hcp1 : ∀ ty dc sc, (Builtin.copy_ #[24, 24] ty #[.slice (some ⟨g, (i + 1) * 6, none⟩) (l.length - i) dc, .slice (some ⟨g, i * 6, none⟩) (l.length + 1 - i) sc]).run Tryz.prog w.drew = .ok (goInt (Nat.min (l.length + 1 - i) (l.length - i))) (w.drew.setCells g ((i + 1) * 6) ((l.drop i).flatMap cC)) := fun ty dc sc =>
    run_copyN 6 w.drew _ _ ty 28 g ((i + 1) * 6) _ dc ⟨g, i * 6, none⟩ _ sc _ Tryz.underlying24 hsz (by rw [hdl]; congr 1; exact (Nat.min_eq_right (by omega)).symm)
      (fun t v ht => by rw [show (⟨g, i * 6, none⟩ : Addr).add t = ⟨g, i * 6 + t, none⟩ from Go.WideShapes.add_plain ..]; exact Wk.cells (f := cC) (sz := 6) (fun _ => rfl) hk i t v ht)
      (fun t ht => by rw [hdl] at ht; show (w.cell? _).isSome = true; rw [hr.cell (by omega)]; rfl) (fun t _ => hr.frozen _) (onesCu _)
  obtain ⟨W1, hW1⟩ : ∃ W1, W1 = w.drew.setCells g ((i + 1) * 6) ((l.drop i).flatMap cC) := ⟨_, rfl⟩
  have hW1' : W1 = setCells w.drew g (i * 6 + 6) ((l.drop i).flatMap cC) := by rw [hW1, wsetCells, hmi]
  obtain ⟨F1, hr1, -, -⟩ := rowIs_setCells ((l.drop i).flatMap cC) w.drew (i * 6 + 6) F hr
  rw [← hW1'] at hr1
  have hcv : ∀ j u, (cC x)[j]? = some u → W1.cell? ⟨vb, j, none⟩ = some u := fun j u hj => by
    rw [hW1, World.cell?_setCells_out g _ _ _ _ (fun h _ => absurd h hne)]
    show w.cell? _ = _
    simp only [World.cell?, hvb]
    simpa using hj
  have hcp2 : ∀ ty dc, (Builtin.copy_ #[24, 24] ty #[.slice (some ⟨g, i * 6, none⟩) (l.length + 1 - i) dc, .slice (some ⟨vb, 0, none⟩) 1 vc]).run Tryz.prog W1 = .ok (goInt (Nat.min 1 (l.length + 1 - i))) (W1.setCells g (i * 6) (cC x)) := fun ty dc =>
    run_copyN 6 W1 _ _ ty 28 g (i * 6) _ dc ⟨vb, 0, none⟩ 1 vc _ Tryz.underlying24 hsz (by show _ = min 1 (l.length + 1 - i) * 6; rw [Nat.min_eq_left (by omega)]; rfl)
      (fun t v ht => by rw [show (⟨vb, 0, none⟩ : Addr).add t = ⟨vb, 0 + t, none⟩ from Go.WideShapes.add_plain .., Nat.zero_add]; exact hcv t v ht)
      (fun t ht => by have : (cC x).length = 6 := rfl
                      rw [hr1.cell (by omega)]; rfl) (fun t _ => hr1.frozen _) (oneCu x)
  have hres : Wr 6 cC (W1.setCells g (i * 6) (cC x)) g (insL l i x) ∧ Up W0 (W1.setCells g (i * 6) (cC x)) := by
    rw [wsetCells, hW1']
    exact ⟨Wr.insRoom (f := cC) (sz := 6) (fun _ => rfl) x i (by omega) (by omega) (show Wk 28 6 cC w.drew g l cap from hk.congr rfl) hroom, up_setCells _ _ _ (up_setCells _ _ _ ⟨hu.h.drew⟩)⟩
  have H1 := hid hcp1
  have H2 := hid hcp2
  have HR := hid hres
  have HG := hid hg
  have X := hid hW1
  have h1 : IntKind.i64.wrap ((i : Int) + 1) = (i : Int) + 1 := IntWalk.i64_in _ (by omega)
  have h2 : ((i : Int) + 1).toNat = i + 1 := by omega
  have h3 : (0 : Int) ≤ (i : Int) + 1 := by omega
  have h4 : IntKind.i64.wrap ((l.length : Int) + 1) = (l.length : Int) + 1 := IntWalk.i64_in _ (by omega)
  have h5 : ((l.length : Int) + 1).toNat = l.length + 1 := by omega
  have h6 : (0 : Int) ≤ (l.length : Int) + 1 := by omega
  have h7 : (l.length : Int) + 1 ≤ (cap : Int) := by omega
  have h8 : ¬ ((i : Int) = (l.length : Int)) := by omega
  have h9 : ¬ (cap = i + 1) := by omega
  have h10 : ¬ (cap = i) := by omega
  have h11 : (i : Int) + 1 ≤ (l.length : Int) + 1 := by omega
  have h12 : (i : Int) ≤ (l.length : Int) + 1 := by omega
  have h13 : (i : Int) ≤ (l.length : Int) := by omega
  have h14 : i + 1 ≤ l.length + 1 := by omega
  have h15 : l.length + 1 ≤ cap := hroom
  clear hcp1 hcp2 hres hW1 hW1' hcv hr1 hdl hmm hmi hle hr hF hk hsz hzz hsa hsb hkB hfa hvb hs0 hb0 hz0 hi0 hu hg
  go_enter Tryz.func41, Tryz.ntmps41
  go_wp2_with (simp only [hov])
  go_region_law (go_loud (refine step_copyI rfl (.tmp 73) (.tmp 76) 24 24 rfl (.slice (some ⟨g, (i + 1) * 6, none⟩) (l.length - i) (cap - (i + 1))) (.slice (some ⟨g, i * 6, none⟩) (l.length + 1 - i) (cap - i)) (by simp [Act.eval, Act.put]) (by simp [Act.eval, Act.put]) (H1.out _ _ _) ?_; rw [← X.out]))
  go_wp2_with (with_reducible refine wpList_copyI (o := ⟨some 82, _, _, _, _, _⟩) _ rfl (.tmp 80) (.tmp 81) 24 24 rfl _ _ rfl rfl (H2.out _ _) ?_)
  go_ret
  exact ⟨g, cap, by simp, ⟨_, HR.out.2.h⟩, rfl, HR.out.1, HG.out, hid h15⟩
/-- into a new row -/
theorem insGrow {W0 : World} (g cap i : Nat) (l : List Cu) (x : Cu) (vb vc : Nat) (w : World) [hu : Up W0 w] (hk : Wk 28 6 cC w g l cap) (hroom : cap < l.length + 1) (hi : i < l.length)
    (hn : l.length ≤ 1048576) (hvb : ∀ j u, (cC x)[j]? = some u → w.cell? ⟨vb, j, none⟩ = some u) :
    Calls Tryz.prog 41 #[.slice (some ⟨g, 0, none⟩) l.length cap, .int .i64 i, .slice (some ⟨vb, 0, none⟩) 1 vc] w fun e w' => InsPost W0 l.length (insL l i x) e w' := by
  have hcl : cap = l.length := by have := hk.le; omega
  subst hcl
  have hgw : g < w.heap.size := hk.lt.h
  have hvw : vb < w.heap.size := block_lt_of_cell (hvb 0 _ rfl)
  obtain ⟨i0, hi0, hz0, hs0, hb0⟩ := info_parts infoCue
  have hsz : (Tryz.prog.info? 28).map (·.size) = some 6 := by rw [hi0]; simp [hs0]
  have hold : (Builtin.firstCells i0.size i (.slice (some ⟨g, 0, none⟩) i l.length)).run Tryz.prog w.drew = .ok ((l.take i).flatMap cC).toArray w.drew := by
    rw [hs0]
    exact run_firstCells_some w.drew 6 i ⟨g, 0, none⟩ i l.length _ (by rw [flat_len (f := cC) (sz := 6) (fun _ => rfl), List.length_take, Nat.min_eq_left (by omega)]) (fun j v hj => by
      rw [show (⟨g, 0, none⟩ : Addr).add j = ⟨g, 0 + j, none⟩ from Go.WideShapes.add_plain .., Nat.zero_add]
      exact Wk.front (f := cC) (sz := 6) (fun _ => rfl) hk i j v hj)
  have hkk : (l.length : Int) + 1 - (i : Int) = ((l.length + 1 - i : Nat) : Int) := by omega
  have hik : i + (l.length + 1 - i) = l.length + 1 := by omega
  obtain ⟨z, hz1, hzc⟩ : ∃ z : Value, i0.zero = some z ∧ z.cells.size = 6 := ⟨_, hz0, rfl⟩
  obtain ⟨G, hG⟩ : ∃ G, G = grownCap w (l.length + 1) l.length 28 := ⟨_, rfl⟩
  obtain ⟨ROW, hROW⟩ : ∃ ROW : Array Value, ROW = ((l.take i).flatMap cC).toArray ++ Builtin.zeroCells z.cells (l.length + 1 - i) ++ Builtin.zeroCells z.cells (G - (l.length + 1)) := ⟨_, rfl⟩
  have hrz : ∀ ty, (Builtin.append_ #[24, 3] ty #[.slice (some ⟨g, 0, none⟩) i l.length, .int .i64 ((l.length : Int) + 1 - (i : Int))]).run Tryz.prog w = .ok (.slice (some ⟨w.heap.size, 0, none⟩) (l.length + 1) G) (w.drew.alloc (.cells ROW 28)) := fun ty => by
    have h := Lib.run_append_grow_zeros (P := Tryz.prog) w 24 3 ty 28 i0 _ .i64 .i64 Tryz.underlying24 Tryz.underlying3 hi0 hz1 (some ⟨g, 0, none⟩) i l.length ((l.take i).flatMap cC) hold (l.length + 1 - i) (by omega) (by omega) (by omega) (by omega) (by rw [hb0]; omega) (by rw [hb0, hik]; exact growslice_fits (by omega) (by omega))
    rw [hik, ← hG, ← hROW] at h
    rw [hkk]
    exact h
  have hGn : l.length + 1 ≤ G := by rw [hG]; exact grownCap_ge w _ _ _
  have hG63 : G ≤ 9223372036854775807 := by
    have := grownCap_le_maxLen w (l.length + 1) l.length 28 (by unfold maxLen; omega)
    rw [← hG] at this
    unfold maxLen at this
    omega
  have htl : ((l.take i).flatMap cC).length = i * 6 := by rw [flat_len (f := cC) (sz := 6) (fun _ => rfl), List.length_take, Nat.min_eq_left (by omega)]
  have hRl : (l.length + 1) * 6 ≤ ROW.size := by
    rw [hROW]
    simp only [Array.size_append, size_zeroCells, List.size_toArray, htl, hzc, Nat.sub_mul]
    have := Nat.mul_le_mul_right 6 (show i ≤ l.length + 1 by omega)
    omega
  have hRf : ∀ t v, ((l.take i).flatMap cC)[t]? = some v → ROW[t]? = some v := fun t v ht => by
    have hlt := (List.getElem?_eq_some_iff.1 ht).1
    rw [hROW, Array.append_assoc, Array.getElem?_append_left (by simpa using hlt)]
    simpa using ht
  obtain ⟨W1, hW1⟩ : ∃ W1, W1 = w.drew.alloc (.cells ROW 28) := ⟨_, rfl⟩
  rw [← hW1] at hrz
  have hr0 : W1.rowIs w.heap.size 28 ROW.size (fun t => (ROW[t]?).getD undef) := by
    rw [hW1]; exact World.rowIs_alloc w.drew ROW 28 _ (fun t ht => by simp [ht])
  have hOb : ∀ b j v, b < w.heap.size → w.cell? ⟨b, j, none⟩ = some v → W1.cell? ⟨b, j, none⟩ = some v := fun b j v hb h => by rw [hW1, World.cell?_alloc_past (w := w.drew) _ b j hb]; exact h
  have hmi : (i + 1) * 6 = i * 6 + 6 := Nat.succ_mul ..
  have hle := Nat.mul_le_mul_right 6 (show i + 1 ≤ l.length + 1 by omega)
  have hle2 : (l.length + 1) * 6 = l.length * 6 + 6 := Nat.succ_mul ..
  have hdl : ((l.drop i).flatMap cC).length = (l.length - i) * 6 := by rw [flat_len (f := cC) (sz := 6) (fun _ => rfl), List.length_drop]
  have hmm : (l.length - i) * 6 + i * 6 = l.length * 6 := by rw [← Nat.add_mul, Nat.sub_add_cancel (by omega)]
  have hxl : (cC x).length = 6 := rfl
  have hcp1 : ∀ ty dc, (Builtin.copy_ #[24, 24] ty #[.slice (some ⟨w.heap.size, i * 6, none⟩) (l.length + 1 - i) dc, .slice (some ⟨vb, 0, none⟩) 1 vc]).run Tryz.prog W1 = .ok (goInt (Nat.min 1 (l.length + 1 - i))) (W1.setCells w.heap.size (i * 6) (cC x)) := fun ty dc =>
    run_copyN 6 W1 _ _ ty 28 w.heap.size (i * 6) _ dc ⟨vb, 0, none⟩ 1 vc _ Tryz.underlying24 hsz (by show _ = min 1 (l.length + 1 - i) * 6; rw [Nat.min_eq_left (by omega)]; rfl)
      (fun t v ht => by rw [show (⟨vb, 0, none⟩ : Addr).add t = ⟨vb, 0 + t, none⟩ from Go.WideShapes.add_plain .., Nat.zero_add]; exact hOb vb t v hvw (hvb t v ht))
      (fun t ht => by rw [hr0.cell (by omega)]; rfl) (fun t _ => hr0.frozen _) (oneCu x)
  obtain ⟨W2, hW2⟩ : ∃ W2, W2 = W1.setCells w.heap.size (i * 6) (cC x) := ⟨_, rfl⟩
  rw [← hW2] at hcp1
  have hW2' : W2 = setCells W1 w.heap.size (i * 6) (cC x) := by rw [hW2, wsetCells]
  obtain ⟨F2, hr2, -, -⟩ := rowIs_setCells (cC x) W1 (i * 6) _ hr0
  rw [← hW2'] at hr2
  have hcp2 : ∀ ty dc sc, (Builtin.copy_ #[24, 24] ty #[.slice (some ⟨w.heap.size, (i + 1) * 6, none⟩) (l.length - i) dc, .slice (some ⟨g, i * 6, none⟩) (l.length - i) sc]).run Tryz.prog W2.drew = .ok (goInt (Nat.min (l.length - i) (l.length - i))) (W2.drew.setCells w.heap.size ((i + 1) * 6) ((l.drop i).flatMap cC)) := fun ty dc sc =>
    run_copyN 6 W2.drew _ _ ty 28 w.heap.size ((i + 1) * 6) _ dc ⟨g, i * 6, none⟩ _ sc _ Tryz.underlying24 hsz (by rw [hdl]; congr 1; exact (Nat.min_self _).symm)
      (fun t v ht => by
        rw [show (⟨g, i * 6, none⟩ : Addr).add t = ⟨g, i * 6 + t, none⟩ from Go.WideShapes.add_plain ..]
        show W2.cell? _ = _
        rw [hW2, World.cell?_setCells_out w.heap.size _ _ _ _ (fun h _ => absurd h (by show g ≠ _; omega))]
        exact hOb g _ v hgw (Wk.cells (f := cC) (sz := 6) (fun _ => rfl) hk i t v ht))
      (fun t ht => by rw [hdl] at ht; show (W2.cell? _).isSome = true; rw [hr2.cell (by omega)]; rfl) (fun t _ => hr2.frozen _) (onesCu _)
  have hL : LeB W0.heap.size w.heap.size := ⟨hu.h.size⟩
  have hres : Wr 6 cC (W2.drew.setCells w.heap.size ((i + 1) * 6) ((l.drop i).flatMap cC)) w.heap.size (insL l i x) ∧ Up W0 (W2.drew.setCells w.heap.size ((i + 1) * 6) ((l.drop i).flatMap cC)) := by
    rw [wsetCells, hW2', hmi]
    refine ⟨?_, up_setCells _ _ _ ?_⟩
    · have h := Wr.insNew (f := cC) (sz := 6) (fun _ => rfl) x i (by omega) (by omega) hr0 hRl (fun t v ht => by rw [hRf t v ht]; rfl)
      refine (setCells_drewW h)
    · have h1 : Up W0 W1 := by rw [hW1]; exact ⟨(hu.h.drew).alloc hu.h.size _⟩
      exact ⟨(up_setCells (cC x) _ _ h1).h.drew⟩
  have HZ := hid hrz
  have H1 := hid hcp1
  have H2 := hid hcp2
  have HR := hid hres
  have HG := hid hL
  have h1 : IntKind.i64.wrap ((i : Int) + 1) = (i : Int) + 1 := IntWalk.i64_in _ (by omega)
  have h2 : ((i : Int) + 1).toNat = i + 1 := by omega
  have h3 : (0 : Int) ≤ (i : Int) + 1 := by omega
  have h4 : IntKind.i64.wrap ((l.length : Int) + 1) = (l.length : Int) + 1 := IntWalk.i64_in _ (by omega)
  have h8 : ¬ ((i : Int) = (l.length : Int)) := by omega
  have h9 : ¬ (G = i + 1) := by omega
  have h10 : ¬ (G = i) := by omega
  have h16 : ¬ (l.length = i) := by omega
  have h11 : (i : Int) + 1 ≤ (l.length : Int) + 1 := by omega
  have h12 : (i : Int) ≤ (l.length : Int) + 1 := by omega
  have h13 : (i : Int) ≤ (l.length : Int) := by omega
  have h14 : i + 1 ≤ l.length + 1 := by omega
  have h17 : (l.length : Int) < (l.length : Int) + 1 := by omega
  have h18 : i ≤ l.length := by omega
  clear hrz hz1 hzc hcp1 hcp2 hres hL hW2' hW2 hr2 hxl hmm hdl hle2 hle hmi hOb hr0 hW1 hRf hRl htl hROW hik hkk hold hsz hb0 hs0 hz0 hi0 hvw hgw hu hk hvb hG
  go_enter Tryz.func41, Tryz.ntmps41
  go_wp2_with (first | (at_builtin; go_loud (refine Lib.wpList_append_run _ rfl _ _ _ _ rfl _ _ rfl rfl _ _ (HZ.out _) ?_)) | (with_reducible refine wpList_copyI (o := ⟨some 45, _, _, _, _, _⟩) _ rfl (.tmp 43) (.tmp 44) 24 24 rfl _ _ rfl rfl (H1.out _ _) ?_))
  go_region_law (go_loud (refine step_copyI rfl (.tmp 50) (.tmp 53) 24 24 rfl (.slice (some ⟨w.heap.size, (i + 1) * 6, none⟩) (l.length - i) (G - (i + 1))) (.slice (some ⟨g, i * 6, none⟩) (l.length - i) (l.length - i)) (by simp [Act.eval, Act.put]) (by simp [Act.eval, Act.put]) (H2.out _ _ _) ?_))
  go_wp2
  go_ret
  exact ⟨w.heap.size, G, by simp, ⟨_, HR.out.2.h⟩, rfl, HR.out.1, HG.out, hid hGn⟩
/-- at whatever place -/
theorem insAt {W0 : World} (A : Option Addr) (cap n i : Nat) (l : List Cu) (x : Cu) (vb vc : Nat) (w : World) [hu : Up W0 w] (hrow : w.ownsRow W0.heap.size 28 6 (.slice A l.length cap) l.length (l.flatMap cC)) (hn' : l.length = n) (hi : i ≤ l.length)
    (hn : l.length ≤ 1048576) (hvb : w.heap[vb]? = some (.cells (cC x).toArray 28 (0, 0))) (hne : ∀ g, A = some ⟨g, 0, none⟩ → vb ≠ g) :
    Calls Tryz.prog 41 #[.slice A n cap, .int .i64 i, .slice (some ⟨vb, 0, none⟩) 1 vc] w fun e w' => InsPost W0 n (insL l i x) e w' := by
  subst hn'
  have hcell : ∀ j u, (cC x)[j]? = some u → w.cell? ⟨vb, j, none⟩ = some u := fun j u hj => by
    simp only [World.cell?, hvb]
    simpa using hj
  by_cases h : i = l.length
  · subst h
    refine insEnd A cap l x vb vc w hrow ?_ hn hcell
    rcases hrow.2 with ⟨h1, h2⟩ | ⟨g, cap', cur, h1, -, -, h2, -⟩
    · omega
    · injection h1 with e1 e2 e3; omega
  · rcases hrow.2 with ⟨h1, h2⟩ | ⟨g, cap', cur, h1, -⟩
    · omega
    · injection h1 with e1 e2 e3
      subst e1
      obtain ⟨hk, hB⟩ := Wk.of_own (f := cC) (sz := 6) (fun _ => rfl) hrow
      by_cases hr : l.length + 1 ≤ cap
      · exact insRoom g cap i l x vb vc w ⟨hB⟩ hk hr (by omega) hn hvb (hne g rfl)
      · exact insGrow g cap i l x vb vc w hk (by omega) (by omega) hn hcell
end
end Go.Proofs.YtdhflckombkimaaGreatDoor
namespace Go.Proofs.YtdhflckombkimaaGreatDoor
open Go.RowKit
/-- the place of c among the cues of l, sought from the front -/
def plI (l : List Cu) (c : Cu) : Nat := l.findIdx fun y => !befB y c
theorem plI_hit {l : List Cu} {c : Cu} {q : Nat} (h : q < l.length) (he : befB (cuG l q) c = false) (hb : ∀ j, j < q → befB (cuG l j) c = true) : plI l c = q := by
  unfold plI
  rw [List.findIdx_eq h]
  refine ⟨by rw [cuG_at h] at he; simp [he], fun j hj => ?_⟩
  have := hb j hj
  rw [cuG_at (by omega)] at this
  simp [this]
theorem plI_end {l : List Cu} {c : Cu} (hb : ∀ j, j < l.length → befB (cuG l j) c = true) : plI l c = l.length := by
  unfold plI
  rw [List.findIdx_eq_length]
  intro x hx
  obtain ⟨j, hj, rfl⟩ := List.getElem_of_mem hx
  have := hb j hj
  rw [cuG_at hj] at this
  simp [this]
section
set_option maxHeartbeats 3200000
set_option maxRecDepth 20000
theorem place_any {W0 : World} (A : Option Addr) (cap n : Nat) (l : List Cu) (x : Cu) (w : World) [hu : Up W0 w] (hrow : w.ownsRow W0.heap.size 28 6 (.slice A l.length cap) l.length (l.flatMap cC)) (hn' : l.length = n) (hn : l.length ≤ 1048576) :
    Calls Tryz.prog 24 #[.slice A n cap, .agg #[.string x.id, .int .i64 x.t, .int .i64 x.ln, .string x.tg, .int .i64 x.act, .int .i64 x.v]] w fun e w' => InsPost W0 n (insL l (plI l x) x) e w' := by
  subst hn'
  haveI hO : OwR W0.heap.size 28 6 (.slice A l.length cap) l.length (l.flatMap cC) w := ⟨hrow⟩
  have hrd : 0 < l.length → ∃ g, A = some ⟨g, 0, none⟩ ∧ LtW g w ∧ Wr 6 cC w g l := fun h0 => by
    rcases hrow.2 with ⟨h1, h2⟩ | ⟨g, cap', cur, h1, -⟩
    · omega
    · injection h1 with e1 e2 e3
      subst e1
      obtain ⟨hk, -⟩ := Wk.of_own (f := cC) (sz := 6) (fun _ => rfl) hrow
      exact ⟨g, rfl, hk.lt, hk.wr (fun _ => rfl)⟩
  have hlt : ∀ g, A = some ⟨g, 0, none⟩ → g < w.heap.size := fun g hg => by
    subst hg; exact (hrow.lt g rfl).2
  have HRD := hid hrd
  have HLT := hid hlt
  clear hrd hlt hrow
  go_enter Tryz.func24, Tryz.ntmps24
  go_wp2
  go_loopw [5] (fun t wr => ∃ q : Nat, q ≤ l.length ∧ t = .int .i64 q ∧ (∀ j, j < q → befB (cuG l j) x = true) ∧ ∃ j : Ex (w.alloc (.cells #[.string x.id, .int .i64 x.t, .int .i64 x.ln, .string x.tg, .int .i64 x.act, .int .i64 x.v] 28)), wr = j.v) (fun t _ => l.length - (intOf t).toNat)
  case atStart => exact ⟨0, Nat.zero_le _, rfl, fun j hj => absurd hj (by omega), Ex.rf _, rfl⟩
  case round =>
    obtain ⟨q, hq, rfl, hb, j0, rfl⟩ := hrel
    have HB := hid hb
    clear hb
    by_cases hlt : q < l.length
    · obtain ⟨g, rfl, hgw, hwr⟩ := HRD.out (by omega)
      obtain ⟨c0, c1, c2, c3, c4, c5⟩ := (CuAt.of (w := w) (b := g) (p := q * 6) (x := cuG l q) (fun j v hv => by
        obtain ⟨b', o', e', -, hc⟩ := (inferInstance : Rd 6 cC w (some ⟨g, 0, none⟩) l).at_ (by omega)
        cases e'
        rw [cuG_at hlt] at hv
        have := hc q hlt j v hv
        rwa [Nat.zero_add] at this))
      clear hwr
      have hlti : (q : Int) < (l.length : Int) := by omega
      cases hbf : befB (cuG l q) x
      · have HM : Hid (plI l x = q) := hid (plI_hit hlt hbf HB.out)
        have hge := cmpI_ge hbf
        obtain ⟨m, hm⟩ : ∃ m, cmpI (cuG l q) x = m := ⟨_, rfl⟩
        rw [hm] at hge
        have hge' : ¬ m < 0 := by omega
        have HC := hid hm
        clear hm hbf
        generalize cuG l q = y at *
        go_wp2
        (refine wp_region_ex (by kernel_rfl) (by kernel_rfl) ?_; (repeat (go_big_quiet_step (((go_at_call 37; exact calls_ex (cmpC_any y x _ HC.out)))))); refine wpQuiet_nil ?_; rintro _ ⟨k, rfl⟩)
        go_wp2_with ((go_at_call 41; go_loud ((refine (insAt (W0 := W0) (some ⟨g, 0, none⟩) cap l.length q l x _ _ _ owR_h rfl hq hn ?_ ?_).mono ?_); (· exact (heap_alloc_new _ _)); (· intro g' hg'; cases hg'; have h1 := hgw.h; have h2 := (inferInstance : LeB w.heap.size k.v.heap.size).h; omega); rintro e w' h; unfold InsPost at h; obtain ⟨g2, c2, rfl, k2, rfl, hw2, hg2, hcg2⟩ := h)))
        go_ret
        rw [HM.out]
        exact ⟨g2, c2, rfl, k2, rfl, hw2, hg2, hcg2⟩
      · have hge := cmpI_lt hbf
        obtain ⟨m, hm⟩ : ∃ m, cmpI (cuG l q) x = m := ⟨_, rfl⟩
        rw [hm] at hge
        have HC := hid hm
        have HB2 : Hid (∀ j, j < q + 1 → befB (cuG l j) x = true) := hid fun j hj => by
          rcases Nat.lt_or_ge j q with h | h
          · exact HB.out j h
          · obtain rfl : j = q := by omega
            exact hbf
        clear hm hbf
        generalize cuG l q = y at *
        go_wp2
        (refine wp_region_ex (by kernel_rfl) (by kernel_rfl) ?_; (repeat (go_big_quiet_step (((go_at_call 37; exact calls_ex (cmpC_any y x _ HC.out)))))); refine wpQuiet_nil ?_; rintro _ ⟨k, rfl⟩)
        go_wp2
        go_roundw
        case rel => exact ⟨q + 1, by omega, by go_num, HB2.out, ex_up (w := w.alloc (.cells #[.string x.id, .int .i64 x.t, .int .i64 x.ln, .string x.tg, .int .i64 x.act, .int .i64 x.v] 28)) ⟨k, rfl⟩⟩
        case measure => simp [intOf]; omega
    · have hqe : q = l.length := by omega
      have HM : Hid (plI l x = q) := hid (by rw [hqe]; exact plI_end fun j hj => HB.out j (by omega))
      have hlti : decide ((q : Int) < (l.length : Int)) = false := by simp; omega
      clear hqe
      go_wp2
      (refine wp_region_ex (by kernel_rfl) (by kernel_rfl) ?_; (repeat (go_big_quiet_step ((fail)))); refine wpQuiet_nil ?_; rintro _ ⟨k, rfl⟩)
      go_wp2_with ((go_at_call 41; go_loud ((refine (insAt (W0 := W0) A cap l.length q l x _ _ _ owR_h rfl hq hn ?_ ?_).mono ?_); (· exact (heap_alloc_new _ _)); (· intro g' hg'; have h1 := HLT.out g' hg'; have h2 := (inferInstance : LeB w.heap.size k.v.heap.size).h; omega); rintro e w' h; unfold InsPost at h; obtain ⟨g2, c2, rfl, k2, rfl, hw2, hg2, hcg2⟩ := h)))
      go_ret
      rw [HM.out]
      exact ⟨g2, c2, rfl, k2, rfl, hw2, hg2, hcg2⟩
end
end Go.Proofs.YtdhflckombkimaaGreatDoor
namespace Go.Proofs.YtdhflckombkimaaGreatDoor
open Go.RowKit
theorem befB_iff (x y : Cu) : befB x y = true ↔ x.t < y.t ∨ (x.t = y.t ∧ Op.bytesLess x.id.toList y.id.toList = true) := by
  unfold befB; simp
theorem befB_trans {x y z : Cu} (h1 : befB x y = true) (h2 : befB y z = true) : befB x z = true := by
  rw [befB_iff] at *
  rcases h1 with h1 | ⟨h1, h1'⟩ <;> rcases h2 with h2 | ⟨h2, h2'⟩
  · exact .inl (by omega)
  · exact .inl (by omega)
  · exact .inl (by omega)
  · exact .inr ⟨by omega, bl_trans _ _ _ h1' h2'⟩
theorem befB_asymm {x y : Cu} (h : befB x y = true) : befB y x = false := by
  cases h2 : befB y x
  · rfl
  · have := befB_trans h h2
    rw [befB_iff, bl_irrefl] at this
    rcases this with h | ⟨_, h⟩
    · omega
    · cases h
theorem befB_total {x y : Cu} (hid : (x.id.toList == y.id.toList) = false) (h : befB x y = false) : befB y x = true := by
  rw [beq_eq_false_iff_ne] at hid
  have h' : ¬ befB x y = true := by rw [h]; simp
  rw [befB_iff] at h' ⊢
  rcases bl_total x.id.toList y.id.toList with h1 | h1 | h1
  · exact absurd h1 hid
  · rcases Int.lt_trichotomy x.t y.t with h2 | h2 | h2
    · exact absurd (.inl h2) h'
    · exact absurd (.inr ⟨h2, h1⟩) h'
    · exact .inl h2
  · rcases Int.lt_trichotomy x.t y.t with h2 | h2 | h2
    · exact absurd (.inl h2) h'
    · exact .inr ⟨h2.symm, h1⟩
    · exact .inl h2
/-- rising cues -/
def Rise (l : List Cu) : Prop := ∀ i j, i < j → j < l.length → befB (cuG l i) (cuG l j) = true
theorem rise_of {l : List Cu} (h : vCs l = true) : Rise l := by
  obtain ⟨-, h⟩ := vCs_of h
  intro i j
  induction j with
  | zero => intro hij; omega
  | succ j ih =>
    intro hij hj
    have h1 := (h (j + 1) hj).2.1 (by omega)
    rw [Nat.add_sub_cancel] at h1
    rcases Nat.lt_or_ge i j with h2 | h2
    · exact befB_trans (ih h2 (by omega)) h1
    · obtain rfl : i = j := by omega
      exact h1
theorem putS_at {l : List Cu} {c : Cu} {p : Nat} (h1 : ∀ j, j < p → befB c (cuG l j) = false) : ∀ k, p ≤ k → (∀ j, p ≤ j → j < k → befB c (cuG l j) = true) → putS l c k = p := by
  intro k
  induction k with
  | zero => intro hp _; obtain rfl : p = 0 := by omega
            rfl
  | succ k ih =>
    intro hp h2
    rcases Nat.lt_or_ge k p with h | h
    · obtain rfl : p = k + 1 := by omega
      unfold putS
      rw [h1 k (by omega)]; rfl
    · unfold putS
      rw [h2 k h (by omega), if_pos rfl]
      exact ih h fun j hj hjk => h2 j hj (by omega)
theorem plI_le (l : List Cu) (c : Cu) : plI l c ≤ l.length := List.findIdx_le_length
theorem plI_lt {l : List Cu} {c : Cu} {j : Nat} (h : j < plI l c) : befB (cuG l j) c = true := by
  have hl : j < l.length := Nat.lt_of_lt_of_le h (plI_le l c)
  have := List.not_of_lt_findIdx (p := fun y : Cu => !befB y c) (xs := l) h
  rw [cuG_at hl]
  simpa using this
theorem plI_nb {l : List Cu} {c : Cu} (h : plI l c < l.length) : befB (cuG l (plI l c)) c = false := by
  have := List.findIdx_getElem (p := fun y : Cu => !befB y c) (xs := l) (w := h)
  rw [cuG_at h]
  cases hb : befB (l[plI l c]) c
  · rfl
  · have h2 : (!befB (l[plI l c]) c) = true := this
    rw [hb] at h2
    cases h2
theorem plI_putS {l : List Cu} {c : Cu} (hr : Rise l) (hm : ∀ j, j < l.length → ((cuG l j).id.toList == c.id.toList) = false) : putS l c l.length = plI l c := by
  refine putS_at (fun j hj => befB_asymm (plI_lt hj)) _ (plI_le l c) fun j hj hjl => ?_
  have hp : plI l c < l.length := by omega
  have h1 := befB_total (hm _ hp) (plI_nb hp)
  rcases Nat.lt_or_ge (plI l c) j with h | h
  · exact befB_trans h1 (hr _ _ h hjl)
  · have hj' : plI l c = j := by omega
    rwa [hj'] at h1
theorem ins_put {l : List Cu} {c : Cu} (hr : Rise l) (hm : ∀ j, j < l.length → ((cuG l j).id.toList == c.id.toList) = false) : insL l (plI l c) c = putL l c := by
  unfold insL putL; rw [plI_putS hr hm]
/-- the cues without one -/
theorem cuG_wo {l : List Cu} {q j : Nat} (hq : q < l.length) : cuG (woC l q) j = if j < q then cuG l j else cuG l (j + 1) := by
  unfold woC cuG
  rw [List.getD_eq_getElem?_getD]
  split
  · rename_i h
    rw [List.getElem?_append_left (by rw [List.length_take]; omega), List.getElem?_take, if_pos h, ← List.getD_eq_getElem?_getD]
  · rename_i h
    rw [List.getElem?_append_right (by rw [List.length_take]; omega), List.length_take, Nat.min_eq_left (by omega), List.getElem?_drop, ← List.getD_eq_getElem?_getD]
    congr 1; omega
theorem rise_wo {l : List Cu} {q : Nat} (hq : q < l.length) (hr : Rise l) : Rise (woC l q) := by
  intro i j hij hj
  rw [woC_len hq] at hj
  rw [cuG_wo hq, cuG_wo hq]
  split <;> split <;> exact hr _ _ (by omega) (by omega)
theorem miss_wo {l : List Cu} {q : Nat} (hq : q < l.length) (h : vCs l = true) {c : Cu} (hc : c.id = (cuG l q).id) : ∀ j, j < (woC l q).length → ((cuG (woC l q) j).id.toList == c.id.toList) = false := by
  obtain ⟨-, h⟩ := vCs_of h
  intro j hj
  rw [woC_len hq] at hj
  rw [cuG_wo hq, hc]
  split
  · rename_i hjq
    exact (h q hq).2.2 j hjq
  · have h1 := (h (j + 1) (by omega)).2.2 q (by omega)
    rw [beq_eq_false_iff_ne] at h1 ⊢
    exact fun e => h1 e.symm
end Go.Proofs.YtdhflckombkimaaGreatDoor
namespace Go.Proofs.YtdhflckombkimaaGreatDoor
open Go.RowKit
theorem cuG_ins {l : List Cu} {x : Cu} {p : Nat} (hp : p ≤ l.length) (j : Nat) : cuG (insL l p x) j = if j < p then cuG l j else if j = p then x else cuG l (j - 1) := by
  unfold insL cuG
  rw [List.getD_eq_getElem?_getD]
  have hlt : (l.take p).length = p := by rw [List.length_take]; omega
  have hl1 : (l.take p ++ [x]).length = p + 1 := by rw [List.length_append, hlt]; rfl
  split
  · rename_i h
    rw [List.getElem?_append_left (by omega), List.getElem?_append_left (by omega), List.getElem?_take, if_pos h, ← List.getD_eq_getElem?_getD]
  · split
    · rename_i h1 h2
      subst h2
      rw [List.getElem?_append_left (by omega), List.getElem?_append_right (by omega), hlt]
      simp
    · rename_i h1 h2
      rw [List.getElem?_append_right (by omega), hl1, List.getElem?_drop, ← List.getD_eq_getElem?_getD]
      congr 1; omega
theorem vCs_put {l : List Cu} {x : Cu} (hv : vCs l = true) (hx : vC x = true) (hb : ∀ j, j < l.length → ((cuG l j).id.toList == x.id.toList) = false) (hf : ¬ l.length = 32) : vCs (putL l x) = true := by
  have hr := rise_of hv
  have hle := plI_le l x
  obtain ⟨h32, hok⟩ := vCs_of hv
  have hlen := putL_len l x
  rw [← ins_put hr hb] at hlen ⊢
  refine vCs_mk (by omega) fun i hi => ⟨?_, fun h0 => ?_, fun j hj => ?_⟩
  · rw [cuG_ins hle]
    split
    · exact (hok i (by omega)).1
    · split
      · exact hx
      · exact (hok (i - 1) (by omega)).1
  · rw [cuG_ins hle, cuG_ins hle]
    rcases Nat.lt_trichotomy i (plI l x) with h | h | h
    · rw [if_pos (by omega), if_pos h]
      exact hr _ _ (by omega) (by omega)
    · rw [if_pos (by omega), if_neg (by omega), if_pos h]
      exact plI_lt (by omega)
    · rcases Nat.lt_or_ge (plI l x) (i - 1) with h1 | h1
      · rw [if_neg (by omega), if_neg (by omega), if_neg (by omega), if_neg (by omega)]
        exact hr _ _ (by omega) (by omega)
      · have hp : plI l x = i - 1 := by omega
        have hp2 : plI l x < l.length := by omega
        rw [if_neg (by omega), if_pos hp.symm, if_neg (by omega), if_neg (by omega), ← hp]
        exact befB_total (hb _ hp2) (plI_nb hp2)
  · rw [cuG_ins hle, cuG_ins hle]
    rcases Nat.lt_trichotomy i (plI l x) with h | h | h
    · rw [if_pos (by omega), if_pos h]
      exact (hok i (by omega)).2.2 j hj
    · rw [if_pos (by omega), if_neg (by omega), if_pos h]
      exact hb j (by omega)
    · rw [if_neg (show ¬ i < plI l x by omega), if_neg (show ¬ i = plI l x by omega)]
      rcases Nat.lt_trichotomy j (plI l x) with h1 | h1 | h1
      · rw [if_pos h1]
        exact (hok (i - 1) (by omega)).2.2 j (by omega)
      · rw [if_neg (by omega), if_pos h1]
        have := hb (i - 1) (by omega)
        rw [beq_eq_false_iff_ne] at this ⊢
        exact fun e => this e.symm
      · rw [if_neg (by omega), if_neg (by omega)]
        exact (hok (i - 1) (by omega)).2.2 (j - 1) (by omega)
theorem ad_vCs {l : List Cu} {x : Cu} (h : adE l x = 0) : adV l x = putL l x ∧ vCs (adV l x) = true := by
  unfold adE at h
  split at h
  · rename_i hv
    split at h
    · cases h
    · rename_i hn
      split at h
      · cases h
      · rename_i hf
        rcases cI_part l x.id with ⟨q, hq, he, hb⟩ | hb
        · rw [cIx_hit hq he hb] at hn
          exact absurd hq hn
        · have := (ad_go hv.1 hv.2 hb hf).1
          exact ⟨this, by rw [this]; exact vCs_put hv.1 hv.2 hb hf⟩
  · cases h
theorem putL_mem {l : List Cu} {x y : Cu} (h : y ∈ putL l x) : y = x ∨ y ∈ l := by
  unfold putL at h
  rcases List.mem_append.1 h with h | h
  · rcases List.mem_append.1 h with h | h
    · exact .inr (List.mem_of_mem_take h)
    · exact .inl (List.mem_singleton.1 h)
  · exact .inr (List.mem_of_mem_drop h)
theorem putL_oks {l : List Cu} {x : Cu} [hk : COks l] (hx : x.ok) : COks (putL l x) := ⟨fun y hy => by
  rcases putL_mem hy with rfl | h
  · exact hx
  · exact hk.h y h⟩
theorem vCs_take {l : List Cu} (h : vCs l = true) (n : Nat) : vCs (l.take n) = true := by
  obtain ⟨h1, h2⟩ := vCs_of h
  refine vCs_mk (by rw [List.length_take]; omega) fun i hi => ?_
  rw [List.length_take] at hi
  have := h2 i (by omega)
  refine ⟨?_, fun h0 => ?_, fun j hj => ?_⟩
  · rw [cuG_take (by omega)]; exact this.1
  · rw [cuG_take (by omega), cuG_take (by omega)]; exact this.2.1 h0
  · rw [cuG_take (by omega), cuG_take (by omega)]; exact this.2.2 j hj
end Go.Proofs.YtdhflckombkimaaGreatDoor
