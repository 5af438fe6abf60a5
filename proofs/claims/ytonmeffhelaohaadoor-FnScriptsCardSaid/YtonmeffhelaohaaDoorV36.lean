/-
  A text's lines, one after the other: the function that strings.Lines hands back, at any loop that keeps its word. Conditions: those typed at each theorem.
  A range over a text's lines: the statement, at any body that keeps its word. Conditions: those typed at each theorem.
-/
import Derived.Test.YtonmeffhelaohaaDoorV35
import Derived.Test.YtonmeffhelaohaaDoorShelfI
import Derived.Test.YtonmeffhelaohaaDoorV31
import Derived.RangeFuncBox
import Derived.RangeFuncLeaves
import Derived.OwnWalkIn
import Derived.TacticsInMore
import Derived.Lib.IndexLaws
namespace Go.Proofs.YtonmeffhelaohaaDoor
open Go.RowKit
attribute [local go_sem] Oper.semAt_some
/-- r's first line, and what is left -/
def Cut (r line rest : ByteArray) : Prop :=
  (∃ x T, r.data.toList = x ++ 10 :: T ∧ (∀ y ∈ x, y ≠ 10) ∧ line.data.toList = x ++ [10] ∧ rest.data.toList = T) ∨ ((∀ y ∈ r.data.toList, y ≠ 10) ∧ line = r ∧ rest = ⟨#[]⟩)
theorem cut_no {r : ByteArray} (h : Lib.indexByte r.data.toList 10 = -1) : Cut r r ⟨#[]⟩ :=
  .inr ⟨fun y hy e => by
    obtain ⟨k, hk, e2⟩ := List.getElem_of_mem hy
    exact Lib.indexByte_none h k (by rw [List.getElem?_eq_getElem hk, e2, e]), rfl, rfl⟩
theorem cut_yes {r : ByteArray} {i : Nat} (h : Lib.indexByte r.data.toList 10 = i) : i < r.size ∧ Cut r (r.extract 0 (i + 1)) (r.extract (i + 1) r.size) := by
  obtain ⟨h1, h2⟩ := Lib.indexByte_some h
  obtain ⟨h3, h4⟩ := List.getElem?_eq_some_iff.1 h1
  have e0 : r.data.toList.length = r.size := by simp
  refine ⟨by omega, .inl ⟨r.data.toList.take i, r.data.toList.drop (i + 1), ?_, ?_, ?_, ?_⟩⟩
  · conv => lhs; rw [← List.take_append_drop i r.data.toList]
    rw [List.drop_eq_getElem_cons h3, h4]
  · intro y hy e
    obtain ⟨k, hk, e2⟩ := List.getElem_of_mem hy
    simp only [List.length_take] at hk
    rw [List.getElem_take] at e2
    exact h2 k (by omega) (by rw [List.getElem?_eq_getElem (by omega), e2, e])
  · rw [← h4]
    simp [ByteArray.data_extract, List.take_succ_eq_append_getElem h3]
  · simp only [ByteArray.data_extract, Array.toList_extract, List.extract]
    exact List.take_of_length_le (by simp)
theorem cut_size {r line rest : ByteArray} (h : Cut r line rest) (hr : r.size ≠ 0) : rest.size < r.size ∧ line.size ≤ r.size := by
  rcases h with ⟨x, T, h1, _, h2, h3⟩ | ⟨_, rfl, rfl⟩
  · have e1 := congrArg List.length h1
    have e2 := congrArg List.length h2
    have e3 := congrArg List.length h3
    simp at e1 e2 e3
    omega
  · have : (⟨#[]⟩ : ByteArray).size = 0 := rfl
    omega
section
set_option maxHeartbeats 3200000
set_option maxRecDepth 20000
def boxSz (W : World) (B : Nat) : Nat := match W.cell? ⟨B, 0, none⟩ with | some (.string r) => r.size | _ => 0
theorem lines1_any (l B : Nat) (J : ByteArray → World → Prop) (Jx : World → Prop)
    (hJc : ∀ r W, J r W → W.cell? ⟨B, 0, none⟩ = some (.string r) ∧ W.frozen? ⟨B, 0, none⟩ = false ∧ r.size ≤ 1048576)
    (hJe : ∀ r W (k : Ex W), J r W → J r k.v)
    (hY : ∀ r line rest W, J r W → r.size ≠ 0 → Cut r line rest → YieldAt Fence.wide 0 Tryd.prog l #[.string line] (W.setCell ⟨B, 0, none⟩ (.string rest)) fun e W' =>
      (e = .returned (.bool true) ∧ J rest W') ∨ (e = .returned (.bool false) ∧ Jx W'))
    (s : ByteArray) (W : World) (h0 : J s W) :
    Calls Tryd.prog 52 #[.func (.yield l) #[] #[], .pointer (some ⟨B, 0, none⟩)] W fun e W' => (∃ v, e = .returned v) ∧ (J ⟨#[]⟩ W' ∨ Jx W') := by
  go_enter Tryd.func52, Tryd.ntmps52
  go_wp2_with (fail)
  go_loopw [3, 4] (fun _ _ wr => ∃ r, J r wr) (fun _ _ wr => boxSz wr B)
  case atStart => exact ⟨s, h0⟩
  case round =>
    obtain ⟨r, hr⟩ := hrel
    obtain ⟨hc, hf, hz⟩ := hJc r _ hr
    haveI hlt : LtW B wr := ⟨by obtain ⟨o, ho, _⟩ := cells_of_cell hc; exact (Array.getElem?_eq_some_iff.1 ho).1⟩
    by_cases hz0 : r.size = 0
    · have hzl : ¬ (0 : Int) < (r.size : Int) := by omega
      have hre : r = ⟨#[]⟩ := by
        have : r.data.toList = [] := List.eq_nil_of_length_eq_zero (by simpa using hz0)
        exact ByteArray.ext (by simpa using this)
      go_wp2_with (fail)
      go_end0
      exact ⟨⟨_, rfl⟩, .inl (hre ▸ hr)⟩
    · have hzl : (0 : Int) < (r.size : Int) := by omega
      have hix := Lib.indexByte_ge r.data.toList 10
      by_cases hi : Lib.indexByte r.data.toList 10 = -1
      · have hcut := cut_no hi
        go_upto_region 6 with (go_at_call 53; go_loud (refine (Tryd.strings_IndexByte _ _ _).mono ?_); rintro e w' ⟨rfl, rfl⟩; go_loud (simp only [show ((10 : Int).toNat.toUInt8) = 10 from rfl, hi]))
        obtain ⟨fn, tmps, assign, body, hy, hR⟩ := hY r r ⟨#[]⟩ _ hr hz0 hcut
        refine (wpIn_wide (n := 1)).1 ?_
        gi_wp2
        refine hR.mono ?_
        rintro e W3 (⟨rfl, hJ3⟩ | ⟨rfl, hJx3⟩)
        · go_loud (dsimp only)
          gi_wp2
          go_wp2_with (fail)
          go_roundw
          case rel => exact ⟨_, hJ3⟩
          case measure =>
            obtain ⟨hc3, _⟩ := hJc _ _ hJ3
            simp only [boxSz, hc, hc3]
            exact (cut_size hcut hz0).1
        · go_loud (dsimp only)
          gi_wp2
          go_wp2_with (fail)
          refine bodyPost_ret (results_none rfl _ _ _) rfl ?_
          exact ⟨⟨_, rfl⟩, .inr hJx3⟩
      · obtain ⟨i, hi2⟩ : ∃ i : Nat, Lib.indexByte r.data.toList 10 = i := ⟨(Lib.indexByte r.data.toList 10).toNat, by omega⟩
        obtain ⟨hir, hcut⟩ := cut_yes hi2
        go_upto_region 4 with (go_at_call 53; go_loud (refine (Tryd.strings_IndexByte _ _ _).mono ?_); rintro e w' ⟨rfl, rfl⟩; go_loud (simp only [show ((10 : Int).toNat.toUInt8) = 10 from rfl, hi2]))
        have hrb : (r.size : Int) ≤ 1048576 := by omega
        have hir2 : (i : Int) < (r.size : Int) := by omega
        have hw1 : IntKind.i64.wrap ((i : Int) + 1) = ((i + 1 : Nat) : Int) := by rw [IntWalk.i64_in _ (by omega)]; rfl
        (refine wp_region_ex_tail 9 (by kernel_rfl) (by kernel_rfl) ?_; simp only [List.take_succ_cons, List.take_zero, List.drop_succ_cons, List.drop_zero]; (repeat (go_big_quiet_step ((fail)))); refine wpQuiet_nil ?_; intro k)
        have hrk := hJe r _ k hr
        obtain ⟨hck, hfk, _⟩ := hJc r _ hrk
        go_upto_region 6 with (fail)
        obtain ⟨fn, tmps, assign, body, hy, hR⟩ := hY r _ _ _ hrk hz0 hcut
        refine (wpIn_wide (n := 1)).1 ?_
        gi_wp2
        refine hR.mono ?_
        rintro e W3 (⟨rfl, hJ3⟩ | ⟨rfl, hJx3⟩)
        · go_loud (dsimp only)
          gi_wp2
          go_wp2_with (fail)
          go_roundw
          case rel => exact ⟨_, hJ3⟩
          case measure =>
            obtain ⟨hc3, _⟩ := hJc _ _ hJ3
            simp only [boxSz, hc, hc3]
            exact (cut_size hcut hz0).1
        · go_loud (dsimp only)
          gi_wp2
          go_wp2_with (fail)
          refine bodyPost_ret (results_none rfl _ _ _) rfl ?_
          exact ⟨⟨_, rfl⟩, .inr hJx3⟩
end
end Go.Proofs.YtonmeffhelaohaaDoor
namespace Go.Proofs.YtonmeffhelaohaaDoor
open Go.RowKit
attribute [local go_sem] Oper.semAt_some
theorem grownBy_of_ex {W : World} (k : Ex W) : W.grownBy k.v none := ⟨k.h.os, k.h.tape, k.h.output, k.h.size, fun b hb _ => k.h.block b hb⟩
theorem KeepsOthers.ex {W : World} (k : Ex W) : KeepsOthers W k.v := ⟨k.h.size, fun b o h _ => (k.h.block b (Array.getElem?_eq_some_iff.1 h).1).trans h⟩
/-- how a round's body may be left -/
def LnBody (I : ByteArray → World → Prop) (Ix : World → Prop) (rest : ByteArray) (W : World) : Exit → Act → World → Prop
  | .normal, _, W' => KeepsOthers W W' ∧ I rest W'
  | .ret, _, W' => KeepsOthers W W' ∧ Ix W'
  | _, _, _ => False
section
set_option maxHeartbeats 3200000
theorem range_lines {g : Operand} {ps : Array Tmp} {assign body : Code} {Q : Exit → Act → World → Prop} {a : Act} {w : World} {B : Nat}
    (hg : a.eval g = .func (.func 52) #[] #[.pointer (some ⟨B, 0, none⟩)]) (hps : ps.size = 1)
    (I : ByteArray → World → Prop) (Ib : ByteArray → ByteArray → World → Prop) (Ix : World → Prop)
    (hI : OwnFrom w.heap.size I) (hIb : ∀ line, OwnFrom w.heap.size (Ib line)) (hIx : OwnFrom w.heap.size (fun _ : Unit => Ix))
    (hIc : ∀ r W, I r W → W.cell? ⟨B, 0, none⟩ = some (.string r) ∧ W.frozen? ⟨B, 0, none⟩ = false ∧ r.size ≤ 1048576)
    (hst : ∀ r line rest W, I r W → r.size ≠ 0 → Cut r line rest → Ib line rest (W.setCell ⟨B, 0, none⟩ (.string rest)))
    (s : ByteArray) (h0 : I s w) (a₁ : ByteArray → Act)
    (hassign : ∀ (l : Nat) (x : ByteArray) (W : World) (K : Act → World → Prop), K (a₁ x) W →
      assign.wpIn (Fence.wide.inRound l) 0 Tryd.prog (Exit.then K (fun _ _ _ => False)) { tmps := (ps.zip #[.string x]).foldl (fun t (p, v) => t.setIfInBounds p v) a.tmps, defers := [] } W)
    (hbody : ∀ (l : Nat) (line rest : ByteArray) (W : World), Ib line rest W → body.wpIn (Fence.wide.inRound l) 0 Tryd.prog (LnBody I Ix rest W) (a₁ line) W)
    (hdone : ∀ (D : Nat) (W : World), w.heap.size ≤ D → I ⟨#[]⟩ W → W.heap[D]? = some (.deferred (some [])) → Q .normal { a with defers := { target := .collected D, args := #[] } :: a.defers } W)
    (hstop : ∀ (D : Nat) (W : World), w.heap.size ≤ D → Ix W → W.heap[D]? = some (.deferred (some [])) → Q .ret { a with defers := { target := .collected D, args := #[] } :: a.defers } W) :
    (Code.rangeFunc g ps assign body).wpIn Fence.wide 1 Tryd.prog Q a w := by
  refine wpIn_rangeFunc ?_
  intro fn hfn
  obtain ⟨rec, hrec⟩ : ∃ rec : LoopState → Option Code → Loop, rec = fun st pe => { state := st, pending := pe, fn, tmps := a.tmps, params := ps, assign, body, defers := w.heap.size } := ⟨_, rfl⟩
  obtain ⟨W1, hW1⟩ : ∃ W1, (w.alloc (.deferred (some []))).alloc (.loop (rec .ready none)) = W1 := ⟨_, rfl⟩
  have hL1 : W1.heap[w.heap.size + 1]? = some (.loop (rec .ready none)) := by
    rw [← hW1]; have := World.alloc_heap_new (w.alloc (.deferred (some []))) (.loop (rec .ready none)); rwa [World.size_alloc] at this
  have hK1 : W1.heap[w.heap.size]? = some (.deferred (some [])) := by
    rw [← hW1]; exact (Below.heap_alloc _ _ _ (by simp)).trans (World.alloc_heap_new w _)
  have hI1 : I s W1 := by rw [← hW1]; exact hI.alloc _ (hI.alloc _ h0)
  refine ⟨w.heap.size + 1, [{ target := .collected w.heap.size, args := #[] }], W1, { target := .fn (.func 52) #[.pointer (some ⟨B, 0, none⟩)], args := #[.func (.yield (w.heap.size + 1)) #[] #[]] }, W1, 52,
    #[.func (.yield (w.heap.size + 1)) #[] #[]] ++ #[.pointer (some ⟨B, 0, none⟩)], W1, ?_, ?_, ?_, ?_, fun _ => Nat.le_refl _, ?_⟩
  · rw [← hW1, hrec]; exact run_enterLoop_outer _ _ _ _ _
  · simp only [resolve, hg]
    simp [go_sem]
  · intro f' _; exact trivial
  · simp [invoke, go_sem, Tryd.func52, Tryd.ntmps52]
  · refine callsIn_wide.2 ((lines1_any (w.heap.size + 1) B
      (fun r W => I r W ∧ W.heap[w.heap.size + 1]? = some (.loop (rec .ready none)) ∧ W.heap[w.heap.size]? = some (.deferred (some [])))
      (fun W => Ix W ∧ W.heap[w.heap.size + 1]? = some (.loop (rec .done (some .ret))) ∧ W.heap[w.heap.size]? = some (.deferred (some [])))
      (fun r W h => hIc r W h.1)
      (fun r W k h => ⟨hI r W k.v none h.1 (grownBy_of_ex k) (fun _ e => by cases e), (KeepsOthers.ex k).same _ _ h.2.1 rfl, (KeepsOthers.ex k).same _ _ h.2.2 rfl⟩)
      ?_ s W1 ⟨hI1, hL1, hK1⟩).mono ?_)
    · -- one round
      rintro r line rest W0 ⟨hi0, hl0, hk0⟩ hr0 hcut
      have hib := hst r line rest W0 hi0 hr0 hcut
      have hl := (KeepsOthers.setCell W0 ⟨B, 0, none⟩ (.string rest)).same _ _ hl0 rfl
      have hk := (KeepsOthers.setCell W0 ⟨B, 0, none⟩ (.string rest)).same _ _ hk0 rfl
      generalize W0.setCell ⟨B, 0, none⟩ (.string rest) = W at hib hl hk ⊢
      clear hi0 hl0 hk0
      have hlt : w.heap.size + 1 < W.heap.size := (Array.getElem?_eq_some_iff.1 hl).1
      have hy := run_yield (P := Tryd.prog) (args := #[.string line]) hl (by rw [hrec]; exact hps.symm)
      rw [hrec] at hy
      refine ⟨fn, _, assign, body, hy, roundIn_of_wpIn hfn (hassign _ line W _ ⟨_, run_beginRound hl (by rw [hrec]), ?_⟩)⟩
      have hl2 : (W.putObj (w.heap.size + 1) (.loop { rec .ready none with state := .busy })).heap[w.heap.size + 1]? = some (.loop { rec .ready none with state := .busy }) := World.putObj_heap_same hlt
      have hk2 : (W.putObj (w.heap.size + 1) (.loop { rec .ready none with state := .busy })).heap[w.heap.size]? = some (.deferred (some [])) := (World.putObj_heap_other (by omega)).trans hk
      refine wpIn_mono (hbody _ line rest _ ((hIb line).putObj _ hib (by omega) hl rfl)) ?_
      have fin : ∀ (jump : Option Code) (W3 : World), KeepsOthers (W.putObj (w.heap.size + 1) (.loop { rec .ready none with state := .busy })) W3 →
          (Instr.endRound (w.heap.size + 1) jump).run Tryd.prog W3 = .ok (.bool jump.isNone) (W3.putObj (w.heap.size + 1) (.loop (rec (if jump.isNone then .ready else .done) jump))) ∧
          W3.heap[w.heap.size + 1]? = some (.loop { rec .ready none with state := .busy }) ∧
          (W3.putObj (w.heap.size + 1) (.loop (rec (if jump.isNone then .ready else .done) jump))).heap[w.heap.size + 1]? = some (.loop (rec (if jump.isNone then .ready else .done) jump)) ∧
          (W3.putObj (w.heap.size + 1) (.loop (rec (if jump.isNone then .ready else .done) jump))).heap[w.heap.size]? = some (.deferred (some [])) := fun jump W3 hk3 => by
        have hl3 := hk3.same _ _ hl2 rfl
        have := run_endRound (P := Tryd.prog) jump hl3
        rw [hrec] at this ⊢
        exact ⟨this, by rw [hrec] at hl3; exact hl3, World.putObj_heap_same (Array.getElem?_eq_some_iff.1 hl3).1, (World.putObj_heap_other (by omega)).trans (hk3.same _ _ hk2 rfl)⟩
      rintro e a3 W3 hp
      cases e with
      | normal =>
        obtain ⟨hk3, hi3⟩ := hp
        obtain ⟨hr, hl3, hl4, hk4⟩ := fin none W3 hk3
        exact ⟨_, _, hr, .inl ⟨rfl, hI.putObj _ hi3 (by omega) hl3 rfl, hl4, hk4⟩⟩
      | ret =>
        obtain ⟨hk3, hi3⟩ := hp
        obtain ⟨hr, hl3, hl4, hk4⟩ := fin (some .ret) W3 hk3
        exact ⟨_, _, hr, .inr ⟨rfl, hIx.putObj (s := ()) _ hi3 (by omega) hl3 rfl, hl4, hk4⟩⟩
      | exit id => exact hp.elim
      | goto t => exact hp.elim
      | panic ch => exact hp.elim
      | outgrown => exact hp.elim
    · -- behind the iterator
      rintro e W2 ⟨⟨v, rfl⟩, (⟨hi, hl, hk⟩ | ⟨hi, hl, hk⟩)⟩
      · exact ⟨none, _, by have := run_endLoop (P := Tryd.prog) hl (by rw [hrec]; simp); rw [hrec] at this; exact this, hdone _ _ (Nat.le_refl _) (hI.putObj _ hi (by omega) hl rfl) ((World.putObj_heap_other (by omega)).trans hk)⟩
      · exact ⟨some .ret, _, by have := run_endLoop (P := Tryd.prog) hl (by rw [hrec]; simp); rw [hrec] at this; exact this, wpIn_ret (hstop _ _ (Nat.le_refl _) (hIx.putObj (s := ()) _ hi (by omega) hl rfl) ((World.putObj_heap_other (by omega)).trans hk))⟩
end
end Go.Proofs.YtonmeffhelaohaaDoor
