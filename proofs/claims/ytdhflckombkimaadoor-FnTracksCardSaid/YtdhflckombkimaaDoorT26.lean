/-
  The draws of tracks. Conditions: those typed at each theorem.
  The draws of the questions about parts of tracks. Conditions: those typed at each theorem.
  The draws of the law of tracks. Conditions: those typed at each theorem.
-/
import Derived.Test.YtdhflckombkimaaDoorT16
import Derived.Test.YtdhflckombkimaaDoorT10
import Derived.Test.YtdhflckombkimaaDoorT24
import Derived.Laws.OwnMore
import Derived.Deep.Cut
import Derived.Deep.CutRange
namespace Go.Proofs.YtdhflckombkimaaDoor
open Go.RowKit
/-- two cells that can be written at g -/
structure Blk (g : Nat) (v0 v1 : Value) (W : World) : Prop where
  lt : LtW g W
  c0 : W.cell? ⟨g, 0, none⟩ = some v0
  c1 : W.cell? ⟨g, 1, none⟩ = some v1
  f0 : W.frozen? ⟨g, 0, none⟩ = false
  f1 : W.frozen? ⟨g, 1, none⟩ = false
theorem fz_blk {w w' : World} {x o : Nat} (h : w'.heap[x]? = w.heap[x]?) : w'.frozen? ⟨x, o, none⟩ = w.frozen? ⟨x, o, none⟩ := by
  unfold World.frozen?
  rw [show w'.heap[(⟨x, o, none⟩ : Addr).block]? = w.heap[(⟨x, o, none⟩ : Addr).block]? from h]
theorem Blk.congr {g : Nat} {v0 v1 : Value} {W W' : World} (h : Blk g v0 v1 W) (hk : W'.heap[g]? = W.heap[g]?) (hs : W.heap.size ≤ W'.heap.size) : Blk g v0 v1 W' :=
  ⟨⟨Nat.lt_of_lt_of_le h.lt.h hs⟩, (World.cell?_of_block hk).trans h.c0, (World.cell?_of_block hk).trans h.c1, (fz_blk hk).trans h.f0, (fz_blk hk).trans h.f1⟩
theorem Blk.dr {g : Nat} {v0 v1 : Value} {W : World} {b n : Nat} (h : Blk g v0 v1 W) (k : Dr b n W) (hT : g ≠ b) : Blk g v0 v1 k.v := h.congr (k.keep g h.lt.h hT) k.size
theorem Blk.exb {g B : Nat} {v0 v1 : Value} {W : World} (h : Blk g v0 v1 W) (k : Exb B W) (hT : g < B) : Blk g v0 v1 k.v := h.congr (k.h.block g hT) k.h.size
theorem Blk.alloc {g : Nat} {v0 v1 : Value} {W : World} (h : Blk g v0 v1 W) (o : Obj) : Blk g v0 v1 (W.alloc o) := by
  haveI := h.lt
  exact ⟨inferInstance, by simp [go_sem, h.c0], by simp [go_sem, h.c1], by simp [go_sem, h.f0], by simp [go_sem, h.f1]⟩
theorem Blk.set {g x : Nat} {v0 v1 v : Value} {o : Nat} {W : World} (h : Blk g v0 v1 W) (hn : g ≠ x) : Blk g v0 v1 (W.setCell ⟨x, o, none⟩ v) := by
  haveI := h.lt
  refine ⟨⟨by rw [size_setCell']; exact h.lt.h⟩, ?_, ?_, by simpa using h.f0, by simpa using h.f1⟩
  · rw [World.cell?_setCell_other _ _ _ _ (fun e => hn (congrArg Addr.block e).symm)]; exact h.c0
  · rw [World.cell?_setCell_other _ _ _ _ (fun e => hn (congrArg Addr.block e).symm)]; exact h.c1
theorem Blk.set1 {g : Nat} {v0 v1 v : Value} {W : World} (h : Blk g v0 v1 W) : Blk g v0 v (W.setCell ⟨g, 1, none⟩ v) := by
  haveI := h.lt
  refine ⟨⟨by rw [size_setCell']; exact h.lt.h⟩, ?_, ?_, by simpa using h.f0, by simpa using h.f1⟩
  · rw [World.cell?_setCell_other _ _ _ _ (by simp)]; exact h.c0
  · rw [cell_setI, h.c1]; rfl
theorem Blk.set0 {g : Nat} {v0 v1 v : Value} {W : World} (h : Blk g v0 v1 W) : Blk g v v1 (W.setCell ⟨g, 0, none⟩ v) := by
  haveI := h.lt
  refine ⟨⟨by rw [size_setCell']; exact h.lt.h⟩, ?_, ?_, by simpa using h.f0, by simpa using h.f1⟩
  · rw [cell_setI, h.c0]; rfl
  · rw [World.cell?_setCell_other _ _ _ _ (by simp)]; exact h.c1
theorem Blk.mk0 (w : World) (v0 v1 : Value) (t : TypeId) : Blk w.heap.size v0 v1 (w.alloc (.cells #[v0, v1] t)) := ⟨inferInstance, by simp [go_sem], by simp [go_sem], by simp [go_sem], by simp [go_sem]⟩
theorem Blk.mk1 (w : World) (v0 v1 : Value) (t : TypeId) (o : Obj) : Blk (w.heap.size + 1) v0 v1 ((w.alloc o).alloc (.cells #[v0, v1] t)) := by
  have := Blk.mk0 (w.alloc o) v0 v1 t
  rwa [show (w.alloc o).heap.size = w.heap.size + 1 by simp] at this
theorem ownsRow_set {w : World} {B : Nat} {e : TypeId} {sz : Nat} {v : Value} {n : Nat} {xs : List Value} (h : w.ownsRow B e sz v n xs) {x o : Nat} (u : Value) (hx : x < B) : (w.setCell ⟨x, o, none⟩ u).ownsRow B e sz v n xs :=
  ownsRow_congr h fun g hg => by
    have := (h.lt _ hg).1
    simp only [World.setCell, Array.getElem?_modify]
    rw [if_neg (show ¬ x = g by omega)]
theorem row_form {w : World} {base : Nat} {e : TypeId} {size : Nat} {v : Value} {n : Nat} {xs : List Value} (h : w.ownsRow base e size v n xs) (hn : 0 < n) : ∃ g cap, v = .slice (some ⟨g, 0, none⟩) n cap := by
  rcases h.2 with ⟨-, h0⟩ | ⟨g, cap, cur, he, -⟩
  · omega
  · exact ⟨g, cap, he⟩
theorem rd_row {w : World} {B c : Nat} {A : Option Addr} {l : List Ky} (h : w.ownsRow B 58 2 (.slice A l.length c) l.length (l.flatMap kC)) : Rd 2 kC w A l := by
  obtain ⟨A2, c2, he, hO, hF⟩ := Ow.of_row (f := kC) (fun _ => rfl) h
  cases he
  infer_instance
theorem rd_row2 {w : World} {B c n : Nat} {A : Option Addr} {l : List Ky} (h : w.ownsRow B 58 2 (.slice A n c) n (l.flatMap kC)) (hn : l.length = n) : Rd 2 kC w A l := by
  subst hn
  exact rd_row h
theorem ownsRow_setn {w : World} {B : Nat} {e : TypeId} {sz g c m : Nat} {n : Nat} {xs : List Value} (h : w.ownsRow B e sz (.slice (some ⟨g, 0, none⟩) m c) n xs) {x o : Nat} (u : Value) (hx : x ≠ g) : (w.setCell ⟨x, o, none⟩ u).ownsRow B e sz (.slice (some ⟨g, 0, none⟩) m c) n xs :=
  ownsRow_congr h fun g' hg => by
    obtain rfl : g = g' := by simpa [Value.ownBlock] using hg
    simp only [World.setCell, Array.getElem?_modify]
    rw [if_neg hx]
theorem row_put0 {w : World} {B g c : Nat} {l : List Ky} (h : w.ownsRow B 58 2 (.slice (some ⟨g, 0, none⟩) l.length c) l.length (l.flatMap kC)) (y : Int) (h0 : 0 < l.length) : (w.setCell ⟨g, 0, none⟩ (.int .i64 y)).ownsRow B 58 2 (.slice (some ⟨g, 0, none⟩) l.length c) l.length ((l.set 0 ⟨y, (l[0]).v⟩).flatMap kC) := by
  have := (h.stored 0 (.int .i64 y)).1
  cases l with
  | nil => simp at h0
  | cons x r => simpa [kC] using this
theorem row_put1 {w : World} {B g c : Nat} {l : List Ky} (h : w.ownsRow B 58 2 (.slice (some ⟨g, 0, none⟩) l.length c) l.length (l.flatMap kC)) (y : Int) (h0 : 0 < l.length) : (w.setCell ⟨g, 1, none⟩ (.int .i64 y)).ownsRow B 58 2 (.slice (some ⟨g, 0, none⟩) l.length c) l.length ((l.set 0 ⟨(l[0]).t, y⟩).flatMap kC) := by
  have := (h.stored 1 (.int .i64 y)).1
  cases l with
  | nil => simp at h0
  | cons x r => simpa [kC] using this
theorem row_c0 {w : World} {B g c : Nat} {l : List Ky} (h : w.ownsRow B 58 2 (.slice (some ⟨g, 0, none⟩) l.length c) l.length (l.flatMap kC)) (h0 : 0 < l.length) : w.cell? ⟨g, 0, none⟩ = some (.int .i64 (l[0]).t) ∧ w.cell? ⟨g, 1, none⟩ = some (.int .i64 (l[0]).v) := by
  refine ⟨(h.cellAt 0 (by omega)).trans ?_, (h.cellAt 1 (by omega)).trans ?_⟩
  · cases l with
    | nil => simp at h0
    | cons x r => simp [kC]
  · cases l with
    | nil => simp at h0
    | cons x r => simp [kC]
/-- A lies behind B -/
def FarA (B : Nat) (A : Option Addr) : Prop := ∀ x o, A = some ⟨x, o, none⟩ → B ≤ x
/-- a track under way: the result's cells, the track's, its row -/
structure TkG (r T B : Nat) (nm : ByteArray) (A : Option Addr) (c : Nat) (l : List Ky) (W : World) : Prop where
  r : Blk r (.string ⟨#[]⟩) (.slice none 0 0) W
  t : Blk T (.string nm) (.slice A l.length c) W
  row : W.ownsRow B 58 2 (.slice A l.length c) l.length (l.flatMap kC)
section
set_option maxHeartbeats 3200000
set_option maxRecDepth 20000
theorem drawTkOk_any (b : Nat) {n : Nat} (nm : ByteArray) (w : World) [hs : Src w b n] (hn : n ≤ 10000000) :
    Calls Tryd.prog 90 #[.pointer (some ⟨b, 0, none⟩), .string nm] w fun e w' => ∃ (A : Option Addr) (c : Nat) (l : List Ky), 1 ≤ l.length ∧ l.length ≤ 10 ∧ e = .returned (.agg #[.string nm, .slice A l.length c]) ∧ ∃ k : Dr b (n + 60) w, w' = k.v ∧ k.v.ownsRow (w.heap.size + 2) 58 2 (.slice A l.length c) l.length (l.flatMap kC) := by
  have hbw : b < w.heap.size := hs.lt
  have hbB : b < w.heap.size + 2 := by omega
  haveI hne : NeB (w.heap.size + 1) b := ⟨by omega⟩
  haveI hle : LeB (b + 1) (w.heap.size + 1) := ⟨by omega⟩
  go_enter Tryd.func90, Tryd.ntmps90
  go_wp2_with ((go_at_call 85; go_loud (refine (pick_any b _ _ ?_ ?_).mono ?_); (· omega); (· omega); rintro e w' ⟨x, ⟨hx1, hx2⟩, rfl, k, rfl⟩))
  rename_i x1 hx11 hx12 k1 x2 hx21 hx22 k2 _ _
  go_loopw [6, 7, 8] (fun t v q wr => ∃ (qq tt vv : Int) (l : List Ky) (A : Option Addr) (c n' : Nat), t = .int .i64 tt ∧ v = .int .i64 vv ∧ q = .int .i64 qq ∧ -1 ≤ qq ∧ qq ≤ x ∧ (l.length : Int) = x - qq ∧ 0 ≤ tt ∧ tt ≤ 5000 + 5000 * l.length ∧ -5000 - 5000 * l.length ≤ vv ∧ vv ≤ 5000 + 5000 * l.length ∧ n' ≤ n + 6 + 4 * l.length ∧ ∃ j : Dr b n' w, wr = j.v ∧ TkG w.heap.size (w.heap.size + 1) (w.heap.size + 2) nm A c l j.v) (fun _ _ q _ => (intOf q + 1).toNat)
  case atStart =>
    refine ⟨x, x1, x2 - 1000, [], none, 0, n + 2 + 2 + 2, rfl, rfl, rfl, by omega, by omega, by simp, by omega, by omega, by omega, by omega, by omega, DrK.fin2 (p := TkG w.heap.size (w.heap.size + 1) (w.heap.size + 2) nm none 0 []) (DrK.dr (DrK.dr (DrK.dr (DrK.alloc (DrK.alloc (n := n) (DrK.rf b w) _) _) k1) k2) k) (Nat.le_refl _) ⟨?_, ?_, World.ownsRow_nil _ _ _ _⟩⟩
    · exact ((((Blk.mk0 w _ _ _).alloc _).dr k1 (by omega)).dr k2 (by omega)).dr k (by omega)
    · exact (((Blk.mk1 w _ _ _ _).dr k1 (by omega)).dr k2 (by omega)).dr k (by omega)
  case round =>
    obtain ⟨qq, tt, vv, l, A1, c1, n1, rfl, rfl, rfl, h1, h2, h3, h4, h5, h6, h7, h8, j1, rfl, hT⟩ := hrel
    obtain ⟨hr, hT, hrow⟩ := hT
    have HR := hid hr
    have HT := hid hT
    obtain ⟨hlt, t0, t1, f0, f1⟩ := hT
    obtain ⟨hltr, r0, r1, g0, g1⟩ := hr
    have HROW := hid hrow
    clear hrow
    haveI lebTw : LeB (w.heap.size + 2) j1.v.heap.size := ⟨hlt.h⟩
    by_cases h0 : 0 ≤ qq
    · go_upto_region 8 with ((at_builtin; go_loud (refine wpList_appZ kC _ rfl _ _ _ rfl (w.heap.size + 2) ?_ _ _ _ _ Tryd.underlying28 infoKey rfl (by omega) (fun _ => ⟨rfl, by simp [kC, Value.oneCell']⟩) (.slice A1 l.length c1) (l) rfl ((HROW.out.alloc _)) ((⟨tt, vv⟩ : Ky)) _ _ rfl (cellsB (by simp)) ?_ ?_ ?_; (· exact LeB.h); (· (try simp); (try omega)); (· (try simp); (try omega)); intro v2 kk2 hA2; obtain ⟨A2, c2, rfl, hO2, hF2⟩ := Ow.of_row (f := kC) (fun _ => rfl) hA2.own; haveI hs2 := Src.exb (inferInstance : Src _ b n1) kk2 (by omega); have y0 : kk2.v.cell? ⟨w.heap.size + 1, 0, none⟩ = some (.string nm) := (World.cell?_of_block (kk2.h.block (w.heap.size + 1) (Nat.lt_succ_self _))).trans (by simp [go_sem, t0]); have y1 : kk2.v.cell? ⟨w.heap.size + 1, 1, none⟩ = some (.slice A1 l.length c1) := (World.cell?_of_block (kk2.h.block (w.heap.size + 1) (Nat.lt_succ_self _))).trans (by simp [go_sem, t1]); have yf0 : kk2.v.frozen? ⟨w.heap.size + 1, 0, none⟩ = false := (fz_blk (kk2.h.block (w.heap.size + 1) (Nat.lt_succ_self _))).trans (by simp [go_sem, f0]); have yf1 : kk2.v.frozen? ⟨w.heap.size + 1, 1, none⟩ = false := (fz_blk (kk2.h.block (w.heap.size + 1) (Nat.lt_succ_self _))).trans (by simp [go_sem, f1]); haveI yl : LtW (w.heap.size + 1) kk2.v := ⟨Nat.lt_of_lt_of_le (LtW.h (w := _)) kk2.h.size⟩; haveI yb : LeB (w.heap.size + 2) kk2.v.heap.size := ⟨yl.h⟩)))
      go_wp2_with (first | (go_at_call 85; go_loud (refine (pick_any b _ _ ?_ ?_).mono ?_); (· omega); (· omega); rintro e w' ⟨x4, ⟨hx41, hx42⟩, rfl, k4, rfl⟩) | (go_at_call 66; go_loud (refine (among_l 1000 b _ _ _ _ _ _ ?_ ?_ ?_ ?_ ?_ ?_ ?_).mono ?_); (· simp); (· exact (inferInstance : LtW b _).h); (· omega); (· omega); (· omega); (· rfl); (· repeat (first | exact trivial | refine ⟨⟨_, rfl, by omega, by omega⟩, ?_⟩)); rintro e w' ⟨x5, ⟨hx51, hx52⟩, rfl, k5, rfl⟩))
      go_roundw
      case rel =>
        refine ⟨qq - 1, tt + (1 + x4), vv + x5, l ++ [⟨tt, vv⟩], A2, c2, n1 + 2 + 2, by go_num, by go_num, by go_num, by omega, by omega, by simp; omega, by omega, by simp; omega, by simp; omega, by simp; omega, by simp; omega, DrK.fin2 (p := TkG w.heap.size (w.heap.size + 1) (w.heap.size + 2) nm A2 c2 (l ++ [⟨tt, vv⟩])) (DrK.dr (DrK.alloc (DrK.dr (DrK.set (DrK.exb (DrK.alloc (DrK.dr (DrK.rf b w) j1) _) kk2 (by omega) hbw) _ _ _) k4) _) k5) (Nat.le_refl _) ⟨?_, ?_, ?_⟩⟩
        · exact (((((HR.out.alloc _).exb kk2 (by omega)).set (by omega)).dr k4 (by omega)).alloc _).dr k5 (by omega)
        · rw [List.length_append]
          exact ((((((HT.out.alloc _).exb kk2 (by omega)).set1 (v := _)).dr k4 (by omega)).alloc _).dr k5 (by omega))
        · exact ownsRow_dr ((ownsRow_dr (ownsRow_set hA2.own _ (by omega)) k4 hbB).alloc _) k5 hbB
      case measure => simp [intOf]; omega
    · go_wp2_with (fail)
      refine bodyPost_ret (v := _) (by simp [results, Tryd.results90, go_sem, r0, r1]; rfl) rfl ?_
      refine ⟨A1, c1, l, by omega, by omega, rfl, DrK.fin2 (p := fun W => W.ownsRow (w.heap.size + 2) 58 2 (.slice A1 l.length c1) l.length (l.flatMap kC)) (DrK.set (DrK.set (DrK.dr (DrK.rf b w) j1) _ _ _) _ _ _) (by omega) ?_⟩
      exact ownsRow_set (ownsRow_set HROW.out _ (by omega)) _ (by omega)
theorem bend_any (w0 : World) (b B : Nat) {n n0 : Nat} [hs0 : Src w0 b n0] (nm : ByteArray) (A : Option Addr) (c : Nat) (l : List Ky) (w : World) [hs : Src w b n] (hn : n ≤ 1000000) (hl1 : 1 ≤ l.length) (hl : l.length ≤ 10) (hnm : nm.size ≤ 1000) (hw0 : Hid (DrK b w0 w)) (hB : w0.heap.size ≤ B) (hown : Hid (w.ownsRow B 58 2 (.slice A l.length c) l.length (l.flatMap kC))) :
    Calls Tryd.prog 89 #[.pointer (some ⟨b, 0, none⟩), .agg #[.string nm, .slice A l.length c]] w fun e w' => ∃ (nm' : ByteArray) (A' : Option Addr) (c' : Nat) (l' : List Ky), nm'.size ≤ 1000 ∧ l'.length ≤ 100 ∧ e = .returned (.agg #[.string nm', .slice A' l'.length c']) ∧ ∃ k : Dr b (n + 60) w0, w' = k.v ∧ Rd 2 kC k.v A' l' ∧ FarA B A' := by
  have hbw : b < w.heap.size := hs.lt
  have hb0 : b < w0.heap.size := hs0.lt
  have hsz := hw0.out.size
  have hbB : b < B := by omega
  obtain ⟨g, cap, hA⟩ := row_form hown.out (by omega)
  cases hA
  obtain ⟨hg1, hg2⟩ := hown.out.lt g rfl
  haveI : LtW g w := ⟨hg2⟩
  haveI : LeB w0.heap.size g := ⟨by omega⟩
  haveI : LeB w0.heap.size w.heap.size := ⟨hsz⟩
  haveI : LeB w0.heap.size (w.heap.size + 1) := ⟨by omega⟩
  haveI : NeB g b := ⟨by omega⟩
  haveI : NeB w.heap.size b := ⟨by omega⟩
  haveI : NeB (w.heap.size + 1) b := ⟨by omega⟩
  haveI : LeB (b + 1) g := ⟨by omega⟩
  haveI : LeB (b + 1) w.heap.size := ⟨by omega⟩
  haveI : LeB (b + 1) (w.heap.size + 1) := ⟨by omega⟩
  have f0 : w.frozen? ⟨g, 0, none⟩ = false := hown.out.frozenAt 0
  have f1 : w.frozen? ⟨g, 1, none⟩ = false := hown.out.frozenAt 1
  have hl00 : 0 < l.length := hl1
  obtain ⟨c0, c1⟩ := row_c0 hown.out hl00
  have hl0 : (0 : Int) < (l.length : Int) := by omega
  go_enter Tryd.func89, Tryd.ntmps89
  go_upto_region 3 with ((go_at_call 85; go_loud (refine (pick_any b _ _ ?_ ?_).mono ?_); (· omega); (· omega); rintro e w' ⟨x, ⟨hx1, hx2⟩, rfl, k, rfl⟩))
  · go_wp2_with ((go_at_call 91; go_loud (refine (text_lit b _ _ _ _ _ _ ?_ ?_ ?_ ?_ ?_ ?_ ?_).mono ?_); (· simp); (· exact (inferInstance : LtW b _).h); (· omega); (· omega); (· omega); (· rfl); (· rfl); rintro e w' ⟨s, hs, rfl, k, rfl⟩))
    (refine bodyPost_ret (v := _) (by simp [results, Tryd.results89, go_sem, *]; rfl) rfl ?_)
    exact ⟨s, some ⟨g, 0, none⟩, c, l, hs, by omega, rfl, DrK.fin2 (p := fun W => Rd 2 kC W (some ⟨g, 0, none⟩) l ∧ FarA B (some ⟨g, 0, none⟩)) (by (repeat (first | (with_reducible exact hw0.out) | (with_reducible exact DrK.rf _ _) | (with_reducible refine DrK.alloc ?_ _) | (with_reducible refine DrK.dr ?_ _) | (with_reducible refine DrK.ex ?_ _) | (with_reducible refine DrK.drew ?_) | (with_reducible refine DrK.set ?_ _ _ _) | (with_reducible refine DrK.exb ?_ _ hB hb0)))) (by omega) ⟨(rd_row (B := B) (c := c) (by (repeat (first | (with_reducible exact hown.out) | (with_reducible refine World.ownsRow.alloc ?_ _) | (with_reducible refine ownsRow_dr ?_ _ hbB) | (with_reducible refine World.ownsRow.drew ?_) | (with_reducible refine ownsRow_setn ?_ _ (by omega)) | (with_reducible refine row_put0 ?_ _ hl00) | (with_reducible refine row_put1 ?_ _ hl00))))), fun x o e => by first | (cases e; omega) | (subst e; have := (HROW.out.lt x rfl).1; omega)⟩⟩
  · have hkk : B ≤ k.v.heap.size := by have := k.size; simp at this; omega
    (refine bodyPost_ret (v := _) (by simp [results, Tryd.results89, go_sem, *]; rfl) rfl ?_)
    exact ⟨nm, some ⟨k.v.heap.size, 0, none⟩, 0, [], hnm, by simp, rfl, DrK.fin2 (p := fun W => Rd 2 kC W (some ⟨k.v.heap.size, 0, none⟩) [] ∧ FarA B (some ⟨k.v.heap.size, 0, none⟩)) (by (repeat (first | (with_reducible exact hw0.out) | (with_reducible exact DrK.rf _ _) | (with_reducible refine DrK.alloc ?_ _) | (with_reducible refine DrK.dr ?_ _) | (with_reducible refine DrK.ex ?_ _) | (with_reducible refine DrK.drew ?_) | (with_reducible refine DrK.set ?_ _ _ _) | (with_reducible refine DrK.exb ?_ _ hB hb0)))) (by omega) ⟨inferInstance, fun x o e => by first | (cases e; omega) | (subst e; have := (HROW.out.lt x rfl).1; omega)⟩⟩
  · go_region_with ((go_at_call 66; go_loud (refine (among_w 10000000000 b _ #[.int .i64 (-1), .int .i64 9999999] _ _ _ ?_ ?_ ?_ ?_ ?_ ?_).mono ?_); (· intro i; go_loud (simp [go_sem]; done)); (· omega); (· omega); (· omega); (· rfl); (· repeat (first | exact trivial | refine ⟨⟨_, rfl, by omega, by omega⟩, ?_⟩)); rintro e w' ⟨y, ⟨hy1, hy2⟩, rfl, k2, rfl⟩))
    all_goals
      go_wp2
      (refine bodyPost_ret (v := _) (by simp [results, Tryd.results89, go_sem, *]; rfl) rfl ?_)
      exact ⟨nm, some ⟨g, 0, none⟩, c, l.set 0 ⟨y, (l[0]).v⟩, hnm, by rw [List.length_set]; omega, by rw [List.length_set], DrK.fin2 (p := fun W => Rd 2 kC W (some ⟨g, 0, none⟩) (l.set 0 ⟨y, (l[0]).v⟩) ∧ FarA B (some ⟨g, 0, none⟩)) (by (repeat (first | (with_reducible exact hw0.out) | (with_reducible exact DrK.rf _ _) | (with_reducible refine DrK.alloc ?_ _) | (with_reducible refine DrK.dr ?_ _) | (with_reducible refine DrK.ex ?_ _) | (with_reducible refine DrK.drew ?_) | (with_reducible refine DrK.set ?_ _ _ _) | (with_reducible refine DrK.exb ?_ _ hB hb0)))) (by omega) ⟨(rd_row2 (B := B) (c := c) (n := l.length) (by (repeat (first | (with_reducible exact hown.out) | (with_reducible refine World.ownsRow.alloc ?_ _) | (with_reducible refine ownsRow_dr ?_ _ hbB) | (with_reducible refine World.ownsRow.drew ?_) | (with_reducible refine ownsRow_setn ?_ _ (by omega)) | (with_reducible refine row_put0 ?_ _ hl00) | (with_reducible refine row_put1 ?_ _ hl00)))) (List.length_set ..)), fun x o e => by first | (cases e; omega) | (subst e; have := (HROW.out.lt x rfl).1; omega)⟩⟩
  · go_region_with ((go_at_call 66; go_loud (refine (among_w 10000000000 b _ #[.int .i64 (-1000000), .int .i64 (-1000001), .int .i64 1000001] _ _ _ ?_ ?_ ?_ ?_ ?_ ?_).mono ?_); (· intro i; go_loud (simp [go_sem]; done)); (· omega); (· omega); (· omega); (· rfl); (· repeat (first | exact trivial | refine ⟨⟨_, rfl, by omega, by omega⟩, ?_⟩)); rintro e w' ⟨y, ⟨hy1, hy2⟩, rfl, k2, rfl⟩))
    all_goals
      go_wp2
      (refine bodyPost_ret (v := _) (by simp [results, Tryd.results89, go_sem, *]; rfl) rfl ?_)
      exact ⟨nm, some ⟨g, 0, none⟩, c, l.set 0 ⟨(l[0]).t, y⟩, hnm, by rw [List.length_set]; omega, by rw [List.length_set], DrK.fin2 (p := fun W => Rd 2 kC W (some ⟨g, 0, none⟩) (l.set 0 ⟨(l[0]).t, y⟩) ∧ FarA B (some ⟨g, 0, none⟩)) (by (repeat (first | (with_reducible exact hw0.out) | (with_reducible exact DrK.rf _ _) | (with_reducible refine DrK.alloc ?_ _) | (with_reducible refine DrK.dr ?_ _) | (with_reducible refine DrK.ex ?_ _) | (with_reducible refine DrK.drew ?_) | (with_reducible refine DrK.set ?_ _ _ _) | (with_reducible refine DrK.exb ?_ _ hB hb0)))) (by omega) ⟨(rd_row2 (B := B) (c := c) (n := l.length) (by (repeat (first | (with_reducible exact hown.out) | (with_reducible refine World.ownsRow.alloc ?_ _) | (with_reducible refine ownsRow_dr ?_ _ hbB) | (with_reducible refine World.ownsRow.drew ?_) | (with_reducible refine ownsRow_setn ?_ _ (by omega)) | (with_reducible refine row_put0 ?_ _ hl00) | (with_reducible refine row_put1 ?_ _ hl00)))) (List.length_set ..)), fun x o e => by first | (cases e; omega) | (subst e; have := (HROW.out.lt x rfl).1; omega)⟩⟩
  · go_wp2_with ((go_at_call 66; go_loud (refine (among_l 100 b _ _ _ _ _ _ ?_ ?_ ?_ ?_ ?_ ?_ ?_).mono ?_); (· simp); (· exact (inferInstance : LtW b _).h); (· omega); (· omega); (· omega); (· rfl); (· repeat (first | exact trivial | refine ⟨⟨_, rfl, by omega, by omega⟩, ?_⟩)); rintro e w' ⟨z, ⟨hz1, hz2⟩, rfl, k3, rfl⟩))
    have hk3 : w.heap.size + 2 ≤ k3.v.heap.size := by have h1 := k.size; have h2 := k3.size; simp at h1 h2; omega
    go_loopw [6] (fun t wr => ∃ (m : List Ky) (A : Option Addr) (c : Nat), t = .int .i64 m.length ∧ m.length ≤ 100 ∧ ∃ j : Dr b (n + 2 + 2) w0, wr = j.v ∧ TkG (w.heap.size + 1) w.heap.size (w.heap.size + 2) nm A c m j.v) (fun t _ => (100 - intOf t).toNat)
    case atStart =>
      refine ⟨[], some ⟨k3.v.heap.size, 0, none⟩, 0, rfl, by simp, DrK.fin2 (p := TkG (w.heap.size + 1) w.heap.size (w.heap.size + 2) nm (some ⟨k3.v.heap.size, 0, none⟩) 0 []) (by (repeat (first | (with_reducible exact hw0.out) | (with_reducible exact DrK.rf _ _) | (with_reducible refine DrK.alloc ?_ _) | (with_reducible refine DrK.dr ?_ _) | (with_reducible refine DrK.ex ?_ _) | (with_reducible refine DrK.drew ?_) | (with_reducible refine DrK.set ?_ _ _ _) | (with_reducible refine DrK.exb ?_ _ hB hb0)))) (by omega) ⟨?_, ?_, ?_⟩⟩
      · exact (((((Blk.mk1 w _ _ _ _).dr k (by omega)).alloc _).dr k3 (by omega)).alloc _).set (by omega)
      · exact ((((((Blk.mk0 w _ _ _).alloc _).dr k (by omega)).alloc _).dr k3 (by omega)).alloc _).set1
      · exact ownsRow_setn (row_made k3.v (w.heap.size + 2) hk3 58 2 kC) _ (by omega)
    case round =>
      obtain ⟨m, A1, c1, rfl, hm, j1, rfl, ⟨hr, hT, hrow⟩⟩ := hrel
      have HR := hid hr
      have HT := hid hT
      obtain ⟨hlt, t0, t1, f0, f1⟩ := hT
      obtain ⟨hltr, r0, r1, g0, g1⟩ := hr
      have HROW := hid hrow
      clear hrow
      haveI lebTw : LeB (w.heap.size + 2) j1.v.heap.size := ⟨hltr.h⟩
      by_cases h0 : (m.length : Int) < z
      · go_wp2_with ((at_builtin; go_loud (refine wpList_appZ kC _ rfl _ _ _ rfl (w.heap.size + 2) ?_ _ _ _ _ Tryd.underlying28 infoKey rfl (by omega) (fun _ => ⟨rfl, by simp [kC, Value.oneCell']⟩) (.slice A1 m.length c1) (m) rfl ((HROW.out.alloc _)) ((⟨100 * m.length, m.length⟩ : Ky)) _ _ rfl (cellsB (by simp)) ?_ ?_ ?_; (· exact LeB.h); (· (try simp); (try omega)); (· (try simp); (try omega)); intro v2 kk2 hA2; obtain ⟨A2, c2, rfl, hO2, hF2⟩ := Ow.of_row (f := kC) (fun _ => rfl) hA2.own; haveI hs2 := Src.exb (inferInstance : Src _ b (n + 2 + 2)) kk2 (by omega); have y0 : kk2.v.cell? ⟨(w.heap.size), 0, none⟩ = some (.string nm) := (World.cell?_of_block (kk2.h.block ((w.heap.size)) (Nat.lt_succ_of_lt (Nat.lt_succ_self _)))).trans (by simp [go_sem, t0]); have y1 : kk2.v.cell? ⟨(w.heap.size), 1, none⟩ = some (.slice A1 m.length c1) := (World.cell?_of_block (kk2.h.block ((w.heap.size)) (Nat.lt_succ_of_lt (Nat.lt_succ_self _)))).trans (by simp [go_sem, t1]); have yf0 : kk2.v.frozen? ⟨(w.heap.size), 0, none⟩ = false := (fz_blk (kk2.h.block ((w.heap.size)) (Nat.lt_succ_of_lt (Nat.lt_succ_self _)))).trans (by simp [go_sem, f0]); have yf1 : kk2.v.frozen? ⟨(w.heap.size), 1, none⟩ = false := (fz_blk (kk2.h.block ((w.heap.size)) (Nat.lt_succ_of_lt (Nat.lt_succ_self _)))).trans (by simp [go_sem, f1]); haveI yl : LtW ((w.heap.size)) kk2.v := ⟨Nat.lt_of_lt_of_le (LtW.h (w := _)) kk2.h.size⟩; haveI yb : LeB (w.heap.size + 2) kk2.v.heap.size := ⟨Nat.le_trans LeB.h kk2.h.size⟩)))
        go_roundw
        case rel =>
          refine ⟨m ++ [⟨100 * m.length, m.length⟩], A2, c2, by simp, by simp; omega, DrK.fin2 (p := TkG (w.heap.size + 1) w.heap.size (w.heap.size + 2) nm A2 c2 (m ++ [⟨100 * m.length, m.length⟩])) (DrK.set (DrK.exb (DrK.alloc (DrK.dr (DrK.rf b w0) j1) _) kk2 (by omega) hb0) _ _ _) (by omega) ⟨?_, ?_, ?_⟩⟩
          · exact ((HR.out.alloc _).exb kk2 (by omega)).set (by omega)
          · rw [List.length_append]
            exact ((HT.out.alloc _).exb kk2 (by omega)).set1
          · exact ownsRow_set hA2.own _ (by omega)
        case measure => simp [intOf]; omega
      · go_wp2_with (fail)
        (refine bodyPost_ret (v := _) (by simp [results, Tryd.results89, go_sem, *]; rfl) rfl ?_)
        exact ⟨nm, hnm, A1, c1, m, hm, rfl, DrK.fin2 (p := fun W => Rd 2 kC W A1 m ∧ FarA B A1) (by (repeat (first | (with_reducible exact hw0.out) | (with_reducible exact DrK.rf _ _) | (with_reducible refine DrK.alloc ?_ _) | (with_reducible refine DrK.dr ?_ _) | (with_reducible refine DrK.ex ?_ _) | (with_reducible refine DrK.drew ?_) | (with_reducible refine DrK.set ?_ _ _ _) | (with_reducible refine DrK.exb ?_ _ hB hb0)))) (by omega) ⟨(rd_row (B := w.heap.size + 2) (c := c1) (ownsRow_set (ownsRow_set HROW.out _ (by omega)) _ (by omega))), fun x o e => by first | (cases e; omega) | (subst e; have := (HROW.out.lt x rfl).1; omega)⟩⟩
  · haveI : LeB B w.heap.size := ⟨by omega⟩
    have hgT : (Value.slice (some ⟨g, 0, none⟩) l.length c).ownBlock ≠ some w.heap.size := own_ne hown.out (Nat.le_refl _)
    have hgT1 : (Value.slice (some ⟨g, 0, none⟩) l.length c).ownBlock ≠ some (w.heap.size + 1) := own_ne hown.out (Nat.le_succ _)
    go_region_law (first | (refine step_appZ kC rfl (.tmp 61) (.tmp 66) 28 rfl B ?_ 58 (.agg #[.int .i64 0, .int .i64 0]) 2 16 Tryd.underlying28 infoKey rfl (by omega) (fun _ => ⟨rfl, by simp [kC, Value.oneCell']⟩) (.slice (some ⟨g, 0, none⟩) l.length c) l (by simp [Act.eval]) ?_ (⟨y, 0⟩ : Ky) _ _ rfl (cellsB ?_) ?_ ?_ ?_; (· exact LeB.h); (· (repeat (first | (with_reducible exact hown.out) | (with_reducible refine World.ownsRow.alloc ?_ _) | (with_reducible refine ownsRow_dr ?_ _ hbB) | (with_reducible refine World.ownsRow.drew ?_) | (with_reducible refine ownsRow_setn ?_ _ (by omega)) | (with_reducible refine row_put0 ?_ _ hl00) | (with_reducible refine row_put1 ?_ _ hl00)))); (· simp); (· omega); (· omega); intro v' k' hA; obtain ⟨A2, c2, rfl, hO2, hF2⟩ := Ow.of_row (f := kC) (fun _ => rfl) hA.own; have y0 : k'.v.cell? ⟨w.heap.size, 0, none⟩ = some (.string nm) := (World.cell?_of_block (a := ⟨w.heap.size, 0, none⟩) (hA.keep w.heap.size LtW.h hgT)).trans (by simp [go_sem]); have y1 : k'.v.cell? ⟨w.heap.size, 1, none⟩ = some (.slice (some ⟨g, 0, none⟩) l.length c) := (World.cell?_of_block (a := ⟨w.heap.size, 1, none⟩) (hA.keep w.heap.size LtW.h hgT)).trans (by simp [go_sem]); have yf1 : k'.v.frozen? ⟨w.heap.size, 1, none⟩ = false := (fz_blk (hA.keep w.heap.size LtW.h hgT)).trans (by simp [go_sem]); have z0 : k'.v.cell? ⟨w.heap.size + 1, 0, none⟩ = some (.string ⟨#[]⟩) := (World.cell?_of_block (a := ⟨w.heap.size + 1, 0, none⟩) (hA.keep (w.heap.size + 1) LtW.h hgT1)).trans (by simp [go_sem]); have z1 : k'.v.cell? ⟨w.heap.size + 1, 1, none⟩ = some (.slice none 0 0) := (World.cell?_of_block (a := ⟨w.heap.size + 1, 1, none⟩) (hA.keep (w.heap.size + 1) LtW.h hgT1)).trans (by simp [go_sem]); have zf0 : k'.v.frozen? ⟨w.heap.size + 1, 0, none⟩ = false := (fz_blk (hA.keep (w.heap.size + 1) LtW.h hgT1)).trans (by simp [go_sem]); have zf1 : k'.v.frozen? ⟨w.heap.size + 1, 1, none⟩ = false := (fz_blk (hA.keep (w.heap.size + 1) LtW.h hgT1)).trans (by simp [go_sem]); haveI yl : LtW (w.heap.size + 1) k'.v := ⟨Nat.lt_of_lt_of_le LtW.h k'.h.size⟩; haveI yl0 : LtW w.heap.size k'.v := ⟨Nat.lt_of_succ_lt yl.h⟩; haveI hs9 := Src.exb (inferInstance : Src _ b (n + 2 + 2)) k' hbB) | (go_simp; (go_at_call 66; go_loud (refine (among_w 10000000000 b _ #[.int .i64 7200000, .int .i64 7200001] _ _ _ ?_ ?_ ?_ ?_ ?_ ?_).mono ?_); (· intro i; go_loud (simp [go_sem]; done)); (· omega); (· omega); (· omega); (· rfl); (· repeat (first | exact trivial | refine ⟨⟨_, rfl, by omega, by omega⟩, ?_⟩)); rintro e w' ⟨y, ⟨hy1, hy2⟩, rfl, k2, rfl⟩)))
    all_goals
      go_wp2
      obtain ⟨g2, cap2, e2⟩ := row_form hA.own (by simp)
      cases e2
      have n1 := hA.ne (b := w.heap.size) LtW.h hgT
      have n2 := hA.ne (b := w.heap.size + 1) LtW.h hgT1
      have n1 : w.heap.size ≠ g2 := fun e => n1 (by rw [e]; rfl)
      have n2 : w.heap.size + 1 ≠ g2 := fun e => n2 (by rw [e]; rfl)
      have hgg2 := (hA.own.lt g2 rfl).1
      (refine bodyPost_ret (v := _) (by simp [results, Tryd.results89, go_sem, *]; rfl) rfl ?_)
      exact ⟨nm, some ⟨g2, 0, none⟩, c2, l ++ [⟨y, 0⟩], hnm, by simp; omega, by simp, DrK.fin2 (p := fun W => Rd 2 kC W (some ⟨g2, 0, none⟩) (l ++ [⟨y, 0⟩]) ∧ FarA B (some ⟨g2, 0, none⟩)) (by (repeat (first | (with_reducible exact hw0.out) | (with_reducible exact DrK.rf _ _) | (with_reducible refine DrK.alloc ?_ _) | (with_reducible refine DrK.dr ?_ _) | (with_reducible refine DrK.ex ?_ _) | (with_reducible refine DrK.drew ?_) | (with_reducible refine DrK.set ?_ _ _ _) | (with_reducible refine DrK.exb ?_ _ hB hb0)))) (by omega) ⟨(rd_row2 (B := B) (c := c2) (n := (l ++ [(⟨y, 0⟩ : Ky)]).length) (ownsRow_setn (ownsRow_setn (ownsRow_setn hA.own _ n1) _ n2) _ n2) rfl), fun x o e => by first | (cases e; omega) | (subst e; have := (HROW.out.lt x rfl).1; omega)⟩⟩
  · (refine bodyPost_ret (v := _) (by simp [results, Tryd.results89, go_sem, *]; rfl) rfl ?_)
    exact ⟨nm, some ⟨g, 0, none⟩, c, l, hnm, by omega, rfl, DrK.fin2 (p := fun W => Rd 2 kC W (some ⟨g, 0, none⟩) l ∧ FarA B (some ⟨g, 0, none⟩)) (by (repeat (first | (with_reducible exact hw0.out) | (with_reducible exact DrK.rf _ _) | (with_reducible refine DrK.alloc ?_ _) | (with_reducible refine DrK.dr ?_ _) | (with_reducible refine DrK.ex ?_ _) | (with_reducible refine DrK.drew ?_) | (with_reducible refine DrK.set ?_ _ _ _) | (with_reducible refine DrK.exb ?_ _ hB hb0)))) (by omega) ⟨(rd_row (B := B) (c := c) (by (repeat (first | (with_reducible exact hown.out) | (with_reducible refine World.ownsRow.alloc ?_ _) | (with_reducible refine ownsRow_dr ?_ _ hbB) | (with_reducible refine World.ownsRow.drew ?_) | (with_reducible refine ownsRow_setn ?_ _ (by omega)) | (with_reducible refine row_put0 ?_ _ hl00) | (with_reducible refine row_put1 ?_ _ hl00))))), fun x o e => by first | (cases e; omega) | (subst e; have := (HROW.out.lt x rfl).1; omega)⟩⟩
end
end Go.Proofs.YtdhflckombkimaaDoor
namespace Go.Proofs.YtdhflckombkimaaDoor
open Go.RowKit
section
set_option maxHeartbeats 3200000
set_option maxRecDepth 20000
theorem rd_set {α : Type} {sz : Nat} {f : α → List Value} {w : World} {A : Option Addr} {l : List α} (h : Rd sz f w A l) {x o : Nat} (v : Value) (hA : ∀ x' o', A = some ⟨x', o', none⟩ → x' ≠ x) : Rd sz f (w.setCell ⟨x, o, none⟩ v) A l :=
  ⟨h.len, fun h0 => by
    obtain ⟨b', o', e, hb, hc⟩ := h.at_ h0
    exact ⟨b', o', e, ⟨by rw [size_setCell']; exact hb.h⟩, fun i hi j u hu => (World.cell?_setCell_other _ _ _ _ (fun e' => hA b' o' e (congrArg Addr.block e').symm)).trans (hc i hi j u hu)⟩⟩
theorem row_mono {w : World} {base base' : Nat} {e : TypeId} {size : Nat} {v : Value} {n : Nat} {xs : List Value} (h : w.ownsRow base e size v n xs) (hb : base' ≤ base) : w.ownsRow base' e size v n xs := by
  refine ⟨h.1, ?_⟩
  rcases h.2 with h2 | ⟨g, cap, cur, h1, h2, h3⟩
  · exact .inl h2
  · exact .inr ⟨g, cap, cur, h1, Nat.le_trans hb h2, h3⟩
/-- a drawn track -/
def TkP (b m : Nat) (w : World) (e : Ending) (w' : World) : Prop := ∃ (nm' : ByteArray) (A' : Option Addr) (c' : Nat) (l' : List Ky), nm'.size ≤ 1000 ∧ l'.length ≤ 100 ∧ e = .returned (.agg #[.string nm', .slice A' l'.length c']) ∧ ∃ k : Dr b m w, w' = k.v ∧ Rd 2 kC k.v A' l' ∧ FarA w.heap.size A'
theorem drawTk_any (b : Nat) {n : Nat} (w : World) [hs : Src w b n] (hn : n ≤ 100000) :
    Calls Tryd.prog 61 #[.pointer (some ⟨b, 0, none⟩)] w (TkP b (n + 200) w) := by
  go_enter Tryd.func61, Tryd.ntmps61
  have hbw : b < w.heap.size := hs.lt
  go_wp2_with (first | (go_at_call 91; go_loud (refine (text_lit b _ _ _ _ _ _ ?_ ?_ ?_ ?_ ?_ ?_ ?_).mono ?_); (· simp); (· exact (inferInstance : LtW b _).h); (· omega); (· omega); (· omega); (· rfl); (· rfl); rintro e w' ⟨s, hs, rfl, k, rfl⟩) | (go_at_call 90; go_loud ((refine (drawTkOk_any b s _ ?_).mono ?_); (· omega); rintro e w' ⟨A, c, l, h1, h2, rfl, k2, rfl, hrow⟩)) | (go_at_call 89; go_loud ((refine (bend_any (w.alloc (.cells #[.string ⟨#[]⟩, .slice none 0 0] 30)) b (w.heap.size + 1) s A c l _ ?_ h1 h2 hs ?_ ?_ ?_).mono ?_); (· omega); (· exact hid (DrK.dr (DrK.dr (DrK.alloc (DrK.rf b _) _) k) k2)); (· simp); (· exact hid (row_mono hrow (Nat.le_trans (by have := k.size; simp at this; omega) (Nat.le_add_right _ 2)))); rintro e w' ⟨nm', A', c', l', g1, g2, rfl, k3, rfl, hr, hna⟩)))
  refine bodyPost_ret (v := _) (by simp [results, Tryd.results61, go_sem]; rfl) rfl ?_
  refine ⟨nm', A', c', l', g1, g2, rfl, DrK.fin2 (p := fun W => Rd 2 kC W A' l' ∧ FarA w.heap.size A') (DrK.set (DrK.set (DrK.dr (DrK.alloc (n := n) (DrK.rf b w) _) k3) _ _ _) _ _ _) (by omega) ⟨rd_set (rd_set hr _ fun x o e => by have := hna x o e; omega) _ fun x o e => by have := hna x o e; omega, fun x o e => by have := hna x o e; omega⟩⟩
theorem drawTm_any (b : Nat) {n : Nat} (A : Option Addr) (c : Nat) (l : List Ky) (g : Nat) (w : World) [hs : Src w b n] [hg : LtW g w] [hng : NeB g b] [hr : Rd 2 kC w A l] [hA : NaB b A] (hn : n ≤ 100000) (hl : l.length ≤ 100) (c1 : w.cell? ⟨g, 1, none⟩ = some (.slice A l.length c)) :
    Calls Tryd.prog 62 #[.pointer (some ⟨b, 0, none⟩), .pointer (some ⟨g, 0, none⟩)] w (DrInt b (n + 10) (fun _ => True) w) := by
  by_cases h0 : 0 < l.length
  · obtain ⟨g', o, rfl, hg', hc⟩ := hr.at_ h0
    haveI : NeB g' b := ⟨hA.h g' o rfl⟩
    have HC := hid hc
    clear hc hr hA
    have h0i : (0 : Int) < (l.length : Int) := by omega
    go_enter Tryd.func62, Tryd.ntmps62
    go_upto_region 4 with (first | (go_at_call 92; go_loud (refine (srcOne_any b _ _ ?_ ?_).mono ?_); (· omega); (· omega); rintro e w' ⟨x, rfl, k, rfl⟩) | (go_at_call 66; go_loud (refine (among_l 7200001 b _ _ _ _ _ _ ?_ ?_ ?_ ?_ ?_ ?_ ?_).mono ?_); (· simp); (· exact (inferInstance : LtW b _).h); (· omega); (· omega); (· omega); (· rfl); (· repeat (first | exact trivial | refine ⟨⟨_, rfl, by omega, by omega⟩, ?_⟩)); rintro e w' ⟨y, ⟨hy1, hy2⟩, rfl, k2, rfl⟩) | (go_at_call 85; go_loud (refine (pick_any b _ _ ?_ ?_).mono ?_); (· omega); (· omega); rintro e w' ⟨x, ⟨hx1, hx2⟩, rfl, k, rfl⟩))
    · (refine bodyPost_ret (v := _) (by simp [results, Tryd.results62, go_sem]; rfl) rfl ?_; exact ⟨_, trivial, rfl, (DrK.fin (by (repeat (first | (with_reducible exact DrK.rf _ _) | (with_reducible refine DrK.alloc ?_ _) | (with_reducible refine DrK.dr ?_ _) | (with_reducible refine DrK.ex ?_ _) | (with_reducible refine DrK.drew ?_) | (with_reducible refine DrK.set ?_ _ _ _)))) (by omega))⟩)
    · go_region_with ((go_at_call 85; go_loud (refine (pick_any b _ _ ?_ ?_).mono ?_); (· omega); (· omega); rintro e w' ⟨x, ⟨hx1, hx2⟩, rfl, k3, rfl⟩; obtain ⟨i, rfl⟩ := Int.eq_ofNat_of_zero_le hx1; have hi : i < l.length := (by omega); have hci := HC.out i hi 0 _ rfl; have hii : (i : Int) < (l.length : Int) := (by omega); have hi0 : (0 : Int) ≤ (i : Int) := (by omega); simp only [Nat.add_zero] at hci))
      all_goals
        go_wp2
        (refine bodyPost_ret (v := _) (by simp [results, Tryd.results62, go_sem]; rfl) rfl ?_; exact ⟨_, trivial, rfl, (DrK.fin (by (repeat (first | (with_reducible exact DrK.rf _ _) | (with_reducible refine DrK.alloc ?_ _) | (with_reducible refine DrK.dr ?_ _) | (with_reducible refine DrK.ex ?_ _) | (with_reducible refine DrK.drew ?_) | (with_reducible refine DrK.set ?_ _ _ _)))) (by omega))⟩)
    · (refine bodyPost_ret (v := _) (by simp [results, Tryd.results62, go_sem]; rfl) rfl ?_; exact ⟨_, trivial, rfl, (DrK.fin (by (repeat (first | (with_reducible exact DrK.rf _ _) | (with_reducible refine DrK.alloc ?_ _) | (with_reducible refine DrK.dr ?_ _) | (with_reducible refine DrK.ex ?_ _) | (with_reducible refine DrK.drew ?_) | (with_reducible refine DrK.set ?_ _ _ _)))) (by omega))⟩)
  · obtain rfl : l = [] := List.eq_nil_of_length_eq_zero (by omega)
    go_enter Tryd.func62, Tryd.ntmps62
    go_wp2_with (first | (go_at_call 92; go_loud (refine (srcOne_any b _ _ ?_ ?_).mono ?_); (· omega); (· omega); rintro e w' ⟨x, rfl, k, rfl⟩) | (go_at_call 66; go_loud (refine (among_l 7200001 b _ _ _ _ _ _ ?_ ?_ ?_ ?_ ?_ ?_ ?_).mono ?_); (· simp); (· exact (inferInstance : LtW b _).h); (· omega); (· omega); (· omega); (· rfl); (· repeat (first | exact trivial | refine ⟨⟨_, rfl, by omega, by omega⟩, ?_⟩)); rintro e w' ⟨y, ⟨hy1, hy2⟩, rfl, k2, rfl⟩) | (go_at_call 85; go_loud (refine (pick_any b _ _ ?_ ?_).mono ?_); (· omega); (· omega); rintro e w' ⟨x, ⟨hx1, hx2⟩, rfl, k, rfl⟩))
    all_goals
      refine bodyPost_ret (v := _) (by simp [results, Tryd.results62, go_sem]; rfl) rfl ?_
      exact ⟨_, trivial, rfl, (DrK.fin (by (repeat (first | (with_reducible exact DrK.rf _ _) | (with_reducible refine DrK.alloc ?_ _) | (with_reducible refine DrK.dr ?_ _) | (with_reducible refine DrK.ex ?_ _) | (with_reducible refine DrK.drew ?_) | (with_reducible refine DrK.set ?_ _ _ _)))) (by omega))⟩
end
end Go.Proofs.YtdhflckombkimaaDoor
namespace Go.Proofs.YtdhflckombkimaaDoor
open Go.RowKit
section
set_option maxHeartbeats 3200000
set_option maxRecDepth 20000
theorem drawVA_any (A : Option Addr) (c : Nat) (l : List Int) (w : World) [hl : Rd 1 byC w A l] (hb : ∀ x ∈ l, 0 ≤ x ∧ x ≤ 255) :
    Calls Tryd.prog 29 #[.slice A l.length c] w fun e w' => ∃ (nm : ByteArray) (A' : Option Addr) (c' : Nat) (l' : List Ky) (u : Int), nm.size ≤ 1000 ∧ l'.length ≤ 100 ∧ e = .returned (.tuple #[.agg #[.string nm, .slice A' l'.length c'], .int .i64 u]) ∧ ∃ k : Ex w, w' = k.v ∧ Rd 2 kC k.v A' l' := by
  obtain ⟨b, hbw⟩ : ∃ b, b = w.heap.size + 1 := ⟨_, rfl⟩
  haveI : NeB w.heap.size b := ⟨by omega⟩
  haveI hle : LeB w.heap.size b := ⟨by omega⟩
  have HB := hid hbw
  clear hbw
  go_enter Tryd.func29, Tryd.ntmps29
  go_wp2_with (first | (go_at_call 54; go_loud (refine (from_g _ _ l b _ hb ?_).mono ?_; (· exact (by have := HB.out; simpa using this)); rintro e w' ⟨rfl, k, rfl, hs⟩)) | (go_at_call 61; go_loud ((refine (drawTk_any b _ ?_).mono ?_); (· omega); rintro e w' ⟨nm, A1, c1, l1, hn1, hl1, rfl, k1, rfl, hr1, hf1⟩; haveI hr1 := hr1; haveI hna1 : NaB b A1 := ⟨fun x o e => by have := hf1 x o e; have := hs.lt; omega⟩; have hnw : ∀ x o, A1 = some ⟨x, o, none⟩ → x ≠ w.heap.size := (fun x o e => by have := hf1 x o e; have := k.size; simp at this; omega); haveI : NeB k1.v.heap.size b := ⟨by have := k1.src.lt; omega⟩)) | (go_at_call 62; go_loud ((refine (drawTm_any b A1 c1 l1 k1.v.heap.size _ ?_ hl1 ?_).mono ?_); (· omega); (· simp [go_sem]); rintro e w' ⟨u, -, rfl, k3, rfl⟩)))
  go_region_with ((go_at_call 62; go_loud ((refine (drawTm_any b A1 c1 l1 k1.v.heap.size _ ?_ hl1 ?_).mono ?_); (· omega); (· simp [go_sem]); rintro e w' ⟨u, -, rfl, k3, rfl⟩)))
  all_goals
    go_wp2
    (refine bodyPost_ret (v := _) (by simp [results, Tryd.results29, go_sem]; rfl) rfl ?_)
    exact ⟨nm, A1, c1, l1, _, hn1, hl1, rfl, (ex_and (fun W => Rd 2 kC W A1 l1) (by (refine Ok.toEx ?_; (repeat (first | (with_reducible exact Ok.rf _) | (with_reducible refine Ok.alloc ?_ _) | (with_reducible refine Ok.ex ?_ _) | (with_reducible refine Ok.dr ?_ _) | (with_reducible refine Ok.drew ?_) | (with_reducible refine Ok.setCellI ?_ _ _ _) | (with_reducible refine Ok.exb ?_ _))))) (by repeat (first | (with_reducible refine rd_set ?_ _ hnw) | infer_instance)))⟩
theorem drawSK_any (A : Option Addr) (c : Nat) (l : List Int) (w : World) [hl : Rd 1 byC w A l] (hb : ∀ x ∈ l, 0 ≤ x ∧ x ≤ 255) :
    Calls Tryd.prog 33 #[.slice A l.length c] w fun e w' => ∃ (nm : ByteArray) (A' : Option Addr) (c' : Nat) (l' : List Ky) (x : Ky), nm.size ≤ 1000 ∧ l'.length ≤ 100 ∧ e = .returned (.tuple #[.agg #[.string nm, .slice A' l'.length c'], .agg #[.int .i64 x.t, .int .i64 x.v]]) ∧ ∃ k : Ex w, w' = k.v ∧ Rd 2 kC k.v A' l' := by
  obtain ⟨b, hbw⟩ : ∃ b, b = w.heap.size + 2 := ⟨_, rfl⟩
  haveI : NeB w.heap.size b := ⟨by omega⟩
  haveI : NeB (w.heap.size + 1) b := ⟨by omega⟩
  haveI hle : LeB w.heap.size b := ⟨by omega⟩
  have HB := hid hbw
  clear hbw
  go_enter Tryd.func33, Tryd.ntmps33
  go_wp2_with (first | (go_at_call 54; go_loud (refine (from_g _ _ l b _ hb ?_).mono ?_; (· exact (by have := HB.out; simpa using this)); rintro e w' ⟨rfl, k, rfl, hs⟩)) | (go_at_call 61; go_loud ((refine (drawTk_any b _ ?_).mono ?_); (· omega); rintro e w' ⟨nm, A1, c1, l1, hn1, hl1, rfl, k1, rfl, hr1, hf1⟩; haveI hr1 := hr1; haveI hna1 : NaB b A1 := ⟨fun x o e => by have := hf1 x o e; have := hs.lt; omega⟩; have hnw : ∀ x o, A1 = some ⟨x, o, none⟩ → x ≠ w.heap.size := (fun x o e => by have := hf1 x o e; have := k.size; simp at this; omega); haveI : NeB k1.v.heap.size b := ⟨by have := k1.src.lt; omega⟩)) | (go_at_call 62; go_loud ((refine (drawTm_any b A1 c1 l1 k1.v.heap.size _ ?_ hl1 ?_).mono ?_); (· omega); (· simp [go_sem]); rintro e w' ⟨u, -, rfl, k3, rfl⟩)) | (go_at_call 66; go_loud (refine (among_w 10000000000 b _ #[.int .i64 0, .int .i64 5, .int .i64 (-900), .int .i64 1000000, .int .i64 1000001, .int .i64 (-1000001), .int .i64 77] _ _ _ ?_ ?_ ?_ ?_ ?_ ?_).mono ?_); (· intro i; go_loud (simp [go_sem]; done)); (· omega); (· omega); (· omega); (· rfl); (· repeat (first | exact trivial | refine ⟨⟨_, rfl, by omega, by omega⟩, ?_⟩)); rintro e w' ⟨y, ⟨hy1, hy2⟩, rfl, k4, rfl⟩))
  have hnw2 : ∀ x o, A1 = some ⟨x, o, none⟩ → x ≠ w.heap.size + 1 := fun x o e => by have := hf1 x o e; have := k.size; simp at this; omega
  have hnw3 : ∀ x o, A1 = some ⟨x, o, none⟩ → 0 < l1.length → x ≠ k3.v.heap.size := fun x o e h0 => by
    obtain ⟨b', o', e', hb', -⟩ := hr1.at_ h0
    rw [e] at e'
    cases e'
    have h1 := hb'.h
    have h2 := k3.size
    simp only [World.size_alloc] at h2
    omega
  by_cases hl0 : 0 < l1.length
  · have hnw4 : ∀ x o, A1 = some ⟨x, o, none⟩ → x ≠ k3.v.heap.size := fun x o e => hnw3 x o e hl0
    go_region_with (fail)
    all_goals
      go_wp2
      (refine bodyPost_ret (v := _) (by simp [results, Tryd.results33, go_sem]; rfl) rfl ?_)
      exact ⟨nm, A1, c1, l1, ⟨u, y⟩, hn1, hl1, rfl, (ex_and (fun W => Rd 2 kC W A1 l1) (by (refine Ok.toEx ?_; (repeat (first | (with_reducible exact Ok.rf _) | (with_reducible refine Ok.alloc ?_ _) | (with_reducible refine Ok.ex ?_ _) | (with_reducible refine Ok.dr ?_ _) | (with_reducible refine Ok.drew ?_) | (with_reducible refine Ok.setCellI ?_ _ _ _) | (with_reducible refine Ok.exb ?_ _))))) (by repeat (first | (with_reducible refine Rd.drew (h := ?_)) | (with_reducible refine rd_set ?_ _ hnw) | (with_reducible refine rd_set ?_ _ hnw2) | (with_reducible refine rd_set ?_ _ hnw4) | infer_instance)))⟩
  · obtain rfl : l1 = [] := List.eq_nil_of_length_eq_zero (by omega)
    go_region_with (fail)
    all_goals
      go_wp2
      (refine bodyPost_ret (v := _) (by simp [results, Tryd.results33, go_sem]; rfl) rfl ?_)
      exact ⟨nm, A1, c1, [], ⟨u, y⟩, hn1, hl1, rfl, (ex_and (fun W => Rd 2 kC W A1 ([] : List Ky)) (by (refine Ok.toEx ?_; (repeat (first | (with_reducible exact Ok.rf _) | (with_reducible refine Ok.alloc ?_ _) | (with_reducible refine Ok.ex ?_ _) | (with_reducible refine Ok.dr ?_ _) | (with_reducible refine Ok.drew ?_) | (with_reducible refine Ok.setCellI ?_ _ _ _) | (with_reducible refine Ok.exb ?_ _))))) Rd.nil)⟩
end
end Go.Proofs.YtdhflckombkimaaDoor
