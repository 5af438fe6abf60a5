/-
  Marking and holding of tracks; rows of keys that are written in place; copies of keys. Conditions: those typed at each theorem.
  A track handed back if it is one: l14Done, checkedTrack, l14Own; ShiftTrack. Conditions: those typed at each theorem.
  l14Own, ShiftTrack. Conditions: those typed at each theorem.
  ShiftTrack. Conditions: those typed at each theorem.
  ShiftTrack of the specification. Conditions: those typed at each theorem.
  The law of ShiftTrack. Conditions: those typed at each theorem.
  StretchTrack. Conditions: those typed at each theorem.
  The law of StretchTrack. Conditions: those typed at each theorem.
  A track under construction: its block and the row of its keys. Conditions: those typed at each theorem.
-/
import Derived.Test.YtdhflckombkimaaDoorT21
import Derived.Test.YtdhflckombkimaaDoorT10
import Derived.Lib.SliceRun
namespace Go.Proofs.YtdhflckombkimaaDoor
open Go.RowKit
/-- a cell of another block stays -/
theorem But.cell {A : Option Addr} {w w' : World} (h : But A w w') {b : Nat} [hb : LtW b w] (hne : ∀ o, A ≠ some ⟨b, o, none⟩) (o : Nat) {u : Value} (hc : w.cell? ⟨b, o, none⟩ = some u) : w'.cell? ⟨b, o, none⟩ = some u :=
  (World.cell?_of_block (a := ⟨b, o, none⟩) (h.block b hb.h hne)).trans hc
theorem But.lt {A : Option Addr} {w w' : World} (h : But A w w') {b : Nat} [hb : LtW b w] : LtW b w' := ⟨Nat.lt_of_lt_of_le hb.h h.size⟩
/-- the block of A lies in w -/
def Inw (w : World) (A : Option Addr) : Prop := ∀ b o m, A = some ⟨b, o, m⟩ → b < w.heap.size
/-- block b is a row whose first n keys are as f tells -/
class KR (W : World) (b : Nat) (f : Nat → Ky) (n : Nat) : Prop where
  row : ∃ e N F, n * 2 ≤ N ∧ W.rowIs b e N F ∧ ∀ k, k < n → F (k * 2) = .int .i64 (f k).t ∧ F (k * 2 + 1) = .int .i64 (f k).v
/-- .. the time of key q set -/
def updT (f : Nat → Ky) (q : Nat) (t : Int) : Nat → Ky := fun k => if k = q then ⟨t, (f q).v⟩ else f k
namespace KR
variable {W : World} {b : Nat} {f : Nat → Ky} {n : Nat}
theorem lt (h : KR W b f n) : LtW b W := ⟨by obtain ⟨e, N, F, _, hr, _⟩ := h.row; exact hr.lt⟩
theorem block {W' : World} (h : KR W b f n) (he : W'.heap[b]? = W.heap[b]?) : KR W' b f n := ⟨by obtain ⟨e, N, F, hN, hr, hc⟩ := h.row; exact ⟨e, N, F, hN, hr.of_block he, hc⟩⟩
instance (priority := 900) ex [h : KR W b f n] (k : Ex W) : KR k.v b f n := h.block (k.block h.lt.h)
instance (priority := 900) alloc [h : KR W b f n] (o : Obj) : KR (W.alloc o) b f n := h.block (Below.heap_alloc _ _ _ h.lt.h)
instance (priority := 900) drew [h : KR W b f n] : KR W.drew b f n := ⟨h.row⟩
theorem c0 (h : KR W b f n) {k : Nat} (hk : k < n) : W.cell? ⟨b, k * 2, none⟩ = some (.int .i64 (f k).t) ∧ W.frozen? ⟨b, k * 2, none⟩ = false := by
  obtain ⟨e, N, F, hN, hr, hc⟩ := h.row
  have := hr.cell (i := k * 2) (by omega)
  rw [(hc k hk).1] at this
  exact ⟨this, hr.frozen _⟩
theorem c1 (h : KR W b f n) {k : Nat} (hk : k < n) : W.cell? ⟨b, k * 2 + 1, none⟩ = some (.int .i64 (f k).v) := by
  obtain ⟨e, N, F, hN, hr, hc⟩ := h.row
  have := hr.cell (i := k * 2 + 1) (by omega)
  rwa [(hc k hk).2] at this
theorem set (h : KR W b f n) (q : Nat) (t : Int) : KR (W.setCell ⟨b, q * 2, none⟩ (.int .i64 t)) b (updT f q t) n := ⟨by
  obtain ⟨e, N, F, hN, hr, hc⟩ := h.row
  refine ⟨e, N, _, hN, hr.set _ _, fun k hk => ?_⟩
  obtain ⟨h1, h2⟩ := hc k hk
  unfold updT
  by_cases hq : k = q
  · subst hq
    exact ⟨by simp, by rw [if_neg (by omega)]; simpa using h2⟩
  · exact ⟨by rw [if_neg (by omega), if_neg hq]; exact h1, by rw [if_neg (by omega), if_neg hq]; exact h2⟩⟩
theorem of_wr {l : List Ky} (h : Wr 2 kC W b l) : KR W b (kyG l) l.length := ⟨by
  obtain ⟨e, N, F, hN, hr, hc⟩ := h.row
  refine ⟨e, N, F, hN, hr, fun k hk => ?_⟩
  rw [kyG_at hk]
  exact ⟨hc k hk 0 _ rfl (by omega), hc k hk 1 _ rfl (by omega)⟩⟩
theorem wr (h : KR W b f n) (hn : n ≤ 9223372036854775807) {l : List Ky} (hl : l.length = n) (he : ∀ k (hk : k < l.length), l[k] = f k) : Wr 2 kC W b l := by
  obtain ⟨e, N, F, hN, hr, hc⟩ := h.row
  refine ⟨by omega, ⟨e, N, F, by omega, hr, fun k hk j v hv hj => ?_⟩, fun _ _ => rfl⟩
  obtain ⟨h1, h2⟩ := hc k (by omega)
  rw [he k hk] at hv
  match j, hj with
  | 0, _ => simp [kC] at hv; subst hv; exact h1
  | 1, _ => simp [kC] at hv; subst hv; exact h2
end KR
section
set_option maxHeartbeats 1600000
set_option maxRecDepth 20000
theorem heldKeyS_any (A : Option Addr) (c n : Nat) (k0 : Int) (w : World) [hl : Rd 2 kC w A (kMk n k0)] (hn : n ≤ 1048576) (h0 : 0 ≤ k0) (h1 : k0 ≤ 4194304) :
    Calls Tryd.prog 46 #[.slice A n c, .int .i64 k0] w fun e w' => e = .returned (.int .i64 (k0 + 2 * n)) ∧ ∃ k : Ex w, w' = k.v := by
  have hml := kMk_len n k0
  have HA := hid hl.k
  go_enter Tryd.func46, Tryd.ntmps46
  go_wp2
  go_loop [5, 1] (fun t u => ∃ q : Nat, q ≤ n ∧ t = .int .i64 q ∧ u = .int .i64 (k0 + 2 * q)) (fun t _ => n - (intOf t).toNat)
  case atStart => exact ⟨0, Nat.zero_le _, rfl, by go_num⟩
  case round =>
    obtain ⟨q, hq, rfl, rfl⟩ := hrel
    by_cases hlt : q < n
    · obtain ⟨b, o, rfl, hbw, hc⟩ := HA.out (by omega)
      have hcc := hc q (by omega)
      rw [kMk_get] at hcc
      obtain ⟨c0, c1⟩ := hcc
      clear hc
      go_wp2
      go_round
      case rel => exact ⟨q + 1, by omega, by go_num, by go_num⟩
      case measure => simp [intOf]; omega
    · obtain rfl : q = n := by omega
      go_wp2
      go_ret
      exact ⟨rfl, Ex.rf w, rfl⟩
theorem markTrack_any (nm : ByteArray) (W0 : World) (A : Option Addr) (c : Nat) (l : List Ky) (k0 : Int) (w : World) [hu : Up W0 w] [hf : Fr W0 A] [ho : Ow 2 kC w A l] (hi : Inw w A) (hn : l.length ≤ 1048576) (h0 : 0 ≤ k0) (h1 : k0 ≤ 4194304) :
    Calls Tryd.prog 14 #[.agg #[.string nm, .slice A l.length c], .int .i64 k0] w fun e w' => e = .returned (.int .i64 (k0 + 2 * l.length)) ∧ ∃ k : Ex W0, w' = k.v ∧ Ow 2 kC k.v A (kMk l.length k0) ∧ But A w k.v := by
  have HI := hid hi
  go_enter Tryd.func14, Tryd.ntmps14
  go_wp2_with (go_at_call 45; refine (markKeyS_any W0 _ _ l _ _ hn h0 h1).mono ?_; rintro e w' ⟨rfl, k, rfl, hok, hbk⟩)
  go_ret
  refine ⟨by rfl, k, rfl, hok, ⟨Nat.le_trans (by simp; try omega) hbk.size, fun x hx hne => (hbk.block x (by simp; omega) hne).trans ?_⟩⟩
  exact Below.heap_alloc _ _ _ hx
theorem heldTrack_any (nm : ByteArray) (A : Option Addr) (c n : Nat) (k0 : Int) (w : World) [hl : Rd 2 kC w A (kMk n k0)] (hn : n ≤ 1048576) (h0 : 0 ≤ k0) (h1 : k0 ≤ 4194304) :
    Calls Tryd.prog 15 #[.agg #[.string nm, .slice A n c], .int .i64 k0] w fun e w' => e = .returned (.int .i64 (k0 + 2 * n)) ∧ ∃ k : Ex w, w' = k.v := by
  go_enter Tryd.func15, Tryd.ntmps15
  go_wp2_with ((go_at_call 46; refine (heldKeyS_any _ _ n _ _ hn h0 h1).mono ?_; rintro e w' ⟨rfl, k, rfl⟩))
  (go_ret; refine ⟨by first | rfl | (simp; done), ?_⟩; (refine Ok.toEx ?_; (repeat (first | (with_reducible exact Ok.rf _) | (with_reducible refine Ok.alloc ?_ _) | (with_reducible refine Ok.ex ?_ _) | (with_reducible refine Ok.drew ?_) | (with_reducible refine Ok.setCellI ?_ _ _ _) | (with_reducible refine Ok.exb ?_ _)))))
/-- slices.Clone of keys that are there -/
theorem clone_any (A : Option Addr) (c : Nat) (l : List Ky) (w : World) [hl : Rd 2 kC w A l] (h1 : 1 ≤ l.length) (hn : l.length ≤ 1048576) :
    Calls Tryd.prog 68 #[.slice A l.length c] w fun e w' => ∃ g c', e = .returned (.slice (some ⟨g, 0, none⟩) l.length c') ∧ l.length ≤ c' ∧ ∃ k : Ex w, w' = k.v ∧ Wr 2 kC k.v g l ∧ LeB w.heap.size g := by
  obtain ⟨b, o, rfl, hbw, -⟩ := hl.at_ (by omega)
  have q27 : ∀ (w : World) (a : Option Addr) (n c n' c' : Nat), (binOp .eql 28 (.slice a n c) (.slice none n' c')).run Tryd.prog w = .ok (.bool a.isNone) w := fun w a n c n' c' => Lib.run_eql_slice_nil w _ _ a n c n' c' Tryd.underlying28
  go_enter Tryd.func68, Tryd.ntmps68
  go_wp2_with (at_builtin; refine wpList_appN kC _ rfl _ _ _ rfl w.heap.size ?_ 58 (.agg #[.int .i64 0, .int .i64 0]) 2 16 Tryd.underlying28 infoKey rfl (by omega) (fun _ => ⟨rfl, by simp [kC, Value.oneCell']⟩) (.slice (some ⟨w.heap.size, 0, none⟩) 0 0) [] rfl ?_ (some ⟨b, o, none⟩) l c rfl ?_ (fun h => by cases h) ?_ ?_ ?_; (· simp); (· exact World.ownsRow_made _ #[] 0 (Nat.le_refl _) (by simp [maxLen]) (by simp)); (· infer_instance); (· simp; omega); (· simp; omega); intro v' k' hown')
  go_ret
  obtain ⟨A2, c2, hv, hO2, hF2⟩ := Ow.of_row (f := kC) (fun _ => rfl) hown'
  subst hv
  obtain ⟨g, rfl, hg⟩ := hO2.own (by simp; omega)
  refine ⟨g, c2, by simp, ?_, ex_and (fun W => Wr 2 kC W g l ∧ LeB w.heap.size g) (by (refine Ok.toEx ?_; (repeat (first | (with_reducible exact Ok.rf _) | (with_reducible refine Ok.alloc ?_ _) | (with_reducible refine Ok.ex ?_ _) | (with_reducible refine Ok.drew ?_) | (with_reducible refine Ok.setCellI ?_ _ _ _) | (with_reducible refine Ok.exb ?_ _))))) ⟨by simpa using hg, ⟨hF2 g 0 none rfl⟩⟩⟩
  rcases hown'.2 with ⟨h, _⟩ | ⟨g', cap, cur, h, _, _, hc, _⟩
  · cases h
  · cases h; simpa using hc
end
end Go.Proofs.YtdhflckombkimaaDoor
namespace Go.Proofs.YtdhflckombkimaaDoor
open Go.RowKit
/-- a track and a code -/
structure TR3 where
  nm : ByteArray
  l : List Ky
  co : Int
def trErr (c : Int) : TR3 := ⟨⟨#[]⟩, [], c⟩
noncomputable def trChk (nm : ByteArray) (l : List Ky) : TR3 := if vT nm l = true then ⟨nm, l, 0⟩ else trErr 6
theorem trChk_yes {nm : ByteArray} {l : List Ky} (h : vT nm l = true) : trChk nm l = ⟨nm, l, 0⟩ := by unfold trChk; rw [if_pos h]
theorem trChk_no {nm : ByteArray} {l : List Ky} (h : vT nm l = false) : trChk nm l = trErr 6 := by unfold trChk; rw [if_neg (by rw [h]; simp)]
theorem trChk_len (nm : ByteArray) (l : List Ky) : (trChk nm l).l.length ≤ 24 := by
  cases h : vT nm l
  · rw [trChk_no h]; simp [trErr]
  · rw [trChk_yes h]; exact (vT_of h).2.1.2
/-- what a function that hands back a track leaves -/
def TrPost (R : TR3) (w : World) (e : Ending) (w' : World) : Prop :=
  ∃ A' c', e = .returned (.tuple #[.agg #[.string R.nm, .slice A' R.l.length c'], .int .i64 R.co]) ∧ ∃ k : Ex w, w' = k.v ∧ Ow 2 kC k.v A' R.l ∧ Fr w A' ∧ Inw k.v A'
theorem trPost_err {c : Int} {w : World} {e : Ending} {w' : World} (he : e = .returned (.tuple #[.agg #[.string ⟨#[]⟩, .slice none 0 0], .int .i64 c])) (hw : ∃ k : Ex w, w' = k.v) : TrPost (trErr c) w e w' := by
  obtain ⟨k, rfl⟩ := hw
  exact ⟨none, 0, he, k, rfl, Ow.nil, inferInstance, fun _ _ _ h => by cases h⟩
theorem trPost_ok {nm : ByteArray} {l : List Ky} {co : Int} {w : World} {e : Ending} {w' : World} {g c : Nat} (he : e = .returned (.tuple #[.agg #[.string nm, .slice (some ⟨g, 0, none⟩) l.length c], .int .i64 co])) (hw : ∃ k : Ex w, w' = k.v) (ho : Wr 2 kC w' g l) (hg : LeB w.heap.size g) :
    TrPost ⟨nm, l, co⟩ w e w' := by
  obtain ⟨k, rfl⟩ := hw
  exact ⟨_, c, he, k, rfl, inferInstance, inferInstance, fun b o m h => by cases h; exact ho.lt.h⟩
def shiftK (l : List Ky) (d : Int) : List Ky := l.map fun k => ⟨k.t + d, k.v⟩
noncomputable def shiftR (nm : ByteArray) (l : List Ky) (d : Int) : TR3 := if vT nm l = true then (if -7200000 ≤ d ∧ d ≤ 7200000 then trChk nm (shiftK l d) else trErr 2) else trErr 1
theorem shiftK_len (l : List Ky) (d : Int) : (shiftK l d).length = l.length := by simp [shiftK]
/-- the keys with the first q moved -/
def shF (l : List Ky) (d : Int) (q : Nat) : Nat → Ky := fun k => if k < q then ⟨(kyG l k).t + d, (kyG l k).v⟩ else kyG l k
theorem shF_step (l : List Ky) (d : Int) (q : Nat) : updT (shF l d q) q ((kyG l q).t + d) = shF l d (q + 1) := by
  funext k
  unfold updT shF
  by_cases h : k = q
  · subst h; simp
  · by_cases h2 : k < q
    · simp [h, h2, show k < q + 1 by omega]
    · simp [h, h2, show ¬ k < q + 1 by omega]
theorem shF_at (l : List Ky) (d : Int) (q : Nat) : shF l d q q = kyG l q := by simp [shF]
theorem shF_zero (l : List Ky) (d : Int) : shF l d 0 = kyG l := by funext k; simp [shF]
theorem shF_end {l : List Ky} {d : Int} {k : Nat} (hk : k < (shiftK l d).length) : (shiftK l d)[k] = shF l d l.length k := by
  have hk' : k < l.length := by rwa [shiftK_len] at hk
  simp [shiftK, shF, hk', kyG_at hk']
section
set_option maxHeartbeats 3200000
set_option maxRecDepth 20000
end
end Go.Proofs.YtdhflckombkimaaDoor
namespace Go.Proofs.YtdhflckombkimaaDoor
open Go.RowKit
section
set_option maxHeartbeats 3200000
set_option maxRecDepth 20000
end
end Go.Proofs.YtdhflckombkimaaDoor
namespace Go.Proofs.YtdhflckombkimaaDoor
open Go.RowKit
theorem shiftR_inv {nm : ByteArray} {l : List Ky} {d : Int} (h : vT nm l = false) : shiftR nm l d = trErr 1 := by unfold shiftR; rw [h]; rfl
theorem shiftR_rng {nm : ByteArray} {l : List Ky} {d : Int} (h : vT nm l = true) (hd : ¬ (-7200000 ≤ d ∧ d ≤ 7200000)) : shiftR nm l d = trErr 2 := by unfold shiftR; rw [if_pos h, if_neg hd]
theorem shiftR_go {nm : ByteArray} {l : List Ky} {d : Int} (h : vT nm l = true) (hd : -7200000 ≤ d ∧ d ≤ 7200000) : shiftR nm l d = trChk nm (shiftK l d) := by unfold shiftR; rw [if_pos h, if_pos hd]
theorem shiftR_len (nm : ByteArray) (l : List Ky) (d : Int) : (shiftR nm l d).l.length ≤ 24 := by
  unfold shiftR
  split
  · split
    · exact trChk_len _ _
    · simp [trErr]
  · simp [trErr]
section
set_option maxHeartbeats 3200000
set_option maxRecDepth 20000
theorem trPostN_ok {nm : ByteArray} {l : List Ky} {co : Int} {w : World} {e : Ending} {w' : World} {g c n : Nat} (hn : l.length = n) (he : e = .returned (.tuple #[.agg #[.string nm, .slice (some ⟨g, 0, none⟩) n c], .int .i64 co])) (hw : ∃ k : Ex w, w' = k.v) (ho : Wr 2 kC w' g l) (hg : LeB w.heap.size g) :
    TrPost ⟨nm, l, co⟩ w e w' := by
  subst hn; exact trPost_ok he hw ho hg
end
end Go.Proofs.YtdhflckombkimaaDoor
namespace Go.Proofs.YtdhflckombkimaaDoor
open Go.RowKit
theorem fz_block {w w' : World} {b o : Nat} (h : w'.heap[b]? = w.heap[b]?) : w'.frozen? ⟨b, o, none⟩ = w.frozen? ⟨b, o, none⟩ := by simp only [World.frozen?, h]
theorem But.frozen {A : Option Addr} {w w' : World} (h : But A w w') {b : Nat} [hb : LtW b w] (hne : ∀ o, A ≠ some ⟨b, o, none⟩) (o : Nat) : w'.frozen? ⟨b, o, none⟩ = w.frozen? ⟨b, o, none⟩ := fz_block (h.block b hb.h hne)
theorem ne_blk {a b o p : Nat} (h : a ≠ b) : some (⟨a, o, none⟩ : Addr) ≠ some ⟨b, p, none⟩ := fun e => h (congrArg Addr.block (Option.some.inj e))
section
set_option maxHeartbeats 3200000
set_option maxRecDepth 20000
end
end Go.Proofs.YtdhflckombkimaaDoor
namespace Go.Proofs.YtdhflckombkimaaDoor
open Go.RowKit
section
variable {α : Type} {sz : Nat} {f : α → List Value} {w : World} {b : Nat} {A : Option Addr} {l : List α}
instance (priority := 900) Wr.drew [h : Wr sz f w b l] : Wr sz f w.drew b l := Wr.ex (h := h) (Ex.of (Below.refl _ _).drew)
instance (priority := 900) Ow.drew [h : Ow sz f w A l] : Ow sz f w.drew A l := Ow.ex (h := h) (Ex.of (Below.refl _ _).drew)
end
section
set_option maxHeartbeats 3200000
set_option maxRecDepth 20000
end
end Go.Proofs.YtdhflckombkimaaDoor
namespace Go.Proofs.YtdhflckombkimaaDoor
open Go.RowKit
def strK (l : List Ky) (n d : Int) : List Ky := l.map fun k => ⟨k.t * n / d, k.v⟩
noncomputable def strR (nm : ByteArray) (l : List Ky) (n d : Int) : TR3 := if vT nm l = true then (if (1 ≤ n ∧ n ≤ 100) ∧ 1 ≤ d ∧ d ≤ 100 then trChk nm (strK l n d) else trErr 2) else trErr 1
theorem strK_len (l : List Ky) (n d : Int) : (strK l n d).length = l.length := by simp [strK]
/-- the keys with the first q stretched -/
def stF (l : List Ky) (n d : Int) (q : Nat) : Nat → Ky := fun k => if k < q then ⟨(kyG l k).t * n / d, (kyG l k).v⟩ else kyG l k
theorem stF_step (l : List Ky) (n d : Int) (q : Nat) : updT (stF l n d q) q ((kyG l q).t * n / d) = stF l n d (q + 1) := by
  funext k
  unfold updT stF
  by_cases h : k = q
  · subst h; simp
  · by_cases h2 : k < q
    · simp [h, h2, show k < q + 1 by omega]
    · simp [h, h2, show ¬ k < q + 1 by omega]
theorem stF_at (l : List Ky) (n d : Int) (q : Nat) : stF l n d q q = kyG l q := by simp [stF]
theorem stF_zero (l : List Ky) (n d : Int) : stF l n d 0 = kyG l := by funext k; simp [stF]
theorem stF_end {l : List Ky} {n d : Int} {k : Nat} (hk : k < (strK l n d).length) : (strK l n d)[k] = stF l n d l.length k := by
  have hk' : k < l.length := by rwa [strK_len] at hk
  simp [strK, stF, hk', kyG_at hk']
theorem strR_inv {nm : ByteArray} {l : List Ky} {n d : Int} (h : vT nm l = false) : strR nm l n d = trErr 1 := by unfold strR; rw [h]; rfl
theorem strR_rng {nm : ByteArray} {l : List Ky} {n d : Int} (h : vT nm l = true) (hd : ¬ ((1 ≤ n ∧ n ≤ 100) ∧ 1 ≤ d ∧ d ≤ 100)) : strR nm l n d = trErr 2 := by unfold strR; rw [if_pos h, if_neg hd]
theorem strR_go {nm : ByteArray} {l : List Ky} {n d : Int} (h : vT nm l = true) (hd : (1 ≤ n ∧ n ≤ 100) ∧ 1 ≤ d ∧ d ≤ 100) : strR nm l n d = trChk nm (strK l n d) := by unfold strR; rw [if_pos h, if_pos hd]
theorem strR_len (nm : ByteArray) (l : List Ky) (n d : Int) : (strR nm l n d).l.length ≤ 24 := by
  unfold strR
  split
  · split
    · exact trChk_len _ _
    · simp [trErr]
  · simp [trErr]
theorem str_bd {t n d : Int} (t1 : 0 ≤ t) (t2 : t ≤ 7200000) (hn : 1 ≤ n ∧ n ≤ 100) (hd : 1 ≤ d ∧ d ≤ 100) : 0 ≤ t * n ∧ t * n ≤ 720000000 ∧ 0 ≤ t * n / d ∧ t * n / d ≤ 720000000 := by
  have h1 : 0 ≤ t * n := Int.mul_nonneg t1 (by omega)
  have h2 := (prod_bd (a := t) (b := n) (A := 7200000) (B := 100) (by omega) t2 (by omega) hn.2 (by omega)).2
  have h3 : t * n / d ≤ t * n := Int.ediv_le_self _ h1
  exact ⟨h1, by omega, Int.ediv_nonneg h1 (by omega), by omega⟩
theorem KR.kx {W : World} {b : Nat} {f : Nat → Ky} {n : Nat} (h : KR W b f n) (k : Ex W) : KR k.v b f n := h.block (k.block h.lt.h)
section
set_option maxHeartbeats 3200000
set_option maxRecDepth 20000
end
end Go.Proofs.YtdhflckombkimaaDoor
namespace Go.Proofs.YtdhflckombkimaaDoor
open Go.RowKit
section
set_option maxHeartbeats 3200000
set_option maxRecDepth 20000
end
end Go.Proofs.YtdhflckombkimaaDoor
namespace Go.Proofs.YtdhflckombkimaaDoor
open Go.RowKit
/-- block T is a track of a name whose keys append has built -/
class Bld (B T : Nat) (nm : ByteArray) (v : Value) (l : List Ky) (W : World) : Prop where
  lt : LtW T W
  ge : B ≤ T
  c0 : W.cell? ⟨T, 0, none⟩ = some (.string nm)
  c1 : W.cell? ⟨T, 1, none⟩ = some v
  f0 : W.frozen? ⟨T, 0, none⟩ = false
  f1 : W.frozen? ⟨T, 1, none⟩ = false
  own : OwT B T 58 2 v l.length (l.flatMap kC) W
section
variable {B T : Nat} {nm : ByteArray} {v v' : Value} {l l' : List Ky} {W : World}
theorem Bld.block {W' : World} (h : Bld B T nm v l W) (hs : W.heap.size ≤ W'.heap.size) (hb : W'.heap[T]? = W.heap[T]?) (ho : OwT B T 58 2 v' l'.length (l'.flatMap kC) W') (hv : v' = v) : Bld B T nm v' l' W' := by
  subst hv
  exact ⟨⟨Nat.lt_of_lt_of_le h.lt.h hs⟩, h.ge, (World.cell?_of_block (a := ⟨T, 0, none⟩) hb).trans h.c0, (World.cell?_of_block (a := ⟨T, 1, none⟩) hb).trans h.c1, (fz_block hb).trans h.f0, (fz_block hb).trans h.f1, ho⟩
instance (priority := 900) Bld.ex [h : Bld B T nm v l W] (k : Ex W) : Bld B T nm v l k.v := h.block k.size (k.block h.lt.h) (haveI := h.own; inferInstance) rfl
instance (priority := 900) Bld.alloc [h : Bld B T nm v l W] (o : Obj) : Bld B T nm v l (W.alloc o) := h.block (by simp) (Below.heap_alloc _ _ _ h.lt.h) (haveI := h.own; inferInstance) rfl
instance (priority := 900) Bld.drew [h : Bld B T nm v l W] : Bld B T nm v l W.drew := h.block (Nat.le_refl _) rfl (haveI := h.own; inferInstance) rfl
theorem Bld.app (h : Bld B T nm v l W) {k : Exb B W} (hA : Apd B 58 2 v v' W k l'.length (l'.flatMap kC)) : Bld B T nm v' l' (k.v.setCell ⟨T, 1, none⟩ v') := by
  have hb := hA.blk h.own h.lt.h
  have ho : OwT B T 58 2 v' l'.length (l'.flatMap kC) k.v := hA.owt h.own h.lt.h
  have hlt : T < k.v.heap.size := Nat.lt_of_lt_of_le h.lt.h k.h.size
  refine ⟨⟨by rw [size_setCell']; exact hlt⟩, h.ge, ?_, ?_, ?_, ?_, inferInstance⟩
  · rw [cell_nbI _ _ _ _ _ (by omega)]
    exact (World.cell?_of_block (a := ⟨T, 0, none⟩) hb).trans h.c0
  · rw [cell_setI, (World.cell?_of_block (a := ⟨T, 1, none⟩) hb).trans h.c1]; rfl
  · rw [frozen_setI]; exact (fz_block hb).trans h.f0
  · rw [frozen_setI]; exact (fz_block hb).trans h.f1
end
theorem row_oneB (w : World) (B : Nat) (hB : B ≤ w.heap.size) (e : TypeId) (x : Ky) : (w.alloc (.cells #[.int .i64 x.t, .int .i64 x.v] e)).ownsRow B e 2 (.slice (some ⟨w.heap.size, 0, none⟩) 1 1) [x].length ([x].flatMap kC) :=
  ⟨by simp [kC], .inr ⟨w.heap.size, 1, #[.int .i64 x.t, .int .i64 x.v], rfl, hB, heap_alloc_new w _, Nat.le_refl _, by simp [maxLen], rfl, by simp [kC]⟩⟩
end Go.Proofs.YtdhflckombkimaaDoor
