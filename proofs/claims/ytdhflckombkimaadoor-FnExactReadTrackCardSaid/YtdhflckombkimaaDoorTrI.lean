/-
  Marking and holding of tracks; rows of keys that are written in place; copies of keys. Conditions: those typed at each theorem.
-/
import Derived.Test.YtdhflckombkimaaDoorTrH
import Derived.Test.YtdhflckombkimaaDoorAppZ
import Derived.Lib.SliceRun
namespace Go.Proofs.YtdhflckombkimaaDoor
open Go.RowKit
/-- a cell of another block stays -/
theorem But.cell {A : Option Addr} {w w' : World} (h : But A w w') {b : Nat} [hb : LtW b w] (hne : ∀ o, A ≠ some ⟨b, o, none⟩) (o : Nat) {u : Value} (hc : w.cell? ⟨b, o, none⟩ = some u) : w'.cell? ⟨b, o, none⟩ = some u :=
  (World.cell?_of_block (a := ⟨b, o, none⟩) (h.block b hb.h hne)).trans hc
theorem But.lt {A : Option Addr} {w w' : World} (h : But A w w') {b : Nat} [hb : LtW b w] : LtW b w' := ⟨Nat.lt_of_lt_of_le hb.h h.size⟩
/-- the block of A lies in w -/
def Inw (w : World) (A : Option Addr) : Prop := ∀ b o m, A = some ⟨b, o, m⟩ → b < w.heap.size
/-- block b is a row whose first n keys are as f tells -/
class KR (W : World) (b : Nat) (f : Nat → Ky) (n : Nat) : Prop where
  row : ∃ e N F, n * 2 ≤ N ∧ W.rowIs b e N F ∧ ∀ k, k < n → F (k * 2) = .int .i64 (f k).t ∧ F (k * 2 + 1) = .int .i64 (f k).v
/-- .. the time of key q set -/
def updT (f : Nat → Ky) (q : Nat) (t : Int) : Nat → Ky := fun k => if k = q then ⟨t, (f q).v⟩ else f k
namespace KR
variable {W : World} {b : Nat} {f : Nat → Ky} {n : Nat}
theorem lt (h : KR W b f n) : LtW b W := ⟨by obtain ⟨e, N, F, _, hr, _⟩ := h.row; exact hr.lt⟩
theorem block {W' : World} (h : KR W b f n) (he : W'.heap[b]? = W.heap[b]?) : KR W' b f n := ⟨by obtain ⟨e, N, F, hN, hr, hc⟩ := h.row; exact ⟨e, N, F, hN, hr.of_block he, hc⟩⟩
instance (priority := 900) ex [h : KR W b f n] (k : Ex W) : KR k.v b f n := h.block (k.block h.lt.h)
instance (priority := 900) alloc [h : KR W b f n] (o : Obj) : KR (W.alloc o) b f n := h.block (Below.heap_alloc _ _ _ h.lt.h)
instance (priority := 900) drew [h : KR W b f n] : KR W.drew b f n := ⟨h.row⟩
theorem c0 (h : KR W b f n) {k : Nat} (hk : k < n) : W.cell? ⟨b, k * 2, none⟩ = some (.int .i64 (f k).t) ∧ W.frozen? ⟨b, k * 2, none⟩ = false := by
  obtain ⟨e, N, F, hN, hr, hc⟩ := h.row
  have := hr.cell (i := k * 2) (by omega)
  rw [(hc k hk).1] at this
  exact ⟨this, hr.frozen _⟩
theorem c1 (h : KR W b f n) {k : Nat} (hk : k < n) : W.cell? ⟨b, k * 2 + 1, none⟩ = some (.int .i64 (f k).v) := by
  obtain ⟨e, N, F, hN, hr, hc⟩ := h.row
  have := hr.cell (i := k * 2 + 1) (by omega)
  rwa [(hc k hk).2] at this
theorem set (h : KR W b f n) (q : Nat) (t : Int) : KR (W.setCell ⟨b, q * 2, none⟩ (.int .i64 t)) b (updT f q t) n := ⟨by
  obtain ⟨e, N, F, hN, hr, hc⟩ := h.row
  refine ⟨e, N, _, hN, hr.set _ _, fun k hk => ?_⟩
  obtain ⟨h1, h2⟩ := hc k hk
  unfold updT
  by_cases hq : k = q
  · subst hq
    exact ⟨by simp, by rw [if_neg (by omega)]; simpa using h2⟩
  · exact ⟨by rw [if_neg (by omega), if_neg hq]; exact h1, by rw [if_neg (by omega), if_neg hq]; exact h2⟩⟩
theorem of_wr {l : List Ky} (h : Wr 2 kC W b l) : KR W b (kyG l) l.length := ⟨by
  obtain ⟨e, N, F, hN, hr, hc⟩ := h.row
  refine ⟨e, N, F, hN, hr, fun k hk => ?_⟩
  rw [kyG_at hk]
  exact ⟨hc k hk 0 _ rfl (by omega), hc k hk 1 _ rfl (by omega)⟩⟩
theorem wr (h : KR W b f n) (hn : n ≤ 9223372036854775807) {l : List Ky} (hl : l.length = n) (he : ∀ k (hk : k < l.length), l[k] = f k) : Wr 2 kC W b l := by
  obtain ⟨e, N, F, hN, hr, hc⟩ := h.row
  refine ⟨by omega, ⟨e, N, F, by omega, hr, fun k hk j v hv hj => ?_⟩, fun _ _ => rfl⟩
  obtain ⟨h1, h2⟩ := hc k (by omega)
  rw [he k hk] at hv
  match j, hj with
  | 0, _ => simp [kC] at hv; subst hv; exact h1
  | 1, _ => simp [kC] at hv; subst hv; exact h2
end KR
section
set_option maxHeartbeats 1600000
set_option maxRecDepth 20000
theorem heldKeyS_any (A : Option Addr) (c n : Nat) (k0 : Int) (w : World) [hl : Rd 2 kC w A (kMk n k0)] (hn : n ≤ 1048576) (h0 : 0 ≤ k0) (h1 : k0 ≤ 4194304) :
    Calls Tryd.prog 46 #[.slice A n c, .int .i64 k0] w fun e w' => e = .returned (.int .i64 (k0 + 2 * n)) ∧ ∃ k : Ex w, w' = k.v := by
  have hml := kMk_len n k0
  have HA := hid hl.k
  go_enter Tryd.func46, Tryd.ntmps46
  go_wp2
  go_loop [5, 1] (fun t u => ∃ q : Nat, q ≤ n ∧ t = .int .i64 q ∧ u = .int .i64 (k0 + 2 * q)) (fun t _ => n - (intOf t).toNat)
  case atStart => exact ⟨0, Nat.zero_le _, rfl, by go_num⟩
  case round =>
    obtain ⟨q, hq, rfl, rfl⟩ := hrel
    by_cases hlt : q < n
    · obtain ⟨b, o, rfl, hbw, hc⟩ := HA.out (by omega)
      have hcc := hc q (by omega)
      rw [kMk_get] at hcc
      obtain ⟨c0, c1⟩ := hcc
      clear hc
      go_wp2
      go_round
      case rel => exact ⟨q + 1, by omega, by go_num, by go_num⟩
      case measure => simp [intOf]; omega
    · obtain rfl : q = n := by omega
      go_wp2
      go_ret
      exact ⟨rfl, Ex.rf w, rfl⟩
theorem markTrack_any (nm : ByteArray) (W0 : World) (A : Option Addr) (c : Nat) (l : List Ky) (k0 : Int) (w : World) [hu : Up W0 w] [hf : Fr W0 A] [ho : Ow 2 kC w A l] (hi : Inw w A) (hn : l.length ≤ 1048576) (h0 : 0 ≤ k0) (h1 : k0 ≤ 4194304) :
    Calls Tryd.prog 14 #[.agg #[.string nm, .slice A l.length c], .int .i64 k0] w fun e w' => e = .returned (.int .i64 (k0 + 2 * l.length)) ∧ ∃ k : Ex W0, w' = k.v ∧ Ow 2 kC k.v A (kMk l.length k0) ∧ But A w k.v := by
  have HI := hid hi
  go_enter Tryd.func14, Tryd.ntmps14
  go_wp2_with (go_at_call 45; refine (markKeyS_any W0 _ _ l _ _ hn h0 h1).mono ?_; rintro e w' ⟨rfl, k, rfl, hok, hbk⟩)
  go_ret
  refine ⟨by rfl, k, rfl, hok, ⟨Nat.le_trans (by simp; try omega) hbk.size, fun x hx hne => (hbk.block x (by simp; omega) hne).trans ?_⟩⟩
  exact Below.heap_alloc _ _ _ hx
theorem heldTrack_any (nm : ByteArray) (A : Option Addr) (c n : Nat) (k0 : Int) (w : World) [hl : Rd 2 kC w A (kMk n k0)] (hn : n ≤ 1048576) (h0 : 0 ≤ k0) (h1 : k0 ≤ 4194304) :
    Calls Tryd.prog 15 #[.agg #[.string nm, .slice A n c], .int .i64 k0] w fun e w' => e = .returned (.int .i64 (k0 + 2 * n)) ∧ ∃ k : Ex w, w' = k.v := by
  go_enter Tryd.func15, Tryd.ntmps15
  go_wp2_with ((go_at_call 46; refine (heldKeyS_any _ _ n _ _ hn h0 h1).mono ?_; rintro e w' ⟨rfl, k, rfl⟩))
  (go_ret; refine ⟨by first | rfl | (simp; done), ?_⟩; (refine Ok.toEx ?_; (repeat (first | (with_reducible exact Ok.rf _) | (with_reducible refine Ok.alloc ?_ _) | (with_reducible refine Ok.ex ?_ _) | (with_reducible refine Ok.drew ?_) | (with_reducible refine Ok.setCellI ?_ _ _ _) | (with_reducible refine Ok.exb ?_ _)))))
/-- slices.Clone of keys that are there -/
theorem clone_any (A : Option Addr) (c : Nat) (l : List Ky) (w : World) [hl : Rd 2 kC w A l] (h1 : 1 ≤ l.length) (hn : l.length ≤ 1048576) :
    Calls Tryd.prog 68 #[.slice A l.length c] w fun e w' => ∃ g c', e = .returned (.slice (some ⟨g, 0, none⟩) l.length c') ∧ l.length ≤ c' ∧ ∃ k : Ex w, w' = k.v ∧ Wr 2 kC k.v g l ∧ LeB w.heap.size g := by
  obtain ⟨b, o, rfl, hbw, -⟩ := hl.at_ (by omega)
  have q27 : ∀ (w : World) (a : Option Addr) (n c n' c' : Nat), (binOp .eql 28 (.slice a n c) (.slice none n' c')).run Tryd.prog w = .ok (.bool a.isNone) w := fun w a n c n' c' => Lib.run_eql_slice_nil w _ _ a n c n' c' Tryd.underlying28
  go_enter Tryd.func68, Tryd.ntmps68
  go_wp2_with (at_builtin; refine wpList_appN kC _ rfl _ _ _ rfl w.heap.size ?_ 58 (.agg #[.int .i64 0, .int .i64 0]) 2 16 Tryd.underlying28 infoKey rfl (by omega) (fun _ => ⟨rfl, by simp [kC, Value.oneCell']⟩) (.slice (some ⟨w.heap.size, 0, none⟩) 0 0) [] rfl ?_ (some ⟨b, o, none⟩) l c rfl ?_ (fun h => by cases h) ?_ ?_ ?_; (· simp); (· exact World.ownsRow_made _ #[] 0 (Nat.le_refl _) (by simp [maxLen]) (by simp)); (· infer_instance); (· simp; omega); (· simp; omega); intro v' k' hown')
  go_ret
  obtain ⟨A2, c2, hv, hO2, hF2⟩ := Ow.of_row (f := kC) (fun _ => rfl) hown'
  subst hv
  obtain ⟨g, rfl, hg⟩ := hO2.own (by simp; omega)
  refine ⟨g, c2, by simp, ?_, ex_and (fun W => Wr 2 kC W g l ∧ LeB w.heap.size g) (by (refine Ok.toEx ?_; (repeat (first | (with_reducible exact Ok.rf _) | (with_reducible refine Ok.alloc ?_ _) | (with_reducible refine Ok.ex ?_ _) | (with_reducible refine Ok.drew ?_) | (with_reducible refine Ok.setCellI ?_ _ _ _) | (with_reducible refine Ok.exb ?_ _))))) ⟨by simpa using hg, ⟨hF2 g 0 none rfl⟩⟩⟩
  rcases hown'.2 with ⟨h, _⟩ | ⟨g', cap, cur, h, _, _, hc, _⟩
  · cases h
  · cases h; simpa using hc
end
end Go.Proofs.YtdhflckombkimaaDoor
