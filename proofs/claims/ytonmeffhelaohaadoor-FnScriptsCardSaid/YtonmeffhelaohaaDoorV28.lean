/-
  Marking and holding of tracks; rows of keys that are written in place; copies of keys. Conditions: those typed at each theorem.
  A track handed back if it is one: l14Done, checkedTrack, l14Own; ShiftTrack. Conditions: those typed at each theorem.
-/
import Derived.Test.YtonmeffhelaohaaDoorV27
import Derived.Test.YtonmeffhelaohaaDoorV9
import Derived.Lib.SliceRun
namespace Go.Proofs.YtonmeffhelaohaaDoor
open Go.RowKit
/-- a cell of another block stays -/
theorem But.cell {A : Option Addr} {w w' : World} (h : But A w w') {b : Nat} [hb : LtW b w] (hne : ∀ o, A ≠ some ⟨b, o, none⟩) (o : Nat) {u : Value} (hc : w.cell? ⟨b, o, none⟩ = some u) : w'.cell? ⟨b, o, none⟩ = some u :=
  (World.cell?_of_block (a := ⟨b, o, none⟩) (h.block b hb.h hne)).trans hc
theorem But.lt {A : Option Addr} {w w' : World} (h : But A w w') {b : Nat} [hb : LtW b w] : LtW b w' := ⟨Nat.lt_of_lt_of_le hb.h h.size⟩
/-- the block of A lies in w -/
def Inw (w : World) (A : Option Addr) : Prop := ∀ b o m, A = some ⟨b, o, m⟩ → b < w.heap.size
/-- block b is a row whose first n keys are as f tells -/
class KR (W : World) (b : Nat) (f : Nat → Ky) (n : Nat) : Prop where
  row : ∃ e N F, n * 2 ≤ N ∧ W.rowIs b e N F ∧ ∀ k, k < n → F (k * 2) = .int .i64 (f k).t ∧ F (k * 2 + 1) = .int .i64 (f k).v
/-- .. the time of key q set -/
def updT (f : Nat → Ky) (q : Nat) (t : Int) : Nat → Ky := fun k => if k = q then ⟨t, (f q).v⟩ else f k
namespace KR
variable {W : World} {b : Nat} {f : Nat → Ky} {n : Nat}
theorem lt (h : KR W b f n) : LtW b W := ⟨by obtain ⟨e, N, F, _, hr, _⟩ := h.row; exact hr.lt⟩
theorem block {W' : World} (h : KR W b f n) (he : W'.heap[b]? = W.heap[b]?) : KR W' b f n := ⟨by obtain ⟨e, N, F, hN, hr, hc⟩ := h.row; exact ⟨e, N, F, hN, hr.of_block he, hc⟩⟩
instance (priority := 900) ex [h : KR W b f n] (k : Ex W) : KR k.v b f n := h.block (k.block h.lt.h)
instance (priority := 900) alloc [h : KR W b f n] (o : Obj) : KR (W.alloc o) b f n := h.block (Below.heap_alloc _ _ _ h.lt.h)
instance (priority := 900) drew [h : KR W b f n] : KR W.drew b f n := ⟨h.row⟩
theorem c0 (h : KR W b f n) {k : Nat} (hk : k < n) : W.cell? ⟨b, k * 2, none⟩ = some (.int .i64 (f k).t) ∧ W.frozen? ⟨b, k * 2, none⟩ = false := by
  obtain ⟨e, N, F, hN, hr, hc⟩ := h.row
  have := hr.cell (i := k * 2) (by omega)
  rw [(hc k hk).1] at this
  exact ⟨this, hr.frozen _⟩
theorem c1 (h : KR W b f n) {k : Nat} (hk : k < n) : W.cell? ⟨b, k * 2 + 1, none⟩ = some (.int .i64 (f k).v) := by
  obtain ⟨e, N, F, hN, hr, hc⟩ := h.row
  have := hr.cell (i := k * 2 + 1) (by omega)
  rwa [(hc k hk).2] at this
theorem set (h : KR W b f n) (q : Nat) (t : Int) : KR (W.setCell ⟨b, q * 2, none⟩ (.int .i64 t)) b (updT f q t) n := ⟨by
  obtain ⟨e, N, F, hN, hr, hc⟩ := h.row
  refine ⟨e, N, _, hN, hr.set _ _, fun k hk => ?_⟩
  obtain ⟨h1, h2⟩ := hc k hk
  unfold updT
  by_cases hq : k = q
  · subst hq
    exact ⟨by simp, by rw [if_neg (by omega)]; simpa using h2⟩
  · exact ⟨by rw [if_neg (by omega), if_neg hq]; exact h1, by rw [if_neg (by omega), if_neg hq]; exact h2⟩⟩
theorem of_wr {l : List Ky} (h : Wr 2 kC W b l) : KR W b (kyG l) l.length := ⟨by
  obtain ⟨e, N, F, hN, hr, hc⟩ := h.row
  refine ⟨e, N, F, hN, hr, fun k hk => ?_⟩
  rw [kyG_at hk]
  exact ⟨hc k hk 0 _ rfl (by omega), hc k hk 1 _ rfl (by omega)⟩⟩
theorem wr (h : KR W b f n) (hn : n ≤ 9223372036854775807) {l : List Ky} (hl : l.length = n) (he : ∀ k (hk : k < l.length), l[k] = f k) : Wr 2 kC W b l := by
  obtain ⟨e, N, F, hN, hr, hc⟩ := h.row
  refine ⟨by omega, ⟨e, N, F, by omega, hr, fun k hk j v hv hj => ?_⟩, fun _ _ => rfl⟩
  obtain ⟨h1, h2⟩ := hc k (by omega)
  rw [he k hk] at hv
  match j, hj with
  | 0, _ => simp [kC] at hv; subst hv; exact h1
  | 1, _ => simp [kC] at hv; subst hv; exact h2
end KR
section
set_option maxHeartbeats 1600000
set_option maxRecDepth 20000
end
end Go.Proofs.YtonmeffhelaohaaDoor
namespace Go.Proofs.YtonmeffhelaohaaDoor
open Go.RowKit
/-- a track and a code -/
structure TR3 where
  nm : ByteArray
  l : List Ky
  co : Int
def trErr (c : Int) : TR3 := ⟨⟨#[]⟩, [], c⟩
noncomputable def trChk (nm : ByteArray) (l : List Ky) : TR3 := if vT nm l = true then ⟨nm, l, 0⟩ else trErr 6
theorem trChk_yes {nm : ByteArray} {l : List Ky} (h : vT nm l = true) : trChk nm l = ⟨nm, l, 0⟩ := by unfold trChk; rw [if_pos h]
theorem trChk_no {nm : ByteArray} {l : List Ky} (h : vT nm l = false) : trChk nm l = trErr 6 := by unfold trChk; rw [if_neg (by rw [h]; simp)]
theorem trChk_len (nm : ByteArray) (l : List Ky) : (trChk nm l).l.length ≤ 24 := by
  cases h : vT nm l
  · rw [trChk_no h]; simp [trErr]
  · rw [trChk_yes h]; exact (vT_of h).2.1.2
/-- what a function that hands back a track leaves -/
def TrPost (R : TR3) (w : World) (e : Ending) (w' : World) : Prop :=
  ∃ A' c', e = .returned (.tuple #[.agg #[.string R.nm, .slice A' R.l.length c'], .int .i64 R.co]) ∧ ∃ k : Ex w, w' = k.v ∧ Ow 2 kC k.v A' R.l ∧ Fr w A' ∧ Inw k.v A'
theorem trPost_err {c : Int} {w : World} {e : Ending} {w' : World} (he : e = .returned (.tuple #[.agg #[.string ⟨#[]⟩, .slice none 0 0], .int .i64 c])) (hw : ∃ k : Ex w, w' = k.v) : TrPost (trErr c) w e w' := by
  obtain ⟨k, rfl⟩ := hw
  exact ⟨none, 0, he, k, rfl, Ow.nil, inferInstance, fun _ _ _ h => by cases h⟩
theorem trPost_ok {nm : ByteArray} {l : List Ky} {co : Int} {w : World} {e : Ending} {w' : World} {g c : Nat} (he : e = .returned (.tuple #[.agg #[.string nm, .slice (some ⟨g, 0, none⟩) l.length c], .int .i64 co])) (hw : ∃ k : Ex w, w' = k.v) (ho : Wr 2 kC w' g l) (hg : LeB w.heap.size g) :
    TrPost ⟨nm, l, co⟩ w e w' := by
  obtain ⟨k, rfl⟩ := hw
  exact ⟨_, c, he, k, rfl, inferInstance, inferInstance, fun b o m h => by cases h; exact ho.lt.h⟩
def shiftK (l : List Ky) (d : Int) : List Ky := l.map fun k => ⟨k.t + d, k.v⟩
noncomputable def shiftR (nm : ByteArray) (l : List Ky) (d : Int) : TR3 := if vT nm l = true then (if -7200000 ≤ d ∧ d ≤ 7200000 then trChk nm (shiftK l d) else trErr 2) else trErr 1
theorem shiftK_len (l : List Ky) (d : Int) : (shiftK l d).length = l.length := by simp [shiftK]
/-- the keys with the first q moved -/
def shF (l : List Ky) (d : Int) (q : Nat) : Nat → Ky := fun k => if k < q then ⟨(kyG l k).t + d, (kyG l k).v⟩ else kyG l k
theorem shF_step (l : List Ky) (d : Int) (q : Nat) : updT (shF l d q) q ((kyG l q).t + d) = shF l d (q + 1) := by
  funext k
  unfold updT shF
  by_cases h : k = q
  · subst h; simp
  · by_cases h2 : k < q
    · simp [h, h2, show k < q + 1 by omega]
    · simp [h, h2, show ¬ k < q + 1 by omega]
theorem shF_at (l : List Ky) (d : Int) (q : Nat) : shF l d q q = kyG l q := by simp [shF]
theorem shF_zero (l : List Ky) (d : Int) : shF l d 0 = kyG l := by funext k; simp [shF]
theorem shF_end {l : List Ky} {d : Int} {k : Nat} (hk : k < (shiftK l d).length) : (shiftK l d)[k] = shF l d l.length k := by
  have hk' : k < l.length := by rwa [shiftK_len] at hk
  simp [shiftK, shF, hk', kyG_at hk']
section
set_option maxHeartbeats 3200000
set_option maxRecDepth 20000
end
end Go.Proofs.YtonmeffhelaohaaDoor
