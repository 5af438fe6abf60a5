/-
  The reading of choices: one of some numbers that stand in the text; worlds behind a row that grew. Conditions: those typed at each theorem.
-/
import Derived.Test.YtdhflckombkimaaDoorT14
import Derived.Test.YtdhflckombkimaaDoorT10
import Derived.Test.YtdhflckombkimaaDoorT9
namespace Go.Proofs.YtdhflckombkimaaDoor
open Go.RowKit
/-- all are numbers of a good size -/
def allI (B : Int) : List Value → Prop
  | [] => True
  | v :: r => (∃ x : Int, v = .int .i64 x ∧ -B ≤ x ∧ x ≤ B) ∧ allI B r
theorem allI_at {B : Int} : ∀ {l : List Value}, allI B l → ∀ i, i < l.length → ∃ x : Int, l[i]? = some (.int .i64 x) ∧ -B ≤ x ∧ x ≤ B
  | [], _, i, hi => absurd hi (by simp)
  | v :: r, h, 0, _ => by obtain ⟨⟨x, rfl, h1⟩, -⟩ := h; exact ⟨x, rfl, h1⟩
  | v :: r, h, i + 1, hi => by
    obtain ⟨x, h1⟩ := allI_at h.2 i (by simpa using hi)
    exact ⟨x, by simpa using h1⟩
section
set_option maxHeartbeats 1600000
set_option maxRecDepth 20000
theorem among_l (B : Int) (b : Nat) {n : Nat} (w0 : World) (e : TypeId) (cs : Array Value) (g m c : Nat) [hs : Src (w0.alloc (.cells cs e)) b n] (hg : g = w0.heap.size) (hb : b < w0.heap.size) (hn : n ≤ 100000000) (h0 : 0 < m) (h1 : m ≤ 1000) (hm : m = cs.size) (hz : allI B cs.toList) :
    Calls Tryd.prog 66 #[.pointer (some ⟨b, 0, none⟩), .slice (some ⟨g, 0, none⟩) m c] (w0.alloc (.cells cs e)) (DrInt b (n + 2) (fun x => -B ≤ x ∧ x ≤ B) (w0.alloc (.cells cs e))) := by
  subst hg
  haveI : NeB w0.heap.size b := ⟨by omega⟩
  have HC : Hid (∀ i, i < m → ∃ x : Int, (w0.alloc (.cells cs e)).cell? ⟨w0.heap.size, i, none⟩ = some (.int .i64 x) ∧ -B ≤ x ∧ x ≤ B) := hid fun i hi => by
    obtain ⟨x, h2, h3⟩ := allI_at hz i (by simp; omega)
    have h2 : cs[i]? = some (.int .i64 x) := by simpa using h2
    refine ⟨x, ?_, h3⟩
    simp [go_sem, h2]
  clear hz
  generalize hW : w0.alloc (.cells cs e) = W at *
  haveI : LtW w0.heap.size W := by rw [← hW]; infer_instance
  generalize w0.heap.size = g at *
  clear hW
  go_enter Tryd.func66, Tryd.ntmps66
  go_wp2_with (go_at_call 85; go_loud (refine (pick_any b _ _ ?_ ?_).mono ?_); (· omega); (· omega); rintro e w' ⟨x, ⟨hx1, hx2⟩, rfl, k, rfl⟩; obtain ⟨i, rfl⟩ := Int.eq_ofNat_of_zero_le hx1; have hi : i < m := (by omega); obtain ⟨s, hci, hs1⟩ := HC.out i hi; have hii : (i : Int) < (m : Int) := (by omega); have hi0 : (0 : Int) ≤ (i : Int) := (by omega))
  go_ret
  exact ⟨s, hs1, rfl, (DrK.fin (by (repeat (first | (with_reducible exact DrK.rf _ _) | (with_reducible refine DrK.alloc ?_ _) | (with_reducible refine DrK.dr ?_ _) | (with_reducible refine DrK.ex ?_ _) | (with_reducible refine DrK.drew ?_) | (with_reducible refine DrK.set ?_ _ _ _)))) (by omega))⟩
theorem among_w (B : Int) (b : Nat) {n : Nat} (w : World) (cs : Array Value) (g m c : Nat) [hs : Src w b n] [hlt : LtW g w] [hne : NeB g b] (hc : ∀ i, w.cell? ⟨g, i, none⟩ = cs[i]?) (hn : n ≤ 100000000) (h0 : 0 < m) (h1 : m ≤ 1000) (hm : m = cs.size) (hz : allI B cs.toList) :
    Calls Tryd.prog 66 #[.pointer (some ⟨b, 0, none⟩), .slice (some ⟨g, 0, none⟩) m c] w (DrInt b (n + 2) (fun x => -B ≤ x ∧ x ≤ B) w) := by
  have HC : Hid (∀ i, i < m → ∃ x : Int, w.cell? ⟨g, i, none⟩ = some (.int .i64 x) ∧ -B ≤ x ∧ x ≤ B) := hid fun i hi => by
    obtain ⟨x, h2, h3⟩ := allI_at hz i (by simp; omega)
    have h2 : cs[i]? = some (.int .i64 x) := by simpa using h2
    exact ⟨x, (hc i).trans h2, h3⟩
  clear hz hc
  go_enter Tryd.func66, Tryd.ntmps66
  go_wp2_with (go_at_call 85; go_loud (refine (pick_any b _ _ ?_ ?_).mono ?_); (· omega); (· omega); rintro e w' ⟨x, ⟨hx1, hx2⟩, rfl, k, rfl⟩; obtain ⟨i, rfl⟩ := Int.eq_ofNat_of_zero_le hx1; have hi : i < m := (by omega); obtain ⟨s, hci, hs1⟩ := HC.out i hi; have hii : (i : Int) < (m : Int) := (by omega); have hi0 : (0 : Int) ≤ (i : Int) := (by omega))
  go_ret
  exact ⟨s, hs1, rfl, (DrK.fin (by (repeat (first | (with_reducible exact DrK.rf _ _) | (with_reducible refine DrK.alloc ?_ _) | (with_reducible refine DrK.dr ?_ _) | (with_reducible refine DrK.ex ?_ _) | (with_reducible refine DrK.drew ?_) | (with_reducible refine DrK.set ?_ _ _ _)))) (by omega))⟩
end
theorem from_g (A : Option Addr) (c : Nat) (l : List Int) (g : Nat) (w : World) [hl : Rd 1 byC w A l] (hb : ∀ x ∈ l, 0 ≤ x ∧ x ≤ 255) (hg : g = w.heap.size) :
    Calls Tryd.prog 54 #[.slice A l.length c] w fun e w' => e = .returned (.pointer (some ⟨g, 0, none⟩)) ∧ ∃ k : Ex w, w' = k.v ∧ Src k.v g 0 := by
  subst hg
  exact from_any A c l w hb
theorem Ok.dr {B b n : Nat} {a w : World} (h : Ok B a w) (k : Dr b n w) [hb : LeB B b] : Ok B a k.v := ⟨h.b.trans (k.lo.mono hb.h), Nat.le_trans h.s k.size⟩
section
variable {b n B : Nat} {a w : World}
theorem DrK.exb (h : DrK b a w) [s : Src w b n] (k : Exb B w) (hB : a.heap.size ≤ B) (hb : b < a.heap.size) : DrK b a k.v :=
  ⟨h.lo.trans (k.h.mono (by omega)), Nat.le_trans h.size k.h.size, fun x hx hn => (k.h.block x (by omega)).trans (h.keep x hx hn)⟩
theorem Src.exb (h : Src w b n) (k : Exb B w) (hB : b < B) : Src k.v b n := h.keep fun x hx => k.h.block x (by omega)
end
theorem rd_two (w : World) (g : Nat) (a b : Int) (t : TypeId) (hg : g = w.heap.size) : Rd 1 iC (w.alloc (.cells #[.int .i64 a, .int .i64 b] t)) (some ⟨g, 0, none⟩) [a, b] := by
  subst hg
  exact ⟨by simp, fun _ => ⟨w.heap.size, 0, rfl, inferInstance, fun k hk j v hv => by
    have hj : j = 0 := by
      rcases j with _ | j
      · rfl
      · simp [iC] at hv
    subst hj
    have hk2 : k < 2 := hk
    rcases k with _ | _ | k
    · simp [iC] at hv; subst hv; simp [go_sem]
    · simp [iC] at hv; subst hv; simp [go_sem]
    · omega⟩⟩
theorem ownsRow_dr {b n' : Nat} {w : World} {B : Nat} {e : TypeId} {sz : Nat} {v : Value} {n : Nat} {xs : List Value} (h : w.ownsRow B e sz v n xs) (k : Dr b n' w) (hB : b < B) : k.v.ownsRow B e sz v n xs :=
  ownsRow_congr h fun g hg => k.keep g (h.lt _ hg).2 (by have := (h.lt _ hg).1; omega)
end Go.Proofs.YtdhflckombkimaaDoor
