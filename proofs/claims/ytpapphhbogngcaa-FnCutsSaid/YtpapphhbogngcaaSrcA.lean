/-
  The reading of choices: one of some numbers; yes or no. Conditions: those typed at each theorem.
-/
import Derived.Test.YtpapphhbogngcaaSrcN
namespace Go.Proofs.Ytpapphhbogngcaa
open Go.RowKit
section
set_option maxHeartbeats 1600000
set_option maxRecDepth 20000
theorem among_lit (b : Nat) {n : Nat} (w0 : World) (e : TypeId) (cs : Array Value) (g m c : Nat) [hs : Src (w0.alloc (.cells cs e)) b n] (hg : g = w0.heap.size) (hb : b < w0.heap.size) (hn : n ≤ 100000000) (h0 : 0 < m) (h1 : m ≤ 1000)
    (hz : ∀ i, i < m → ∃ x : Int, cs[i]? = some (.int .i64 x) ∧ -10000000000 ≤ x ∧ x ≤ 10000000000) :
    Calls Try.prog 41 #[.pointer (some ⟨b, 0, none⟩), .slice (some ⟨g, 0, none⟩) m c] (w0.alloc (.cells cs e)) (DrInt b (n + 2) (fun x => -10000000000 ≤ x ∧ x ≤ 10000000000) (w0.alloc (.cells cs e))) := by
  subst hg
  haveI : NeB w0.heap.size b := ⟨by omega⟩
  have HC : Hid (∀ i, i < m → ∃ x : Int, (w0.alloc (.cells cs e)).cell? ⟨w0.heap.size, i, none⟩ = some (.int .i64 x) ∧ -10000000000 ≤ x ∧ x ≤ 10000000000) := hid fun i hi => by
    obtain ⟨x, h2, h3⟩ := hz i hi
    refine ⟨x, ?_, h3⟩
    simp [go_sem, h2]
  clear hz
  generalize hW : w0.alloc (.cells cs e) = W at *
  haveI : LtW w0.heap.size W := by rw [← hW]; infer_instance
  generalize w0.heap.size = g at *
  clear hW
  go_enter Try.func41, Try.ntmps41
  go_wp2_with (go_at_call 47; go_loud (refine (pick_any b _ _ ?_ ?_).mono ?_); (· omega); (· omega); rintro e w' ⟨x, ⟨hx1, hx2⟩, rfl, k, rfl⟩; obtain ⟨i, rfl⟩ := Int.eq_ofNat_of_zero_le hx1; have hi : i < m := (by omega); obtain ⟨s, hci, hs1⟩ := HC.out i hi; have hii : (i : Int) < (m : Int) := (by omega); have hi0 : (0 : Int) ≤ (i : Int) := (by omega))
  go_ret
  exact ⟨s, hs1, rfl, (DrK.fin (by (repeat (first | (with_reducible exact DrK.rf _ _) | (with_reducible refine DrK.alloc ?_ _) | (with_reducible refine DrK.dr ?_ _) | (with_reducible refine DrK.ex ?_ _) | (with_reducible refine DrK.drew ?_) | (with_reducible refine DrK.set ?_ _ _ _)))) (by omega))⟩
/-- what a draw of yes or no leaves -/
def DrB (b n : Nat) (w : World) (e : Ending) (w' : World) : Prop := ∃ x : Int, e = .returned (.bool (x == 0)) ∧ ∃ k : Dr b n w, w' = k.v
theorem srcOne_any (b : Nat) {n : Nat} (m : Int) (w : World) [hs : Src w b n] (hn : n ≤ 100000000) (hm : m ≤ 1000000000) : Calls Try.prog 57 #[.pointer (some ⟨b, 0, none⟩), .int .i64 m] w (DrB b (n + 2) w) := by
  go_enter Try.func57, Try.ntmps57
  go_wp2_with (go_at_call 47; go_loud (refine (pick_any b _ _ ?_ ?_).mono ?_); (· omega); (· omega); rintro e w' ⟨x, ⟨hx1, hx2⟩, rfl, k, rfl⟩)
  go_ret
  exact ⟨x, rfl, (DrK.fin (by (repeat (first | (with_reducible exact DrK.rf _ _) | (with_reducible refine DrK.alloc ?_ _) | (with_reducible refine DrK.dr ?_ _) | (with_reducible refine DrK.ex ?_ _) | (with_reducible refine DrK.drew ?_) | (with_reducible refine DrK.set ?_ _ _ _)))) (by omega))⟩
end
end Go.Proofs.Ytpapphhbogngcaa
