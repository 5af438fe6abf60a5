/-
  Drawn cues; the law of clashes. Conditions: those typed at each theorem.
-/
import Derived.Test.YtdhflckombkimaaGreatDoorJ31
import Derived.Test.YtdhflckombkimaaGreatDoorJ24
import Derived.Test.YtdhflckombkimaaGreatDoorJ16
import Derived.Test.YtdhflckombkimaaGreatDoorJ27
import Derived.Test.YtdhflckombkimaaGreatDoorJ20
namespace Go.Proofs.YtdhflckombkimaaGreatDoor
open Go.RowKit
theorem clRow_pre (l : List Cu) (i : Nat) {m n : Nat} (h : m ≤ n) : ∃ t, clRow l i n = clRow l i m ++ t := by
  induction n with
  | zero => obtain rfl : m = 0 := by omega
            exact ⟨[], by simp⟩
  | succ n ih =>
    rcases Nat.lt_or_ge m (n + 1) with h1 | h1
    · obtain ⟨t, ht⟩ := ih (by omega)
      exact ⟨t ++ clk l i (i + 1 + n), by rw [← List.append_assoc, ← ht]; rfl⟩
    · obtain rfl : m = n + 1 := by omega
      exact ⟨[], by simp⟩
theorem clAll_pre (l : List Cu) {i n : Nat} (h : i ≤ n) : ∃ t, clAll l n = clAll l i ++ t := by
  induction n with
  | zero => obtain rfl : i = 0 := by omega
            exact ⟨[], by simp⟩
  | succ n ih =>
    rcases Nat.lt_or_ge i (n + 1) with h1 | h1
    · obtain ⟨t, ht⟩ := ih (by omega)
      exact ⟨t ++ clRow l n (l.length - (n + 1)), by rw [← List.append_assoc, ← ht]; rfl⟩
    · obtain rfl : i = n + 1 := by omega
      exact ⟨[], by simp⟩
/-- the next pair stands behind those before it -/
theorem clAll_at (l : List Cu) {i m : Nat} (hi : i < l.length) (hm : i + 1 + m < l.length) (h : clB (cuG l i) (cuG l (i + 1 + m)) = true) :
    (clAll l l.length)[(clAll l i ++ clRow l i m).length]? = some [(i : Int), ((i + 1 + m : Nat) : Int)] := by
  obtain ⟨t1, h1⟩ := clAll_pre l (show i + 1 ≤ l.length by omega)
  obtain ⟨t2, h2⟩ := clRow_pre l i (show m + 1 ≤ l.length - (i + 1) by omega)
  have h3 : clRow l i (m + 1) = clRow l i m ++ [[(i : Int), ((i + 1 + m : Nat) : Int)]] := by
    show clRow l i m ++ clk l i (i + 1 + m) = _
    unfold clk; rw [if_pos h]
  rw [h1, show clAll l (i + 1) = clAll l i ++ clRow l i (l.length - (i + 1)) from rfl, h2, h3]
  simp only [List.append_assoc]
  rw [← List.append_assoc (clAll l i), List.getElem?_append_right (Nat.le_refl _)]
  simp
theorem csV_one (x : Cu) (h : vCs [x] = true) : csV [x] = [] ∧ csE [x] = 0 := by
  unfold csV csE
  rw [if_pos h, if_pos h]
  exact ⟨rfl, rfl⟩
section
set_option maxHeartbeats 3200000
set_option maxRecDepth 20000
theorem r8cues_any (A : Option Addr) (c : Nat) (l : List Int) (w : World) [hl : Rd 1 byC w A l] [hb : By l] :
    Calls Tryz.prog 5 #[.slice A l.length c] w fun e w' => ∃ (A' : Option Addr) (c' : Nat) (m : List Cu), vCs m = true ∧ COks m ∧ m.length ≤ c' ∧ PlA A' c' ∧ e = .returned (.slice A' m.length c') ∧ ∃ k : Ex w, w' = k.v ∧ Rd 6 cC k.v A' m := by
  go_enter Tryz.func5, Tryz.ntmps5
  go_wp2_with (first | (go_at_call 19; go_loud (refine (from_any _ _ l _ hb.h).mono ?_; rintro e w' ⟨rfl, k, rfl, hs⟩)) | (go_at_call 20; go_loud (refine (draw_any w.heap.size _ ?_).mono ?_; (· omega); rintro e w' ⟨A', c', m, hv, hk, hcap, hp, hg, rfl, k2, rfl, hr⟩)))
  go_ret
  exact ⟨A', c', m, hv, hk, hcap, hp, rfl, ⟨k2.v, k.h.trans (k2.lo.mono (Nat.le_refl _))⟩, rfl, hr⟩
theorem long_no (A B : Option Addr) (n m c d : Nat) (w : World) (h1 : n ≤ 1048576) (h2 : m ≤ 1048576) : Calls Tryz.prog 4 #[.slice A n c, .slice B m d] w fun e w' => e = .returned (.bool false) ∧ w = w' := by
  have h1i : ¬ (1048576 : Int) < (n : Int) := by omega
  have h2i : ¬ (1048576 : Int) < (m : Int) := by omega
  go_enter Tryz.func4, Tryz.ntmps4
  go_wp2
  go_ret
  exact ⟨by first | rfl | simp, rfl⟩
theorem long_yes (A B : Option Addr) (n m c d : Nat) (w : World) (h : ¬ (n ≤ 1048576 ∧ m ≤ 1048576)) : Calls Tryz.prog 4 #[.slice A n c, .slice B m d] w fun e w' => e = .returned (.bool true) ∧ w = w' := by
  by_cases h1 : n ≤ 1048576
  · have h1i : ¬ (1048576 : Int) < (n : Int) := by omega
    have h2i : (1048576 : Int) < (m : Int) := by omega
    clear h
    go_enter Tryz.func4, Tryz.ntmps4
    go_wp2
    go_ret
    exact ⟨by first | rfl | simp, rfl⟩
  · have h1i : (1048576 : Int) < (n : Int) := by omega
    clear h
    go_enter Tryz.func4, Tryz.ntmps4
    go_wp2
    go_ret
    exact ⟨by first | rfl | simp, rfl⟩
end
end Go.Proofs.YtdhflckombkimaaGreatDoor
