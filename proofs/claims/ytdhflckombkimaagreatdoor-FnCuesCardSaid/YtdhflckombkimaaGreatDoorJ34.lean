/-
  Rows of strings in memory: put in one by one; sorted and compacted. Conditions: those typed at each theorem.
-/
import Derived.Test.YtdhflckombkimaaGreatDoorJ3
import Derived.Test.YtdhflckombkimaaGreatDoorJ11
import Derived.Test.YtdhflckombkimaaGreatDoorJ17
import Derived.Test.YtdhflckombkimaaGreatDoorShelf
import Derived.Sort.Walk0
import Derived.Lib.OwnBridge
namespace Go.Proofs.YtdhflckombkimaaGreatDoor
open Go.RowKit Go.Lib Go.Sort
def mkS (l : List Bs) : List ByteArray := l.map fun x => ⟨x.toArray⟩
def toB (l : List ByteArray) : List Bs := l.map fun x => x.data.toList
theorem mkS_toB (l : List ByteArray) : mkS (toB l) = l := by
  unfold mkS toB
  rw [List.map_map]
  conv => rhs; rw [← List.map_id l]
  exact List.map_congr_left fun x _ => rfl
theorem toB_len (l : List ByteArray) : (toB l).length = l.length := by simp [toB]
/-- the first place where P fails -/
theorem first_not (P : Nat → Prop) [DecidablePred P] : ∀ n, ∃ p, p ≤ n ∧ (∀ j, j < p → P j) ∧ (p < n → ¬ P p)
  | 0 => ⟨0, Nat.le_refl _, fun _ h => absurd h (by omega), fun h => absurd h (by omega)⟩
  | n + 1 => by
    obtain ⟨p, h1, h2, h3⟩ := first_not P n
    rcases Nat.lt_or_ge p n with h | h
    · exact ⟨p, by omega, h2, fun _ => h3 h⟩
    · have hp : p = n := by omega
      subst hp
      by_cases hP : P p
      · exact ⟨p + 1, Nat.le_refl _, fun j hj => by
          rcases Nat.lt_or_ge j p with h | h
          · exact h2 j h
          · have : j = p := by omega
            subst this; exact hP, fun h => absurd h (by omega)⟩
      · exact ⟨p, by omega, h2, fun _ => hP⟩
theorem slt (a b : ByteArray) : Op.bytesLess a.toList b.toList = decide (a.data.toList < b.data.toList) := by rw [bytesLess_eq, ByteArray.toList_eq, ByteArray.toList_eq]
theorem seq (a b : ByteArray) : (a.toList == b.toList) = decide (a.data.toList = b.data.toList) := by
  rw [ByteArray.toList_eq, ByteArray.toList_eq]
  by_cases h : a.data.toList = b.data.toList
  · rw [h]; simp
  · rw [decide_eq_false h, beq_eq_false_iff_ne]; exact h
theorem toB_at {o : List ByteArray} {k : Nat} (h : k < o.length) : (toB o)[k]'(by rw [toB_len]; exact h) = (o.getD k ⟨#[]⟩).data.toList := by simp [toB, List.getD, h]
/-- x put into o at p -/
theorem tg_ins {o : List ByteArray} {x : ByteArray} {p : Nat} (hp : p ≤ o.length) (h1 : ∀ j, j < p → (o.getD j ⟨#[]⟩).data.toList < x.data.toList) (h2 : p < o.length → ¬ (o.getD p ⟨#[]⟩).data.toList < x.data.toList) :
    ((p < o.length → (o.getD p ⟨#[]⟩).data.toList ≠ x.data.toList) → toB ((o.take p ++ [x]) ++ o.drop p) = insK (toB o) x.data.toList) ∧ (∀ _ : p < o.length, (o.getD p ⟨#[]⟩).data.toList = x.data.toList → toB o = insK (toB o) x.data.toList) := by
  obtain ⟨a, b⟩ := insK_at (x := x.data.toList) (o := toB o) (k := p) (by rw [toB_len]; exact hp) (fun j h hj => by rw [toB_at (by rw [toB_len] at h; exact h)]; exact h1 j hj) (fun h => by rw [toB_len] at h; rw [toB_at h]; exact h2 h)
  refine ⟨fun h => ?_, fun h e => (b (by rw [toB_len]; exact h) (by rw [toB_at h]; exact e)).symm⟩
  rw [a (fun h' => by rw [toB_len] at h'; rw [toB_at h']; exact h h')]
  simp [toB]
theorem tgInfo : (Tryz.prog.info? 9).map (fun i => (i.zero, i.size, i.bytes)) = some (some (.string ⟨#[]⟩), 1, 16) := by kernel_rfl
theorem flat_enc (o : List ByteArray) : o.flatMap sC = (toB o).map encStr := by
  induction o with
  | nil => rfl
  | cons x o ih => simp only [List.flatMap_cons, ih]; rfl
theorem flat_mk (l : List Bs) : (mkS l).flatMap sC = l.map encStr := by
  induction l with
  | nil => rfl
  | cons x l ih => simp only [mkS, List.map_cons, List.flatMap_cons] at ih ⊢; rw [ih]; rfl
theorem grow_below (w : World) (os : Array Obj) : Below w.heap.size w (grow w os) :=
  ⟨rfl, rfl, rfl, by show w.heap.size ≤ (w.heap ++ os).size; rw [Array.size_append]; omega, fun j hj => heap_grow_old w os (by omega)⟩
theorem sort_nil : mkS (Lib.compact (sortK (toB []))) = [] := by simp [toB, sortK, mkS, Lib.compact, Lib.compactUpTo]
theorem sortT_any (B g c n : Nat) (o : List ByteArray) (W : World) (h : W.ownsRow B 9 1 (.slice (some ⟨g, 0, none⟩) n c) n (o.flatMap sC)) (hn : o.length = n) (hb : n ≤ 1048576) :
    Calls Tryz.prog 32 #[.slice (some ⟨g, 0, none⟩) n c] W fun e w' => e = .returned (.tuple #[]) ∧ ∃ k : Exb B W, w' = k.v ∧ k.v.ownsRow B 9 1 (.slice (some ⟨g, 0, none⟩) n c) n ((sortK (toB o)).map encStr) := by
  subst hn
  rw [flat_enc] at h
  obtain ⟨g', cap, he, hBg, hlt, hcap, hcm, hzl, hH⟩ := holds_of_ownsRow h (by intro h; cases h)
  cases he
  have hS := Tryz.slices_Sort_string g 0 c (toB o) W hH hlt (by rw [toB_len]; omega)
  rw [toB_len] at hS
  refine hS.mono ?_
  rintro e w' ⟨rfl, m, os, rfl⟩
  have hl : (sortK (toB o)).length = o.length := by rw [sortK_len, toB_len]
  have h1 := ownsRow_putRow (q := m) (k := o.length) h hl (Nat.le_refl _)
  rw [List.take_of_length_le (by omega)] at h1
  have hb1 : Below B W (putRow encStr (Sort.ahead W m) g 0 (sortK (toB o)).toArray) := below_putRow (Below.refl _ _) hBg
  refine ⟨rfl, ⟨_, hb1.trans ((grow_below _ _).mono (by have := hb1.size; have := hBg; omega))⟩, rfl, ?_⟩
  refine ownsRow_congr h1 fun g' hg' => ?_
  cases hg'
  exact heap_grow_old _ _ (by simpa using hlt)
theorem compT_any (B g c n : Nat) (ts : List Bs) (W : World) (h : W.ownsRow B 9 1 (.slice (some ⟨g, 0, none⟩) n c) n (ts.map encStr)) (hb : n ≤ 1048576) :
    Calls Tryz.prog 33 #[.slice (some ⟨g, 0, none⟩) n c] W fun e w' => e = .returned (.slice (some ⟨g, 0, none⟩) (mkS (Lib.compact ts)).length c) ∧ ∃ k : Exb B W, w' = k.v ∧ k.v.ownsRow B 9 1 (.slice (some ⟨g, 0, none⟩) (mkS (Lib.compact ts)).length c) (mkS (Lib.compact ts)).length ((mkS (Lib.compact ts)).flatMap sC) := by
  obtain ⟨g', cap, he, hBg, hlt, hcap, hcm, hzl, hH⟩ := holds_of_ownsRow h (by intro h; cases h)
  cases he
  subst hzl
  have hml : (mkS (Lib.compact ts)).length = (Lib.compact ts).length := by simp [mkS]
  rw [hml, flat_mk]
  have hcl := compact_length_le ts
  refine (Tryz.slices_Compact_string g 0 c ts W hH (by omega) hcap).mono ?_
  rintro e w' ⟨rfl, m, rfl⟩
  have h1 := ownsRow_putRow (q := m) (k := (Lib.compact ts).length) (ys := Lib.compact ts ++ List.replicate (ts.length - (Lib.compact ts).length) []) h (by simp; omega) hcl
  rw [List.take_left] at h1
  exact ⟨rfl, ⟨_, below_putRow (Below.refl _ _) hBg⟩, rfl, h1⟩
end Go.Proofs.YtdhflckombkimaaGreatDoor
