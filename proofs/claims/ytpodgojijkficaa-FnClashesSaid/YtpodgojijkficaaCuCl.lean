/-
  slices.Clone of cues. Conditions: those typed at each theorem.
-/
import Derived.Test.YtpodgojijkficaaCuE
import Derived.Test.YtpodgojijkficaaAppZ
import Derived.Lib.SliceRun
namespace Go.Proofs.Ytpodgojijkficaa
open Go.RowKit
theorem own_cap {w : World} {B : Nat} {e : TypeId} {sz : Nat} {A : Option Addr} {n c : Nat} {xs : List Value} (h : w.ownsRow B e sz (.slice A n c) n xs) : n ≤ c ∧ ((A = none ∧ c = 0) ∨ ∃ b o, A = some ⟨b, o, none⟩) := by
  rcases h.2 with ⟨h1, h2⟩ | ⟨g, cap, cur, h1, -, -, h2, -⟩
  · cases h1; exact ⟨by omega, .inl ⟨rfl, rfl⟩⟩
  · cases h1; exact ⟨h2, .inr ⟨g, 0, rfl⟩⟩
/-- A is a plain address, or nil -/
class PlA (A : Option Addr) (c : Nat) : Prop where h : (A = none ∧ c = 0) ∨ ∃ b o, A = some ⟨b, o, none⟩
instance pla_some {b o c : Nat} : PlA (some ⟨b, o, none⟩) c := ⟨.inr ⟨b, o, rfl⟩⟩
instance pla_none : PlA none 0 := ⟨.inl ⟨rfl, rfl⟩⟩
section
set_option maxHeartbeats 3200000
set_option maxRecDepth 20000
theorem clone_row (A : Option Addr) (c : Nat) (l : List Cu) (w : World) [hl : Rd 6 cC w A l] (h1 : 1 ≤ l.length) (hn : l.length ≤ 1048576) :
    Calls Try.prog 71 #[.slice A l.length c] w fun e w' => ∃ g c', e = .returned (.slice (some ⟨g, 0, none⟩) l.length c') ∧ l.length ≤ c' ∧ ∃ k : Ex w, w' = k.v ∧ k.v.ownsRow w.heap.size 37 6 (.slice (some ⟨g, 0, none⟩) l.length c') l.length (l.flatMap cC) ∧ Wr 6 cC k.v g l ∧ LeB w.heap.size g := by
  obtain ⟨b, o, rfl, hbw, -⟩ := hl.at_ (by omega)
  have q27 : ∀ (w : World) (a : Option Addr) (n c n' c' : Nat), (binOp .eql 26 (.slice a n c) (.slice none n' c')).run Try.prog w = .ok (.bool a.isNone) w := fun w a n c n' c' => Lib.run_eql_slice_nil w _ _ a n c n' c' Try.underlying26
  go_enter Try.func71, Try.ntmps71
  go_wp2_with (at_builtin; refine wpList_appN cC _ rfl _ _ _ rfl w.heap.size ?_ _ _ _ _ Try.underlying26 infoCue rfl (by omega) (fun _ => ⟨rfl, by simp [cC, Value.oneCell']⟩) (.slice (some ⟨w.heap.size, 0, none⟩) 0 0) [] rfl ?_ (some ⟨b, o, none⟩) l c rfl ?_ (fun h => by cases h) ?_ ?_ ?_; (· simp); (· exact World.ownsRow_made _ #[] 0 (Nat.le_refl _) (by simp [maxLen]) (by simp)); (· infer_instance); (· simp; omega); (· simp; omega); intro v' k' hown')
  go_ret
  obtain ⟨A2, c2, hv, hO2, hF2⟩ := Ow.of_row (f := cC) (fun _ => rfl) hown'
  subst hv
  obtain ⟨g, rfl, hg⟩ := hO2.own (by simp; omega)
  refine ⟨g, c2, by simp, ?_, ex_and (fun W => W.ownsRow w.heap.size 37 6 (.slice (some ⟨g, 0, none⟩) l.length c2) l.length (l.flatMap cC) ∧ Wr 6 cC W g l ∧ LeB w.heap.size g) (by (refine Ok.toEx ?_; (repeat (first | (with_reducible exact Ok.rf _) | (with_reducible refine Ok.alloc ?_ _) | (with_reducible refine Ok.ex ?_ _) | (with_reducible refine Ok.drew ?_) | (with_reducible refine Ok.setCellI ?_ _ _ _) | (with_reducible refine Ok.exb ?_ _))))) ⟨by simpa using hown', by simpa using hg, ⟨hF2 g 0 none rfl⟩⟩⟩
  rcases hown'.2 with ⟨h, _⟩ | ⟨g', cap, cur, h, _, _, hc, _⟩
  · cases h
  · cases h; simpa using hc
theorem clone_own (A : Option Addr) (c : Nat) (l : List Cu) (w : World) [hl : Rd 6 cC w A l] [hp : PlA A c] (hn : l.length ≤ 1048576) :
    Calls Try.prog 71 #[.slice A l.length c] w fun e w' => ∃ A' c', e = .returned (.slice A' l.length c') ∧ ∃ k : Ex w, w' = k.v ∧ k.v.ownsRow w.heap.size 37 6 (.slice A' l.length c') l.length (l.flatMap cC) := by
  by_cases h1 : 1 ≤ l.length
  · refine (clone_row A c l w h1 hn).mono ?_
    rintro e w' ⟨g, c', rfl, -, k, rfl, h, -⟩
    exact ⟨_, _, rfl, k, rfl, h⟩
  · have hz : l = [] := List.eq_nil_of_length_eq_zero (by omega)
    subst hz
    have q27 : ∀ (w : World) (a : Option Addr) (n c n' c' : Nat), (binOp .eql 26 (.slice a n c) (.slice none n' c')).run Try.prog w = .ok (.bool a.isNone) w := fun w a n c n' c' => Lib.run_eql_slice_nil w _ _ a n c n' c' Try.underlying26
    rcases hp.h with ⟨rfl, rfl⟩ | ⟨b, o, rfl⟩
    · have hrow := hid (row_nil w w.heap.size 37 6 cC)
      go_enter Try.func71, Try.ntmps71
      go_wp2
      go_ret
      exact ⟨none, 0, rfl, Ex.rf w, rfl, hrow.out⟩
    · have hrow := hid (row_made w w.heap.size (Nat.le_refl _) 37 6 cC)
      go_enter Try.func71, Try.ntmps71
      go_wp2
      go_ret
      exact ⟨some ⟨w.heap.size, 0, none⟩, 0, rfl, ex_and (fun W => W.ownsRow w.heap.size 37 6 (.slice (some ⟨w.heap.size, 0, none⟩) 0 0) ([] : List Cu).length (([] : List Cu).flatMap cC)) (by (refine Ok.toEx ?_; (repeat (first | (with_reducible exact Ok.rf _) | (with_reducible refine Ok.alloc ?_ _) | (with_reducible refine Ok.ex ?_ _) | (with_reducible refine Ok.drew ?_) | (with_reducible refine Ok.setCellI ?_ _ _ _) | (with_reducible refine Ok.exb ?_ _))))) hrow.out⟩
end
end Go.Proofs.Ytpodgojijkficaa
