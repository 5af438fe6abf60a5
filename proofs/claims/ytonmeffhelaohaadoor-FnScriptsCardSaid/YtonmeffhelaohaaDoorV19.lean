/-
  The reading of choices: one of some numbers that stand in the text; worlds behind a row that grew. Conditions: those typed at each theorem.
-/
import Derived.Test.YtonmeffhelaohaaDoorV14
import Derived.Test.YtonmeffhelaohaaDoorV9
import Derived.Test.YtonmeffhelaohaaDoorV7
namespace Go.Proofs.YtonmeffhelaohaaDoor
open Go.RowKit
/-- all are numbers of a good size -/
def allI (B : Int) : List Value → Prop
  | [] => True
  | v :: r => (∃ x : Int, v = .int .i64 x ∧ -B ≤ x ∧ x ≤ B) ∧ allI B r
theorem allI_at {B : Int} : ∀ {l : List Value}, allI B l → ∀ i, i < l.length → ∃ x : Int, l[i]? = some (.int .i64 x) ∧ -B ≤ x ∧ x ≤ B
  | [], _, i, hi => absurd hi (by simp)
  | v :: r, h, 0, _ => by obtain ⟨⟨x, rfl, h1⟩, -⟩ := h; exact ⟨x, rfl, h1⟩
  | v :: r, h, i + 1, hi => by
    obtain ⟨x, h1⟩ := allI_at h.2 i (by simpa using hi)
    exact ⟨x, by simpa using h1⟩
section
set_option maxHeartbeats 1600000
set_option maxRecDepth 20000
end
theorem from_g (A : Option Addr) (c : Nat) (l : List Int) (g : Nat) (w : World) [hl : Rd 1 byC w A l] (hb : ∀ x ∈ l, 0 ≤ x ∧ x ≤ 255) (hg : g = w.heap.size) :
    Calls Tryd.prog 33 #[.slice A l.length c] w fun e w' => e = .returned (.pointer (some ⟨g, 0, none⟩)) ∧ ∃ k : Ex w, w' = k.v ∧ Src k.v g 0 := by
  subst hg
  exact from_any A c l w hb
theorem Ok.dr {B b n : Nat} {a w : World} (h : Ok B a w) (k : Dr b n w) [hb : LeB B b] : Ok B a k.v := ⟨h.b.trans (k.lo.mono hb.h), Nat.le_trans h.s k.size⟩
section
variable {b n B : Nat} {a w : World}
theorem DrK.exb (h : DrK b a w) [s : Src w b n] (k : Exb B w) (hB : a.heap.size ≤ B) (hb : b < a.heap.size) : DrK b a k.v :=
  ⟨h.lo.trans (k.h.mono (by omega)), Nat.le_trans h.size k.h.size, fun x hx hn => (k.h.block x (by omega)).trans (h.keep x hx hn)⟩
theorem Src.exb (h : Src w b n) (k : Exb B w) (hB : b < B) : Src k.v b n := h.keep fun x hx => k.h.block x (by omega)
end
theorem rd_two (w : World) (g : Nat) (a b : Int) (t : TypeId) (hg : g = w.heap.size) : Rd 1 iC (w.alloc (.cells #[.int .i64 a, .int .i64 b] t)) (some ⟨g, 0, none⟩) [a, b] := by
  subst hg
  exact ⟨by simp, fun _ => ⟨w.heap.size, 0, rfl, inferInstance, fun k hk j v hv => by
    have hj : j = 0 := by
      rcases j with _ | j
      · rfl
      · simp [iC] at hv
    subst hj
    have hk2 : k < 2 := hk
    rcases k with _ | _ | k
    · simp [iC] at hv; subst hv; simp [go_sem]
    · simp [iC] at hv; subst hv; simp [go_sem]
    · omega⟩⟩
theorem ownsRow_dr {b n' : Nat} {w : World} {B : Nat} {e : TypeId} {sz : Nat} {v : Value} {n : Nat} {xs : List Value} (h : w.ownsRow B e sz v n xs) (k : Dr b n' w) (hB : b < B) : k.v.ownsRow B e sz v n xs :=
  ownsRow_congr h fun g hg => k.keep g (h.lt _ hg).2 (by have := (h.lt _ hg).1; omega)
end Go.Proofs.YtonmeffhelaohaaDoor
