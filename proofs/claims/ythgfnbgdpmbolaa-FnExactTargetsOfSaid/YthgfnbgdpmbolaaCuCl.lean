/-
  slices.Clone of cues. Conditions: those typed at each theorem.
-/
import Derived.Test.YthgfnbgdpmbolaaCuE
import Derived.Test.YthgfnbgdpmbolaaAppZ
import Derived.Lib.SliceRun
namespace Go.Proofs.Ythgfnbgdpmbolaa
open Go.RowKit
theorem own_cap {w : World} {B : Nat} {e : TypeId} {sz : Nat} {A : Option Addr} {n c : Nat} {xs : List Value} (h : w.ownsRow B e sz (.slice A n c) n xs) : n ≤ c ∧ ((A = none ∧ c = 0) ∨ ∃ b o, A = some ⟨b, o, none⟩) := by
  rcases h.2 with ⟨h1, h2⟩ | ⟨g, cap, cur, h1, -, -, h2, -⟩
  · cases h1; exact ⟨by omega, .inl ⟨rfl, rfl⟩⟩
  · cases h1; exact ⟨h2, .inr ⟨g, 0, rfl⟩⟩
/-- A is a plain address, or nil -/
class PlA (A : Option Addr) (c : Nat) : Prop where h : (A = none ∧ c = 0) ∨ ∃ b o, A = some ⟨b, o, none⟩
instance pla_some {b o c : Nat} : PlA (some ⟨b, o, none⟩) c := ⟨.inr ⟨b, o, rfl⟩⟩
instance pla_none : PlA none 0 := ⟨.inl ⟨rfl, rfl⟩⟩
section
set_option maxHeartbeats 3200000
set_option maxRecDepth 20000
end
end Go.Proofs.Ythgfnbgdpmbolaa
