/-
  Slices of slices of numbers: the laws' helpers. Conditions: those typed at each theorem.
-/
import Derived.Test.YtpapphhbogngcaaInts
import Derived.Test.YtpapphhbogngcaaApp
namespace Go.Proofs.Ytpapphhbogngcaa
open Go.RowKit
/-- a slice of numbers, and where it lies -/
structure IR where
  A : Option Addr
  c : Nat
  l : List Int
def irC (x : IR) : List Value := [.slice x.A x.l.length x.c]
/-- the slice with base A holds slices that read as V -/
class Iss (w : World) (A : Option Addr) (V : List (List Int)) : Prop where
  len : V.length ≤ 9223372036854775807
  at_ : 0 < V.length → ∃ b o, A = some ⟨b, o, none⟩ ∧ LtW b w ∧ ∀ (k : Nat) (h : k < V.length), ∃ B c, w.cell? ⟨b, o + k, none⟩ = some (.slice B V[k].length c) ∧ Rd 1 iC w B V[k]
instance (priority := 900) Iss.ex {w : World} {A : Option Addr} {V : List (List Int)} [h : Iss w A V] (k : Ex w) : Iss k.v A V :=
  ⟨h.len, fun h0 => by
    obtain ⟨b, o, e, hb, hc⟩ := h.at_ h0
    refine ⟨b, o, e, inferInstance, fun i hi => ?_⟩
    obtain ⟨B, c, h1, h2⟩ := hc i hi
    exact ⟨B, c, (k.cell b _).trans h1, inferInstance⟩⟩
theorem Rd.but {α : Type} {sz : Nat} {f : α → List Value} {w w' : World} {A B : Option Addr} {l : List α} (h : Rd sz f w A l) (hb : But B w w') (hne : ∀ x o o', A = some ⟨x, o, none⟩ → B ≠ some ⟨x, o', none⟩) : Rd sz f w' A l :=
  ⟨h.len, fun h0 => by
    obtain ⟨b, o, e, hl, hc⟩ := h.at_ h0
    exact ⟨b, o, e, ⟨Nat.lt_of_lt_of_le hl.h hb.size⟩, fun i hi j v hv => (World.cell?_of_block (hb.block b hl.h fun o' => hne b o o' e)).trans (hc i hi j v hv)⟩⟩
/-- out of records -/
theorem Iss.of {w : World} {A : Option Addr} {L : List IR} (h : Rd 1 irC w A L) (hi : ∀ x ∈ L, Rd 1 iC w x.A x.l) : Iss w A (L.map IR.l) :=
  ⟨by have := h.len; simpa using this, fun h0 => by
    obtain ⟨b, o, e, hb, hc⟩ := h.at_ (by simpa using h0)
    refine ⟨b, o, e, hb, fun k hk => ?_⟩
    have hk' : k < L.length := by simpa using hk
    have h1 := hc k hk' 0 _ rfl
    rw [Nat.mul_one] at h1
    refine ⟨L[k].A, L[k].c, by simpa using h1, ?_⟩
    have := hi _ (List.getElem_mem hk')
    simpa using this⟩
section
set_option maxHeartbeats 1600000
end
end Go.Proofs.Ytpapphhbogngcaa
