/-
  The laws' helpers over keys and tracks. Conditions: those typed at each theorem.
  Contracts of the tests of a track. Conditions: those typed at each theorem.
  Contracts of ValidTrack; its law. Conditions: those typed at each theorem.
-/
import Derived.Test.YtonmeffhelaohaaDoorV7
import Derived.Test.YtonmeffhelaohaaDoorV9
namespace Go.Proofs.YtonmeffhelaohaaDoor
open Go.RowKit
/-- the cells of a key lie at offset p of block b -/
structure KyAt (w : World) (b p : Nat) (x : Ky) : Prop where
  c0 : w.cell? ⟨b, p, none⟩ = some (.int .i64 x.t)
  c1 : w.cell? ⟨b, p + 1, none⟩ = some (.int .i64 x.v)
theorem Rd.k {w : World} {A : Option Addr} {l : List Ky} (h : Rd 2 kC w A l) : 0 < l.length → ∃ b o, A = some ⟨b, o, none⟩ ∧ LtW b w ∧ ∀ (k : Nat) (h : k < l.length), KyAt w b (o + k * 2) l[k] := fun h0 => by
  obtain ⟨b, o, e, hb, hc⟩ := h.at_ h0
  exact ⟨b, o, e, hb, fun k hk => ⟨hc k hk 0 _ rfl, hc k hk 1 _ rfl⟩⟩
/-- the keys that marking lays -/
def kMk (n : Nat) (k : Int) : List Ky := (List.range n).map fun (i : Nat) => ⟨k + 2 * (i : Int), k + 2 * (i : Int) + 1⟩
theorem kMk_len (n : Nat) (k : Int) : (kMk n k).length = n := by simp [kMk]
theorem kMk_get {n : Nat} {k : Int} {i : Nat} (h : i < (kMk n k).length) : (kMk n k)[i] = ⟨k + 2 * i, k + 2 * i + 1⟩ := by simp [kMk]
theorem Filling.stepv {α : Type} {e : TypeId} {sz : Nat} {f : α → List Value} {w : World} {b : Nat} {l : List α} {q : Nat} (h : Filling e sz f w b l q) {vs : List Value} (hq : q < l.length) (hl : f l[q] = vs) (hs : vs.length = sz) : Filling e sz f (setCells w b (q * sz) vs) b l (q + 1) := by subst hl; exact h.step hq hs
section
set_option maxHeartbeats 1600000
end
end Go.Proofs.YtonmeffhelaohaaDoor
namespace Go.Proofs.YtonmeffhelaohaaDoor
open Go.RowKit
section
set_option maxHeartbeats 3200000
set_option maxRecDepth 20000
end
end Go.Proofs.YtonmeffhelaohaaDoor
namespace Go.Proofs.YtonmeffhelaohaaDoor
open Go.RowKit
section
set_option maxHeartbeats 3200000
set_option maxRecDepth 20000
end
end Go.Proofs.YtonmeffhelaohaaDoor
