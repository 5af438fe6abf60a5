/-
  Slices of numbers: the laws' helpers. Conditions: those typed at each theorem.
-/
import Derived.Test.YtonmeffhelaohaaDoorCore
import Derived.Test.YtonmeffhelaohaaDoorRow
namespace Go.Proofs.YtonmeffhelaohaaDoor
open Go.RowKit
/-- the cells of a number -/
def iC (n : Int) : List Value := [.int .i64 n]
theorem Filling.step1 {α : Type} {e : TypeId} {f : α → List Value} {w : World} {b : Nat} {l : List α} {q : Nat} (h : Filling e 1 f w b l q) (hq : q < l.length) {v : Value} (hl : f l[q] = [v]) : Filling e 1 f (w.setCell ⟨b, q, none⟩ v) b l (q + 1) := by
  have := h.step hq (by rw [hl]; rfl)
  rw [hl, Nat.mul_one] at this
  exact this
theorem But.rf (A : Option Addr) (w : World) : But A w w := ⟨Nat.le_refl _, fun _ _ _ => rfl⟩
theorem But.set {w w' : World} {b o : Nat} (h : But (some ⟨b, o, none⟩) w w') (p : Nat) (v : Value) : But (some ⟨b, o, none⟩) w (w'.setCell ⟨b, p, none⟩ v) :=
  ⟨by rw [size_setCell']; exact h.size, fun x hx hne => by
    rw [World.setCell, Array.getElem?_modify, if_neg (fun e => hne o (by rw [show b = x from e]))]
    exact h.block x hx hne⟩
theorem But.ex {A : Option Addr} {w w' : World} (h : But A w w') (k : Ex w') : But A w k.v :=
  ⟨Nat.le_trans h.size k.size, fun x hx hne => (k.block (Nat.lt_of_lt_of_le hx h.size)).trans (h.block x hx hne)⟩
/-- the numbers that marking lays -/
def iMk (n : Nat) (k : Int) : List Int := (List.range n).map fun (i : Nat) => k + (i : Int)
theorem iMk_len (n : Nat) (k : Int) : (iMk n k).length = n := by simp [iMk]
theorem iMk_get {n : Nat} {k : Int} {i : Nat} (h : i < (iMk n k).length) : (iMk n k)[i] = k + i := by simp [iMk]
theorem Rd.i {w : World} {A : Option Addr} {l : List Int} (h : Rd 1 iC w A l) : 0 < l.length → ∃ b o, A = some ⟨b, o, none⟩ ∧ LtW b w ∧ ∀ (k : Nat) (h : k < l.length), w.cell? ⟨b, o + k, none⟩ = some (.int .i64 l[k]) := fun h0 => by
  obtain ⟨b, o, e, hb, hc⟩ := h.at_ h0
  exact ⟨b, o, e, hb, fun k hk => by have := hc k hk 0 _ rfl; rwa [Nat.mul_one] at this⟩
section
set_option maxHeartbeats 1600000
theorem infoI64 : (Tryd.prog.info? 2).map (fun i => (i.zero, i.size, i.bytes)) = some (some (.int .i64 0), 1, 8) := by kernel_rfl
end
end Go.Proofs.YtonmeffhelaohaaDoor
