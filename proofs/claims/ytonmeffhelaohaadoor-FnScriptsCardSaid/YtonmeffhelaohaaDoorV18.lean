/-
  The laws' helpers over slices of impl.Event: comparison, marking, holding. Conditions: those typed at each theorem.
-/
import Derived.Test.YtonmeffhelaohaaDoorV7
import Derived.Test.YtonmeffhelaohaaDoorV9
import Derived.Test.YtonmeffhelaohaaDoorV10
import Derived.Test.YtonmeffhelaohaaDoorV11
namespace Go.Proofs.YtonmeffhelaohaaDoor
open Go.RowKit
section
set_option maxHeartbeats 3200000
set_option maxRecDepth 20000
theorem rdAtEvent {w : World} {A : Option Addr} {l : List Ev} (h : Rd 2 evC w A l) : 0 < l.length → ∃ b o, A = some ⟨b, o, none⟩ ∧ LtW b w ∧ ∀ (k : Nat) (h : k < l.length), w.cell? ⟨b, o + k * 2, none⟩ = some (.int .i64 l[k].t) ∧ w.cell? ⟨b, o + k * 2 + 1, none⟩ = some (.string l[k].c) := fun h0 => by
  obtain ⟨b, o, e, hb, hc⟩ := h.at_ h0
  exact ⟨b, o, e, hb, fun k hk => ⟨hc k hk 0 _ rfl, hc k hk 1 _ rfl⟩⟩
/-- what marking lays -/
def mkEvent (n : Nat) (k : Int) : List Ev := (List.range n).map fun (i : Nat) => ⟨(k + 2 * (i : Int)), (mTxt (k + 2 * (i : Int) + 1))⟩
theorem mkEvent_len (n : Nat) (k : Int) : (mkEvent n k).length = n := by simp [mkEvent]
theorem mkEvent_get {n : Nat} {k : Int} {i : Nat} (h : i < (mkEvent n k).length) : (mkEvent n k)[i] = ⟨(k + 2 * (i : Int)), (mTxt (k + 2 * (i : Int) + 1))⟩ := by simp [mkEvent]
end
end Go.Proofs.YtonmeffhelaohaaDoor
