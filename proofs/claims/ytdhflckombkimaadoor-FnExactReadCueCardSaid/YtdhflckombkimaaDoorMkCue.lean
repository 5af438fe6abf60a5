/-
  The laws' helpers over slices of impl.Cue: comparison, marking, holding. Conditions: those typed at each theorem.
-/
import Derived.Test.YtdhflckombkimaaDoorInts
import Derived.Test.YtdhflckombkimaaDoorRowF
import Derived.Test.YtdhflckombkimaaDoorMText
import Derived.Test.YtdhflckombkimaaDoorCuA
namespace Go.Proofs.YtdhflckombkimaaDoor
open Go.RowKit
section
set_option maxHeartbeats 3200000
set_option maxRecDepth 20000
theorem rdAtCue {w : World} {A : Option Addr} {l : List Cu} (h : Rd 6 cC w A l) : 0 < l.length → ∃ b o, A = some ⟨b, o, none⟩ ∧ LtW b w ∧ ∀ (k : Nat) (h : k < l.length), w.cell? ⟨b, o + k * 6, none⟩ = some (.string l[k].id) ∧ w.cell? ⟨b, o + k * 6 + 1, none⟩ = some (.int .i64 l[k].t) ∧ w.cell? ⟨b, o + k * 6 + 2, none⟩ = some (.int .i64 l[k].ln) ∧ w.cell? ⟨b, o + k * 6 + 3, none⟩ = some (.string l[k].tg) ∧ w.cell? ⟨b, o + k * 6 + 4, none⟩ = some (.int .i64 l[k].act) ∧ w.cell? ⟨b, o + k * 6 + 5, none⟩ = some (.int .i64 l[k].v) := fun h0 => by
  obtain ⟨b, o, e, hb, hc⟩ := h.at_ h0
  exact ⟨b, o, e, hb, fun k hk => ⟨hc k hk 0 _ rfl, hc k hk 1 _ rfl, hc k hk 2 _ rfl, hc k hk 3 _ rfl, hc k hk 4 _ rfl, hc k hk 5 _ rfl⟩⟩
theorem eqCue_any (x : Cu) (w : World) : Calls Tryd.prog 10 #[.agg #[.string x.id, .int .i64 x.t, .int .i64 x.ln, .string x.tg, .int .i64 x.act, .int .i64 x.v], .agg #[.string x.id, .int .i64 x.t, .int .i64 x.ln, .string x.tg, .int .i64 x.act, .int .i64 x.v]] w fun e w' => e = .returned (.bool true) ∧ ∃ k : Ex w, w' = k.v := by
  go_enter Tryd.func10, Tryd.ntmps10
  go_wp2
  (go_ret; refine ⟨by first | rfl | (simp; done), ?_⟩; (refine Ok.toEx ?_; (repeat (first | (with_reducible exact Ok.rf _) | (with_reducible refine Ok.alloc ?_ _) | (with_reducible refine Ok.ex ?_ _) | (with_reducible refine Ok.drew ?_) | (with_reducible refine Ok.setCellI ?_ _ _ _) | (with_reducible refine Ok.exb ?_ _)))))
/-- what marking lays -/
def mkCue (n : Nat) (k : Int) : List Cu := (List.range n).map fun (i : Nat) => ⟨(mTxt (k + 6 * (i : Int))), (k + 6 * (i : Int) + 1), (k + 6 * (i : Int) + 1 + 1), (mTxt (k + 6 * (i : Int) + 1 + 1 + 1)), (k + 6 * (i : Int) + 1 + 1 + 1 + 1), (k + 6 * (i : Int) + 1 + 1 + 1 + 1 + 1)⟩
theorem mkCue_len (n : Nat) (k : Int) : (mkCue n k).length = n := by simp [mkCue]
theorem mkCue_get {n : Nat} {k : Int} {i : Nat} (h : i < (mkCue n k).length) : (mkCue n k)[i] = ⟨(mTxt (k + 6 * (i : Int))), (k + 6 * (i : Int) + 1), (k + 6 * (i : Int) + 1 + 1), (mTxt (k + 6 * (i : Int) + 1 + 1 + 1)), (k + 6 * (i : Int) + 1 + 1 + 1 + 1), (k + 6 * (i : Int) + 1 + 1 + 1 + 1 + 1)⟩ := by simp [mkCue]
end
end Go.Proofs.YtdhflckombkimaaDoor
