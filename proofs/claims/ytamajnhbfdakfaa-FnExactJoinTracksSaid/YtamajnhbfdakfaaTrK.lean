/-
  l14Own, ShiftTrack. Conditions: those typed at each theorem.
-/
import Derived.Test.YtamajnhbfdakfaaTrJ
namespace Go.Proofs.Ytamajnhbfdakfaa
open Go.RowKit
section
set_option maxHeartbeats 3200000
set_option maxRecDepth 20000
theorem own_any (nm : ByteArray) (A : Option Addr) (c : Nat) (l : List Ky) (b : Nat) (w : World) [LtW b w] [hl : Rd 2 kC w A l] (h1 : 1 ≤ l.length) (hn : l.length ≤ 1048576) (hc0 : w.cell? ⟨b, 0, none⟩ = some (.string nm)) (hc1 : w.cell? ⟨b, 1, none⟩ = some (.slice A l.length c)) :
    Calls Try.prog 77 #[.pointer (some ⟨b, 0, none⟩)] w fun e w' => ∃ g c', e = .returned (.agg #[.string nm, .slice (some ⟨g, 0, none⟩) l.length c']) ∧ ∃ k : Ex w, w' = k.v ∧ Wr 2 kC k.v g l ∧ LeB w.heap.size g := by
  obtain ⟨b', o, rfl, hbw, -⟩ := hl.at_ (by omega)
  go_enter Try.func77, Try.ntmps77
  go_wp2
  go_region_law (refine step_appM kC rfl (.tmp 7) (.tmp 11) 27 rfl (w.heap.size + 1) ?_ 63 (.agg #[.int .i64 0, .int .i64 0]) 2 16 Try.underlying27 infoKey rfl (by omega) (fun _ => ⟨rfl, by simp [kC, Value.oneCell']⟩) (.slice (some ⟨w.heap.size + 1, 0, none⟩) 0 0) [] rfl ?_ b' o l c rfl ?_ ?_ ?_ ?_; (· simp; try omega); (· have hz := World.ownsRow_made (base := w.heap.size + 1) (e := 63) (size := 2) (w.alloc (.cells #[.string ⟨#[]⟩, .slice none 0 0] 29)) #[] 0 (by simp) (by simp [maxLen]) (by simp); rw [World.size_alloc] at hz; exact hz); (· infer_instance); (· simp; omega); (· simp; omega); intro v' k' hA; obtain ⟨A2, c2, rfl, hO2, hF2⟩ := Ow.of_row (f := kC) (fun _ => rfl) hA.own)
  all_goals
    have hO2 := hid hO2
    clear hA
    go_wp2
    refine bodyPost_ret (v := _) (by first | (simp [results, Try.results77, go_sem]; done) | (simp [results, Try.results77, go_sem]; rfl)) rfl ?_
    obtain ⟨g, rfl, hg⟩ := hO2.out.own (by simp; omega)
    exact ⟨g, c2, by rfl, ex_and (fun W => Wr 2 kC W g l ∧ LeB w.heap.size g) (by (refine Ok.toEx ?_; (repeat (first | (with_reducible exact Ok.rf _) | (with_reducible refine Ok.alloc ?_ _) | (with_reducible refine Ok.ex ?_ _) | (with_reducible refine Ok.drew ?_) | (with_reducible refine Ok.setCellI ?_ _ _ _) | (with_reducible refine Ok.exb ?_ _))))) ⟨Wr.congr (by simpa using hg) (by have := hF2 g 0 none rfl; rw [Below.heap_setCell _ _ _ _ (show g ≠ w.heap.size by omega), Below.heap_setCell _ _ _ _ (show g ≠ w.heap.size by omega)]), ⟨by have := hF2 g 0 none rfl; omega⟩⟩⟩
end
end Go.Proofs.Ytamajnhbfdakfaa
