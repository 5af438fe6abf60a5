/-
  JoinTracks of the specification. Conditions: those typed at each theorem.
-/
import Derived.Test.YtamajnhbfdakfaaTrJi
import Derived.Test.YtamajnhbfdakfaaTrCs
namespace Go.Proofs.Ytamajnhbfdakfaa
open Go.RowKit
/-- the first track with k keys of the second behind it -/
def jnP (a b : List Ky) (st tb : Int) : Nat → List Ky
  | 0 => a
  | k + 1 => jnP a b st tb k ++ [⟨st + (kyG b k).t - tb, (kyG b k).v⟩]
theorem jnP_len (a b : List Ky) (st tb : Int) : ∀ k, (jnP a b st tb k).length = a.length + k
  | 0 => rfl
  | k + 1 => by rw [jnP, List.length_append, jnP_len a b st tb k]; rfl
theorem jnP_take (a b : List Ky) (st tb D : Int) (h : D = st - tb) : ∀ k, k ≤ b.length → jnP a b st tb k = a ++ (shiftK b D).take k
  | 0, _ => by simp [jnP]
  | k + 1, hk => by
    have hk' : k < (shiftK b D).length := by rw [shiftK_len]; omega
    rw [jnP, jnP_take a b st tb D h k (by omega), List.append_assoc, List.take_succ_eq_append_getElem hk']
    congr 2
    have hkb : k < b.length := by omega
    simp only [shiftK, List.getElem_map, kyG_at hkb]
    subst h
    congr 2
    omega
theorem jnP_end (a b : List Ky) (st tb D : Int) (h : D = st - tb) : jnP a b st tb b.length = a ++ shiftK b D := by
  rw [jnP_take a b st tb D h _ (Nat.le_refl _), List.take_of_length_le (by rw [shiftK_len]; exact Nat.le_refl _)]
theorem ownsRow_low {w : World} {B B' : Nat} {e : TypeId} {sz : Nat} {v : Value} {n : Nat} {xs : List Value} (h : w.ownsRow B e sz v n xs) (hb : B' ≤ B) : w.ownsRow B' e sz v n xs :=
  ⟨h.1, h.2.imp id fun ⟨g, cap, cur, h1, h2, h3⟩ => ⟨g, cap, cur, h1, Nat.le_trans hb h2, h3⟩⟩
section
set_option maxHeartbeats 6400000
set_option maxRecDepth 20000
theorem own_row (nm : ByteArray) (A : Option Addr) (c : Nat) (l : List Ky) (b : Nat) (w : World) [LtW b w] [hl : Rd 2 kC w A l] (h1 : 1 ≤ l.length) (hn : l.length ≤ 1048576) (hc0 : w.cell? ⟨b, 0, none⟩ = some (.string nm)) (hc1 : w.cell? ⟨b, 1, none⟩ = some (.slice A l.length c)) :
    Calls Try.prog 77 #[.pointer (some ⟨b, 0, none⟩)] w fun e w' => ∃ g c', e = .returned (.agg #[.string nm, .slice (some ⟨g, 0, none⟩) l.length c']) ∧ ∃ k : Ex w, w' = k.v ∧ k.v.ownsRow w.heap.size 63 2 (.slice (some ⟨g, 0, none⟩) l.length c') l.length (l.flatMap kC) := by
  obtain ⟨b', o, rfl, hbw, -⟩ := hl.at_ (by omega)
  go_enter Try.func77, Try.ntmps77
  go_wp2
  go_region_law (refine step_appM kC rfl (.tmp 7) (.tmp 11) 27 rfl (w.heap.size + 1) ?_ 63 (.agg #[.int .i64 0, .int .i64 0]) 2 16 Try.underlying27 infoKey rfl (by omega) (fun _ => ⟨rfl, by simp [kC, Value.oneCell']⟩) (.slice (some ⟨w.heap.size + 1, 0, none⟩) 0 0) [] rfl ?_ b' o l c rfl ?_ ?_ ?_ ?_; (· simp; try omega); (· have hz := World.ownsRow_made (base := w.heap.size + 1) (e := 63) (size := 2) (w.alloc (.cells #[.string ⟨#[]⟩, .slice none 0 0] 29)) #[] 0 (by simp) (by simp [maxLen]) (by simp); rw [World.size_alloc] at hz; exact hz); (· infer_instance); (· simp; omega); (· simp; omega); intro v' k' hA; obtain ⟨A2, c2, rfl, hO2, hF2⟩ := Ow.of_row (f := kC) (fun _ => rfl) hA.own; have hrw := hid hA.own)
  all_goals
    have hO2 := hid hO2
    clear hA
    go_wp2
    refine bodyPost_ret (v := _) (by first | (simp [results, Try.results77, go_sem]; done) | (simp [results, Try.results77, go_sem]; rfl)) rfl ?_
    obtain ⟨g, rfl, hg⟩ := hO2.out.own (by simp; omega)
    have hlow := ownsRow_low hrw.out (B' := w.heap.size) (by omega)
    have hgg := hF2 g 0 none rfl
    refine ⟨g, c2, by rfl, ex_and (fun W => W.ownsRow w.heap.size 63 2 (.slice (some ⟨g, 0, none⟩) l.length c2) l.length (l.flatMap kC)) (by (refine Ok.toEx ?_; (repeat (first | (with_reducible exact Ok.rf _) | (with_reducible refine Ok.alloc ?_ _) | (with_reducible refine Ok.ex ?_ _) | (with_reducible refine Ok.drew ?_) | (with_reducible refine Ok.setCellI ?_ _ _ _) | (with_reducible refine Ok.exb ?_ _))))) ?_⟩
    refine ownsRow_congr (by simpa using hlow) fun g' hg' => ?_
    cases hg'
    rw [Below.heap_setCell _ _ _ _ (show g ≠ w.heap.size by omega), Below.heap_setCell _ _ _ _ (show g ≠ w.heap.size by omega)]
end
end Go.Proofs.Ytamajnhbfdakfaa
