/-
  Rows that slices.Delete turns: the plain law of its two writes. Conditions: those typed at each theorem.
-/
import Derived.Test.YtpapphhbogngcaaAppB
namespace Go.Proofs.Ytpapphhbogngcaa
open Go.RowKit
section
variable {α : Type} {sz : Nat} {f : α → List Value} {w : World} {b : Nat} {l : List α}
/-- a row whose cells behind the list are written -/
theorem Wr.tail (h : Wr sz f w b l) (p : Nat) (hp : l.length * sz ≤ p) (cs : List Value) : Wr sz f (setCells w b p cs) b l := by
  obtain ⟨e, N, F, hN, hr, hc⟩ := h.row
  obtain ⟨G, h1, h2, h3⟩ := rowIs_setCells cs w p F hr
  refine ⟨h.len, ⟨e, N, G, hN, h1, fun k hk j v hv hj => ?_⟩, h.fit⟩
  have := Nat.mul_le_mul_right sz (Nat.succ_le_of_lt hk)
  rw [Nat.succ_mul] at this
  rw [h2 _ (.inl (by omega))]
  exact hc k hk j v hv hj
/-- a row whose elements behind i are moved to the left by one -/
theorem Wr.del (hf : ∀ x, (f x).length = sz) (h : Wr sz f w b l) (i : Nat) (hi : i < l.length) : Wr sz f (setCells w b (i * sz) ((l.drop (i + 1)).flatMap f)) b (l.take i ++ l.drop (i + 1)) := by
  obtain ⟨e, N, F, hN, hr, hc⟩ := h.row
  obtain ⟨G, h1, h2, h3⟩ := rowIs_setCells ((l.drop (i + 1)).flatMap f) w (i * sz) F hr
  have hl : (l.take i ++ l.drop (i + 1)).length = l.length - 1 := by rw [List.length_append, List.length_take, List.length_drop]; omega
  have hlen := h.len
  refine ⟨by omega, ⟨e, N, G, Nat.le_trans (Nat.mul_le_mul_right sz (by omega)) hN, h1, fun k hk j v hv hj => ?_⟩, fun x _ => hf x⟩
  rcases Nat.lt_or_ge k i with hki | hki
  · have := Nat.mul_le_mul_right sz (Nat.succ_le_of_lt hki)
    rw [Nat.succ_mul] at this
    rw [List.getElem_append_left (by rw [List.length_take]; omega), List.getElem_take] at hv
    rw [h2 _ (.inl (by omega))]
    exact hc k (by omega) j v hv hj
  · have hkd : k - i < (l.drop (i + 1)).length := by rw [List.length_drop]; omega
    have ht : (l.take i).length = i := by rw [List.length_take]; omega
    rw [List.getElem_append_right (by rw [ht]; exact hki)] at hv
    simp only [ht] at hv
    have h4 := h3 ((k - i) * sz + j) v (by rw [flat_at hf _ (k - i) hkd j hj]; exact hv)
    rwa [show i * sz + ((k - i) * sz + j) = k * sz + j by rw [← Nat.add_assoc, ← Nat.add_mul, show i + (k - i) = k by omega]] at h4
end
end Go.Proofs.Ytpapphhbogngcaa
