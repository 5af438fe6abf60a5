/-
  What the law of tracks asks, in plain words. Conditions: those typed at each theorem.
-/
import Derived.Test.YtdhflckombkimaaDoorT23
import Derived.Test.YtdhflckombkimaaDoorT24
namespace Go.Proofs.YtdhflckombkimaaDoor
open Go.RowKit
theorem mem_at {l : List Ky} {y : Ky} {p : Nat} (h : y ∈ l.take p) : ∃ j, j < p ∧ j < l.length ∧ y = kyG l j := by
  obtain ⟨j, hj, rfl⟩ := List.getElem_of_mem h
  rw [List.length_take] at hj
  exact ⟨j, by omega, by omega, by rw [List.getElem_take, kyG_at (by omega)]⟩
theorem mem_from {l : List Ky} {y : Ky} {p : Nat} (h : y ∈ l.drop p) : ∃ j, p ≤ j ∧ j < l.length ∧ y = kyG l j := by
  obtain ⟨j, hj, rfl⟩ := List.getElem_of_mem h
  rw [List.length_drop] at hj
  exact ⟨p + j, by omega, by omega, by rw [List.getElem_drop, kyG_at (by omega)]⟩
theorem pw_mid {l : List Ky} (hr : risK l) {p q : Nat} {x : Ky} (hpq : p ≤ q) (h1 : ∀ j, j < p → j < l.length → (kyG l j).t < x.t) (h2 : ∀ j, q ≤ j → j < l.length → x.t < (kyG l j).t) : (l.take p ++ [x] ++ l.drop q).Pairwise fun a b => a.t < b.t := by
  have hl : l.Pairwise fun a b => a.t < b.t := List.pairwise_iff_getElem.2 fun i j hi hj hij => hr i j hj hij
  refine List.pairwise_append.2 ⟨List.pairwise_append.2 ⟨hl.sublist (List.take_sublist _ _), by simp, fun a ha b hb => ?_⟩, hl.sublist (List.drop_sublist _ _), fun a ha b hb => ?_⟩
  · obtain rfl := List.mem_singleton.1 hb
    obtain ⟨j, hj, hj2, rfl⟩ := mem_at ha
    exact h1 j hj hj2
  · obtain ⟨i, hi, hi2, rfl⟩ := mem_from hb
    rcases List.mem_append.1 ha with ha | ha
    · obtain ⟨j, hj, hj2, rfl⟩ := mem_at ha
      exact ris_kyG hr (by omega) hi2
    · obtain rfl := List.mem_singleton.1 ha
      exact h2 i hi hi2
theorem mid_at {l : List Ky} {p q : Nat} {x : Ky} (hp : p ≤ l.length) : ∃ h : p < (l.take p ++ [x] ++ l.drop q).length, (l.take p ++ [x] ++ l.drop q)[p] = x := by
  have hlt : (l.take p).length = p := by rw [List.length_take]; omega
  have h1 : p < (l.take p ++ [x]).length := by rw [List.length_append, hlt]; simp
  refine ⟨by rw [List.length_append]; omega, ?_⟩
  rw [List.getElem_append_left h1, List.getElem_append_right (by omega)]
  simp [hlt]
theorem mid_law {nm : ByteArray} {l : List Ky} {p q : Nat} {x : Ky} (hv : vT nm l = true) (hx : okKy x) (hp : p ≤ l.length) (hpq : p ≤ q) (h1 : ∀ j, j < p → j < l.length → (kyG l j).t < x.t) (h2 : ∀ j, q ≤ j → j < l.length → x.t < (kyG l j).t)
    (h24 : (l.take p ++ [x] ++ l.drop q).length ≤ 24) : vT nm (l.take p ++ [x] ++ l.drop q) = true ∧ vAt (l.take p ++ [x] ++ l.drop q) x.t = x.v := by
  obtain ⟨hn, hk⟩ := vT_of hv
  have hb := okK_bd hk
  obtain ⟨hlt, hat⟩ := mid_at (l := l) (p := p) (q := q) (x := x) hp
  have hok : okK (l.take p ++ [x] ++ l.drop q) := okK_mk (by omega) h24 (fun y hy => by
    rcases List.mem_append.1 hy with hy | hy
    · rcases List.mem_append.1 hy with hy | hy
      · exact hb y (List.mem_of_mem_take hy)
      · obtain rfl := List.mem_singleton.1 hy; exact hx
    · exact hb y (List.mem_of_mem_drop hy)) (pw_mid hk.ris hpq h1 h2)
  refine ⟨vT_yes hn hok, ?_⟩
  have := vAt_key hok.ris hlt
  rwa [hat] at this
theorem stA_law {nm : ByteArray} {l : List Ky} {x : Ky} (hv : vT nm l = true) (hx : okKy x) (h24 : (stA l x).length ≤ 24) : vT nm (stA l x) = true ∧ vAt (stA l x) x.t = x.v ∧ ((stA l x).length = l.length ∨ (stA l x).length = l.length + 1) := by
  have hr := (vT_of hv).2.ris
  rcases st_part l x.t with ⟨p, hp, hle, hb⟩ | hb
  · rcases Int.lt_or_eq_of_le hle with hlt | heq
    · have e := stA_ins hp hb hlt hr
      rw [e] at h24 ⊢
      unfold insL at h24 ⊢
      obtain ⟨a1, a2⟩ := mid_law hv hx (by omega) (Nat.le_refl p) (fun j hj _ => hb j hj) (fun j hj hj2 => by
        rcases Nat.lt_or_ge p j with h | h
        · have := ris_kyG hr h hj2; omega
        · obtain rfl : j = p := by omega
          exact hlt) h24
      exact ⟨a1, a2, .inr (by simp; omega)⟩
    · have e := stA_hit hp hb heq.symm hr
      rw [e] at h24 ⊢
      unfold repL at h24 ⊢
      obtain ⟨a1, a2⟩ := mid_law hv hx (by omega) (Nat.le_succ p) (fun j hj _ => hb j hj) (fun j hj hj2 => by
        have := ris_kyG hr (show p < j by omega) hj2; omega) h24
      exact ⟨a1, a2, .inl (by simp; omega)⟩
  · have e := stA_end hb
    rw [e] at h24 ⊢
    unfold insL at h24 ⊢
    obtain ⟨a1, a2⟩ := mid_law hv hx (Nat.le_refl _) (Nat.le_refl _) (fun j _ hj => hb j hj) (fun j hj hj2 => by omega) h24
    exact ⟨a1, a2, .inr (by simp)⟩
/-- what the law asks of SetKey -/
theorem set_law {nm : ByteArray} {l : List Ky} {x : Ky} {r : TR3} (h : stR nm l x = r) : (r.co ≠ 0 → r.l.length = 0) ∧ (r.co = 0 → vT r.nm r.l = true ∧ vaR r.nm r.l x.t = (x.v, 0) ∧ (r.l.length = l.length ∨ r.l.length = l.length + 1)) := by
  subst h
  cases hv : vT nm l
  · rw [stR_inv hv]; exact ⟨fun _ => rfl, fun h => by simp [trErr] at h⟩
  · by_cases hd : okKy x
    · by_cases hf : 24 < (stA l x).length
      · rw [stR_full hv hd hf]; exact ⟨fun _ => rfl, fun h => by simp [trErr] at h⟩
      · rw [stR_go hv hd hf]
        obtain ⟨h1, h2, h3⟩ := stA_law hv hd (by omega)
        refine ⟨fun h => absurd rfl h, fun _ => ⟨h1, ?_, h3⟩⟩
        show vaR nm (stA l x) x.t = (x.v, 0)
        rw [vaR_ok h1 hd.1.1 hd.1.2, h2]
    · rw [stR_rng hv hd]; exact ⟨fun _ => rfl, fun h => by simp [trErr] at h⟩
/-- the least and the greatest value of the first q keys -/
def loP (l : List Ky) : Nat → Int
  | 0 => (kyG l 0).v
  | q + 1 => min (loP l q) (kyG l q).v
def hiP (l : List Ky) : Nat → Int
  | 0 => (kyG l 0).v
  | q + 1 => max (hiP l q) (kyG l q).v
theorem lohi (l : List Ky) : ∀ q j, j < q → loP l q ≤ (kyG l j).v ∧ (kyG l j).v ≤ hiP l q
  | 0, j, h => absurd h (by omega)
  | q + 1, j, h => by
    unfold loP hiP
    rcases Nat.lt_or_ge j q with h1 | h1
    · have := lohi l q j h1
      omega
    · obtain rfl : j = q := by omega
      omega
theorem val_btw {nm : ByteArray} {l : List Ky} (hv : vT nm l = true) (t : Int) : loP l l.length ≤ vAt l t ∧ vAt l t ≤ hiP l l.length := by
  have hk := (vT_of hv).2
  refine vAt_btw hk.ris hk.1.1 t fun x hx => ?_
  obtain ⟨j, hj, rfl⟩ := List.getElem_of_mem hx
  have := lohi l l.length j hj
  rwa [kyG_at hj] at this
theorem va_inv {nm : ByteArray} {l : List Ky} {t v : Int} (h : vaR nm l t = (v, 0)) : vT nm l = true ∧ v = vAt l t := by
  unfold vaR at h
  split at h
  · rename_i hv
    split at h
    · cases h; exact ⟨hv, rfl⟩
    · cases h
  · cases h
theorem va_key {nm : ByteArray} {l : List Ky} (hv : vT nm l = true) {q : Nat} (hq : q < l.length) : vaR nm l (kyG l q).t = ((kyG l q).v, 0) := by
  have hk := (vT_of hv).2
  have hb := (okK_bd hk _ (List.getElem_mem hq)).1
  rw [kyG_at hq, vaR_ok hv hb.1 hb.2, vAt_key hk.ris hq]
end Go.Proofs.YtdhflckombkimaaDoor
