/-
  Plain laws of tracks: values lie between those of the keys; a part of a track; moving back; a slow track is slow. Conditions: those typed at each theorem.
-/
import Derived.Test.YtpapphhbogngcaaTrVal
import Derived.Test.YtpapphhbogngcaaTrCt
import Derived.Test.YtpapphhbogngcaaTrJ
import Derived.Test.YtpapphhbogngcaaTrR
import Derived.Test.YtpapphhbogngcaaTrD
namespace Go.Proofs.Ytpapphhbogngcaa
open Go.RowKit
theorem near_close (a : Int) {b : Int} (h : 0 < b) : -b ≤ 2 * (a - near a b * b) ∧ 2 * (a - near a b * b) ≤ b := by
  unfold near
  split
  · have e := Int.mul_ediv_add_emod (b - 2 * a) (2 * b)
    have r0 := Int.emod_nonneg (b - 2 * a) (show 2 * b ≠ 0 by omega)
    have r1 := Int.emod_lt_of_pos (b - 2 * a) (show 0 < 2 * b by omega)
    generalize (b - 2 * a) / (2 * b) = q at *
    generalize (b - 2 * a) % (2 * b) = r at *
    rw [Int.neg_mul]
    rw [show 2 * b * q = 2 * (q * b) by rw [Int.mul_assoc, Int.mul_comm b q]] at e
    generalize q * b = p at *
    omega
  · have e := Int.mul_ediv_add_emod (2 * a + b) (2 * b)
    have r0 := Int.emod_nonneg (2 * a + b) (show 2 * b ≠ 0 by omega)
    have r1 := Int.emod_lt_of_pos (2 * a + b) (show 0 < 2 * b by omega)
    generalize (2 * a + b) / (2 * b) = q at *
    generalize (2 * a + b) % (2 * b) = r at *
    rw [show 2 * b * q = 2 * (q * b) by rw [Int.mul_assoc, Int.mul_comm b q]] at e
    generalize q * b = p at *
    omega
theorem mul_le {a b c : Int} (h : a ≤ b) (hc : 0 < c) : a * c ≤ b * c := Int.mul_le_mul_of_nonneg_right h (Int.le_of_lt hc)
theorem near_up {x d b : Int} (hb : 0 < b) (h0 : 0 ≤ x) (h1 : x ≤ d * b) : 0 ≤ near x b ∧ near x b ≤ d := by
  obtain ⟨c1, c2⟩ := near_close x hb
  refine ⟨?_, ?_⟩
  · rcases Int.lt_or_le (near x b) 0 with h | h
    · have := mul_le (show near x b ≤ -1 by omega) hb
      omega
    · exact h
  · rcases Int.lt_or_le d (near x b) with h | h
    · have := mul_le (show d + 1 ≤ near x b by omega) hb
      rw [Int.add_mul] at this
      omega
    · exact h
theorem near_dn {x d b : Int} (hb : 0 < b) (h0 : x ≤ 0) (h1 : d * b ≤ x) : d ≤ near x b ∧ near x b ≤ 0 := by
  obtain ⟨c1, c2⟩ := near_close x hb
  refine ⟨?_, ?_⟩
  · rcases Int.lt_or_le (near x b) d with h | h
    · have := mul_le (show near x b ≤ d - 1 by omega) hb
      rw [Int.sub_mul] at this
      omega
    · exact h
  · rcases Int.lt_or_le 0 (near x b) with h | h
    · have := mul_le (show 1 ≤ near x b by omega) hb
      omega
    · exact h
theorem segv_btw {a b : Ky} {t lo hi : Int} (h1 : a.t < b.t) (h2 : a.t ≤ t) (h3 : t ≤ b.t) (ha : lo ≤ a.v ∧ a.v ≤ hi) (hb : lo ≤ b.v ∧ b.v ≤ hi) : lo ≤ segv a b t ∧ segv a b t ≤ hi := by
  unfold segv
  have hd : 0 < b.t - a.t := by omega
  rcases Int.le_total 0 (b.v - a.v) with h | h
  · have e1 := Int.mul_nonneg h (show 0 ≤ t - a.t by omega)
    have e2 := Int.mul_le_mul_of_nonneg_left (show t - a.t ≤ b.t - a.t by omega) h
    have := near_up hd e1 e2
    omega
  · have e1 := Int.mul_nonpos_of_nonpos_of_nonneg h (show 0 ≤ t - a.t by omega)
    have e2 := Int.mul_le_mul_of_nonpos_left (a := b.v - a.v) (b := b.t - a.t) (c := t - a.t) h (show t - a.t ≤ b.t - a.t by omega)
    have := near_dn hd e1 e2
    omega
/-- values lie between those of the keys -/
theorem vAt_btw {l : List Ky} (hr : risK l) (h0 : 0 < l.length) {lo hi : Int} (t : Int) (hb : ∀ x ∈ l, lo ≤ x.v ∧ x.v ≤ hi) : lo ≤ vAt l t ∧ vAt l t ≤ hi := by
  cases hf : l.findIdx? (fun k => decide (t ≤ k.t)) with
  | none =>
    rw [List.findIdx?_eq_none_iff] at hf
    rw [vAt_last h0 (fun j hj => by have := hf _ (List.getElem_mem hj); simp at this; omega)]
    exact hb _ (List.getElem_mem _)
  | some i =>
    rw [List.findIdx?_eq_some_iff_getElem] at hf
    obtain ⟨hi, h1, h2⟩ := hf
    have h1 : t ≤ l[i].t := by simpa using h1
    cases i with
    | zero =>
      rw [vAt_first h0 h1]
      exact hb _ (List.getElem_mem _)
    | succ i =>
      have h3 : ∀ j (hj : j < l.length), j ≤ i → l[j].t < t := fun j hj hji => by have := h2 j (by omega); simp at this; omega
      rw [vAt_mid hi h3 h1]
      exact segv_btw (hr i (i + 1) hi (by omega)) (Int.le_of_lt (h3 i (by omega) (Nat.le_refl _))) h1 (hb _ (List.getElem_mem _)) (hb _ (List.getElem_mem _))
/-- what makes keys valid -/
theorem okK_mk {l : List Ky} (h1 : 1 ≤ l.length) (h2 : l.length ≤ 24) (hb : ∀ x ∈ l, (0 ≤ x.t ∧ x.t ≤ 7200000) ∧ (-1000000 ≤ x.v ∧ x.v ≤ 1000000)) (hp : l.Pairwise fun a b => a.t < b.t) : okK l :=
  ⟨⟨h1, h2⟩, fun i hi => ⟨(hb _ (List.getElem_mem hi)).1, (hb _ (List.getElem_mem hi)).2, fun h0 => List.pairwise_iff_getElem.1 hp (i - 1) i (by omega) hi (by omega)⟩⟩
theorem okK_bd {l : List Ky} (h : okK l) : ∀ x ∈ l, (0 ≤ x.t ∧ x.t ≤ 7200000) ∧ (-1000000 ≤ x.v ∧ x.v ≤ 1000000) := fun x hx => by
  obtain ⟨i, hi, rfl⟩ := List.getElem_of_mem hx
  exact ⟨(h.2 i hi).1, (h.2 i hi).2.1⟩
/-- what a part of a track is made of -/
theorem cutP_law {l : List Ky} (hk : okK l) {f u : Int} (hc : cutOk f u) : ∀ k, k ≤ l.length →
    (cutP l f u k).Pairwise (fun a b => a.t < b.t) ∧ (∀ x ∈ cutP l f u k, 0 ≤ x.t ∧ x.t < u - f ∧ vAt l (f + x.t) = x.v) ∧ (∀ x ∈ cutP l f u k, ∀ j, k ≤ j → j < l.length → f < (kyG l j).t → x.t < (kyG l j).t - f)
  | 0, _ => by
    obtain ⟨h1, h2, h3⟩ := hc
    refine ⟨by simp [cutP], fun x hx => ?_, fun x hx j hj hjl h => ?_⟩
    · obtain rfl : x = ⟨0, vAt l f⟩ := by simpa [cutP] using hx
      exact ⟨Int.le_refl _, by show 0 < u - f; omega, by show vAt l (f + 0) = _; rw [Int.add_zero]⟩
    · obtain rfl : x = ⟨0, vAt l f⟩ := by simpa [cutP] using hx
      show 0 < _
      omega
  | k + 1, hk1 => by
    obtain ⟨i1, i2, i3⟩ := cutP_law hk hc k (by omega)
    have hr := hk.ris
    by_cases hon : f < (kyG l k).t ∧ (kyG l k).t < u
    · rw [cutP_on hon.1 hon.2]
      refine ⟨List.pairwise_append.2 ⟨i1, by simp, fun a ha b hb => ?_⟩, fun x hx => ?_, fun x hx j hj hjl h => ?_⟩
      · obtain rfl := List.mem_singleton.1 hb
        exact i3 a ha k (Nat.le_refl _) (by omega) hon.1
      · rcases List.mem_append.1 hx with hx | hx
        · exact i2 x hx
        · obtain rfl := List.mem_singleton.1 hx
          refine ⟨by show 0 ≤ (kyG l k).t - f; omega, by show (kyG l k).t - f < u - f; omega, ?_⟩
          show vAt l (f + ((kyG l k).t - f)) = (kyG l k).v
          rw [show f + ((kyG l k).t - f) = (kyG l k).t by omega, kyG_at (by omega)]
          exact vAt_key hr _
      · rcases List.mem_append.1 hx with hx | hx
        · exact i3 x hx j (by omega) hjl h
        · obtain rfl := List.mem_singleton.1 hx
          show (kyG l k).t - f < (kyG l j).t - f
          rw [kyG_at (by omega), kyG_at hjl]
          have := hr k j hjl (by omega)
          omega
    · rw [cutP_off hon]
      exact ⟨i1, i2, fun x hx j hj => i3 x hx j (by omega)⟩
theorem cut_law {nm : ByteArray} {l : List Ky} {f u : Int} {r : TR3} (h : cutR nm l f u = r) (h0 : r.co = 0) :
    vT r.nm r.l = true ∧ r.nm = nm ∧ vT nm l = true ∧ (0 ≤ f ∧ f < u ∧ u ≤ 7200000) ∧ 2 ≤ r.l.length ∧ r.l.length ≤ 24 ∧ (kyG r.l (r.l.length - 1)).t = u - f ∧ (∀ k, k < r.l.length → 0 ≤ (kyG r.l k).t ∧ (kyG r.l k).t ≤ u - f ∧ vAt l (f + (kyG r.l k).t) = (kyG r.l k).v) := by
  subst h
  cases hv : vT nm l
  · rw [cutR_inv hv] at h0; simp [trErr] at h0
  by_cases hc : cutOk f u
  rotate_left
  · rw [cutR_rng hv hc] at h0; simp [trErr] at h0
  by_cases hf : 24 < (cutA l f u).length
  · rw [cutR_full hv hc hf] at h0; simp [trErr] at h0
  rw [cutR_go hv hc hf]
  obtain ⟨hn, hk⟩ := vT_of hv
  obtain ⟨i1, i2, -⟩ := cutP_law hk hc l.length (Nat.le_refl _)
  obtain ⟨c1, c2, c3⟩ := hc
  have hbd : ∀ x ∈ cutA l f u, 0 ≤ x.t ∧ x.t ≤ u - f ∧ vAt l (f + x.t) = x.v := fun x hx => by
    unfold cutA at hx
    rcases List.mem_append.1 hx with hx | hx
    · have := i2 x hx
      exact ⟨this.1, by omega, this.2.2⟩
    · obtain rfl := List.mem_singleton.1 hx
      exact ⟨by show 0 ≤ u - f; omega, Int.le_refl _, by show vAt l (f + (u - f)) = vAt l u; rw [show f + (u - f) = u by omega]⟩
  have hp : (cutA l f u).Pairwise fun a b => a.t < b.t := by
    unfold cutA
    refine List.pairwise_append.2 ⟨i1, by simp, fun a ha b hb => ?_⟩
    obtain rfl := List.mem_singleton.1 hb
    exact (i2 a ha).2.1
  have hln : ∀ k, 1 ≤ (cutP l f u k).length := by
    intro k
    induction k with
    | zero => simp [cutP]
    | succ k ih => unfold cutP; rw [List.length_append]; omega
  have hl2 : 2 ≤ (cutA l f u).length := by
    have := hln l.length
    unfold cutA
    rw [List.length_append]
    simp
    omega
  have hok : okK (cutA l f u) := okK_mk (by omega) (by omega) (fun x hx => by
    obtain ⟨b1, b2, b3⟩ := hbd x hx
    rw [← b3]
    exact ⟨by omega, vAt_btw hk.ris (by have := hk.1.1; omega) _ (fun y hy => (okK_bd hk y hy).2)⟩) hp
  refine ⟨vT_yes hn hok, rfl, rfl, by omega, hl2, by show (cutA l f u).length ≤ 24; omega, ?_, fun k hk' => ?_⟩
  · show (kyG (cutA l f u) ((cutA l f u).length - 1)).t = u - f
    rw [kyG_at (by omega)]
    unfold cutA
    simp
  · have := hbd _ (List.getElem_mem hk')
    rw [← kyG_at hk'] at this
    exact this
theorem vaR_ok {nm : ByteArray} {l : List Ky} {t : Int} (h : vT nm l = true) (h0 : 0 ≤ t) (h1 : t ≤ 7200000) : vaR nm l t = (vAt l t, 0) := by unfold vaR; rw [if_pos h, if_pos ⟨h0, h1⟩]
/-- moving back undoes moving -/
theorem shiftK_back (l : List Ky) (d : Int) : shiftK (shiftK l d) (-d) = l := by
  unfold shiftK
  rw [List.map_map]
  conv => rhs; rw [← List.map_id l]
  exact List.map_congr_left fun x _ => by simp [Int.add_neg_cancel_right]
theorem trChk_ok {nm : ByteArray} {l : List Ky} (h : (trChk nm l).co = 0) : vT nm l = true ∧ trChk nm l = ⟨nm, l, 0⟩ := by
  cases hv : vT nm l
  · rw [trChk_no hv] at h; simp [trErr] at h
  · exact ⟨rfl, trChk_yes hv⟩
theorem shift_law {nm : ByteArray} {l : List Ky} {d : Int} {r : TR3} (h : shiftR nm l d = r) (h0 : r.co = 0) : shiftR r.nm r.l (-d) = ⟨nm, l, 0⟩ := by
  subst h
  by_cases hv : vT nm l = true
  · by_cases hd : -7200000 ≤ d ∧ d ≤ 7200000
    · have e1 : shiftR nm l d = trChk nm (shiftK l d) := by unfold shiftR; rw [if_pos hv, if_pos hd]
      rw [e1] at h0 ⊢
      obtain ⟨h1, h2⟩ := trChk_ok h0
      rw [h2]
      show shiftR nm (shiftK l d) (-d) = _
      unfold shiftR
      rw [if_pos h1, if_pos (by omega), shiftK_back, trChk_yes hv]
    · have e1 : shiftR nm l d = trErr 2 := by unfold shiftR; rw [if_pos hv, if_neg hd]
      rw [e1] at h0
      simp [trErr] at h0
  · have e1 : shiftR nm l d = trErr 1 := by unfold shiftR; rw [if_neg hv]
    rw [e1] at h0
    simp [trErr] at h0
theorem eqKy_self (x : Ky) : eqKy x x = true := by simp [eqKy]
theorem sameT_self (nm : ByteArray) (l : List Ky) : sameT nm l nm l = true := by
  unfold sameT
  rw [sameK_yes rfl (fun k h _ => eqKy_self _)]
  simp
theorem upI_le {a s d : Int} (hs : 0 < s) (hd : 0 < d) (h : upI a s ≤ d) : upI a d ≤ s := by
  unfold upI at *
  have e := Int.mul_ediv_add_emod (a + s - 1) s
  have r1 := Int.emod_lt_of_pos (a + s - 1) hs
  generalize (a + s - 1) / s = q at *
  generalize (a + s - 1) % s = r at *
  have h1 : s * q ≤ s * d := Int.mul_le_mul_of_nonneg_left h (Int.le_of_lt hs)
  have h2 : (a + d - 1) / d < s + 1 := Int.ediv_lt_of_lt_mul hd (by rw [Int.add_mul, Int.one_mul]; omega)
  omega
theorem spd_slow {l : List Ky} (hk : okK l) {s : Int} (hs : 1 ≤ s) {k : Nat} (h : k + 1 < l.length) : spd (kyG (slK l s) k) (kyG (slK l s) (k + 1)) ≤ s := by
  have hl := slK_len l s
  rw [kyG_at (show k < (slK l s).length by omega), kyG_at (show k + 1 < (slK l s).length by omega)]
  have e1 : (slK l s)[k]'(by omega) = ⟨slT l s k, (kyG l k).v⟩ := by simp [slK]
  have e2 : (slK l s)[k + 1]'(by omega) = ⟨slT l s (k + 1), (kyG l (k + 1)).v⟩ := by simp [slK]
  rw [e1, e2]
  unfold spd
  dsimp only
  have ht : slT l s (k + 1) - slT l s k = slM l s k := by show slT l s k + slM l s k - slT l s k = _; omega
  rw [ht]
  have hr := hk.ris k (k + 1) h (by omega)
  rw [← kyG_at (show k < l.length by omega), ← kyG_at h] at hr
  refine upI_le (by omega) ?_ ?_
  · unfold slM; split <;> omega
  · unfold slM; split <;> omega
theorem fsP_slow {l : List Ky} {s : Int} (hs : 1 ≤ s) (h : ∀ k, k + 1 < l.length → spd (kyG l k) (kyG l (k + 1)) ≤ s) : ∀ k, k < l.length → (fsP l k).2 ≤ s
  | 0, _ => by show (-1 : Int) ≤ s; omega
  | k + 1, hk => by
    have := fsP_slow hs h k (by omega)
    unfold fsP
    split
    · exact h k hk
    · exact this
theorem slow_law {nm : ByteArray} {l : List Ky} {s : Int} {r : TR3} (h : slR nm l s = r) : (r.co ≠ 0 → r.l.length = 0) ∧ (r.co = 0 → vT r.nm r.l = true ∧ r.l.length = l.length ∧ l.length ≤ 24 ∧ ((fsR r.nm r.l).2.2 = 0 → (fsR r.nm r.l).2.1 ≤ s)) := by
  subst h
  cases hv : vT nm l
  · rw [slR_inv hv]; exact ⟨fun _ => rfl, fun h => by simp [trErr] at h⟩
  by_cases hd : 1 ≤ s ∧ s ≤ 1000000
  rotate_left
  · rw [slR_rng hv hd]; exact ⟨fun _ => rfl, fun h => by simp [trErr] at h⟩
  rw [slR_go hv hd]
  cases hc : vT nm (slK l s)
  · rw [trChk_no hc]; exact ⟨fun _ => rfl, fun h => by simp [trErr] at h⟩
  rw [trChk_yes hc]
  refine ⟨fun h => absurd rfl h, fun _ => ⟨hc, slK_len l s, (vT_of hv).2.1.2, fun _ => ?_⟩⟩
  have h1 := (vT_of hv).2
  show (fsR nm (slK l s)).2.1 ≤ s
  unfold fsR
  rw [if_pos hc]
  split
  · show (0 : Int) ≤ s; omega
  · have hl := slK_len l s
    exact fsP_slow hd.1 (fun k hk => spd_slow h1 hd.1 (by omega)) _ (by have := h1.1.1; omega)
end Go.Proofs.Ytpapphhbogngcaa
