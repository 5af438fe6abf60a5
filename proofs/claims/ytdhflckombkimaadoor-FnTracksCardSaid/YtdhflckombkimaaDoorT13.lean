/-
  copy of elements of several cells; own rows with their capacity; what Insert does to an own row. Conditions: those typed.
-/
import Derived.Test.YtdhflckombkimaaDoorT10
import Derived.Laws.IdiomCopy
namespace Go.Proofs.YtdhflckombkimaaDoor
open Go.RowKit
section
variable {P : Program}
/-- 'copy' of elements of sz cells: all is read before anything is written -/
theorem run_copyN (sz : Nat) (w : World) (dT sT ty elem : TypeId) (b o dLen dCap : Nat) (a : Addr) (sLen sCap : Nat) (cs : List Value)
    (hu : P.underlying dT = some (.slice elem)) (hs : (P.info? elem).map (·.size) = some sz) (hn : cs.length = Nat.min sLen dLen * sz)
    (hsrc : ∀ j v, cs[j]? = some v → w.cell? (a.add j) = some v) (hc : ∀ j, j < cs.length → (w.cell? ⟨b, o + j, none⟩).isSome = true) (hf : ∀ j, j < cs.length → w.frozen? ⟨b, o + j, none⟩ = false) (h1 : ∀ v ∈ cs, v.oneCell' = true) :
    (Builtin.copy_ #[dT, sT] ty #[.slice (some ⟨b, o, none⟩) dLen dCap, .slice (some a) sLen sCap]).run P w = .ok (goInt (Nat.min sLen dLen)) (w.setCells b o cs) := by
  have hl := run_loadCells_list (P := P) w a cs hsrc
  have hst := run_storeCells_cells (P := P) b o cs 0 w (by simpa using hc) (by simpa using hf) h1
  cases hq : P.info? elem with
  | none => simp [hq] at hs
  | some i =>
    have hi : i.size = sz := by simpa [hq] using hs
    simp [Builtin.copy_, run_underlying hu, Builtin.lenOf, Builtin.firstCells, sizeOf, typeInfo, hq, hi, ← hn, hl, hst]
theorem wp_copyI (w : World) {o : Oper} {a : Act} {K : Act → World → Prop} {Q : Exit → Act → World → Prop} (d s : Operand) (t t' : TypeId)
    (ho : o.op = .call { callee := .builtin .copy, args := #[d, s], argTypes := #[t, t'] }) (v u : Value) (hd : a.eval d = v) (hs : a.eval s = u) {v' : Value} {w' : World}
    (hr : (Builtin.copy_ #[t, t'] o.type #[v, u]).run P w = .ok v' w') (h : K (a.put o.dst v') w') : o.wp P a w K Q := by
  unfold Oper.wp execOp
  simp only [ho, resolve, invoke, builtin, Sem.run_bind, Sem.run_pure, Result.andThen_ok, List.map_toArray, List.map_cons, List.map_nil, hd, hs, hr]
  exact h
theorem wpList_copyI (w : World) {ops : Array Oper} {rest : List Oper} {o : Oper} {a : Act} {Q : Exit → Act → World → Prop} (hgd : o.guard = none) (d s : Operand) (t t' : TypeId)
    (ho : o.op = .call { callee := .builtin .copy, args := #[d, s], argTypes := #[t, t'] }) (v u : Value) (hd : a.eval d = v) (hs : a.eval s = u) {v' : Value} {w' : World}
    (hr : (Builtin.copy_ #[t, t'] o.type #[v, u]).run P w = .ok v' w') (h : wpList P ops Q rest (a.put o.dst v') w') : wpList P ops Q (o :: rest) a w :=
  wpList_plain hgd fun _ hK => wp_copyI w d s t t' ho v u hd hs hr (hK _ _ h)
theorem step_copyI {ops : Array Oper} {o : Oper} {a : Act} {w : World} {K : Act → World → Prop} {Q : Exit → Act → World → Prop} {E : Prop}
    (hg : o.guard = none) (d x : Operand) (dT sT : TypeId) (hop : o.op = Op.call { callee := Callee.builtin Builtin.copy, args := #[d, x], argTypes := #[dT, sT] })
    (v u : Value) (hd : a.eval d = v) (hx : a.eval x = u) {v' : Value} {w' : World} (hr : (Builtin.copy_ #[dT, sT] o.type #[v, u]).run P w = .ok v' w') (hK : K (a.put o.dst v') w') :
    if Region.wanted o (yielded ops a.tmps) = true then Oper.wp P o a w K Q else E := by
  have hw : Region.wanted o (yielded ops a.tmps) = true := by simp [Region.wanted, hg]
  rw [if_pos hw]
  exact wp_copyI w d x dT sT hop v u hd hx hr hK
end
section
variable {α : Type} {sz : Nat} {f : α → List Value} {w : World} {g : Nat} {l : List α} {e : TypeId} {cap B : Nat}
/-- a list with one more at place i -/
def insL (l : List α) (i : Nat) (x : α) : List α := (l.take i ++ [x]) ++ l.drop i
theorem insL_len (l : List α) (i : Nat) (x : α) (h : i ≤ l.length) : (insL l i x).length = l.length + 1 := by
  unfold insL
  simp only [List.length_append, List.length_take, List.length_singleton, List.length_drop]
  omega
/-- block g is a row for cap elements that begins with l -/
structure Wk (e : TypeId) (sz : Nat) (f : α → List Value) (w : World) (g : Nat) (l : List α) (cap : Nat) : Prop where
  row : ∃ F : Nat → Value, w.rowIs g e (cap * sz) F ∧ ∀ (k : Nat) (h : k < l.length) (j : Nat) (v : Value), (f l[k])[j]? = some v → j < sz → F (k * sz + j) = v
  le : l.length ≤ cap
  cm : cap ≤ maxLen
namespace Wk
theorem lt (h : Wk e sz f w g l cap) : LtW g w := ⟨by obtain ⟨F, hr, _⟩ := h.row; exact hr.lt⟩
theorem congr {w' : World} (h : Wk e sz f w g l cap) (he : w'.heap[g]? = w.heap[g]?) : Wk e sz f w' g l cap :=
  ⟨by obtain ⟨F, hr, hc⟩ := h.row; exact ⟨F, hr.of_block he, hc⟩, h.le, h.cm⟩
theorem wr (hf : ∀ x, (f x).length = sz) (h : Wk e sz f w g l cap) : Wr sz f w g l := by
  obtain ⟨F, hr, hc⟩ := h.row
  have := h.le; have := h.cm
  exact ⟨by simp only [maxLen] at *; omega, ⟨e, _, F, Nat.mul_le_mul_right _ h.le, hr, hc⟩, fun x _ => hf x⟩
theorem of_own (hf : ∀ x, (f x).length = sz) (h : w.ownsRow B e sz (.slice (some ⟨g, 0, none⟩) l.length cap) l.length (l.flatMap f)) : Wk e sz f w g l cap ∧ B ≤ g := by
  rcases h.2 with ⟨h1, _⟩ | ⟨g', cap', cur, h1, hg, hgg, hn, hcm, hcs, htake⟩
  · cases h1
  · cases h1
    refine ⟨⟨⟨fun i => (cur[i]?).getD undef, ⟨cur, hgg, hcs, fun i hi => by simp [hcs, hi]⟩, fun k hk j v hv hj => ?_⟩, hn, hcm⟩, hg⟩
    have h1 := flat_at hf l k hk j hj
    have hlt : k * sz + j < l.length * sz := by
      have := Nat.mul_le_mul_right sz (Nat.succ_le_of_lt hk)
      rw [Nat.succ_mul] at this
      omega
    rw [hv, ← htake, List.getElem?_take, if_pos hlt] at h1
    show (cur[k * sz + j]?).getD undef = v
    simp at h1
    rw [h1]; rfl
theorem own (hf : ∀ x, (f x).length = sz) (hsz : 0 < sz) (h : Wk e sz f w g l cap) (hB : B ≤ g) : w.ownsRow B e sz (.slice (some ⟨g, 0, none⟩) l.length cap) l.length (l.flatMap f) := by
  obtain ⟨F, ⟨c, hb, hs, hc'⟩, hc⟩ := h.row
  refine ⟨flat_len hf l, .inr ⟨g, cap, c, rfl, hB, hb, h.le, h.cm, hs, ?_⟩⟩
  have hle := Nat.mul_le_mul_right sz h.le
  apply List.ext_getElem?
  intro t
  rw [List.getElem?_take]
  by_cases ht : t < l.length * sz
  · rw [if_pos ht, Array.getElem?_toList, hc' t (by omega)]
    have hk : t / sz < l.length := by rw [Nat.div_lt_iff_lt_mul hsz]; omega
    have hi : t % sz < sz := Nat.mod_lt _ hsz
    have he : t / sz * sz + t % sz = t := by rw [Nat.mul_comm]; exact Nat.div_add_mod ..
    have h1 := flat_at hf l (t / sz) hk (t % sz) hi
    rw [he] at h1
    rw [h1]
    have h2 : (f l[t / sz])[t % sz]? = some ((f l[t / sz])[t % sz]'(by rw [hf]; exact hi)) := List.getElem?_eq_getElem _
    rw [h2, ← hc _ hk _ _ h2 hi, he]
  · rw [if_neg ht, List.getElem?_eq_none (by rw [flat_len hf]; omega)]
theorem of_wr {F : Nat → Value} (h : Wr sz f w g l) (hr : w.rowIs g e (cap * sz) F) (hle : l.length ≤ cap) (hcm : cap ≤ maxLen) : Wk e sz f w g l cap := by
  refine ⟨⟨F, hr, fun k hk j v hv hj => ?_⟩, hle, hcm⟩
  obtain ⟨e', N', F', hN', hr', hc'⟩ := h.row
  have hlt : k * sz + j < l.length * sz := by
    have := Nat.mul_le_mul_right sz (Nat.succ_le_of_lt hk)
    rw [Nat.succ_mul] at this
    omega
  have hle' := Nat.mul_le_mul_right sz hle
  have h1 := hr.cell (i := k * sz + j) (by omega)
  have h2 := hr'.cell (i := k * sz + j) (by omega)
  rw [h1] at h2
  rw [Option.some.inj h2]
  exact hc' k hk j v hv hj
/-- the cells of the list from place i on -/
theorem cells (hf : ∀ x, (f x).length = sz) (h : Wk e sz f w g l cap) (i : Nat) : ∀ t u, ((l.drop i).flatMap f)[t]? = some u → w.cell? ⟨g, i * sz + t, none⟩ = some u := by
  intro t u hu
  obtain ⟨F, hr, hc⟩ := h.row
  obtain ⟨k, hk, i', hi', rfl, hgt⟩ := flat_get hf _ _ _ hu
  rw [List.length_drop] at hk
  rw [List.getElem_drop] at hgt
  have hlt : (i + k) * sz + i' < cap * sz := by
    have := Nat.mul_le_mul_right sz (show i + k + 1 ≤ cap by have := h.le; omega)
    rw [Nat.succ_mul] at this
    omega
  have h4 := hr.cell hlt
  rw [hc (i + k) (by omega) i' u hgt hi'] at h4
  rwa [Nat.add_mul, Nat.add_assoc] at h4
theorem front (hf : ∀ x, (f x).length = sz) (h : Wk e sz f w g l cap) (i : Nat) : ∀ t u, ((l.take i).flatMap f)[t]? = some u → w.cell? ⟨g, t, none⟩ = some u := by
  intro t u hu
  obtain ⟨F, hr, hc⟩ := h.row
  obtain ⟨k, hk, i', hi', rfl, hgt⟩ := flat_get hf _ _ _ hu
  rw [List.length_take] at hk
  rw [List.getElem_take] at hgt
  have hlt : k * sz + i' < cap * sz := by
    have := Nat.mul_le_mul_right sz (show k + 1 ≤ cap by have := h.le; omega)
    rw [Nat.succ_mul] at this
    omega
  have h4 := hr.cell hlt
  rw [hc k (by omega) i' u hgt hi'] at h4
  exact h4
end Wk
/-- a row that holds a list with one more -/
theorem Wr.ofG {N : Nat} {G : Nat → Value} (hf : ∀ x, (f x).length = sz) (x : α) (i : Nat) (hi : i ≤ l.length) (hlen : l.length < 9223372036854775807) (hr : w.rowIs g e N G) (hN : (l.length + 1) * sz ≤ N)
    (h1 : ∀ t v, ((l.take i).flatMap f)[t]? = some v → G t = v) (h2 : ∀ j v, (f x)[j]? = some v → G (i * sz + j) = v) (h3 : ∀ t v, ((l.drop i).flatMap f)[t]? = some v → G (i * sz + sz + t) = v) : Wr sz f w g (insL l i x) := by
  have hl := insL_len l i x hi
  refine ⟨by omega, ⟨e, N, G, by rw [hl]; exact hN, hr, fun k hk j v hv hj => ?_⟩, fun x _ => hf x⟩
  have hti : (l.take i).length = i := by rw [List.length_take]; omega
  rcases Nat.lt_trichotomy k i with h | h | h
  · refine h1 _ _ ?_
    rw [flat_at hf (l.take i) k (by omega) j hj]
    simp only [insL] at hv
    rw [List.getElem_append_left (by simp; omega), List.getElem_append_left (by omega)] at hv
    exact hv
  · subst h
    refine h2 j v ?_
    simp only [insL] at hv
    rw [List.getElem_append_left (by simp; omega), List.getElem_append_right (by omega)] at hv
    simpa using hv
  · have hkd : k - (i + 1) < (l.drop i).length := by rw [List.length_drop]; omega
    have := h3 ((k - (i + 1)) * sz + j) v (by
      rw [flat_at hf (l.drop i) (k - (i + 1)) hkd j hj]
      simp only [insL] at hv
      rw [List.getElem_append_right (by simp; omega)] at hv
      simp only [List.length_append, hti, List.length_singleton] at hv
      exact hv)
    rwa [show i * sz + sz + ((k - (i + 1)) * sz + j) = k * sz + j by rw [← Nat.add_assoc, ← Nat.succ_mul, ← Nat.add_mul, show i + 1 + (k - (i + 1)) = k by omega]] at this
/-- the two writes in place -/
theorem Wr.insRoom (hf : ∀ x, (f x).length = sz) (x : α) (i : Nat) (hi : i ≤ l.length) (hlen : l.length < 9223372036854775807) (h : Wk e sz f w g l cap) (hc : l.length + 1 ≤ cap) :
    Wr sz f (setCells (setCells w g (i * sz + sz) ((l.drop i).flatMap f)) g (i * sz) (f x)) g (insL l i x) := by
  obtain ⟨F, hr, hF⟩ := h.row
  obtain ⟨G1, a1, a2, a3⟩ := rowIs_setCells ((l.drop i).flatMap f) w (i * sz + sz) F hr
  obtain ⟨G2, b1, b2, b3⟩ := rowIs_setCells (f x) _ (i * sz) G1 a1
  refine Wr.ofG hf x i hi hlen b1 (Nat.mul_le_mul_right _ hc) (fun t v ht => ?_) b3 (fun t v ht => ?_)
  · have hlt : t < i * sz := by
      have := (List.getElem?_eq_some_iff.1 ht).1
      rw [flat_len hf, List.length_take] at this
      exact Nat.lt_of_lt_of_le this (Nat.mul_le_mul_right _ (by omega))
    rw [b2 _ (.inl hlt), a2 _ (.inl (by omega))]
    obtain ⟨k, hk, i', hi', rfl, hgt⟩ := flat_get hf _ _ _ ht
    rw [List.length_take] at hk
    rw [List.getElem_take] at hgt
    exact hF k (by omega) i' v hgt hi'
  · rw [b2 _ (.inr (by rw [hf]; omega))]
    exact a3 t v ht
/-- the two writes into a new row -/
theorem Wr.insNew {N : Nat} {F : Nat → Value} (hf : ∀ x, (f x).length = sz) (x : α) (i : Nat) (hi : i ≤ l.length) (hlen : l.length < 9223372036854775807) (hr : w.rowIs g e N F) (hN : (l.length + 1) * sz ≤ N) (hF : ∀ t v, ((l.take i).flatMap f)[t]? = some v → F t = v) :
    Wr sz f (setCells (setCells w g (i * sz) (f x)) g (i * sz + sz) ((l.drop i).flatMap f)) g (insL l i x) := by
  obtain ⟨G1, a1, a2, a3⟩ := rowIs_setCells (f x) w (i * sz) F hr
  obtain ⟨G2, b1, b2, b3⟩ := rowIs_setCells ((l.drop i).flatMap f) _ (i * sz + sz) G1 a1
  refine Wr.ofG hf x i hi hlen b1 hN (fun t v ht => ?_) (fun j v hj => ?_) b3
  · have hlt : t < i * sz := by
      have := (List.getElem?_eq_some_iff.1 ht).1
      rw [flat_len hf, List.length_take] at this
      exact Nat.lt_of_lt_of_le this (Nat.mul_le_mul_right _ (by omega))
    rw [b2 _ (.inl (by omega)), a2 _ (.inl hlt)]
    exact hF t v ht
  · have := (List.getElem?_eq_some_iff.1 hj).1
    rw [hf] at this
    rw [b2 _ (.inl (by omega))]
    exact a3 j v hj
end
end Go.Proofs.YtdhflckombkimaaDoor
