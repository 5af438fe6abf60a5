/-
  What the arguments of a call are, where they are slices: the reading opened into a list and its cells. Conditions: none beside the readings.
-/
import Derived.Test.YtonmeffhelaohaaDoorOpen
import Derived.Test.YtonmeffhelaohaaDoorRow
namespace Go.Proofs.YtonmeffhelaohaaDoor
open Go.RowKit Go.ChangeShapes Go.WideShapes Go.Deep
section
variable {H : Type} {enc : TypeId × Value → H} {P : Program} {w : World} {base : Nat} {spare : Nat → Bool} {held : Bool} {α : Type}
/-- a slice, by what its elements' cells are -/
theorem op_rd {f : α → List Value} {p : α → Prop} {r : Reach} {b0 sz : Nat} {t e : TypeId} {v : Value} {d : DataW H} {pl : List MemPlace} (ht : P.underlying t = some (.slice e)) (hsz : P.cellsOf e = sz) (hpos : 0 < sz) (hf : ∀ x, (f x).length = sz)
    (dec : ∀ (n : Nat) (cs : List Value) (y : DataW H × List MemPlace), DataW.trod enc P w base spare held n e cs = some y → ∃ x, cs = f x ∧ p x)
    (hv : Value.okWide P w r b0 t v) (h : DataW.Trod enc P w base spare held t v d pl) :
    ∃ (A : Option Addr) (l : List α) (c : Nat), v = .slice A l.length c ∧ Rd sz f w A l ∧ ∀ x ∈ l, p x := by
  obtain ⟨a, len, cap, rfl⟩ := okWide_slice ht hv
  obtain ⟨fuel, hfu⟩ := h
  rcases open_slice ht hfu with ⟨hcs, -⟩ | ⟨a', len', cap', m, n, D, Pl, hcs, _, hl, hm, hmm, _, hx⟩
  · simp [Value.cells] at hcs
    obtain ⟨rfl, rfl, rfl⟩ := hcs
    exact ⟨none, [], 0, rfl, Rd.nil, by simp⟩
  · simp [Value.cells] at hcs
    obtain ⟨rfl, rfl, rfl⟩ := hcs
    have hlm : len ≤ m := by rw [hmm]; split <;> omega
    by_cases h0 : 0 < len
    · have : Nonempty α := by
        obtain ⟨cs', _, h2⟩ := hx 0 (by omega)
        obtain ⟨x, _⟩ := dec _ _ _ h2
        exact ⟨x⟩
      have : Inhabited α := Classical.inhabited_of_nonempty this
      obtain ⟨X, hX⟩ := choose_lt (α := α) (n := len) (p := fun i x => w.cells? base (a'.add (i * P.cellsOf e)) (P.cellsOf e) = some (f x) ∧ p x) (fun i hi => by
        obtain ⟨cs', h1, h2⟩ := hx i (by omega)
        obtain ⟨x, rfl, hp⟩ := dec _ _ _ h2
        exact ⟨x, h1, hp⟩)
      rw [hsz] at hX
      obtain ⟨b, o, spot⟩ := a'
      have hc0 : ∀ i, i < len → ∀ j, j < sz → w.cell? (((⟨b, o, spot⟩ : Addr).add (i * sz)).add j) = (f (X i))[j]? := fun i hi => (World.cells?_some (hX i hi).1).2.2
      have h00 := hc0 0 h0 0 hpos
      rw [List.getElem?_eq_getElem (by rw [hf]; exact hpos)] at h00
      have hspot : spot = none := by simpa [Addr.add] using World.cell?_spot h00
      subst hspot
      refine ⟨some ⟨b, o, none⟩, (List.range len).map X, cap, by simp, ⟨by simp; simp only [maxLen] at hm; omega, fun _ => ⟨b, o, rfl, ⟨?_⟩, fun k hk j v hv => ?_⟩⟩, fun x hx => ?_⟩
      · have := World.block_lt_of_cell? _ _ h00
        simpa [Addr.add] using this
      · have hk' : k < len := by simpa using hk
        have hj : j < sz := by
          have := (List.getElem?_eq_some_iff.1 hv).1
          rwa [hf] at this
        have := hc0 k hk' j hj
        rw [add_plain, add_plain] at this
        rw [this]
        simpa using hv
      · simp at hx
        obtain ⟨i, hi, rfl⟩ := hx
        exact (hX i hi).2
    · have : len = 0 := by omega
      subst this
      exact ⟨some a', [], cap, rfl, Rd.nil, by simp⟩
/-- a slice in a cell, by what its elements' cells are -/
theorem dec_rd {f : α → List Value} {p : α → Prop} {sz fuel : Nat} {t e : TypeId} {cs : List Value} {y : DataW H × List MemPlace} (ht : P.underlying t = some (.slice e)) (hsz : P.cellsOf e = sz) (hpos : 0 < sz) (hf : ∀ x, (f x).length = sz)
    (dec : ∀ (n : Nat) (cs : List Value) (y : DataW H × List MemPlace), DataW.trod enc P w base spare held n e cs = some y → ∃ x, cs = f x ∧ p x)
    (hfu : DataW.trod enc P w base spare held fuel t cs = some y) :
    ∃ (A : Option Addr) (l : List α) (c : Nat), cs = [.slice A l.length c] ∧ Rd sz f w A l ∧ ∀ x ∈ l, p x := by
  rcases open_slice ht hfu with ⟨rfl, -⟩ | ⟨a', len, cap, m, n, D, Pl, rfl, _, hl, hm, hmm, _, hx⟩
  · exact ⟨none, [], 0, rfl, Rd.nil, by simp⟩
  · have hlm : len ≤ m := by rw [hmm]; split <;> omega
    by_cases h0 : 0 < len
    · have : Nonempty α := by
        obtain ⟨cs', _, h2⟩ := hx 0 (by omega)
        obtain ⟨x, _⟩ := dec _ _ _ h2
        exact ⟨x⟩
      have : Inhabited α := Classical.inhabited_of_nonempty this
      obtain ⟨X, hX⟩ := choose_lt (α := α) (n := len) (p := fun i x => w.cells? base (a'.add (i * P.cellsOf e)) (P.cellsOf e) = some (f x) ∧ p x) (fun i hi => by
        obtain ⟨cs', h1, h2⟩ := hx i (by omega)
        obtain ⟨x, rfl, hp⟩ := dec _ _ _ h2
        exact ⟨x, h1, hp⟩)
      rw [hsz] at hX
      obtain ⟨b, o, spot⟩ := a'
      have hc0 : ∀ i, i < len → ∀ j, j < sz → w.cell? (((⟨b, o, spot⟩ : Addr).add (i * sz)).add j) = (f (X i))[j]? := fun i hi => (World.cells?_some (hX i hi).1).2.2
      have h00 := hc0 0 h0 0 hpos
      rw [List.getElem?_eq_getElem (by rw [hf]; exact hpos)] at h00
      have hspot : spot = none := by simpa [Addr.add] using World.cell?_spot h00
      subst hspot
      refine ⟨some ⟨b, o, none⟩, (List.range len).map X, cap, by simp, ⟨by simp; simp only [maxLen] at hm; omega, fun _ => ⟨b, o, rfl, ⟨?_⟩, fun k hk j v hv => ?_⟩⟩, fun x hx => ?_⟩
      · have := World.block_lt_of_cell? _ _ h00
        simpa [Addr.add] using this
      · have hk' : k < len := by simpa using hk
        have hj : j < sz := by
          have := (List.getElem?_eq_some_iff.1 hv).1
          rwa [hf] at this
        have := hc0 k hk' j hj
        rw [add_plain, add_plain] at this
        rw [this]
        simpa using hv
      · simp at hx
        obtain ⟨i, hi, rfl⟩ := hx
        exact (hX i hi).2
    · have : len = 0 := by omega
      subst this
      exact ⟨some a', [], cap, rfl, Rd.nil, by simp⟩
/-- the cells of a struct whose fields have one cell each -/
theorem dec_fields {t : TypeId} {fs : Array Field} (hs : P.underlying t = some (.struct fs)) (hone : oneCellFields P fs = true) (hC : P.cellsOf t = fs.size) {n : Nat} {cs : List Value} {y : DataW H × List MemPlace}
    (h : DataW.trod enc P w base spare held n t cs = some y) :
    cs.length = fs.size ∧ ∃ n' : Nat, ∀ (i : Nat) (f : Field), fs[i]? = some f → ∃ (u : Value) (y : DataW H × List MemPlace), cs[i]? = some u ∧ DataW.trod enc P w base spare held n' f.type [u] = some y := by
  obtain ⟨xs, n, _, _, hl, hlen, hg⟩ := DataW.trod_struct hs h
  refine ⟨by omega, n, fun i f hi => ?_⟩
  obtain ⟨ho, hk⟩ := hone_of hone i f hi
  have hif : i < fs.size := (Array.getElem?_eq_some_iff.1 hi).1
  have hic : i < cs.length := by omega
  have h1 := hg i f hi
  rw [ho, hk] at h1
  rw [show (cs.drop i).take 1 = [cs[i]] by rw [List.drop_eq_getElem_cons hic]; rfl] at h1
  have hx : i < xs.length := by omega
  exact ⟨_, _, List.getElem?_eq_getElem hic, h1.trans (List.getElem?_eq_getElem hx)⟩
theorem op_str {r : Reach} {b0 : Nat} {t : TypeId} {v : Value} {d : DataW H} {p : List MemPlace} (hs : P.underlying t = some .string) (hv : Value.okWide P w r b0 t v) (h : DataW.Trod enc P w base spare held t v d p) :
    ∃ s : ByteArray, v = .string s ∧ s.size ≤ 9223372036854775807 := by
  obtain ⟨s, rfl⟩ := okWide_string hs hv
  obtain ⟨fuel, hf⟩ := h
  obtain ⟨s', h, _, hl⟩ := DataW.trod_string hs hf
  simp [Value.cells] at h
  subst h
  simp only [maxLen] at hl
  exact ⟨s, rfl, by omega⟩
theorem dec_int {t : TypeId} {n : Nat} {u : Value} {y : DataW H × List MemPlace} (hs : P.underlying t = some (.int .i64)) (h : DataW.trod enc P w base spare held n t [u] = some y) : ∃ m : Int, u = .int .i64 m ∧ i64' m := by
  obtain ⟨m, q, _, hw⟩ := DataW.trod_int hs h
  simp at q
  exact ⟨m, q, int_bd hw⟩
theorem dec_str {t : TypeId} {n : Nat} {u : Value} {y : DataW H × List MemPlace} (hs : P.underlying t = some .string) (h : DataW.trod enc P w base spare held n t [u] = some y) : ∃ s : ByteArray, u = .string s ∧ s.size ≤ 9223372036854775807 := by
  obtain ⟨m, q, _, hw⟩ := DataW.trod_string hs h
  simp at q
  simp only [maxLen] at hw
  exact ⟨m, q, by omega⟩
end
end Go.Proofs.YtonmeffhelaohaaDoor
