/-
  What a script does when it runs, in plain words. Conditions: those typed at each theorem.
-/
import Derived.Test.YtonmeffhelaohaaDoorV8
namespace Go.Proofs.YtonmeffhelaohaaDoor
open Go.RowKit
open Classical in
theorem vL_of {l : List Ln} (h : vL l = true) : okL l := of_decide_eq_true h
structure Ev where
  t : Int
  c : ByteArray
/-- the cells of an event -/
def evC (x : Ev) : List Value := [.int .i64 x.t, .string x.c]
/-- where a run stands -/
structure RS where
  pos : Nat
  tm : Int
  ev : List Ev
  n : Nat
  cnt : Nat → Int
  seen : Nat → Bool
def RS.zero : RS := ⟨0, 0, [], 0, fun _ => 0, fun _ => false⟩
def updI (f : Nat → Int) (k : Nat) (v : Int) : Nat → Int := fun j => if j = k then v else f j
def updB (f : Nat → Bool) (k : Nat) : Nat → Bool := fun j => if j = k then true else f j
inductive Out
  | go (s : RS)
  | stop (c : Int)
/-- one step -/
def stepL (l : List Ln) (s : RS) (x : Ln) : Out :=
  if x.kind = 2 then (if 7200000 < s.tm + x.value then .stop 6 else .go ⟨s.pos + 1, s.tm + x.value, s.ev, s.n + 1, s.cnt, updB s.seen s.pos⟩)
  else if x.kind = 3 then (if s.ev.length = 64 then .stop 5 else .go ⟨s.pos + 1, s.tm, s.ev ++ [⟨s.tm, x.name⟩], s.n + 1, s.cnt, updB s.seen s.pos⟩)
  else if x.kind = 4 then (if s.cnt s.pos < x.value then .go ⟨(lbl l x.name).toNat, s.tm, s.ev, s.n + 1, updI s.cnt s.pos (s.cnt s.pos + 1), updB s.seen s.pos⟩
    else .go ⟨s.pos + 1, s.tm, s.ev, s.n + 1, updI s.cnt s.pos 0, updB s.seen s.pos⟩)
  else if x.kind = 5 then .go ⟨l.length, s.tm, s.ev, s.n + 1, s.cnt, updB s.seen s.pos⟩
  else .go ⟨s.pos + 1, s.tm, s.ev, s.n + 1, s.cnt, updB s.seen s.pos⟩
/-- a run with so many steps at most -/
def runL (l : List Ln) : Nat → RS → Int × RS
  | 0, s => if s.pos < l.length then (5, RS.zero) else (0, s)
  | f + 1, s => if h : s.pos < l.length then (match stepL l s l[s.pos] with | .go s' => runL l f s' | .stop c => (c, RS.zero)) else (0, s)
theorem runL_end {l : List Ln} {f : Nat} {s : RS} (h : ¬ s.pos < l.length) : runL l f s = (0, s) := by
  cases f <;> simp [runL, h]
theorem runL_full {l : List Ln} {s : RS} (h : s.pos < l.length) : runL l 0 s = (5, RS.zero) := by simp [runL, h]
theorem runL_go {l : List Ln} {f : Nat} {s s' : RS} (h : s.pos < l.length) (hs : stepL l s l[s.pos] = .go s') : runL l (f + 1) s = runL l f s' := by simp [runL, h, hs]
theorem runL_stop {l : List Ln} {f : Nat} {s : RS} {c : Int} (h : s.pos < l.length) (hs : stepL l s l[s.pos] = .stop c) : runL l (f + 1) s = (c, RS.zero) := by simp [runL, h, hs]
/-- what a run answers: the code, and where it stands at its end -/
noncomputable def ansL (l : List Ln) (budget : Int) : Int × RS :=
  if vL l = true then (if 1 ≤ budget ∧ budget ≤ 20000 then runL l budget.toNat RS.zero else (2, RS.zero)) else (1, RS.zero)
/-- what holds at each step -/
structure RS.ok (l : List Ln) (s : RS) : Prop where
  tm : 0 ≤ s.tm ∧ s.tm ≤ 7200000
  evn : s.ev.length ≤ 64
  evs : ∀ x ∈ s.ev, (0 ≤ x.t ∧ x.t ≤ s.tm) ∧ okN x.c
  mono : s.ev.Pairwise fun a b => a.t ≤ b.t
  cnt : ∀ i, 0 ≤ s.cnt i ∧ s.cnt i ≤ 100
  pos : s.pos ≤ l.length
theorem RS.zero_ok (l : List Ln) : RS.zero.ok l := ⟨by simp [RS.zero], by simp [RS.zero], by simp [RS.zero], by simp [RS.zero], by simp [RS.zero], by simp [RS.zero]⟩
theorem lbl_lt (l : List Ln) (nm : ByteArray) : -1 ≤ lbl l nm ∧ (0 ≤ lbl l nm → lbl l nm < l.length) := by
  unfold lbl
  cases hf : l.findIdx? (fun x => decide (isLbl nm x)) with
  | none => simp
  | some i =>
    rw [List.findIdx?_eq_some_iff_getElem] at hf
    obtain ⟨hi, _⟩ := hf
    simp; omega
/-- what a line of a script is -/
theorem okAt_kind {l : List Ln} {i : Nat} {x : Ln} (h : okAt l i x) :
    (x.kind = 1 ∧ x.value = 0) ∨ (x.kind = 2 ∧ 1 ≤ x.value ∧ x.value ≤ 7200000) ∨ (x.kind = 3 ∧ x.value = 0 ∧ okN x.name) ∨ (x.kind = 4 ∧ (1 ≤ x.value ∧ x.value ≤ 100) ∧ 0 ≤ lbl l x.name) ∨ (x.kind = 5 ∧ x.value = 0) := by
  obtain ⟨h1, h2, h3⟩ := h
  rcases vOne_cases x with ⟨h1', ⟨hv, h2', h3'⟩ | ⟨hv, h2'⟩ | ⟨hv, h2', h3'⟩⟩ | ⟨h1', ⟨hv, h2', h3'⟩ | ⟨hv, h2'⟩ | ⟨hv, h2', h3'⟩⟩ | ⟨h1', ⟨hv, h2', h2'', h3', h4'⟩ | ⟨hv, h2', h2''⟩ | ⟨hv, h2', h2'', h3'⟩⟩ | ⟨h1', ⟨hv, h2', h3', h4'⟩ | ⟨hv, h2'⟩ | ⟨hv, h2', h3'⟩⟩ |
    ⟨h1', ⟨hv, h2', h2'', h3'⟩ | ⟨hv, h2', h2''⟩ | ⟨hv, h2', h2'', h3'⟩⟩ | ⟨hv, h1', h2', h3', h4', h5'⟩
  all_goals first
    | (rw [hv] at h1; cases h1; done)
    | exact .inl ⟨h1', h3'⟩
    | exact .inr (.inl ⟨h1', h3', h4'⟩)
    | exact .inr (.inr (.inl ⟨h1', h3', h2'⟩))
    | exact .inr (.inr (.inr (.inl ⟨h1', ⟨h3', h4'⟩, h3 h1'⟩)))
    | exact .inr (.inr (.inr (.inr ⟨h1', h3'⟩)))
/-- the ways of one step -/
theorem stepL_cases {l : List Ln} {s : RS} {x : Ln} (h : okAt l s.pos x) :
    (x.kind = 1 ∧ stepL l s x = .go ⟨s.pos + 1, s.tm, s.ev, s.n + 1, s.cnt, updB s.seen s.pos⟩) ∨
    (x.kind = 2 ∧ (1 ≤ x.value ∧ x.value ≤ 7200000) ∧ s.tm + x.value ≤ 7200000 ∧ stepL l s x = .go ⟨s.pos + 1, s.tm + x.value, s.ev, s.n + 1, s.cnt, updB s.seen s.pos⟩) ∨
    (x.kind = 2 ∧ (1 ≤ x.value ∧ x.value ≤ 7200000) ∧ 7200000 < s.tm + x.value ∧ stepL l s x = .stop 6) ∨
    (x.kind = 3 ∧ s.ev.length ≠ 64 ∧ stepL l s x = .go ⟨s.pos + 1, s.tm, s.ev ++ [⟨s.tm, x.name⟩], s.n + 1, s.cnt, updB s.seen s.pos⟩) ∨
    (x.kind = 3 ∧ s.ev.length = 64 ∧ stepL l s x = .stop 5) ∨
    (x.kind = 4 ∧ (1 ≤ x.value ∧ x.value ≤ 100) ∧ 0 ≤ lbl l x.name ∧ s.cnt s.pos < x.value ∧ stepL l s x = .go ⟨(lbl l x.name).toNat, s.tm, s.ev, s.n + 1, updI s.cnt s.pos (s.cnt s.pos + 1), updB s.seen s.pos⟩) ∨
    (x.kind = 4 ∧ (1 ≤ x.value ∧ x.value ≤ 100) ∧ 0 ≤ lbl l x.name ∧ x.value ≤ s.cnt s.pos ∧ stepL l s x = .go ⟨s.pos + 1, s.tm, s.ev, s.n + 1, updI s.cnt s.pos 0, updB s.seen s.pos⟩) ∨
    (x.kind = 5 ∧ stepL l s x = .go ⟨l.length, s.tm, s.ev, s.n + 1, s.cnt, updB s.seen s.pos⟩) := by
  unfold stepL
  rcases okAt_kind h with ⟨h1, h2⟩ | ⟨h1, h2, h3⟩ | ⟨h1, h2, h3⟩ | ⟨h1, h2, h3⟩ | ⟨h1, h2⟩
  · simp [h1]
  · by_cases hc : 7200000 < s.tm + x.value
    · simp [h1, hc]; omega
    · simp [h1, hc]; omega
  · by_cases hc : s.ev.length = 64 <;> simp [h1, hc]
  · by_cases hc : s.cnt s.pos < x.value
    · simp [h1, hc]; omega
    · simp [h1, hc]; omega
  · simp [h1]
/-- a step keeps what holds -/
theorem stepL_ok {l : List Ln} {s s' : RS} {x : Ln} (h : okAt l s.pos x) (hp : s.pos < l.length) (hs : s.ok l) (he : stepL l s x = .go s') : s'.ok l ∧ s'.n = s.n + 1 := by
  have hk := okAt_kind h
  obtain ⟨⟨t1, t2⟩, h2, h3, h4, h5, h6⟩ := hs
  have hc := h5 s.pos
  rcases stepL_cases h with ⟨k1, e⟩ | ⟨k1, ⟨k2, k2'⟩, k3, e⟩ | ⟨k1, k2, k3, e⟩ | ⟨k1, k2, e⟩ | ⟨k1, k2, e⟩ | ⟨k1, ⟨k2, k2'⟩, k3, k4, e⟩ | ⟨k1, k2, k3, k4, e⟩ | ⟨k1, e⟩
  all_goals
    rw [e] at he
    cases he
    try
      refine ⟨⟨?_, ?_, ?_, ?_, ?_, ?_⟩, rfl⟩
  · exact ⟨t1, t2⟩
  · exact h2
  · exact h3
  · exact h4
  · exact h5
  · exact hp
  · exact ⟨by show 0 ≤ s.tm + x.value; omega, k3⟩
  · exact h2
  · exact fun y hy => ⟨⟨(h3 y hy).1.1, by have := (h3 y hy).1.2; show y.t ≤ s.tm + x.value; omega⟩, (h3 y hy).2⟩
  · exact h4
  · exact h5
  · exact hp
  · exact ⟨t1, t2⟩
  · simp; omega
  · intro y hy
    rcases List.mem_append.1 hy with hy | hy
    · exact h3 y hy
    · obtain rfl := List.mem_singleton.1 hy
      refine ⟨⟨t1, Int.le_refl _⟩, ?_⟩
      rcases hk with ⟨a, _⟩ | ⟨a, _⟩ | ⟨_, _, a⟩ | ⟨a, _⟩ | ⟨a, _⟩
      · omega
      · omega
      · exact a
      · omega
      · omega
  · refine List.pairwise_append.2 ⟨h4, by simp, fun a ha b hb => ?_⟩
    obtain rfl := List.mem_singleton.1 hb
    exact (h3 a ha).1.2
  · exact h5
  · exact hp
  · exact ⟨t1, t2⟩
  · exact h2
  · exact h3
  · exact h4
  · intro i
    show 0 ≤ updI s.cnt s.pos (s.cnt s.pos + 1) i ∧ updI s.cnt s.pos (s.cnt s.pos + 1) i ≤ 100
    unfold updI
    split
    · omega
    · exact h5 i
  · have := lbl_lt l x.name
    show (lbl l x.name).toNat ≤ l.length
    omega
  · exact ⟨t1, t2⟩
  · exact h2
  · exact h3
  · exact h4
  · intro i
    show 0 ≤ updI s.cnt s.pos 0 i ∧ updI s.cnt s.pos 0 i ≤ 100
    unfold updI
    split
    · omega
    · exact h5 i
  · exact hp
  · exact ⟨t1, t2⟩
  · exact h2
  · exact h3
  · exact h4
  · exact h5
  · exact Nat.le_refl _
/-- what holds of an answer -/
theorem runL_ok {l : List Ln} (hl : okL l) : ∀ (f : Nat) (s : RS), s.ok l → (runL l f s).2.ok l ∧ ((runL l f s).1 = 0 ∨ (runL l f s).1 = 5 ∨ (runL l f s).1 = 6) ∧ (runL l f s).2.n ≤ s.n + f
  | 0, s, hs => by
    by_cases h : s.pos < l.length
    · rw [runL_full h]; exact ⟨RS.zero_ok l, .inr (.inl rfl), by simp [RS.zero]⟩
    · rw [runL_end h]; exact ⟨hs, .inl rfl, by simp⟩
  | f + 1, s, hs => by
    by_cases h : s.pos < l.length
    · cases he : stepL l s l[s.pos] with
      | go s' =>
        rw [runL_go h he]
        obtain ⟨h1, h2⟩ := stepL_ok (hl.2 s.pos h) h hs he
        obtain ⟨g1, g2, g3⟩ := runL_ok hl f s' h1
        exact ⟨g1, g2, by omega⟩
      | stop c =>
        rw [runL_stop h he]
        refine ⟨RS.zero_ok l, ?_, by simp [RS.zero]⟩
        rcases stepL_cases (hl.2 s.pos h) with ⟨k1, e⟩ | ⟨k1, k2, k3, e⟩ | ⟨k1, k2, k3, e⟩ | ⟨k1, k2, e⟩ | ⟨k1, k2, e⟩ | ⟨k1, k2, k3, k4, e⟩ | ⟨k1, k2, k3, k4, e⟩ | ⟨k1, e⟩
        all_goals
          rw [e] at he
          cases he
        · exact .inr (.inr rfl)
        · exact .inr (.inl rfl)
    · rw [runL_end h]; exact ⟨hs, .inl rfl, by simp⟩
end Go.Proofs.YtonmeffhelaohaaDoor
