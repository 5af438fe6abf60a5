/-
  Plain arithmetic of time codes: numbers of frames, codes of numbers, times. Conditions: those typed at each theorem.
-/
namespace Go.Proofs.YtonmeffhelaohaaDoor.Tc
def okRate (r : Int) : Prop := r = 24 ∨ r = 25 ∨ r = 30
instance (r : Int) : Decidable (okRate r) := by unfold okRate; infer_instance
theorem okRate_bd {r : Int} (h : okRate r) : 24 ≤ r ∧ r ≤ 30 := by unfold okRate at h; omega
/-- the greatest frame that begins at m or earlier -/
def frAt (m r : Int) : Int := if r = 30 then ((m + 1) * 30 - 1) / 1001 else ((m + 1) * r - 1) / 1000
/-- when a frame begins -/
def msAt (f r : Int) : Int := if r = 30 then f * 1001 / 30 else f * 1000 / r
theorem fr_ms {f m r : Int} (hr : okRate r) : msAt f r ≤ m ↔ f ≤ frAt m r := by
  rcases hr with rfl | rfl | rfl <;> simp [msAt, frAt] <;> omega
theorem msAt_bd {f r : Int} (hr : okRate r) (h0 : 0 ≤ f) (h1 : f ≤ 100000000) : 0 ≤ msAt f r ∧ msAt f r ≤ 10000000000 := by
  rcases hr with rfl | rfl | rfl <;> simp [msAt] <;> omega
theorem frAt_bd {m r : Int} (hr : okRate r) (h0 : 0 ≤ m) (h1 : m ≤ 10000000000) : 0 ≤ frAt m r ∧ frAt m r ≤ 300000001 := by
  rcases hr with rfl | rfl | rfl <;> simp [frAt] <;> omega
/-- frames of a day -/
def dayOf (r : Int) : Int := if r = 30 then 2589408 else r * 86400
theorem dayOf_bd {r : Int} (hr : okRate r) : 0 < dayOf r ∧ dayOf r ≤ 2589408 := by
  rcases hr with rfl | rfl | rfl <;> simp [dayOf]
/-- the counted number -/
def cnt (f r : Int) : Int := if r = 30 then (if 1800 ≤ f % 17982 then f + 18 * (f / 17982) + 2 * ((f % 17982 - 1800) / 1798 + 1) else f + 18 * (f / 17982)) else f
def cH (f r : Int) : Int := cnt f r / r / 3600
def cM (f r : Int) : Int := cnt f r / r / 60 % 60
def cS (f r : Int) : Int := cnt f r / r % 60
def cF (f r : Int) : Int := cnt f r % r
def okCode (h m s f r : Int) : Prop := okRate r ∧ 0 ≤ h ∧ h ≤ 23 ∧ 0 ≤ m ∧ m ≤ 59 ∧ 0 ≤ s ∧ s ≤ 59 ∧ 0 ≤ f ∧ f ≤ r - 1 ∧ (r ≠ 30 ∨ 0 < s ∨ 1 < f ∨ m % 10 = 0)
instance (h m s f r : Int) : Decidable (okCode h m s f r) := by unfold okCode; infer_instance
theorem notOk {h m s f r : Int} (hk : ¬ okCode h m s f r) :
    (r ≠ 24 ∧ r ≠ 25 ∧ r ≠ 30) ∨ (okRate r ∧ (h < 0 ∨ 23 < h)) ∨ (okRate r ∧ 0 ≤ h ∧ h ≤ 23 ∧ (m < 0 ∨ 59 < m)) ∨
    (okRate r ∧ 0 ≤ h ∧ h ≤ 23 ∧ 0 ≤ m ∧ m ≤ 59 ∧ (s < 0 ∨ 59 < s)) ∨
    (okRate r ∧ 0 ≤ h ∧ h ≤ 23 ∧ 0 ≤ m ∧ m ≤ 59 ∧ 0 ≤ s ∧ s ≤ 59 ∧ (f < 0 ∨ r - 1 < f)) ∨
    (r = 30 ∧ 0 ≤ h ∧ h ≤ 23 ∧ 0 ≤ m ∧ m ≤ 59 ∧ s = 0 ∧ 0 ≤ f ∧ f ≤ 1 ∧ m % 10 ≠ 0) := by
  unfold okCode okRate at *; omega
theorem okCode_iff {f r : Int} (hr : okRate r) (hf : 0 ≤ f) : okCode (cH f r) (cM f r) (cS f r) (cF f r) r ↔ f < dayOf r := by
  have hr' := hr
  rcases hr with rfl | rfl | rfl
  · simp [okCode, hr', cH, cM, cS, cF, cnt, dayOf]; omega
  · simp [okCode, hr', cH, cM, cS, cF, cnt, dayOf]; omega
  · simp only [okCode, hr', cH, cM, cS, cF, cnt, dayOf]
    simp
    have h1 := Int.emod_nonneg f (by omega : (17982 : Int) ≠ 0)
    have h2 := Int.emod_lt_of_pos f (by omega : (0 : Int) < 17982)
    have h3 := Int.mul_ediv_add_emod f 17982
    generalize f / 17982 = t at *
    generalize f % 17982 = s at *
    split <;> omega
/-- number of a code -/
def num (h m s f r : Int) : Int := if r = 30 then (((h * 60 + m) * 60 + s) * r + f) - 2 * ((h * 60 + m) - (h * 60 + m) / 10) else (((h * 60 + m) * 60 + s) * r + f)
theorem num_rng {h m s f r : Int} (hk : okCode h m s f r) : 0 ≤ num h m s f r ∧ num h m s f r < dayOf r := by
  obtain ⟨hr, h1, h2, h3, h4, h5, h6, h7, h8, h9⟩ := hk
  rcases hr with rfl | rfl | rfl <;> simp [num, dayOf] <;> omega
end Go.Proofs.YtonmeffhelaohaaDoor.Tc
