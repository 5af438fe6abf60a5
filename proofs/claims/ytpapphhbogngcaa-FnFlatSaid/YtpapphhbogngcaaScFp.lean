/-
  A flat script runs as the script it was made of. Conditions: those typed at each theorem.
-/
import Derived.Test.YtpapphhbogngcaaScFlat
import Derived.Test.YtpapphhbogngcaaScCu
namespace Go.Proofs.Ytpapphhbogngcaa
open Go.RowKit
theorem flP_pre (ev : List Ev) : ∀ {j k : Nat}, j ≤ k → ∃ t, flP ev k = flP ev j ++ t := by
  intro j k h
  induction k with
  | zero => obtain rfl : j = 0 := by omega
            exact ⟨[], by simp⟩
  | succ k ih =>
    rcases Nat.lt_or_ge j (k + 1) with h1 | h1
    · obtain ⟨t, ht⟩ := ih (by omega)
      exact ⟨t ++ (if tP ev k < (evG ev k).t then [lnW ((evG ev k).t - tP ev k)] else []) ++ [lnF (evG ev k).c], by
        rw [show flP ev (k + 1) = flP ev k ++ (if tP ev k < (evG ev k).t then [lnW ((evG ev k).t - tP ev k)] else []) ++ [lnF (evG ev k).c] from rfl, ht]
        simp [List.append_assoc]⟩
    · obtain rfl : j = k + 1 := by omega
      exact ⟨[], by simp⟩
theorem runL_at {l X Z : List Ln} {y : Ln} {s s' : RS} {f : Nat} (h : l = X ++ y :: Z) (hp : s.pos = X.length) (hs : stepL l s y = .go s') : runL l (f + 1) s = runL l f s' := by
  have hlt : s.pos < l.length := by rw [h, hp]; simp
  have hg : l[s.pos] = y := by
    subst h
    simp [hp]
  exact runL_go hlt (by rw [hg]; exact hs)
theorem step_w {l : List Ln} {s : RS} {n : Int} (h : s.tm + n ≤ 7200000) : stepL l s (lnW n) = .go ⟨s.pos + 1, s.tm + n, s.ev, s.n + 1, s.cnt, updB s.seen s.pos⟩ := by
  unfold stepL
  rw [if_pos (show (lnW n).kind = 2 from rfl), if_neg (show ¬ 7200000 < s.tm + (lnW n).value by show ¬ 7200000 < s.tm + n; omega)]
  rfl
theorem step_f {l : List Ln} {s : RS} {c : ByteArray} (h : s.ev.length ≠ 64) : stepL l s (lnF c) = .go ⟨s.pos + 1, s.tm, s.ev ++ [⟨s.tm, c⟩], s.n + 1, s.cnt, updB s.seen s.pos⟩ := by
  unfold stepL
  rw [if_neg (show ¬ (lnF c).kind = 2 by simp [lnF]), if_pos (show (lnF c).kind = 3 from rfl), if_neg h]
  rfl
theorem ev_take {ev : List Ev} {k : Nat} (h : k < ev.length) : ev.take (k + 1) = ev.take k ++ [⟨(evG ev k).t, (evG ev k).c⟩] := by
  rw [List.take_succ_eq_append_getElem h, evG_at h]
/-- the run of the first k events' lines -/
theorem fl_run {l0 : List Ln} {s : RS} (hs : s.ok l0) {F T : List Ln} (hF : F = flP s.ev s.ev.length ++ T) (h40 : F.length ≤ 40) : ∀ k, k ≤ s.ev.length →
    ∃ seen, runL F 2000 RS.zero = runL F (2000 - (flP s.ev k).length) ⟨(flP s.ev k).length, tP s.ev k, s.ev.take k, (flP s.ev k).length, fun _ => 0, seen⟩
  | 0, _ => ⟨fun _ => false, by simp [flP, tP, RS.zero]⟩
  | k + 1, hk => by
    obtain ⟨seen, ih⟩ := fl_run hs hF h40 k (by omega)
    obtain ⟨t, ht⟩ := flP_pre s.ev hk
    have hev := hs.evn
    obtain ⟨e1, e2, e3⟩ := tP_le hs k (by omega)
    have hlen : (flP s.ev (k + 1)).length ≤ 40 := by
      have : F.length = (flP s.ev (k + 1)).length + t.length + T.length := by rw [hF, ht]; simp; omega
      omega
    by_cases hc : tP s.ev k < (evG s.ev k).t
    · have hon := flP_on hc
      have hln : (flP s.ev (k + 1)).length = (flP s.ev k).length + 2 := by rw [hon]; simp
      obtain ⟨d, hd⟩ : ∃ d, 2000 - (flP s.ev k).length = d + 1 + 1 := ⟨2000 - (flP s.ev k).length - 2, by omega⟩
      rw [ih, hd]
      have h1 : F = flP s.ev k ++ lnW ((evG s.ev k).t - tP s.ev k) :: ([lnF (evG s.ev k).c] ++ t ++ T) := by rw [hF, ht, hon]; simp [List.append_assoc]
      have h2 : F = (flP s.ev k ++ [lnW ((evG s.ev k).t - tP s.ev k)]) ++ lnF (evG s.ev k).c :: (t ++ T) := by rw [hF, ht, hon]; simp [List.append_assoc]
      rw [runL_at h1 rfl (step_w (by show tP s.ev k + _ ≤ _; omega))]
      rw [runL_at h2 (by simp) (step_f (by show (s.ev.take k).length ≠ 64; rw [List.length_take]; omega))]
      refine ⟨updB (updB seen (flP s.ev k).length) ((flP s.ev k).length + 1), ?_⟩
      rw [hln, show 2000 - ((flP s.ev k).length + 2) = d by omega, ev_take (by omega)]
      congr 1
      have hz : tP s.ev k + ((evG s.ev k).t - tP s.ev k) = (evG s.ev k).t := by omega
      simp only [hz]
      rfl
    · have hon := flP_off hc
      have hln : (flP s.ev (k + 1)).length = (flP s.ev k).length + 1 := by rw [hon]; simp
      obtain ⟨d, hd⟩ : ∃ d, 2000 - (flP s.ev k).length = d + 1 := ⟨2000 - (flP s.ev k).length - 1, by omega⟩
      rw [ih, hd]
      have h1 : F = flP s.ev k ++ lnF (evG s.ev k).c :: (t ++ T) := by rw [hF, ht, hon]; simp [List.append_assoc]
      rw [runL_at h1 rfl (step_f (by show (s.ev.take k).length ≠ 64; rw [List.length_take]; omega))]
      refine ⟨updB seen (flP s.ev k).length, ?_⟩
      rw [hln, show 2000 - ((flP s.ev k).length + 1) = d by omega, ev_take (by omega)]
      congr 1
      have hz : tP s.ev k = (evG s.ev k).t := by omega
      simp only [hz]
      rfl
/-- the flat script fires the same events and takes the same time -/
theorem flat_run {l0 : List Ln} {s : RS} (hs : s.ok l0) (h40 : (flF s).length ≤ 40) : ∃ s', runL (flF s) 2000 RS.zero = (0, s') ∧ s'.ev = s.ev ∧ s'.tm = s.tm := by
  obtain ⟨b1, b2⟩ := tP_bd hs
  have htm := hs.tm
  by_cases hc : tP s.ev s.ev.length < s.tm
  · have hon := flF_on hc
    obtain ⟨seen, ih⟩ := fl_run hs hon h40 s.ev.length (Nat.le_refl _)
    have hln : (flF s).length = (flP s.ev s.ev.length).length + 1 := by rw [hon]; simp
    obtain ⟨d, hd⟩ : ∃ d, 2000 - (flP s.ev s.ev.length).length = d + 1 := ⟨2000 - (flP s.ev s.ev.length).length - 1, by omega⟩
    rw [hd, List.take_length] at ih
    refine ⟨_, ih.trans ((runL_at (l := flF s) (Z := []) hon rfl (step_w (by show tP s.ev s.ev.length + _ ≤ _; omega))).trans (runL_end (by show ¬ (flP s.ev s.ev.length).length + 1 < _; omega))), rfl, ?_⟩
    show tP s.ev s.ev.length + (s.tm - tP s.ev s.ev.length) = s.tm
    omega
  · have hon := flF_off hc
    obtain ⟨seen, ih⟩ := fl_run (T := []) hs (by rw [hon, List.append_nil]) h40 s.ev.length (Nat.le_refl _)
    rw [List.take_length] at ih
    refine ⟨_, ih.trans (runL_end (by show ¬ (flP s.ev s.ev.length).length < _; rw [hon]; omega)), rfl, ?_⟩
    show tP s.ev s.ev.length = s.tm
    omega
/-- the flat script is a script -/
theorem emp_list : (⟨#[]⟩ : ByteArray).toList = [] := by rw [ByteArray.toList_eq]
theorem lnW_one {n : Int} (h0 : 1 ≤ n) (h1 : n ≤ 7200000) : vOne (lnW n) = true := by
  unfold vOne lnW
  simp [emp_list, h0, h1]
theorem lnF_one {c : ByteArray} (h : okN c) : vOne (lnF c) = true := by
  unfold vOne lnF
  simp [h]
theorem wf_at {F : List Ln} {x : Ln} (i : Nat) (h : (∃ n, x = lnW n ∧ 1 ≤ n ∧ n ≤ 7200000) ∨ ∃ c, x = lnF c ∧ okN c) : okAt F i x := by
  rcases h with ⟨n, rfl, h0, h1⟩ | ⟨c, rfl, h⟩
  · exact ⟨lnW_one h0 h1, fun e => by simp [lnW] at e, fun e => by simp [lnW] at e⟩
  · exact ⟨lnF_one h, fun e => by simp [lnF] at e, fun e => by simp [lnF] at e⟩
theorem flP_wf {l0 : List Ln} {s : RS} (hs : s.ok l0) : ∀ k, k ≤ s.ev.length → ∀ x ∈ flP s.ev k, (∃ n, x = lnW n ∧ 1 ≤ n ∧ n ≤ 7200000) ∨ ∃ c, x = lnF c ∧ okN c
  | 0, _, x, hx => by simp [flP] at hx
  | k + 1, hk, x, hx => by
    have h1 := tP_le hs k (by omega)
    have h2 := (hs.evs _ (List.getElem_mem (show k < s.ev.length by omega))).2
    rw [← evG_at] at h2
    unfold flP at hx
    rcases List.mem_append.1 hx with hx | hx
    · rcases List.mem_append.1 hx with hx | hx
      · exact flP_wf hs k (by omega) x hx
      · split at hx
        · obtain rfl := List.mem_singleton.1 hx
          exact .inl ⟨_, rfl, by omega, by omega⟩
        · simp at hx
    · obtain rfl := List.mem_singleton.1 hx
      exact .inr ⟨_, rfl, h2⟩
theorem flat_ok {l0 : List Ln} {s : RS} (hs : s.ok l0) (h40 : (flF s).length ≤ 40) : vL (flF s) = true := by
  refine vL_yes ⟨h40, fun i hi => wf_at i ?_⟩
  have hm := List.getElem_mem hi
  generalize (flF s)[i] = x at hm
  have h1 := tP_bd hs
  have h2 := hs.tm
  unfold flF at hm
  rcases List.mem_append.1 hm with hx | hx
  · exact flP_wf hs _ (Nat.le_refl _) x hx
  · split at hx
    · obtain rfl := List.mem_singleton.1 hx
      exact .inl ⟨_, rfl, by omega, by omega⟩
    · simp at hx
/-- as many lines fire as there are events -/
theorem fires_len (ev : List Ev) : ∀ k, ((flP ev k).filter fun x => x.kind == 3).length = k
  | 0 => rfl
  | k + 1 => by
    have ih := fires_len ev k
    unfold flP
    rw [List.filter_append, List.filter_append, List.length_append, List.length_append, ih]
    split <;> simp [lnW, lnF]
theorem flat_cs {s : RS} : (csRV (flF s)).length ≤ s.ev.length := by
  unfold csRV
  split
  · have h1 := csP_len (flF s) (flF s).length
    have h2 : (csF (flF s) (flF s).length).length = s.ev.length := by
      unfold csF
      rw [List.take_length, List.length_map]
      unfold flF
      rw [List.filter_append, List.length_append, fires_len]
      split <;> simp [lnW]
    simp only [mkS, List.length_map]
    omega
  · simp
end Go.Proofs.Ytpapphhbogngcaa
