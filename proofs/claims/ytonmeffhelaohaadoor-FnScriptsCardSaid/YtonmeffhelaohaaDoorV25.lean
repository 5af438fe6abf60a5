/-
  Contracts of RunScript, and its law. Conditions: those typed at each theorem.
  Contracts of UnreachedLines, and its law. Conditions: those typed at each theorem.
  How many steps a script needs, and how many lines it reaches, in plain words. Conditions: those typed at each theorem.
-/
import Derived.Test.YtonmeffhelaohaaDoorV24
import Derived.Test.YtonmeffhelaohaaDoorV15
import Derived.Test.YtonmeffhelaohaaDoorV18
namespace Go.Proofs.YtonmeffhelaohaaDoor
open Go.RowKit
section
set_option maxHeartbeats 3200000
theorem iRunScript_any (A : Option Addr) (c : Nat) (l : List Ln) (budget : Int) (w : World) [hl : Lns w A l] (hcap : l.length ≤ c) (hn : l.length ≤ 1048576) {co : Int} {s : RS} (ha : ansL l budget = (co, s)) :
    Calls Tryd.prog 15 #[.slice A l.length c, .int .i64 budget] w fun e w' => ∃ A' c', e = .returned (.tuple #[.slice A' s.ev.length c', .int .i64 co]) ∧ ∃ k : Ex w, w' = k.v ∧ Ow 2 evC k.v A' s.ev ∧ Fr w A' := by
  have HA := hid ha
  clear ha
  go_enter Tryd.func15, Tryd.ntmps15
  go_wp2_with (have ha := HA.out; (go_at_call 35; (refine (iRun_any _ _ l _ _ (by omega) (by omega)).mono ?_); rw [ha]; rintro e w' ⟨B, D, p, q, rfl, hBn, k, rfl, hO, hF, hR⟩); clear ha; have hO := hid hO; have hF := hid hF; clear hR)
  go_ret2
  refine ⟨B, p, by rfl, ex_and (fun W => Ow 2 evC W B s.ev ∧ Fr w B) (by (refine Ok.toEx ?_; (repeat (first | (with_reducible exact Ok.rf _) | (with_reducible refine Ok.alloc ?_ _) | (with_reducible refine Ok.ex ?_ _) | (with_reducible refine Ok.drew ?_) | (with_reducible refine Ok.setCellI ?_ _ _ _) | (with_reducible refine Ok.exb ?_ _))))) ⟨?_, hF.out⟩⟩
  haveI : Ow 2 evC k.v B s.ev := hO.out
  infer_instance
end
end Go.Proofs.YtonmeffhelaohaaDoor
namespace Go.Proofs.YtonmeffhelaohaaDoor
open Go.RowKit
/-- the lines among the first k that are not seen -/
def unrF (seen : Nat → Bool) : Nat → List Int
  | 0 => []
  | k + 1 => unrF seen k ++ (if seen k = true then [] else [(k : Int)])
theorem unrF_on {seen : Nat → Bool} {k : Nat} (h : seen k = false) : unrF seen (k + 1) = unrF seen k ++ [(k : Int)] := by simp [unrF, h]
theorem unrF_off {seen : Nat → Bool} {k : Nat} (h : seen k = true) : unrF seen (k + 1) = unrF seen k := by simp [unrF, h]
theorem unrF_len (seen : Nat → Bool) : ∀ k, (unrF seen k).length ≤ k
  | 0 => by simp [unrF]
  | k + 1 => by
    have := unrF_len seen k
    unfold unrF
    split <;> simp <;> omega
/-- what UnreachedLines answers -/
def unrR (l : List Ln) (co : Int) (s : RS) : List Int := if co = 0 then unrF s.seen l.length else []
theorem unrR_len (l : List Ln) (co : Int) (s : RS) : (unrR l co s).length ≤ l.length := by
  unfold unrR
  split
  · exact unrF_len _ _
  · simp
theorem rch_ok {l : List Ln} {s : RS} : rch l (0, s) = (List.range l.length).map s.seen := by unfold rch; rw [if_pos rfl]
theorem rch_err {l : List Ln} {co : Int} {s : RS} (h : co ≠ 0) : rch l (co, s) = [] := by unfold rch; rw [if_neg h]
section
set_option maxHeartbeats 3200000
theorem iUnr_any (A : Option Addr) (c : Nat) (l : List Ln) (budget : Int) (w : World) [hl : Lns w A l] (hcap : l.length ≤ c) (hn : l.length ≤ 1048576) {co : Int} {s : RS} (ha : ansL l budget = (co, s)) :
    Calls Tryd.prog 20 #[.slice A l.length c, .int .i64 budget] w fun e w' => ∃ A' c', e = .returned (.tuple #[.slice A' (unrR l co s).length c', .int .i64 co]) ∧ ∃ k : Ex w, w' = k.v ∧ Ow 1 iC k.v A' (unrR l co s) ∧ Fr w A' := by
  have HA := hid ha
  clear ha
  have HL : Hid (∀ q, q < (rch l (co, s)).length → (rch l (co, s)).getD q false = s.seen q) := hid (by
    intro q hq
    by_cases h : co = 0
    · subst h
      rw [rch_ok] at hq ⊢
      simp at hq
      simp [List.getD, hq]
    · rw [rch_err h] at hq; simp at hq)
  have HN : Hid (unrR l co s = unrF s.seen (rch l (co, s)).length) := hid (by
    unfold unrR
    by_cases h : co = 0
    · subst h; rw [if_pos rfl, rch_ok]; simp
    · rw [if_neg h, rch_err h]; rfl)
  have hrl : (rch l (co, s)).length ≤ 1048576 := by
    by_cases h : co = 0
    · subst h; rw [rch_ok]; simpa using hn
    · rw [rch_err h]; simp
  go_enter Tryd.func20, Tryd.ntmps20
  go_wp2_with (have ha := HA.out; (go_at_call 35; (refine (iRun_any _ _ l _ _ (by omega) (by omega)).mono ?_); rw [ha]; rintro e w' ⟨B, D, p, q, rfl, hBn, k, rfl, hO, hF, hR⟩); clear ha hO hF)
  generalize rch l (co, s) = rl at *
  have HD := hid hR.at_
  have hrow0 := hid (row_nil k.v k.v.heap.size 2 1 iC)
  go_loopw [8, 20] (fun v t wr => ∃ q : Nat, q ≤ rl.length ∧ t = .int .i64 q ∧ ∃ j : Ex k.v, wr = j.v ∧ j.v.ownsRow k.v.heap.size 2 1 v (unrF s.seen q).length ((unrF s.seen q).flatMap iC)) (fun _ t _ => rl.length - (intOf t).toNat)
  case atStart => exact ⟨0, Nat.zero_le _, rfl, ⟨_, (Below.refl _ _).alloc (Nat.le_refl _) _⟩, rfl, hrow0.out.alloc _⟩
  case round =>
    obtain ⟨qq, hq, rfl, j0, rfl, hrow⟩ := hrel
    have hln := unrF_len s.seen qq
    obtain ⟨A1, c1, rfl, -, -⟩ := own_of_row (w0 := k.v) (f := iC) (fun _ => rfl) hrow
    have HROW := hid hrow
    clear hrow
    by_cases hlt : qq < rl.length
    · obtain ⟨b, o, rfl, hbw, hc⟩ := HD.out (by omega)
      have c0 := hc qq hlt 0 _ rfl
      rw [Nat.mul_one] at c0
      have c0 : k.v.cell? ⟨b, o + qq, none⟩ = some (.bool rl[qq]) := c0
      have h9 := HL.out qq hlt
      have h9 : rl[qq] = s.seen qq := by simpa [List.getD, hlt] using h9
      rw [h9] at c0
      clear hc h9
      cases hs : s.seen qq
      · rw [hs] at c0
        have HU := hid (unrF_on hs)
        clear hs
        go_wp2_with (at_builtin; refine wpList_app iC _ rfl _ _ _ rfl k.v _ _ _ _ Tryd.underlying43 infoI64 rfl (by omega) (fun _ => ⟨rfl, by simp [iC, Value.oneCell']⟩) _ (unrF s.seen qq) rfl (HROW.out.alloc _) (qq : Int) _ _ rfl (cell1 _ _ _) (by omega) (by omega) ?_; intro v1 k1 h1')
        go_roundw
        case rel => exact ⟨qq + 1, by omega, by go_num, k1, rfl, by rw [HU.out]; exact h1'⟩
        case measure => simp [intOf]; omega
      · rw [hs] at c0
        have HU := hid (unrF_off hs)
        clear hs
        go_wp2
        go_roundw
        case rel => exact ⟨qq + 1, by omega, by go_num, j0, rfl, by rw [HU.out]; exact HROW.out⟩
        case measure => simp [intOf]; omega
    · obtain rfl : qq = rl.length := by omega
      go_wp2
      go_ret2
      obtain ⟨A2, c2, he, hO2, hF2⟩ := own_of_row (w0 := k.v) (f := iC) (fun _ => rfl) HROW.out
      cases he
      rw [HN.out]
      exact ⟨A1, c1, by rfl, k.tr j0, rfl, hO2, hF2.mono⟩
end
end Go.Proofs.YtonmeffhelaohaaDoor
namespace Go.Proofs.YtonmeffhelaohaaDoor
open Go.RowKit
theorem stepL_n {l : List Ln} {s s' : RS} {x : Ln} (h : stepL l s x = .go s') : s'.n = s.n + 1 ∧ s'.seen = updB s.seen s.pos := by
  unfold stepL at h
  split at h
  · split at h
    · cases h
    · cases h; exact ⟨rfl, rfl⟩
  · split at h
    · split at h
      · cases h
      · cases h; exact ⟨rfl, rfl⟩
    · split at h
      · split at h
        · cases h; exact ⟨rfl, rfl⟩
        · cases h; exact ⟨rfl, rfl⟩
      · split at h
        · cases h; exact ⟨rfl, rfl⟩
        · cases h; exact ⟨rfl, rfl⟩
theorem stepL_c {l : List Ln} {s : RS} {x : Ln} {c : Int} (h : stepL l s x = .stop c) : c ≠ 0 := by
  unfold stepL at h
  split at h
  · split at h
    · cases h; decide
    · cases h
  · split at h
    · split at h
      · cases h; decide
      · cases h
    · split at h
      · split at h <;> cases h
      · split at h <;> cases h
/-- a run that ends well needs just its steps -/
theorem runL_steps {l : List Ln} : ∀ (f : Nat) (s0 s : RS), runL l f s0 = (0, s) → s0.n ≤ s.n ∧ s.n ≤ s0.n + f ∧ (∀ g, s.n - s0.n ≤ g → runL l g s0 = (0, s)) ∧ (∀ g, g < s.n - s0.n → runL l g s0 = (5, RS.zero))
  | 0, s0, s, h => by
    by_cases hp : s0.pos < l.length
    · rw [runL_full hp] at h; cases h
    · rw [runL_end hp] at h
      cases h
      exact ⟨Nat.le_refl _, by omega, fun g _ => runL_end hp, fun g hg => by omega⟩
  | f + 1, s0, s, h => by
    by_cases hp : s0.pos < l.length
    · cases he : stepL l s0 l[s0.pos] with
      | go s' =>
        rw [runL_go hp he] at h
        obtain ⟨h1, h2, h3, h4⟩ := runL_steps f s' s h
        have hn := (stepL_n he).1
        refine ⟨by omega, by omega, fun g hg => ?_, fun g hg => ?_⟩
        · cases g with
          | zero => omega
          | succ g => rw [runL_go hp he]; exact h3 g (by omega)
        · cases g with
          | zero => exact runL_full hp
          | succ g => rw [runL_go hp he]; exact h4 g (by omega)
      | stop c =>
        rw [runL_stop hp he] at h
        have hc := stepL_c he
        cases h
        exact absurd rfl hc
    · rw [runL_end hp] at h
      cases h
      exact ⟨Nat.le_refl _, by omega, fun g _ => runL_end hp, fun g hg => by omega⟩
theorem unr_ge (seen : Nat → Bool) (p : Nat) : ∀ k, k ≤ p → unrF (updB seen p) k = unrF seen k
  | 0, _ => rfl
  | k + 1, h => by
    have ih := unr_ge seen p k (by omega)
    have e : updB seen p k = seen k := by unfold updB; rw [if_neg (by omega)]
    unfold unrF
    rw [ih, e]
/-- one more line seen -/
theorem unr_upd (seen : Nat → Bool) (p : Nat) : ∀ k, (unrF seen k).length ≤ (unrF (updB seen p) k).length + 1
  | 0 => by simp [unrF]
  | k + 1 => by
    by_cases hk : k = p
    · subst hk
      have e := unr_ge seen k k (Nat.le_refl _)
      have e2 : updB seen k k = true := by unfold updB; rw [if_pos rfl]
      rw [unrF_off e2, e]
      cases hs : seen k
      · rw [unrF_on hs]; simp
      · rw [unrF_off hs]; omega
    · have ih := unr_upd seen p k
      have e : updB seen p k = seen k := by unfold updB; rw [if_neg hk]
      cases hs : seen k
      · rw [hs] at e; rw [unrF_on hs, unrF_on e]; simp; omega
      · rw [hs] at e; rw [unrF_off hs, unrF_off e]; omega
theorem runL_seen {l : List Ln} (k : Nat) : ∀ (f : Nat) (s0 s : RS), runL l f s0 = (0, s) → s0.n ≤ s.n ∧ (unrF s0.seen k).length ≤ (unrF s.seen k).length + (s.n - s0.n)
  | 0, s0, s, h => by
    by_cases hp : s0.pos < l.length
    · rw [runL_full hp] at h; cases h
    · rw [runL_end hp] at h; cases h; exact ⟨Nat.le_refl _, by omega⟩
  | f + 1, s0, s, h => by
    by_cases hp : s0.pos < l.length
    · cases he : stepL l s0 l[s0.pos] with
      | go s' =>
        rw [runL_go hp he] at h
        obtain ⟨h1, h2⟩ := runL_seen k f s' s h
        obtain ⟨hn, hs⟩ := stepL_n he
        have h3 := unr_upd s0.seen s0.pos k
        rw [← hs] at h3
        exact ⟨by omega, by omega⟩
      | stop c =>
        rw [runL_stop hp he] at h
        have hc := stepL_c he
        cases h
        exact absurd rfl hc
    · rw [runL_end hp] at h; cases h; exact ⟨Nat.le_refl _, by omega⟩
theorem unr_zero : ∀ k, (unrF RS.zero.seen k).length = k
  | 0 => rfl
  | k + 1 => by
    have ih := unr_zero k
    have e : RS.zero.seen k = false := rfl
    rw [unrF_on e]
    simp [ih]
/-- all that the law asks of a run that ends well -/
theorem ans_steps {l : List Ln} {s : RS} (hv : vL l = true) (h : ansL l 2000 = (0, s)) : s.n ≤ 2000 ∧ (s.n = 0 → l.length = 0) ∧ (1 ≤ s.n → ansL l (s.n : Int) = (0, s)) ∧ (2 ≤ s.n → ansL l ((s.n : Int) - 1) = (5, RS.zero)) ∧ l.length ≤ (unrF s.seen l.length).length + s.n := by
  rw [ansL_go hv (by omega)] at h
  have e2 : (2000 : Int).toNat = 2000 := rfl
  rw [e2] at h
  obtain ⟨h1, h2, h3, h4⟩ := runL_steps 2000 RS.zero s h
  have hz : RS.zero.n = 0 := rfl
  have h5 := (runL_seen l.length 2000 RS.zero s h).2
  rw [unr_zero] at h5
  rw [hz] at h1 h2 h3 h4 h5
  have hn : s.n ≤ 2000 := by omega
  refine ⟨hn, fun h0 => ?_, fun h1 => ?_, fun h1 => ?_, by omega⟩
  · rw [h0] at h3
    have h6 := h3 0 (by omega)
    rcases Nat.eq_zero_or_pos l.length with e | e
    · exact e
    · rw [runL_full (show RS.zero.pos < l.length from e)] at h6; cases h6
  · rw [ansL_go hv (by omega)]
    rw [show ((s.n : Nat) : Int).toNat = s.n by omega]
    exact h3 s.n (by omega)
  · rw [ansL_go hv (by omega)]
    rw [show ((s.n : Int) - 1).toNat = s.n - 1 by omega]
    exact h4 (s.n - 1) (by omega)
end Go.Proofs.YtonmeffhelaohaaDoor
