/-
  Contracts of l00Put (a number put to its place, once) and l00Has. Conditions: those typed at each theorem.
-/
import Derived.Test.YtpapphhbogngcaaInts
import Derived.Test.YtpapphhbogngcaaApp
namespace Go.Proofs.Ytpapphhbogngcaa
open Go.RowKit
def putL : List Int → Int → List Int
  | [], n => [n]
  | x :: xs, n => if n ≤ x then (if n < x then n :: x :: xs else x :: xs) else x :: putL xs n
theorem mem_putL (x n : Int) : ∀ l : List Int, x ∈ putL l n ↔ x = n ∨ x ∈ l
  | [] => by simp [putL]
  | y :: l => by
    unfold putL
    split
    · split
      · simp
      · have : n = y := by omega
        subst this
        simp
    · have := mem_putL x n l
      simp only [List.mem_cons, this]
      constructor
      · rintro (h | h | h)
        · exact .inr (.inl h)
        · exact .inl h
        · exact .inr (.inr h)
      · rintro (h | h | h)
        · exact .inr (.inl h)
        · exact .inl h
        · exact .inr (.inr h)
theorem putL_len (n : Int) : ∀ l : List Int, (putL l n).length ≤ l.length + 1
  | [] => by simp [putL]
  | y :: l => by
    unfold putL
    have := putL_len n l
    split
    · split <;> simp
    · simp; omega
/-- what is still to come -/
def putR (b : Bool) (l : List Int) (n : Int) : List Int := if b = true then l else putL l n
theorem putR_on (l : List Int) (n : Int) {q : Nat} (h : q < l.length) : putR true (l.drop q) n = [l[q]] ++ putR true (l.drop (q + 1)) n := by
  simp only [putR, if_true]; rw [List.drop_eq_getElem_cons h]; rfl
theorem putR_lt (l : List Int) (n : Int) {q : Nat} (h : q < l.length) (h1 : n < l[q]) : putR false (l.drop q) n = [n] ++ ([l[q]] ++ putR true (l.drop (q + 1)) n) := by
  rw [List.drop_eq_getElem_cons h]
  have h2 : n ≤ l[q] := by omega
  simp [putR, putL, h1, h2]
theorem putR_eq (l : List Int) (n : Int) {q : Nat} (h : q < l.length) (h1 : n = l[q]) : putR false (l.drop q) n = [l[q]] ++ putR true (l.drop (q + 1)) n := by
  rw [List.drop_eq_getElem_cons h]
  subst h1
  simp [putR, putL]
theorem putR_gt (l : List Int) (n : Int) {q : Nat} (h : q < l.length) (h1 : l[q] < n) : putR false (l.drop q) n = [l[q]] ++ putR false (l.drop (q + 1)) n := by
  rw [List.drop_eq_getElem_cons h]
  have h2 : ¬ n ≤ l[q] := by omega
  simp [putR, putL, h2]
section
set_option maxHeartbeats 3200000
theorem put_any (A : Option Addr) (c : Nat) (l : List Int) (n : Int) (w : World) [hl : Rd 1 iC w A l] (hn : l.length ≤ 1048576) :
    Calls Try.prog 79 #[.slice A l.length c, .int .i64 n] w fun e w' => ∃ B d, e = .returned (.slice B (putL l n).length d) ∧ ∃ k : Ex w, w' = k.v ∧ Ow 1 iC k.v B (putL l n) ∧ Fr w B := by
  have HA := hid hl.i
  go_enter Try.func79, Try.ntmps79
  go_wp2
  have hrow0 := hid (row_made w w.heap.size (Nat.le_refl _) 2 1 iC)
  have HP : Hid ([] ++ putR false (l.drop 0) n = putL l n) := hid (by simp [putR])
  go_loopw [5, 6, 7] (fun v d t wr => ∃ (q : Nat) (b : Bool) (o : List Int), q ≤ l.length ∧ t = .int .i64 q ∧ d = .bool b ∧ o ++ putR b (l.drop q) n = putL l n ∧ o.length ≤ q + 1 ∧ (b = false → o.length = q) ∧ ∃ j : Ex w, wr = j.v ∧ j.v.ownsRow w.heap.size 2 1 v o.length (o.flatMap iC)) (fun _ _ t _ => l.length - (intOf t).toNat)
  case atStart => exact ⟨0, false, [], Nat.zero_le _, rfl, rfl, HP.out, by simp, fun _ => rfl, ⟨_, (Below.refl _ _).alloc (Nat.le_refl _) _⟩, rfl, hrow0.out⟩
  case round =>
    obtain ⟨q, b, o, hq, rfl, rfl, ho, hol, hof, j0, rfl, hrow⟩ := hrel
    obtain ⟨A1, c1, rfl, -, -⟩ := own_of_row (w0 := w) (f := iC) (fun _ => rfl) hrow
    have HO := hid ho
    have HROW := hid hrow
    have HF := hid hof
    clear ho hrow hof
    by_cases hlt : q < l.length
    · obtain ⟨b', o', rfl, hbw, hc⟩ := HA.out (by omega)
      have c0 := hc q hlt
      clear hc
      cases b
      · have hoq := hid (HF.out rfl)
        rcases Int.lt_trichotomy n l[q] with h1 | h1 | h1
        · have hp := hid (putR_lt l n hlt h1)
          generalize l[q] = x at *
          have hnx : n ≤ x := by omega
          go_wp2_with (first | (at_builtin; refine wpList_app iC _ rfl _ _ _ rfl w _ _ _ _ Try.underlying35 infoI64 rfl (by omega) (fun _ => ⟨rfl, by simp [iC, Value.oneCell']⟩) _ (o ++ [n]) rfl (h1'.alloc _) (x) _ _ rfl (cell1 _ _ _) (by first | omega | (simp; omega)) (by first | omega | (simp; omega)) ?_; intro v2 k2 h2') | (at_builtin; refine wpList_app iC _ rfl _ _ _ rfl w _ _ _ _ Try.underlying35 infoI64 rfl (by omega) (fun _ => ⟨rfl, by simp [iC, Value.oneCell']⟩) _ (o) rfl (HROW.out.alloc _) (n) _ _ rfl (cell1 _ _ _) (by first | omega | (simp; omega)) (by first | omega | (simp; omega)) ?_; intro v1 k1 h1'))
          go_wp2_with (at_builtin; (try (refine wpList_app iC _ rfl _ _ _ rfl w _ _ _ _ ?_ ?_ ?_ ?_ ?_ _ o rfl ?_ n _ _ rfl ?_ ?_ ?_ ?_; trace "A1"; fail)); (try (refine wpList_app iC _ rfl _ _ _ rfl w _ _ _ _ Try.underlying35 infoI64 rfl (by omega) (fun _ => ⟨rfl, by simp [iC, Value.oneCell']⟩) _ o rfl ?_ n _ _ rfl ?_ ?_ ?_ ?_; trace "A2"; fail)); (try (refine wpList_app iC _ rfl _ _ _ rfl w _ _ _ _ Try.underlying35 infoI64 rfl (by omega) (fun _ => ⟨rfl, by simp [iC, Value.oneCell']⟩) _ o rfl (HROW.out.alloc _) n _ _ rfl ?_ ?_ ?_ ?_; trace "A3"; fail)); (try (refine wpList_app iC _ rfl _ _ _ rfl w _ _ _ _ Try.underlying35 infoI64 rfl (by omega) (fun _ => ⟨rfl, by simp [iC, Value.oneCell']⟩) _ o rfl (HROW.out.alloc _) n _ _ rfl (cell1 _ _ _) ?_ ?_ ?_; trace "A4"; trace_state; fail)); fail)
          go_roundw
          case rel => exact ⟨q + 1, true, o ++ [n] ++ [x], by omega, by go_num, rfl, by rw [← HO.out, hp.out]; simp, by have := hoq.out; simp; omega, (fun h => by cases h), k2, rfl, h2'⟩
          case measure => simp [intOf]; omega
        · have hp := hid (putR_eq l n hlt h1)
          have h1 := hid h1
          generalize l[q] = x at *
          obtain rfl := h1.out
          go_wp2_with ((at_builtin; refine wpList_app iC _ rfl _ _ _ rfl w _ _ _ _ Try.underlying35 infoI64 rfl (by omega) (fun _ => ⟨rfl, by simp [iC, Value.oneCell']⟩) _ (o) rfl (HROW.out.alloc _) (n) _ _ rfl (cell1 _ _ _) (by first | omega | (simp; omega)) (by first | omega | (simp; omega)) ?_; intro v1 k1 h1'))
          go_roundw
          case rel => exact ⟨q + 1, true, o ++ [n], by omega, by go_num, rfl, by rw [← HO.out, hp.out]; simp, by have := hoq.out; simp; omega, (fun h => by cases h), k1, rfl, h1'⟩
          case measure => simp [intOf]; omega
        · have hp := hid (putR_gt l n hlt h1)
          generalize l[q] = x at *
          go_wp2_with ((at_builtin; refine wpList_app iC _ rfl _ _ _ rfl w _ _ _ _ Try.underlying35 infoI64 rfl (by omega) (fun _ => ⟨rfl, by simp [iC, Value.oneCell']⟩) _ (o) rfl (HROW.out.alloc _) (x) _ _ rfl (cell1 _ _ _) (by first | omega | (simp; omega)) (by first | omega | (simp; omega)) ?_; intro v1 k1 h1'))
          go_roundw
          case rel => exact ⟨q + 1, false, o ++ [x], by omega, by go_num, rfl, by rw [← HO.out, hp.out]; simp, by have := hoq.out; simp; omega, (fun _ => by have := hoq.out; simp; omega), k1, rfl, h1'⟩
          case measure => simp [intOf]; omega
      · have hp := hid (putR_on l n hlt)
        generalize l[q] = x at *
        go_wp2_with ((at_builtin; refine wpList_app iC _ rfl _ _ _ rfl w _ _ _ _ Try.underlying35 infoI64 rfl (by omega) (fun _ => ⟨rfl, by simp [iC, Value.oneCell']⟩) _ (o) rfl (HROW.out.alloc _) (x) _ _ rfl (cell1 _ _ _) (by first | omega | (simp; omega)) (by first | omega | (simp; omega)) ?_; intro v1 k1 h1'))
        go_roundw
        case rel => exact ⟨q + 1, true, o ++ [x], by omega, by go_num, rfl, by rw [← HO.out, hp.out]; simp, by simp; omega, (fun h => by cases h), k1, rfl, h1'⟩
        case measure => simp [intOf]; omega
    · have hd : l.drop q = [] := List.drop_eq_nil_of_le (by omega)
      cases b
      · have he : Hid (o ++ [n] = putL l n) := hid (by rw [← HO.out, hd]; simp [putR, putL])
        clear hd
        go_wp2_with ((at_builtin; refine wpList_app iC _ rfl _ _ _ rfl w _ _ _ _ Try.underlying35 infoI64 rfl (by omega) (fun _ => ⟨rfl, by simp [iC, Value.oneCell']⟩) _ (o) rfl (HROW.out.alloc _) (n) _ _ rfl (cell1 _ _ _) (by first | omega | (simp; omega)) (by first | omega | (simp; omega)) ?_; intro v1 k1 h1'))
        go_ret
        obtain ⟨A2, c2, rfl, hO, hF⟩ := own_of_row (w0 := w) (f := iC) (fun _ => rfl) h1'
        rw [← he.out]
        first | exact ⟨_, _, rfl, k1, rfl, hO, hF⟩ | exact ⟨_, ⟨_, rfl⟩, k1, rfl, hO, hF⟩
      · have he : Hid (o = putL l n) := hid (by rw [← HO.out, hd]; simp [putR])
        clear hd
        go_wp2
        go_ret
        obtain ⟨A2, c2, he', hO, hF⟩ := own_of_row (w0 := w) (f := iC) (fun _ => rfl) HROW.out
        cases he'
        rw [← he.out]
        exact ⟨_, _, rfl, j0, rfl, hO, hF⟩
end
end Go.Proofs.Ytpapphhbogngcaa
