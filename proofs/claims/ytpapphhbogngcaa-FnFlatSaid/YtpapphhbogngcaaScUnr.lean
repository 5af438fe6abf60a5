/-
  Contracts of UnreachedLines, and its law. Conditions: those typed at each theorem.
-/
import Derived.Test.YtpapphhbogngcaaScEv
namespace Go.Proofs.Ytpapphhbogngcaa
open Go.RowKit
/-- the lines among the first k that are not seen -/
def unrF (seen : Nat → Bool) : Nat → List Int
  | 0 => []
  | k + 1 => unrF seen k ++ (if seen k = true then [] else [(k : Int)])
theorem unrF_on {seen : Nat → Bool} {k : Nat} (h : seen k = false) : unrF seen (k + 1) = unrF seen k ++ [(k : Int)] := by simp [unrF, h]
theorem unrF_off {seen : Nat → Bool} {k : Nat} (h : seen k = true) : unrF seen (k + 1) = unrF seen k := by simp [unrF, h]
theorem unrF_len (seen : Nat → Bool) : ∀ k, (unrF seen k).length ≤ k
  | 0 => by simp [unrF]
  | k + 1 => by
    have := unrF_len seen k
    unfold unrF
    split <;> simp <;> omega
/-- what UnreachedLines answers -/
def unrR (l : List Ln) (co : Int) (s : RS) : List Int := if co = 0 then unrF s.seen l.length else []
theorem unrR_len (l : List Ln) (co : Int) (s : RS) : (unrR l co s).length ≤ l.length := by
  unfold unrR
  split
  · exact unrF_len _ _
  · simp
theorem rch_ok {l : List Ln} {s : RS} : rch l (0, s) = (List.range l.length).map s.seen := by unfold rch; rw [if_pos rfl]
theorem rch_err {l : List Ln} {co : Int} {s : RS} (h : co ≠ 0) : rch l (co, s) = [] := by unfold rch; rw [if_neg h]
section
set_option maxHeartbeats 3200000
end
end Go.Proofs.Ytpapphhbogngcaa
