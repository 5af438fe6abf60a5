/-
  DropKey of the program: the search of the key. Conditions: those typed at each theorem.
-/
import Derived.Test.YtpapphhbogngcaaTrU
namespace Go.Proofs.Ytpapphhbogngcaa
open Go.RowKit
/-- where the key of a time stands, or -1 -/
def dII (l : List Ky) (t : Int) : Int := if dI l t < l.length then (dI l t : Int) else -1
theorem dII_hit {l : List Ky} {t : Int} {q : Nat} (h : q < l.length) (he : (kyG l q).t = t) (hb : ∀ j, j < q → (kyG l j).t ≠ t) : dII l t = q := by unfold dII; rw [dI_hit h he hb, if_pos h]
theorem dII_miss {l : List Ky} {t : Int} (hb : ∀ j, j < l.length → (kyG l j).t ≠ t) : dII l t = -1 := by unfold dII; rw [dI_miss hb, if_neg (by omega)]
section
set_option maxHeartbeats 3200000
set_option maxRecDepth 20000
end
end Go.Proofs.Ytpapphhbogngcaa
