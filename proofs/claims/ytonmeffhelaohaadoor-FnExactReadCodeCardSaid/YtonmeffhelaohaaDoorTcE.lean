/-
  Contracts of the functions from frames to codes and of the exported functions on codes: each returns what its plain function says, and leaves all that lay there. Conditions: those typed at each theorem.
-/
import Derived.Test.YtonmeffhelaohaaDoorTcD
namespace Go.Proofs.YtonmeffhelaohaaDoor
open Go.RowKit Tc
section
set_option maxHeartbeats 1600000
theorem l16Ok_yes2 (b : Nat) (h m s f r : Int) (w : World) (hk : okCode h m s f r) (hc : AtCode w b h m s f r) :
    Calls Tryd.prog 21 #[.pointer (some ⟨b, 0, none⟩)] w fun e w' => e = .returned (.bool true) ∧ ∃ k : Ex w, w' = k.v := l16Ok_yes b h m s f r w hc hk
theorem l16Ok_no2 (b : Nat) (h m s f r : Int) (w : World) (hk : ¬ okCode h m s f r) (hc : AtCode w b h m s f r) :
    Calls Tryd.prog 21 #[.pointer (some ⟨b, 0, none⟩)] w fun e w' => e = .returned (.bool false) ∧ ∃ k : Ex w, w' = k.v := l16Ok_no b h m s f r w hc hk
end
end Go.Proofs.YtonmeffhelaohaaDoor
