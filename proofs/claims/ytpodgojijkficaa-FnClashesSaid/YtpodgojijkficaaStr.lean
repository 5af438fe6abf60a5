/-
  Slices of texts: their cells. Conditions: none.
-/
import Derived.Test.YtpodgojijkficaaRow
namespace Go.Proofs.Ytpodgojijkficaa
/-- the cells of a text -/
def sC (x : ByteArray) : List Value := [.string x]
end Go.Proofs.Ytpodgojijkficaa
