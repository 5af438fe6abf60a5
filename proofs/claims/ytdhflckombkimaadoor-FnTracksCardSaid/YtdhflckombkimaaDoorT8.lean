/-
  Slices of texts: their cells. Conditions: none.
-/
import Derived.Test.YtdhflckombkimaaDoorT6
namespace Go.Proofs.YtdhflckombkimaaDoor
/-- the cells of a text -/
def sC (x : ByteArray) : List Value := [.string x]
end Go.Proofs.YtdhflckombkimaaDoor
