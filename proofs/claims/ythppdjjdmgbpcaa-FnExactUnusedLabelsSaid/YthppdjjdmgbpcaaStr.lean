/-
  Slices of texts: their cells. Conditions: none.
-/
import Derived.Test.YthppdjjdmgbpcaaRow
namespace Go.Proofs.Ythppdjjdmgbpcaa
/-- the cells of a text -/
def sC (x : ByteArray) : List Value := [.string x]
end Go.Proofs.Ythppdjjdmgbpcaa
