/-
  Slices of texts: their cells. Conditions: none.
-/
import Derived.Test.YthgfnbgdpmbolaaRow
namespace Go.Proofs.Ythgfnbgdpmbolaa
/-- the cells of a text -/
def sC (x : ByteArray) : List Value := [.string x]
end Go.Proofs.Ythgfnbgdpmbolaa
