/-
  Slices of texts: their cells. Conditions: none.
-/
import Derived.Test.YtpapphhbogngcaaRow
namespace Go.Proofs.Ytpapphhbogngcaa
/-- the cells of a text -/
def sC (x : ByteArray) : List Value := [.string x]
end Go.Proofs.Ytpapphhbogngcaa
