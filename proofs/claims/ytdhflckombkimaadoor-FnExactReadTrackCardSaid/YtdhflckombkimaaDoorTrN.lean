/-
  The law of ShiftTrack. Conditions: those typed at each theorem.
-/
import Derived.Test.YtdhflckombkimaaDoorTrM
namespace Go.Proofs.YtdhflckombkimaaDoor
open Go.RowKit
section
variable {α : Type} {sz : Nat} {f : α → List Value} {w : World} {b : Nat} {A : Option Addr} {l : List α}
instance (priority := 900) Wr.drew [h : Wr sz f w b l] : Wr sz f w.drew b l := Wr.ex (h := h) (Ex.of (Below.refl _ _).drew)
instance (priority := 900) Ow.drew [h : Ow sz f w A l] : Ow sz f w.drew A l := Ow.ex (h := h) (Ex.of (Below.refl _ _).drew)
end
section
set_option maxHeartbeats 3200000
set_option maxRecDepth 20000
end
end Go.Proofs.YtdhflckombkimaaDoor
