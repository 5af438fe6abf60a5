/-
  DERIVED. GIVEN WITH THE SEED: THE CARDS: each row of YtdhflckombkimaaGreatDoorRows.lean that lists a variable, with what it lists TIED to the program's text (the seventh form; the later family's looks); each row that meets fmt, with fmt's text TOLD by the authors' own Lean function (tested against real Go, not proved from fmt's source: count such statements apart). THE CARD IS WHAT COUNTS. Prove the row's statement (the work); the ties are given (YtdhflckombkimaaGreatDoorTie.lean); close each card by the builder's one call (the guide's Derived/Test/ToyasCard.lean, 'card_holds'). Laid BY PROGRAM, IN A SANDBOX (cutbox-door.mjs). By AI agents, Wed Nov 11 2026. No macro, syntax, notation, axiom, sorry.
-/
import Derived.Test.YtdhflckombkimaaGreatDoorRows
import GoSem.ClaimSeven
namespace Go.Proofs.YtdhflckombkimaaGreatDoor
namespace Rows

/-- THE TIED CARD OF 'laws.FnCues'. -/
def fnCuesCard : Claim7 := { stood := { row := fnCuesRow, standIns := [], harness := (true, "a3c7c61046439bd0ae0196623fb377ec955d23fa1d2b1579cec2b9807b7a507f"), looks := true }, kinds := [], alts := [], laidByText := true, laidKinds := [.data, .data, .data, .data, .sentinel, .sentinel, .pinned], laidTests := true, laidLooks := .later }
def FnCuesCardSaid : Prop := Claim7.holds Tryz.pinned (.plain (OpenSpec.ofChange fnCuesSpec)) fnCuesCard

/-- THE SECOND FORM's CARD OF 'laws.FnCues'. -/
def fnCuesUptoCard : Claim7 := { stood := { row := fnCuesUptoRow, standIns := [], harness := (true, "a3c7c61046439bd0ae0196623fb377ec955d23fa1d2b1579cec2b9807b7a507f"), looks := true }, kinds := [], alts := [], laidByText := true, laidKinds := [.data, .data, .data, .data, .sentinel, .sentinel, .pinned], laidTests := true, laidLooks := .later }
def FnCuesUptoCardSaid : Prop := Claim7.holds Tryz.pinned (.plain (OpenSpec.upto fnCuesSpec)) fnCuesUptoCard
end Rows
end Go.Proofs.YtdhflckombkimaaGreatDoor
