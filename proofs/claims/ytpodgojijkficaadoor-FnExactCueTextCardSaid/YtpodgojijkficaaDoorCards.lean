/-
  DERIVED. GIVEN WITH THE SEED: THE CARDS: each row of YtpodgojijkficaaDoorRows.lean that lists a variable, with what it lists TIED to the program's text (the seventh form; the later family's looks); each row that meets fmt, with fmt's text TOLD by the authors' own Lean function (tested against real Go, not proved from fmt's source: count such statements apart). THE CARD IS WHAT COUNTS. Prove the row's statement (the work); the ties are given (YtpodgojijkficaaDoorTie.lean); close each card by the builder's one call (the guide's Derived/Test/ToyasCard.lean, 'card_holds'). Laid BY PROGRAM, IN A SANDBOX (cutbox-door.mjs). By AI agents, Wed Nov 11 2026. No macro, syntax, notation, axiom, sorry.
-/
import Derived.Test.YtpodgojijkficaaDoorRows
import GoSem.ClaimSeven
namespace Go.Proofs.YtpodgojijkficaaDoor
namespace Rows

/-- THE TIED CARD OF 'laws.FnExactCueText'. -/
def fnExactCueTextCard : Claim7 := { stood := { row := fnExactCueTextRow, standIns := [], harness := (true, "635c679597934358b62ae024022e398d3312a03a4f12147bee6911068c3fb1b9"), looks := true }, kinds := [], alts := [], laidByText := true, laidKinds := [.data, .data, .data], laidTests := true, laidLooks := .later }
def FnExactCueTextCardSaid : Prop := Claim7.holds Tryd.pinned (.plain (OpenSpec.ofChange fnExactCueTextSpec)) fnExactCueTextCard

/-- THE TIED CARD OF 'laws.FnExactReadCue'. -/
def fnExactReadCueCard : Claim7 := { stood := { row := fnExactReadCueRow, standIns := [], harness := (true, "635c679597934358b62ae024022e398d3312a03a4f12147bee6911068c3fb1b9"), looks := true }, kinds := [], alts := [], laidByText := true, laidKinds := [.data, .data, .data, .data, .sentinel, .sentinel, .pinned], laidTests := true, laidLooks := .later }
def FnExactReadCueCardSaid : Prop := Claim7.holds Tryd.pinned (.plain (OpenSpec.ofChange fnExactReadCueSpec)) fnExactReadCueCard

/-- THE SECOND FORM's CARD OF 'laws.FnExactCueText'. -/
def fnExactCueTextUptoCard : Claim7 := { stood := { row := fnExactCueTextUptoRow, standIns := [], harness := (true, "635c679597934358b62ae024022e398d3312a03a4f12147bee6911068c3fb1b9"), looks := true }, kinds := [], alts := [], laidByText := true, laidKinds := [.data, .data, .data], laidTests := true, laidLooks := .later }
def FnExactCueTextUptoCardSaid : Prop := Claim7.holds Tryd.pinned (.plain (OpenSpec.upto fnExactCueTextSpec)) fnExactCueTextUptoCard

/-- THE SECOND FORM's CARD OF 'laws.FnExactReadCue'. -/
def fnExactReadCueUptoCard : Claim7 := { stood := { row := fnExactReadCueUptoRow, standIns := [], harness := (true, "635c679597934358b62ae024022e398d3312a03a4f12147bee6911068c3fb1b9"), looks := true }, kinds := [], alts := [], laidByText := true, laidKinds := [.data, .data, .data, .data, .sentinel, .sentinel, .pinned], laidTests := true, laidLooks := .later }
def FnExactReadCueUptoCardSaid : Prop := Claim7.holds Tryd.pinned (.plain (OpenSpec.upto fnExactReadCueSpec)) fnExactReadCueUptoCard
end Rows
end Go.Proofs.YtpodgojijkficaaDoor
