/-
  DERIVED. GIVEN WITH THE SEED: THE CARDS: each row of YtdhflckombkimaaDoorRows.lean that lists a variable, with what it lists TIED to the program's text (the seventh form; the later family's looks); each row that meets fmt, with fmt's text TOLD by the authors' own Lean function (tested against real Go, not proved from fmt's source: count such statements apart). THE CARD IS WHAT COUNTS. Prove the row's statement (the work); the ties are given (YtdhflckombkimaaDoorTie.lean); close each card by the builder's one call (the guide's Derived/Test/ToyasCard.lean, 'card_holds'). Laid BY PROGRAM, IN A SANDBOX (cutbox-door.mjs). By AI agents, Wed Nov 11 2026. No macro, syntax, notation, axiom, sorry.
-/
import Derived.Test.YtdhflckombkimaaDoorRows
import GoSem.ClaimSeven
namespace Go.Proofs.YtdhflckombkimaaDoor
namespace Rows

/-- THE TIED CARD OF 'laws.FnExactReadCue'. -/
def fnExactReadCueCard : Claim7 := { stood := { row := fnExactReadCueRow, standIns := [], harness := (true, "096bee353a189642f9c22008b4ef4f27431dcc11cfeb826090788e679dd54f60"), looks := true }, kinds := [], alts := [], laidByText := true, laidKinds := [.data, .data, .data, .data, .sentinel, .sentinel, .pinned], laidTests := true, laidLooks := .later }
def FnExactReadCueCardSaid : Prop := Claim7.holds Tryd.pinned (.plain (OpenSpec.ofChange fnExactReadCueSpec)) fnExactReadCueCard

/-- THE TIED CARD OF 'laws.FnExactReadTrack'. -/
def fnExactReadTrackCard : Claim7 := { stood := { row := fnExactReadTrackRow, standIns := [], harness := (true, "096bee353a189642f9c22008b4ef4f27431dcc11cfeb826090788e679dd54f60"), looks := true }, kinds := [], alts := [], laidByText := true, laidKinds := [.data, .data, .data, .data, .sentinel, .sentinel, .pinned], laidTests := true, laidLooks := .later }
def FnExactReadTrackCardSaid : Prop := Claim7.holds Tryd.pinned (.plain (OpenSpec.ofChange fnExactReadTrackSpec)) fnExactReadTrackCard

/-- THE TIED CARD OF 'laws.FnExactReadScript'. -/
def fnExactReadScriptCard : Claim7 := { stood := { row := fnExactReadScriptRow, standIns := [], harness := (true, "096bee353a189642f9c22008b4ef4f27431dcc11cfeb826090788e679dd54f60"), looks := true }, kinds := [], alts := [], laidByText := true, laidKinds := [.data, .data, .data, .data, .sentinel, .sentinel, .pinned], laidTests := true, laidLooks := .later }
def FnExactReadScriptCardSaid : Prop := Claim7.holds Tryd.pinned (.plain (OpenSpec.ofChange fnExactReadScriptSpec)) fnExactReadScriptCard

/-- THE TIED CARD OF 'laws.FnScripts'. -/
def fnScriptsCard : Claim7 := { stood := { row := fnScriptsRow, standIns := [], harness := (true, "096bee353a189642f9c22008b4ef4f27431dcc11cfeb826090788e679dd54f60"), looks := true }, kinds := [], alts := [], laidByText := true, laidKinds := [.data, .data, .data, .data, .sentinel, .sentinel, .pinned], laidTests := true, laidLooks := .later }
def FnScriptsCardSaid : Prop := Claim7.holds Tryd.pinned (.plain (OpenSpec.ofChange fnScriptsSpec)) fnScriptsCard

/-- THE TIED CARD OF 'laws.FnTracks'. -/
def fnTracksCard : Claim7 := { stood := { row := fnTracksRow, standIns := [], harness := (true, "096bee353a189642f9c22008b4ef4f27431dcc11cfeb826090788e679dd54f60"), looks := true }, kinds := [], alts := [], laidByText := true, laidKinds := [.data, .data, .data, .data, .sentinel, .sentinel, .pinned], laidTests := true, laidLooks := .later }
def FnTracksCardSaid : Prop := Claim7.holds Tryd.pinned (.plain (OpenSpec.ofChange fnTracksSpec)) fnTracksCard

/-- THE SECOND FORM's CARD OF 'laws.FnExactReadCue'. -/
def fnExactReadCueUptoCard : Claim7 := { stood := { row := fnExactReadCueUptoRow, standIns := [], harness := (true, "096bee353a189642f9c22008b4ef4f27431dcc11cfeb826090788e679dd54f60"), looks := true }, kinds := [], alts := [], laidByText := true, laidKinds := [.data, .data, .data, .data, .sentinel, .sentinel, .pinned], laidTests := true, laidLooks := .later }
def FnExactReadCueUptoCardSaid : Prop := Claim7.holds Tryd.pinned (.plain (OpenSpec.upto fnExactReadCueSpec)) fnExactReadCueUptoCard

/-- THE SECOND FORM's CARD OF 'laws.FnExactReadTrack'. -/
def fnExactReadTrackUptoCard : Claim7 := { stood := { row := fnExactReadTrackUptoRow, standIns := [], harness := (true, "096bee353a189642f9c22008b4ef4f27431dcc11cfeb826090788e679dd54f60"), looks := true }, kinds := [], alts := [], laidByText := true, laidKinds := [.data, .data, .data, .data, .sentinel, .sentinel, .pinned], laidTests := true, laidLooks := .later }
def FnExactReadTrackUptoCardSaid : Prop := Claim7.holds Tryd.pinned (.plain (OpenSpec.upto fnExactReadTrackSpec)) fnExactReadTrackUptoCard

/-- THE SECOND FORM's CARD OF 'laws.FnExactReadScript'. -/
def fnExactReadScriptUptoCard : Claim7 := { stood := { row := fnExactReadScriptUptoRow, standIns := [], harness := (true, "096bee353a189642f9c22008b4ef4f27431dcc11cfeb826090788e679dd54f60"), looks := true }, kinds := [], alts := [], laidByText := true, laidKinds := [.data, .data, .data, .data, .sentinel, .sentinel, .pinned], laidTests := true, laidLooks := .later }
def FnExactReadScriptUptoCardSaid : Prop := Claim7.holds Tryd.pinned (.plain (OpenSpec.upto fnExactReadScriptSpec)) fnExactReadScriptUptoCard

/-- THE SECOND FORM's CARD OF 'laws.FnScripts'. -/
def fnScriptsUptoCard : Claim7 := { stood := { row := fnScriptsUptoRow, standIns := [], harness := (true, "096bee353a189642f9c22008b4ef4f27431dcc11cfeb826090788e679dd54f60"), looks := true }, kinds := [], alts := [], laidByText := true, laidKinds := [.data, .data, .data, .data, .sentinel, .sentinel, .pinned], laidTests := true, laidLooks := .later }
def FnScriptsUptoCardSaid : Prop := Claim7.holds Tryd.pinned (.plain (OpenSpec.upto fnScriptsSpec)) fnScriptsUptoCard

/-- THE SECOND FORM's CARD OF 'laws.FnTracks'. -/
def fnTracksUptoCard : Claim7 := { stood := { row := fnTracksUptoRow, standIns := [], harness := (true, "096bee353a189642f9c22008b4ef4f27431dcc11cfeb826090788e679dd54f60"), looks := true }, kinds := [], alts := [], laidByText := true, laidKinds := [.data, .data, .data, .data, .sentinel, .sentinel, .pinned], laidTests := true, laidLooks := .later }
def FnTracksUptoCardSaid : Prop := Claim7.holds Tryd.pinned (.plain (OpenSpec.upto fnTracksSpec)) fnTracksUptoCard
end Rows
end Go.Proofs.YtdhflckombkimaaDoor
