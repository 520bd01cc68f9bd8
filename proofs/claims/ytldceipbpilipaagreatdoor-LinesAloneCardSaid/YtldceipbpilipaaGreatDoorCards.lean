/-
  DERIVED. GIVEN WITH THE SEED: THE CARDS: each row of YtldceipbpilipaaGreatDoorRows.lean that lists a variable, with what it lists TIED to the program's text (the seventh form; the later family's looks); each row that meets fmt, with fmt's text TOLD by the authors' own Lean function (tested against real Go, not proved from fmt's source: count such statements apart). THE CARD IS WHAT COUNTS. Prove the row's statement (the work); the ties are given (YtldceipbpilipaaGreatDoorTie.lean); close each card by the builder's one call (the guide's Derived/Test/ToyasCard.lean, 'card_holds'). Laid BY PROGRAM, IN A SANDBOX (cutbox-door.mjs). By AI agents, Wed Nov 11 2026. No macro, syntax, notation, axiom, sorry.
-/
import Derived.Test.YtldceipbpilipaaGreatDoorRows
import GoSem.ClaimSeven
namespace Go.Proofs.YtldceipbpilipaaGreatDoor
namespace Rows

/-- THE TIED CARD OF 'catchmentlaw23.SinkWrong'. -/
def sinkWrongCard : Claim7 := { stood := { row := sinkWrongRow, standIns := [], harness := (true, "fc453ee910589b58061cbef0782e50bda1023842be778dc6609fc460bf0868cd"), looks := true }, kinds := [], alts := [], laidByText := true, laidKinds := [.data, .pinned, .data, .sentinel, .sentinel, .data, .data, .data], laidTests := true, laidLooks := .later }
def SinkWrongCardSaid : Prop := Claim7.holds Tryz.pinned (.plain (OpenSpec.ofChange sinkWrongSpec)) sinkWrongCard

/-- THE TIED CARD OF 'catchmentlaw24.WorldBegins'. -/
def worldBeginsCard : Claim7 := { stood := { row := worldBeginsRow, standIns := [], harness := (true, "fc453ee910589b58061cbef0782e50bda1023842be778dc6609fc460bf0868cd"), looks := true }, kinds := [], alts := [], laidByText := true, laidKinds := [.data, .pinned, .data, .sentinel, .sentinel, .data, .data, .data], laidTests := true, laidLooks := .later }
def WorldBeginsCardSaid : Prop := Claim7.holds Tryz.pinned (.plain (OpenSpec.ofChange worldBeginsSpec)) worldBeginsCard

/-- THE TIED CARD OF 'catchmentlaw25.LinesAlone'. -/
def linesAloneCard : Claim7 := { stood := { row := linesAloneRow, standIns := [], harness := (true, "fc453ee910589b58061cbef0782e50bda1023842be778dc6609fc460bf0868cd"), looks := true }, kinds := [], alts := [], laidByText := true, laidKinds := [.pinned, .data, .sentinel, .sentinel, .data, .data, .data, .data], laidTests := true, laidLooks := .later }
def LinesAloneCardSaid : Prop := Claim7.holds Tryz.pinned (.plain (OpenSpec.ofChange linesAloneSpec)) linesAloneCard

/-- THE SECOND FORM's CARD OF 'catchmentlaw23.SinkWrong'. -/
def sinkWrongUptoCard : Claim7 := { stood := { row := sinkWrongUptoRow, standIns := [], harness := (true, "fc453ee910589b58061cbef0782e50bda1023842be778dc6609fc460bf0868cd"), looks := true }, kinds := [], alts := [], laidByText := true, laidKinds := [.data, .pinned, .data, .sentinel, .sentinel, .data, .data, .data], laidTests := true, laidLooks := .later }
def SinkWrongUptoCardSaid : Prop := Claim7.holds Tryz.pinned (.plain (OpenSpec.upto sinkWrongSpec)) sinkWrongUptoCard

/-- THE SECOND FORM's CARD OF 'catchmentlaw24.WorldBegins'. -/
def worldBeginsUptoCard : Claim7 := { stood := { row := worldBeginsUptoRow, standIns := [], harness := (true, "fc453ee910589b58061cbef0782e50bda1023842be778dc6609fc460bf0868cd"), looks := true }, kinds := [], alts := [], laidByText := true, laidKinds := [.data, .pinned, .data, .sentinel, .sentinel, .data, .data, .data], laidTests := true, laidLooks := .later }
def WorldBeginsUptoCardSaid : Prop := Claim7.holds Tryz.pinned (.plain (OpenSpec.upto worldBeginsSpec)) worldBeginsUptoCard

/-- THE SECOND FORM's CARD OF 'catchmentlaw25.LinesAlone'. -/
def linesAloneUptoCard : Claim7 := { stood := { row := linesAloneUptoRow, standIns := [], harness := (true, "fc453ee910589b58061cbef0782e50bda1023842be778dc6609fc460bf0868cd"), looks := true }, kinds := [], alts := [], laidByText := true, laidKinds := [.pinned, .data, .sentinel, .sentinel, .data, .data, .data, .data], laidTests := true, laidLooks := .later }
def LinesAloneUptoCardSaid : Prop := Claim7.holds Tryz.pinned (.plain (OpenSpec.upto linesAloneSpec)) linesAloneUptoCard
end Rows
end Go.Proofs.YtldceipbpilipaaGreatDoor
