/-
  DERIVED. GIVEN WITH THE SEED: THE CARDS: each row of YtkhlpcccjacnhaaGreatDoorRows.lean that lists a variable, with what it lists TIED to the program's text (the seventh form; the later family's looks); each row that meets fmt, with fmt's text TOLD by the authors' own Lean function (tested against real Go, not proved from fmt's source: count such statements apart). THE CARD IS WHAT COUNTS. Prove the row's statement (the work); the ties are given (YtkhlpcccjacnhaaGreatDoorTie.lean); close each card by the builder's one call (the guide's Derived/Test/ToyasCard.lean, 'card_holds'). Laid BY PROGRAM, IN A SANDBOX (cutbox-door.mjs). By AI agents, Wed Nov 11 2026. No macro, syntax, notation, axiom, sorry.
-/
import Derived.Test.YtkhlpcccjacnhaaGreatDoorRows
import GoSem.ClaimSeven
namespace Go.Proofs.YtkhlpcccjacnhaaGreatDoor
namespace Rows

/-- THE TIED CARD OF 'catchmentlaw25.LinesAlone'. -/
def linesAloneCard : Claim7 := { stood := { row := linesAloneRow, standIns := [], harness := (true, "55e88b302429647159c4c5a1737289ced68b579bdde5e9f6c64963406540ce43"), looks := true }, kinds := [], alts := [], laidByText := true, laidKinds := [.pinned, .data, .sentinel, .sentinel, .data, .data, .data, .data], laidTests := true, laidLooks := .later }
def LinesAloneCardSaid : Prop := Claim7.holds Tryz.pinned (.plain (OpenSpec.ofChange linesAloneSpec)) linesAloneCard

/-- THE TIED CARD OF 'catchmentlaw25.LinesRows'. -/
def linesRowsCard : Claim7 := { stood := { row := linesRowsRow, standIns := [], harness := (true, "55e88b302429647159c4c5a1737289ced68b579bdde5e9f6c64963406540ce43"), looks := true }, kinds := [], alts := [], laidByText := true, laidKinds := [.pinned, .data, .sentinel, .sentinel, .data, .data, .data, .data], laidTests := true, laidLooks := .later }
def LinesRowsCardSaid : Prop := Claim7.holds Tryz.pinned (.plain (OpenSpec.ofChange linesRowsSpec)) linesRowsCard

/-- THE TIED CARD OF 'catchmentlaw25.LinesReads'. -/
def linesReadsCard : Claim7 := { stood := { row := linesReadsRow, standIns := [], harness := (true, "55e88b302429647159c4c5a1737289ced68b579bdde5e9f6c64963406540ce43"), looks := true }, kinds := [], alts := [], laidByText := true, laidKinds := [.pinned, .data, .sentinel, .sentinel, .data, .data, .data, .data], laidTests := true, laidLooks := .later }
def LinesReadsCardSaid : Prop := Claim7.holds Tryz.pinned (.plain (OpenSpec.ofChange linesReadsSpec)) linesReadsCard

/-- THE TIED CARD OF 'catchmentlaw25.LinesNumbers'. -/
def linesNumbersCard : Claim7 := { stood := { row := linesNumbersRow, standIns := [], harness := (true, "55e88b302429647159c4c5a1737289ced68b579bdde5e9f6c64963406540ce43"), looks := true }, kinds := [], alts := [], laidByText := true, laidKinds := [.pinned, .data, .sentinel, .sentinel, .data, .data, .data, .data], laidTests := true, laidLooks := .later }
def LinesNumbersCardSaid : Prop := Claim7.holds Tryz.pinned (.plain (OpenSpec.ofChange linesNumbersSpec)) linesNumbersCard

/-- THE SECOND FORM's CARD OF 'catchmentlaw25.LinesAlone'. -/
def linesAloneUptoCard : Claim7 := { stood := { row := linesAloneUptoRow, standIns := [], harness := (true, "55e88b302429647159c4c5a1737289ced68b579bdde5e9f6c64963406540ce43"), looks := true }, kinds := [], alts := [], laidByText := true, laidKinds := [.pinned, .data, .sentinel, .sentinel, .data, .data, .data, .data], laidTests := true, laidLooks := .later }
def LinesAloneUptoCardSaid : Prop := Claim7.holds Tryz.pinned (.plain (OpenSpec.upto linesAloneSpec)) linesAloneUptoCard

/-- THE SECOND FORM's CARD OF 'catchmentlaw25.LinesRows'. -/
def linesRowsUptoCard : Claim7 := { stood := { row := linesRowsUptoRow, standIns := [], harness := (true, "55e88b302429647159c4c5a1737289ced68b579bdde5e9f6c64963406540ce43"), looks := true }, kinds := [], alts := [], laidByText := true, laidKinds := [.pinned, .data, .sentinel, .sentinel, .data, .data, .data, .data], laidTests := true, laidLooks := .later }
def LinesRowsUptoCardSaid : Prop := Claim7.holds Tryz.pinned (.plain (OpenSpec.upto linesRowsSpec)) linesRowsUptoCard

/-- THE SECOND FORM's CARD OF 'catchmentlaw25.LinesReads'. -/
def linesReadsUptoCard : Claim7 := { stood := { row := linesReadsUptoRow, standIns := [], harness := (true, "55e88b302429647159c4c5a1737289ced68b579bdde5e9f6c64963406540ce43"), looks := true }, kinds := [], alts := [], laidByText := true, laidKinds := [.pinned, .data, .sentinel, .sentinel, .data, .data, .data, .data], laidTests := true, laidLooks := .later }
def LinesReadsUptoCardSaid : Prop := Claim7.holds Tryz.pinned (.plain (OpenSpec.upto linesReadsSpec)) linesReadsUptoCard

/-- THE SECOND FORM's CARD OF 'catchmentlaw25.LinesNumbers'. -/
def linesNumbersUptoCard : Claim7 := { stood := { row := linesNumbersUptoRow, standIns := [], harness := (true, "55e88b302429647159c4c5a1737289ced68b579bdde5e9f6c64963406540ce43"), looks := true }, kinds := [], alts := [], laidByText := true, laidKinds := [.pinned, .data, .sentinel, .sentinel, .data, .data, .data, .data], laidTests := true, laidLooks := .later }
def LinesNumbersUptoCardSaid : Prop := Claim7.holds Tryz.pinned (.plain (OpenSpec.upto linesNumbersSpec)) linesNumbersUptoCard
end Rows
end Go.Proofs.YtkhlpcccjacnhaaGreatDoor
