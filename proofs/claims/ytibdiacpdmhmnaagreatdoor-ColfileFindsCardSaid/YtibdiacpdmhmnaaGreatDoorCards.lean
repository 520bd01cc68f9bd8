/-
  DERIVED. GIVEN WITH THE SEED: THE CARDS: each row of YtibdiacpdmhmnaaGreatDoorRows.lean that lists a variable, with what it lists TIED to the program's text (the seventh form; the later family's looks); each row that meets fmt, with fmt's text TOLD by the authors' own Lean function (tested against real Go, not proved from fmt's source: count such statements apart). THE CARD IS WHAT COUNTS. Prove the row's statement (the work); the ties are given (YtibdiacpdmhmnaaGreatDoorTie.lean); close each card by the builder's one call (the guide's Derived/Test/ToyasCard.lean, 'card_holds'). Laid BY PROGRAM, IN A SANDBOX (cutbox-door.mjs). By AI agents, Wed Nov 11 2026. No macro, syntax, notation, axiom, sorry.
-/
import Derived.Test.YtibdiacpdmhmnaaGreatDoorRows
import GoSem.ClaimSeven
namespace Go.Proofs.YtibdiacpdmhmnaaGreatDoor
namespace Rows

/-- THE TIED CARD OF 'catchmentlaw10.ColfileWrites'. -/
def colfileWritesCard : Claim7 := { stood := { row := colfileWritesRow, standIns := [], harness := (true, "600ab543f115a7d8949719efb2d65ceea305d06918d9b394a74cea282664bc32"), looks := true }, kinds := [], alts := [], laidByText := true, laidKinds := [.data], laidTests := true, laidLooks := .later }
def ColfileWritesCardSaid : Prop := Claim7.holds Tryz.pinned (.plain (OpenSpec.ofChange colfileWritesSpec)) colfileWritesCard

/-- THE TIED CARD OF 'catchmentlaw10.ColfileFinds'. -/
def colfileFindsCard : Claim7 := { stood := { row := colfileFindsRow, standIns := [], harness := (true, "600ab543f115a7d8949719efb2d65ceea305d06918d9b394a74cea282664bc32"), looks := true }, kinds := [], alts := [], laidByText := true, laidKinds := [.data], laidTests := true, laidLooks := .later }
def ColfileFindsCardSaid : Prop := Claim7.holds Tryz.pinned (.plain (OpenSpec.ofChange colfileFindsSpec)) colfileFindsCard

/-- THE TIED CARD OF 'catchmentlaw10.ColfileOpens'. -/
def colfileOpensCard : Claim7 := { stood := { row := colfileOpensRow, standIns := [], harness := (true, "600ab543f115a7d8949719efb2d65ceea305d06918d9b394a74cea282664bc32"), looks := true }, kinds := [], alts := [], laidByText := true, laidKinds := [.data], laidTests := true, laidLooks := .later }
def ColfileOpensCardSaid : Prop := Claim7.holds Tryz.pinned (.plain (OpenSpec.ofChange colfileOpensSpec)) colfileOpensCard

/-- THE TIED CARD OF 'catchmentlaw10.ColfileSpoilt'. -/
def colfileSpoiltCard : Claim7 := { stood := { row := colfileSpoiltRow, standIns := [], harness := (true, "600ab543f115a7d8949719efb2d65ceea305d06918d9b394a74cea282664bc32"), looks := true }, kinds := [], alts := [], laidByText := true, laidKinds := [.data], laidTests := true, laidLooks := .later }
def ColfileSpoiltCardSaid : Prop := Claim7.holds Tryz.pinned (.plain (OpenSpec.ofChange colfileSpoiltSpec)) colfileSpoiltCard

/-- THE TIED CARD OF 'catchmentlaw10.ColfileOwn'. -/
def colfileOwnCard : Claim7 := { stood := { row := colfileOwnRow, standIns := [], harness := (true, "600ab543f115a7d8949719efb2d65ceea305d06918d9b394a74cea282664bc32"), looks := true }, kinds := [], alts := [], laidByText := true, laidKinds := [.data], laidTests := true, laidLooks := .later }
def ColfileOwnCardSaid : Prop := Claim7.holds Tryz.pinned (.plain (OpenSpec.ofChange colfileOwnSpec)) colfileOwnCard

/-- THE TIED CARD OF 'catchmentlaw10.ColfileBack'. -/
def colfileBackCard : Claim7 := { stood := { row := colfileBackRow, standIns := [], harness := (true, "600ab543f115a7d8949719efb2d65ceea305d06918d9b394a74cea282664bc32"), looks := true }, kinds := [], alts := [], laidByText := true, laidKinds := [.data], laidTests := true, laidLooks := .later }
def ColfileBackCardSaid : Prop := Claim7.holds Tryz.pinned (.plain (OpenSpec.ofChange colfileBackSpec)) colfileBackCard

/-- THE SECOND FORM's CARD OF 'catchmentlaw10.ColfileWrites'. -/
def colfileWritesUptoCard : Claim7 := { stood := { row := colfileWritesUptoRow, standIns := [], harness := (true, "600ab543f115a7d8949719efb2d65ceea305d06918d9b394a74cea282664bc32"), looks := true }, kinds := [], alts := [], laidByText := true, laidKinds := [.data], laidTests := true, laidLooks := .later }
def ColfileWritesUptoCardSaid : Prop := Claim7.holds Tryz.pinned (.plain (OpenSpec.upto colfileWritesSpec)) colfileWritesUptoCard

/-- THE SECOND FORM's CARD OF 'catchmentlaw10.ColfileFinds'. -/
def colfileFindsUptoCard : Claim7 := { stood := { row := colfileFindsUptoRow, standIns := [], harness := (true, "600ab543f115a7d8949719efb2d65ceea305d06918d9b394a74cea282664bc32"), looks := true }, kinds := [], alts := [], laidByText := true, laidKinds := [.data], laidTests := true, laidLooks := .later }
def ColfileFindsUptoCardSaid : Prop := Claim7.holds Tryz.pinned (.plain (OpenSpec.upto colfileFindsSpec)) colfileFindsUptoCard

/-- THE SECOND FORM's CARD OF 'catchmentlaw10.ColfileOpens'. -/
def colfileOpensUptoCard : Claim7 := { stood := { row := colfileOpensUptoRow, standIns := [], harness := (true, "600ab543f115a7d8949719efb2d65ceea305d06918d9b394a74cea282664bc32"), looks := true }, kinds := [], alts := [], laidByText := true, laidKinds := [.data], laidTests := true, laidLooks := .later }
def ColfileOpensUptoCardSaid : Prop := Claim7.holds Tryz.pinned (.plain (OpenSpec.upto colfileOpensSpec)) colfileOpensUptoCard

/-- THE SECOND FORM's CARD OF 'catchmentlaw10.ColfileSpoilt'. -/
def colfileSpoiltUptoCard : Claim7 := { stood := { row := colfileSpoiltUptoRow, standIns := [], harness := (true, "600ab543f115a7d8949719efb2d65ceea305d06918d9b394a74cea282664bc32"), looks := true }, kinds := [], alts := [], laidByText := true, laidKinds := [.data], laidTests := true, laidLooks := .later }
def ColfileSpoiltUptoCardSaid : Prop := Claim7.holds Tryz.pinned (.plain (OpenSpec.upto colfileSpoiltSpec)) colfileSpoiltUptoCard

/-- THE SECOND FORM's CARD OF 'catchmentlaw10.ColfileOwn'. -/
def colfileOwnUptoCard : Claim7 := { stood := { row := colfileOwnUptoRow, standIns := [], harness := (true, "600ab543f115a7d8949719efb2d65ceea305d06918d9b394a74cea282664bc32"), looks := true }, kinds := [], alts := [], laidByText := true, laidKinds := [.data], laidTests := true, laidLooks := .later }
def ColfileOwnUptoCardSaid : Prop := Claim7.holds Tryz.pinned (.plain (OpenSpec.upto colfileOwnSpec)) colfileOwnUptoCard

/-- THE SECOND FORM's CARD OF 'catchmentlaw10.ColfileBack'. -/
def colfileBackUptoCard : Claim7 := { stood := { row := colfileBackUptoRow, standIns := [], harness := (true, "600ab543f115a7d8949719efb2d65ceea305d06918d9b394a74cea282664bc32"), looks := true }, kinds := [], alts := [], laidByText := true, laidKinds := [.data], laidTests := true, laidLooks := .later }
def ColfileBackUptoCardSaid : Prop := Claim7.holds Tryz.pinned (.plain (OpenSpec.upto colfileBackSpec)) colfileBackUptoCard
end Rows
end Go.Proofs.YtibdiacpdmhmnaaGreatDoor
