/-
  DERIVED. GIVEN WITH THE SEED: THE CARDS: each row of YtlgdomajdebbdaaGreatDoorRows.lean that lists a variable, with what it lists TIED to the program's text (the seventh form; the later family's looks); each row that meets fmt, with fmt's text TOLD by the authors' own Lean function (tested against real Go, not proved from fmt's source: count such statements apart). THE CARD IS WHAT COUNTS. Prove the row's statement (the work); the ties are given (YtlgdomajdebbdaaGreatDoorTie.lean); close each card by the builder's one call (the guide's Derived/Test/ToyasCard.lean, 'card_holds'). Laid BY PROGRAM, IN A SANDBOX (cutbox-door.mjs). By AI agents, Wed Nov 11 2026. No macro, syntax, notation, axiom, sorry.
-/
import Derived.Test.YtlgdomajdebbdaaGreatDoorRows
import GoSem.ClaimSeven
namespace Go.Proofs.YtlgdomajdebbdaaGreatDoor
namespace Rows

/-- THE TIED CARD OF 'catchmentlaw11.KeyfileWrites'. -/
def keyfileWritesCard : Claim7 := { stood := { row := keyfileWritesRow, standIns := [], harness := (true, "a3fd3a8b481c951df3f6d4218d575dc61e26229b6226e651e3d2127c561f68ca"), looks := true }, kinds := [], alts := [], laidByText := true, laidKinds := [.data], laidTests := true, laidLooks := .later }
def KeyfileWritesCardSaid : Prop := Claim7.holds Tryz.pinned (.plain (OpenSpec.ofChange keyfileWritesSpec)) keyfileWritesCard

/-- THE TIED CARD OF 'catchmentlaw11.KeyfileTurned'. -/
def keyfileTurnedCard : Claim7 := { stood := { row := keyfileTurnedRow, standIns := [], harness := (true, "a3fd3a8b481c951df3f6d4218d575dc61e26229b6226e651e3d2127c561f68ca"), looks := true }, kinds := [], alts := [], laidByText := true, laidKinds := [.data], laidTests := true, laidLooks := .later }
def KeyfileTurnedCardSaid : Prop := Claim7.holds Tryz.pinned (.plain (OpenSpec.ofChange keyfileTurnedSpec)) keyfileTurnedCard

/-- THE TIED CARD OF 'catchmentlaw11.KeyfileOwn'. -/
def keyfileOwnCard : Claim7 := { stood := { row := keyfileOwnRow, standIns := [], harness := (true, "a3fd3a8b481c951df3f6d4218d575dc61e26229b6226e651e3d2127c561f68ca"), looks := true }, kinds := [], alts := [], laidByText := true, laidKinds := [.data], laidTests := true, laidLooks := .later }
def KeyfileOwnCardSaid : Prop := Claim7.holds Tryz.pinned (.plain (OpenSpec.ofChange keyfileOwnSpec)) keyfileOwnCard

/-- THE TIED CARD OF 'catchmentlaw11.KeyfileBack'. -/
def keyfileBackCard : Claim7 := { stood := { row := keyfileBackRow, standIns := [], harness := (true, "a3fd3a8b481c951df3f6d4218d575dc61e26229b6226e651e3d2127c561f68ca"), looks := true }, kinds := [], alts := [], laidByText := true, laidKinds := [.data], laidTests := true, laidLooks := .later }
def KeyfileBackCardSaid : Prop := Claim7.holds Tryz.pinned (.plain (OpenSpec.ofChange keyfileBackSpec)) keyfileBackCard

/-- THE TIED CARD OF 'catchmentlaw11.KeyfileOpens'. -/
def keyfileOpensCard : Claim7 := { stood := { row := keyfileOpensRow, standIns := [], harness := (true, "a3fd3a8b481c951df3f6d4218d575dc61e26229b6226e651e3d2127c561f68ca"), looks := true }, kinds := [], alts := [], laidByText := true, laidKinds := [.data], laidTests := true, laidLooks := .later }
def KeyfileOpensCardSaid : Prop := Claim7.holds Tryz.pinned (.plain (OpenSpec.ofChange keyfileOpensSpec)) keyfileOpensCard

/-- THE TIED CARD OF 'catchmentlaw10.ColfileWrites'. -/
def colfileWritesCard : Claim7 := { stood := { row := colfileWritesRow, standIns := [], harness := (true, "a3fd3a8b481c951df3f6d4218d575dc61e26229b6226e651e3d2127c561f68ca"), looks := true }, kinds := [], alts := [], laidByText := true, laidKinds := [.data], laidTests := true, laidLooks := .later }
def ColfileWritesCardSaid : Prop := Claim7.holds Tryz.pinned (.plain (OpenSpec.ofChange colfileWritesSpec)) colfileWritesCard

/-- THE TIED CARD OF 'catchmentlaw10.ColfileFinds'. -/
def colfileFindsCard : Claim7 := { stood := { row := colfileFindsRow, standIns := [], harness := (true, "a3fd3a8b481c951df3f6d4218d575dc61e26229b6226e651e3d2127c561f68ca"), looks := true }, kinds := [], alts := [], laidByText := true, laidKinds := [.data], laidTests := true, laidLooks := .later }
def ColfileFindsCardSaid : Prop := Claim7.holds Tryz.pinned (.plain (OpenSpec.ofChange colfileFindsSpec)) colfileFindsCard

/-- THE TIED CARD OF 'catchmentlaw10.ColfileOpens'. -/
def colfileOpensCard : Claim7 := { stood := { row := colfileOpensRow, standIns := [], harness := (true, "a3fd3a8b481c951df3f6d4218d575dc61e26229b6226e651e3d2127c561f68ca"), looks := true }, kinds := [], alts := [], laidByText := true, laidKinds := [.data], laidTests := true, laidLooks := .later }
def ColfileOpensCardSaid : Prop := Claim7.holds Tryz.pinned (.plain (OpenSpec.ofChange colfileOpensSpec)) colfileOpensCard

/-- THE TIED CARD OF 'catchmentlaw10.ColfileSpoilt'. -/
def colfileSpoiltCard : Claim7 := { stood := { row := colfileSpoiltRow, standIns := [], harness := (true, "a3fd3a8b481c951df3f6d4218d575dc61e26229b6226e651e3d2127c561f68ca"), looks := true }, kinds := [], alts := [], laidByText := true, laidKinds := [.data], laidTests := true, laidLooks := .later }
def ColfileSpoiltCardSaid : Prop := Claim7.holds Tryz.pinned (.plain (OpenSpec.ofChange colfileSpoiltSpec)) colfileSpoiltCard

/-- THE TIED CARD OF 'catchmentlaw10.ColfileOwn'. -/
def colfileOwnCard : Claim7 := { stood := { row := colfileOwnRow, standIns := [], harness := (true, "a3fd3a8b481c951df3f6d4218d575dc61e26229b6226e651e3d2127c561f68ca"), looks := true }, kinds := [], alts := [], laidByText := true, laidKinds := [.data], laidTests := true, laidLooks := .later }
def ColfileOwnCardSaid : Prop := Claim7.holds Tryz.pinned (.plain (OpenSpec.ofChange colfileOwnSpec)) colfileOwnCard

/-- THE TIED CARD OF 'catchmentlaw10.ColfileBack'. -/
def colfileBackCard : Claim7 := { stood := { row := colfileBackRow, standIns := [], harness := (true, "a3fd3a8b481c951df3f6d4218d575dc61e26229b6226e651e3d2127c561f68ca"), looks := true }, kinds := [], alts := [], laidByText := true, laidKinds := [.data], laidTests := true, laidLooks := .later }
def ColfileBackCardSaid : Prop := Claim7.holds Tryz.pinned (.plain (OpenSpec.ofChange colfileBackSpec)) colfileBackCard

/-- THE SECOND FORM's CARD OF 'catchmentlaw11.KeyfileWrites'. -/
def keyfileWritesUptoCard : Claim7 := { stood := { row := keyfileWritesUptoRow, standIns := [], harness := (true, "a3fd3a8b481c951df3f6d4218d575dc61e26229b6226e651e3d2127c561f68ca"), looks := true }, kinds := [], alts := [], laidByText := true, laidKinds := [.data], laidTests := true, laidLooks := .later }
def KeyfileWritesUptoCardSaid : Prop := Claim7.holds Tryz.pinned (.plain (OpenSpec.upto keyfileWritesSpec)) keyfileWritesUptoCard

/-- THE SECOND FORM's CARD OF 'catchmentlaw11.KeyfileTurned'. -/
def keyfileTurnedUptoCard : Claim7 := { stood := { row := keyfileTurnedUptoRow, standIns := [], harness := (true, "a3fd3a8b481c951df3f6d4218d575dc61e26229b6226e651e3d2127c561f68ca"), looks := true }, kinds := [], alts := [], laidByText := true, laidKinds := [.data], laidTests := true, laidLooks := .later }
def KeyfileTurnedUptoCardSaid : Prop := Claim7.holds Tryz.pinned (.plain (OpenSpec.upto keyfileTurnedSpec)) keyfileTurnedUptoCard

/-- THE SECOND FORM's CARD OF 'catchmentlaw11.KeyfileOwn'. -/
def keyfileOwnUptoCard : Claim7 := { stood := { row := keyfileOwnUptoRow, standIns := [], harness := (true, "a3fd3a8b481c951df3f6d4218d575dc61e26229b6226e651e3d2127c561f68ca"), looks := true }, kinds := [], alts := [], laidByText := true, laidKinds := [.data], laidTests := true, laidLooks := .later }
def KeyfileOwnUptoCardSaid : Prop := Claim7.holds Tryz.pinned (.plain (OpenSpec.upto keyfileOwnSpec)) keyfileOwnUptoCard

/-- THE SECOND FORM's CARD OF 'catchmentlaw11.KeyfileBack'. -/
def keyfileBackUptoCard : Claim7 := { stood := { row := keyfileBackUptoRow, standIns := [], harness := (true, "a3fd3a8b481c951df3f6d4218d575dc61e26229b6226e651e3d2127c561f68ca"), looks := true }, kinds := [], alts := [], laidByText := true, laidKinds := [.data], laidTests := true, laidLooks := .later }
def KeyfileBackUptoCardSaid : Prop := Claim7.holds Tryz.pinned (.plain (OpenSpec.upto keyfileBackSpec)) keyfileBackUptoCard

/-- THE SECOND FORM's CARD OF 'catchmentlaw11.KeyfileOpens'. -/
def keyfileOpensUptoCard : Claim7 := { stood := { row := keyfileOpensUptoRow, standIns := [], harness := (true, "a3fd3a8b481c951df3f6d4218d575dc61e26229b6226e651e3d2127c561f68ca"), looks := true }, kinds := [], alts := [], laidByText := true, laidKinds := [.data], laidTests := true, laidLooks := .later }
def KeyfileOpensUptoCardSaid : Prop := Claim7.holds Tryz.pinned (.plain (OpenSpec.upto keyfileOpensSpec)) keyfileOpensUptoCard

/-- THE SECOND FORM's CARD OF 'catchmentlaw10.ColfileWrites'. -/
def colfileWritesUptoCard : Claim7 := { stood := { row := colfileWritesUptoRow, standIns := [], harness := (true, "a3fd3a8b481c951df3f6d4218d575dc61e26229b6226e651e3d2127c561f68ca"), looks := true }, kinds := [], alts := [], laidByText := true, laidKinds := [.data], laidTests := true, laidLooks := .later }
def ColfileWritesUptoCardSaid : Prop := Claim7.holds Tryz.pinned (.plain (OpenSpec.upto colfileWritesSpec)) colfileWritesUptoCard

/-- THE SECOND FORM's CARD OF 'catchmentlaw10.ColfileFinds'. -/
def colfileFindsUptoCard : Claim7 := { stood := { row := colfileFindsUptoRow, standIns := [], harness := (true, "a3fd3a8b481c951df3f6d4218d575dc61e26229b6226e651e3d2127c561f68ca"), looks := true }, kinds := [], alts := [], laidByText := true, laidKinds := [.data], laidTests := true, laidLooks := .later }
def ColfileFindsUptoCardSaid : Prop := Claim7.holds Tryz.pinned (.plain (OpenSpec.upto colfileFindsSpec)) colfileFindsUptoCard

/-- THE SECOND FORM's CARD OF 'catchmentlaw10.ColfileOpens'. -/
def colfileOpensUptoCard : Claim7 := { stood := { row := colfileOpensUptoRow, standIns := [], harness := (true, "a3fd3a8b481c951df3f6d4218d575dc61e26229b6226e651e3d2127c561f68ca"), looks := true }, kinds := [], alts := [], laidByText := true, laidKinds := [.data], laidTests := true, laidLooks := .later }
def ColfileOpensUptoCardSaid : Prop := Claim7.holds Tryz.pinned (.plain (OpenSpec.upto colfileOpensSpec)) colfileOpensUptoCard

/-- THE SECOND FORM's CARD OF 'catchmentlaw10.ColfileSpoilt'. -/
def colfileSpoiltUptoCard : Claim7 := { stood := { row := colfileSpoiltUptoRow, standIns := [], harness := (true, "a3fd3a8b481c951df3f6d4218d575dc61e26229b6226e651e3d2127c561f68ca"), looks := true }, kinds := [], alts := [], laidByText := true, laidKinds := [.data], laidTests := true, laidLooks := .later }
def ColfileSpoiltUptoCardSaid : Prop := Claim7.holds Tryz.pinned (.plain (OpenSpec.upto colfileSpoiltSpec)) colfileSpoiltUptoCard

/-- THE SECOND FORM's CARD OF 'catchmentlaw10.ColfileOwn'. -/
def colfileOwnUptoCard : Claim7 := { stood := { row := colfileOwnUptoRow, standIns := [], harness := (true, "a3fd3a8b481c951df3f6d4218d575dc61e26229b6226e651e3d2127c561f68ca"), looks := true }, kinds := [], alts := [], laidByText := true, laidKinds := [.data], laidTests := true, laidLooks := .later }
def ColfileOwnUptoCardSaid : Prop := Claim7.holds Tryz.pinned (.plain (OpenSpec.upto colfileOwnSpec)) colfileOwnUptoCard

/-- THE SECOND FORM's CARD OF 'catchmentlaw10.ColfileBack'. -/
def colfileBackUptoCard : Claim7 := { stood := { row := colfileBackUptoRow, standIns := [], harness := (true, "a3fd3a8b481c951df3f6d4218d575dc61e26229b6226e651e3d2127c561f68ca"), looks := true }, kinds := [], alts := [], laidByText := true, laidKinds := [.data], laidTests := true, laidLooks := .later }
def ColfileBackUptoCardSaid : Prop := Claim7.holds Tryz.pinned (.plain (OpenSpec.upto colfileBackSpec)) colfileBackUptoCard
end Rows
end Go.Proofs.YtlgdomajdebbdaaGreatDoor
