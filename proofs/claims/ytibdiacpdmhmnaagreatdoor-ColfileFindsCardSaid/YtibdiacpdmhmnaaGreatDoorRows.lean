/-
  NARROWER THAN 'FOR EVERY INPUT', by the rows' own cells (each row's printed sentence says how): ColfileWrites: laid · ColfileFinds: loops, laid · ColfileOpens: laid · ColfileSpoilt: laid · ColfileOwn: laid · ColfileBack: laid.
  DERIVED. THE GIVEN ROWS OF THIS SEAT. 6 by the template 'for every input the law returns true; each argument reads behind the call as it read before'; 0 by the template 'total and deterministic' (their statements: YtibdiacpdmhmnaaGreatDoorTotals.lean).
  GIVEN WITH THE SEED: the statements are not yours to turn. If you find one false, say at which input.
  Laid BY PROGRAM, IN A SANDBOX (cutbox-rows.mjs): the forced cells as the released guide's own fill.sh prints them over the translation f3d4cb9a59a480ba… (all of the seat's roots in one cut). By AI agents, Wed Nov 11 2026. No macro, syntax, notation, axiom, sorry.
-/
import Derived.Test.YtibdiacpdmhmnaaGreatDoorChecked
import GoSem.Claim
import GoSem.ClaimJoined
import GoSem.ClaimMapViews
import Derived.JoinedTies
import Derived.KernelRfl
namespace Go.Proofs.YtibdiacpdmhmnaaGreatDoor
/- THE CELL 'sum', in the pinned program and in every row, IS THE sha256 OF THE DUMP (.gsa) THAT YtibdiacpdmhmnaaGreatDoorProg.lean LOADS. Nothing in Lean hashes anything: it is a label: what it is worth is what the hold of that sum in a sandbox is worth. -/
noncomputable def Tryz.pinned : Pinned := { name := "ytibdiacpdmhmnaagreatdoor", sum := "f3d4cb9a59a480bae3754c1aa37394f9b3300dd8a0eda6cceb62f0b0d4a9c11c", checked := Tryz.checked }
namespace Rows
def none {H : Type} : Left H := { results := [], args := [] }

/- WHAT THE LISTED PACKAGE-LEVEL VARIABLES READ AS WHEN THE CALL BEGINS. Each datum BY PROGRAM (the guide's laid-datum.mjs) off the statement by which the dump's own 'gosem.cut.vars' lays the variable. In a bare row this is a premise. The card (YtibdiacpdmhmnaaGreatDoorCards.lean) ties it to the program's text. -/
def laid_catchment_crc_half {H : Type} : DataW H := .agg [.lit (.int .u32 0), .lit (.int .u32 498536548), .lit (.int .u32 997073096), .lit (.int .u32 651767980), .lit (.int .u32 1994146192), .lit (.int .u32 1802195444), .lit (.int .u32 1303535960), .lit (.int .u32 1342533948), .lit (.int .u32 3988292384), .lit (.int .u32 4027552580), .lit (.int .u32 3604390888), .lit (.int .u32 3412177804), .lit (.int .u32 2607071920), .lit (.int .u32 2262029012), .lit (.int .u32 2685067896), .lit (.int .u32 3183342108)]

/-- 'catchmentlaw10.ColfileWrites': WHATEVER THE INPUT: true; the input reads as it did. -/
def colfileWritesSpec : ChangeSpec := { name := "colfileWrites", fn := fun _ => fun
  | [d1, d2, d3] => { results := [.lit (.bool true)], args := [d1, d2, d3] }
  | _ => none }
def colfileWritesRow : OpenClaim := { program := "ytibdiacpdmhmnaagreatdoor", sum := "f3d4cb9a59a480bae3754c1aa37394f9b3300dd8a0eda6cceb62f0b0d4a9c11c", func := "catchment/catchmentlaw10.ColfileWrites", spec := "colfileWrites", unfollowed := true, recurses := true, named := ["catchment/crc.half"], apart := false, laid := [("catchment/crc.half", laid_catchment_crc_half)] }
def ColfileWritesSaid : Prop := colfileWritesRow.holds Tryz.pinned (OpenSpec.ofChange colfileWritesSpec)

/-- ITS FALSE NEIGHBOUR: 'it returns false'. Refute it at one input. -/
def colfileWritesWrong : ChangeSpec := { name := "colfileWrites", fn := fun _ => fun
  | [d1, d2, d3] => { results := [.lit (.bool false)], args := [d1, d2, d3] }
  | _ => none }
def ColfileWritesWrongFalsely : Prop := colfileWritesRow.holds Tryz.pinned (OpenSpec.ofChange colfileWritesWrong)

/-- 'catchmentlaw10.ColfileFinds': WHATEVER THE INPUT: true; the input reads as it did. -/
def colfileFindsSpec : ChangeSpec := { name := "colfileFinds", fn := fun _ => fun
  | [d1, d2, d3, d4] => { results := [.lit (.bool true)], args := [d1, d2, d3, d4] }
  | _ => none }
def colfileFindsRow : OpenClaim := { program := "ytibdiacpdmhmnaagreatdoor", sum := "f3d4cb9a59a480bae3754c1aa37394f9b3300dd8a0eda6cceb62f0b0d4a9c11c", func := "catchment/catchmentlaw10.ColfileFinds", spec := "colfileFinds", unfollowed := true, recurses := true, named := ["catchment/crc.half"], loops := true, apart := false, laid := [("catchment/crc.half", laid_catchment_crc_half)] }
def ColfileFindsSaid : Prop := colfileFindsRow.holds Tryz.pinned (OpenSpec.ofChange colfileFindsSpec)

/-- ITS FALSE NEIGHBOUR: 'it returns false'. Refute it at one input. -/
def colfileFindsWrong : ChangeSpec := { name := "colfileFinds", fn := fun _ => fun
  | [d1, d2, d3, d4] => { results := [.lit (.bool false)], args := [d1, d2, d3, d4] }
  | _ => none }
def ColfileFindsWrongFalsely : Prop := colfileFindsRow.holds Tryz.pinned (OpenSpec.ofChange colfileFindsWrong)

/-- 'catchmentlaw10.ColfileOpens': WHATEVER THE INPUT: true; the input reads as it did. -/
def colfileOpensSpec : ChangeSpec := { name := "colfileOpens", fn := fun _ => fun
  | [d1, d2] => { results := [.lit (.bool true)], args := [d1, d2] }
  | _ => none }
def colfileOpensRow : OpenClaim := { program := "ytibdiacpdmhmnaagreatdoor", sum := "f3d4cb9a59a480bae3754c1aa37394f9b3300dd8a0eda6cceb62f0b0d4a9c11c", func := "catchment/catchmentlaw10.ColfileOpens", spec := "colfileOpens", unfollowed := true, recurses := true, named := ["catchment/crc.half"], apart := false, laid := [("catchment/crc.half", laid_catchment_crc_half)] }
def ColfileOpensSaid : Prop := colfileOpensRow.holds Tryz.pinned (OpenSpec.ofChange colfileOpensSpec)

/-- ITS FALSE NEIGHBOUR: 'it returns false'. Refute it at one input. -/
def colfileOpensWrong : ChangeSpec := { name := "colfileOpens", fn := fun _ => fun
  | [d1, d2] => { results := [.lit (.bool false)], args := [d1, d2] }
  | _ => none }
def ColfileOpensWrongFalsely : Prop := colfileOpensRow.holds Tryz.pinned (OpenSpec.ofChange colfileOpensWrong)

/-- 'catchmentlaw10.ColfileSpoilt': WHATEVER THE INPUT: true; the input reads as it did. -/
def colfileSpoiltSpec : ChangeSpec := { name := "colfileSpoilt", fn := fun _ => fun
  | [d1, d2, d3, d4, d5, d6] => { results := [.lit (.bool true)], args := [d1, d2, d3, d4, d5, d6] }
  | _ => none }
def colfileSpoiltRow : OpenClaim := { program := "ytibdiacpdmhmnaagreatdoor", sum := "f3d4cb9a59a480bae3754c1aa37394f9b3300dd8a0eda6cceb62f0b0d4a9c11c", func := "catchment/catchmentlaw10.ColfileSpoilt", spec := "colfileSpoilt", unfollowed := true, recurses := true, named := ["catchment/crc.half"], apart := false, laid := [("catchment/crc.half", laid_catchment_crc_half)] }
def ColfileSpoiltSaid : Prop := colfileSpoiltRow.holds Tryz.pinned (OpenSpec.ofChange colfileSpoiltSpec)

/-- ITS FALSE NEIGHBOUR: 'it returns false'. Refute it at one input. -/
def colfileSpoiltWrong : ChangeSpec := { name := "colfileSpoilt", fn := fun _ => fun
  | [d1, d2, d3, d4, d5, d6] => { results := [.lit (.bool false)], args := [d1, d2, d3, d4, d5, d6] }
  | _ => none }
def ColfileSpoiltWrongFalsely : Prop := colfileSpoiltRow.holds Tryz.pinned (OpenSpec.ofChange colfileSpoiltWrong)

/-- 'catchmentlaw10.ColfileOwn': WHATEVER THE INPUT: true; the input reads as it did. -/
def colfileOwnSpec : ChangeSpec := { name := "colfileOwn", fn := fun _ => fun
  | [d1, d2] => { results := [.lit (.bool true)], args := [d1, d2] }
  | _ => none }
def colfileOwnRow : OpenClaim := { program := "ytibdiacpdmhmnaagreatdoor", sum := "f3d4cb9a59a480bae3754c1aa37394f9b3300dd8a0eda6cceb62f0b0d4a9c11c", func := "catchment/catchmentlaw10.ColfileOwn", spec := "colfileOwn", unfollowed := true, recurses := true, named := ["catchment/crc.half"], apart := false, laid := [("catchment/crc.half", laid_catchment_crc_half)] }
def ColfileOwnSaid : Prop := colfileOwnRow.holds Tryz.pinned (OpenSpec.ofChange colfileOwnSpec)

/-- ITS FALSE NEIGHBOUR: 'it returns false'. Refute it at one input. -/
def colfileOwnWrong : ChangeSpec := { name := "colfileOwn", fn := fun _ => fun
  | [d1, d2] => { results := [.lit (.bool false)], args := [d1, d2] }
  | _ => none }
def ColfileOwnWrongFalsely : Prop := colfileOwnRow.holds Tryz.pinned (OpenSpec.ofChange colfileOwnWrong)

/-- 'catchmentlaw10.ColfileBack': WHATEVER THE INPUT: true; the input reads as it did. -/
def colfileBackSpec : ChangeSpec := { name := "colfileBack", fn := fun _ => fun
  | [d1, d2, d3, d4] => { results := [.lit (.bool true)], args := [d1, d2, d3, d4] }
  | _ => none }
def colfileBackRow : OpenClaim := { program := "ytibdiacpdmhmnaagreatdoor", sum := "f3d4cb9a59a480bae3754c1aa37394f9b3300dd8a0eda6cceb62f0b0d4a9c11c", func := "catchment/catchmentlaw10.ColfileBack", spec := "colfileBack", unfollowed := true, recurses := true, named := ["catchment/crc.half"], apart := false, laid := [("catchment/crc.half", laid_catchment_crc_half)] }
def ColfileBackSaid : Prop := colfileBackRow.holds Tryz.pinned (OpenSpec.ofChange colfileBackSpec)

/-- ITS FALSE NEIGHBOUR: 'it returns false'. Refute it at one input. -/
def colfileBackWrong : ChangeSpec := { name := "colfileBack", fn := fun _ => fun
  | [d1, d2, d3, d4] => { results := [.lit (.bool false)], args := [d1, d2, d3, d4] }
  | _ => none }
def ColfileBackWrongFalsely : Prop := colfileBackRow.holds Tryz.pinned (OpenSpec.ofChange colfileBackWrong)

/- THE SECOND FORM. 'bulk': how many values and letters a reading holds, each counted each time it is reached (what is shared counts as often as it is met; a slice's spare places count too). A statement '..UptoSaid' is the law's where the arguments, and the package variables that the reading takes, are together of bulk at most 1048576: NARROWER than '..Said'. Prove '..Said' where nothing that the law and all that it calls make is longer than what came in: it says more and counts as full. Else prove '..UptoSaid'. A law counts once. -/
mutual
def uptoBulk {H : Type} : DataW H → Nat
  | .lit (.string bytes) => bytes.length + 1
  | .lit _ => 1
  | .nil => 1
  | .ptr d => uptoBulk d + 1
  | .slice elems spare => uptoBulkAll elems + uptoBulkAll spare + 1
  | .agg parts => uptoBulkAll parts + 1
  | .iface _ d => uptoBulk d + 1
  | .map entries => uptoBulkEntries entries + 1
  | .held _ => 1
def uptoBulkAll {H : Type} : List (DataW H) → Nat
  | [] => 0
  | d :: r => uptoBulk d + uptoBulkAll r
def uptoBulkEntries {H : Type} : List (Lit × DataW H) → Nat
  | [] => 0
  | x :: r => uptoBulkEntry x + uptoBulkEntries r
def uptoBulkEntry {H : Type} : Lit × DataW H → Nat
  | (.string bytes, d) => bytes.length + uptoBulk d + 1
  | (_, d) => uptoBulk d + 1
 end
def uptoSmall : (H : Type) → List (DataW H) → Bool := fun _ ds => decide (uptoBulkAll ds ≤ 1048576)
def OpenSpec.upto (s : _root_.Go.ChangeSpec) : _root_.Go.OpenSpec := { _root_.Go.OpenSpec.ofChange s with cond := some uptoSmall }

/-- 'catchmentlaw10.ColfileWrites', WHERE WHAT IT READS IS OF BULK AT MOST 1048576: true; the input reads as it did. -/
def colfileWritesUptoRow : OpenClaim := { program := "ytibdiacpdmhmnaagreatdoor", sum := "f3d4cb9a59a480bae3754c1aa37394f9b3300dd8a0eda6cceb62f0b0d4a9c11c", func := "catchment/catchmentlaw10.ColfileWrites", spec := "colfileWrites", unfollowed := true, recurses := true, named := ["catchment/crc.half"], apart := false, laid := [("catchment/crc.half", laid_catchment_crc_half)], narrowed := true }
def ColfileWritesUptoSaid : Prop := colfileWritesUptoRow.holds Tryz.pinned (OpenSpec.upto colfileWritesSpec)

/-- 'catchmentlaw10.ColfileFinds', WHERE WHAT IT READS IS OF BULK AT MOST 1048576: true; the input reads as it did. -/
def colfileFindsUptoRow : OpenClaim := { program := "ytibdiacpdmhmnaagreatdoor", sum := "f3d4cb9a59a480bae3754c1aa37394f9b3300dd8a0eda6cceb62f0b0d4a9c11c", func := "catchment/catchmentlaw10.ColfileFinds", spec := "colfileFinds", unfollowed := true, recurses := true, named := ["catchment/crc.half"], loops := true, apart := false, laid := [("catchment/crc.half", laid_catchment_crc_half)], narrowed := true }
def ColfileFindsUptoSaid : Prop := colfileFindsUptoRow.holds Tryz.pinned (OpenSpec.upto colfileFindsSpec)

/-- 'catchmentlaw10.ColfileOpens', WHERE WHAT IT READS IS OF BULK AT MOST 1048576: true; the input reads as it did. -/
def colfileOpensUptoRow : OpenClaim := { program := "ytibdiacpdmhmnaagreatdoor", sum := "f3d4cb9a59a480bae3754c1aa37394f9b3300dd8a0eda6cceb62f0b0d4a9c11c", func := "catchment/catchmentlaw10.ColfileOpens", spec := "colfileOpens", unfollowed := true, recurses := true, named := ["catchment/crc.half"], apart := false, laid := [("catchment/crc.half", laid_catchment_crc_half)], narrowed := true }
def ColfileOpensUptoSaid : Prop := colfileOpensUptoRow.holds Tryz.pinned (OpenSpec.upto colfileOpensSpec)

/-- 'catchmentlaw10.ColfileSpoilt', WHERE WHAT IT READS IS OF BULK AT MOST 1048576: true; the input reads as it did. -/
def colfileSpoiltUptoRow : OpenClaim := { program := "ytibdiacpdmhmnaagreatdoor", sum := "f3d4cb9a59a480bae3754c1aa37394f9b3300dd8a0eda6cceb62f0b0d4a9c11c", func := "catchment/catchmentlaw10.ColfileSpoilt", spec := "colfileSpoilt", unfollowed := true, recurses := true, named := ["catchment/crc.half"], apart := false, laid := [("catchment/crc.half", laid_catchment_crc_half)], narrowed := true }
def ColfileSpoiltUptoSaid : Prop := colfileSpoiltUptoRow.holds Tryz.pinned (OpenSpec.upto colfileSpoiltSpec)

/-- 'catchmentlaw10.ColfileOwn', WHERE WHAT IT READS IS OF BULK AT MOST 1048576: true; the input reads as it did. -/
def colfileOwnUptoRow : OpenClaim := { program := "ytibdiacpdmhmnaagreatdoor", sum := "f3d4cb9a59a480bae3754c1aa37394f9b3300dd8a0eda6cceb62f0b0d4a9c11c", func := "catchment/catchmentlaw10.ColfileOwn", spec := "colfileOwn", unfollowed := true, recurses := true, named := ["catchment/crc.half"], apart := false, laid := [("catchment/crc.half", laid_catchment_crc_half)], narrowed := true }
def ColfileOwnUptoSaid : Prop := colfileOwnUptoRow.holds Tryz.pinned (OpenSpec.upto colfileOwnSpec)

/-- 'catchmentlaw10.ColfileBack', WHERE WHAT IT READS IS OF BULK AT MOST 1048576: true; the input reads as it did. -/
def colfileBackUptoRow : OpenClaim := { program := "ytibdiacpdmhmnaagreatdoor", sum := "f3d4cb9a59a480bae3754c1aa37394f9b3300dd8a0eda6cceb62f0b0d4a9c11c", func := "catchment/catchmentlaw10.ColfileBack", spec := "colfileBack", unfollowed := true, recurses := true, named := ["catchment/crc.half"], apart := false, laid := [("catchment/crc.half", laid_catchment_crc_half)], narrowed := true }
def ColfileBackUptoSaid : Prop := colfileBackUptoRow.holds Tryz.pinned (OpenSpec.upto colfileBackSpec)

end Rows
end Go.Proofs.YtibdiacpdmhmnaaGreatDoor
