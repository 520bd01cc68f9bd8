/-
  No cell of these rows narrows 'for every input' (looked for: loops, veiled, ifaces, maps, wideKeys, modest, calm, conditions, laid).
  DERIVED. THE GIVEN ROWS OF THIS SEAT. 10 by the template 'for every input the law returns true; each argument reads behind the call as it read before'; 0 by the template 'total and deterministic' (their statements: YtekemfffaedmhaaTotals.lean).
  GIVEN WITH THE SEED: the statements are not yours to turn. If you find one false, say at which input.
  Laid BY PROGRAM, IN A SANDBOX (cutbox-rows.mjs): the forced cells as the released guide's own fill.sh prints them over the translation 4566d9574eba0044… (all of the seat's roots in one cut). By AI agents, Wed Nov 11 2026. No macro, syntax, notation, axiom, sorry.
-/
import Derived.Test.YtekemfffaedmhaaChecked
import GoSem.Claim
import GoSem.ClaimJoined
import GoSem.ClaimMapViews
import Derived.JoinedTies
import Derived.KernelRfl
namespace Go.Proofs.Ytekemfffaedmhaa
/- THE CELL 'sum', in the pinned program and in every row, IS THE sha256 OF THE DUMP (.gsa) THAT YtekemfffaedmhaaProg.lean LOADS. Nothing in Lean hashes anything: it is a label: what it is worth is what the hold of that sum in a sandbox is worth. -/
noncomputable def Try.pinned : Pinned := { name := "ytekemfffaedmhaa", sum := "4566d9574eba0044b03e044ecf1f1b02083bc9a03b4663a059bb79d9cb8d6966", checked := Try.checked }
namespace Rows
def none {H : Type} : Left H := { results := [], args := [] }

/-- 'catchmentlaw20.ExpireWhich': WHATEVER THE INPUT: true; the input reads as it did. -/
def expireWhichSpec : ChangeSpec := { name := "expireWhich", fn := fun _ => fun
  | [d1, d2, d3] => { results := [.lit (.bool true)], args := [d1, d2, d3] }
  | _ => none }
def expireWhichRow : OpenClaim := { program := "ytekemfffaedmhaa", sum := "4566d9574eba0044b03e044ecf1f1b02083bc9a03b4663a059bb79d9cb8d6966", func := "catchment/catchmentlaw20.ExpireWhich", spec := "expireWhich", apart := false }
def ExpireWhichSaid : Prop := expireWhichRow.holds Try.pinned (OpenSpec.ofChange expireWhichSpec)

/-- ITS FALSE NEIGHBOUR: 'it returns false'. Refute it at one input. -/
def expireWhichWrong : ChangeSpec := { name := "expireWhich", fn := fun _ => fun
  | [d1, d2, d3] => { results := [.lit (.bool false)], args := [d1, d2, d3] }
  | _ => none }
def ExpireWhichWrongFalsely : Prop := expireWhichRow.holds Try.pinned (OpenSpec.ofChange expireWhichWrong)

/-- 'catchmentlaw20.ExpireStays': WHATEVER THE INPUT: true; the input reads as it did. -/
def expireStaysSpec : ChangeSpec := { name := "expireStays", fn := fun _ => fun
  | [d1, d2, d3] => { results := [.lit (.bool true)], args := [d1, d2, d3] }
  | _ => none }
def expireStaysRow : OpenClaim := { program := "ytekemfffaedmhaa", sum := "4566d9574eba0044b03e044ecf1f1b02083bc9a03b4663a059bb79d9cb8d6966", func := "catchment/catchmentlaw20.ExpireStays", spec := "expireStays", apart := false }
def ExpireStaysSaid : Prop := expireStaysRow.holds Try.pinned (OpenSpec.ofChange expireStaysSpec)

/-- ITS FALSE NEIGHBOUR: 'it returns false'. Refute it at one input. -/
def expireStaysWrong : ChangeSpec := { name := "expireStays", fn := fun _ => fun
  | [d1, d2, d3] => { results := [.lit (.bool false)], args := [d1, d2, d3] }
  | _ => none }
def ExpireStaysWrongFalsely : Prop := expireStaysRow.holds Try.pinned (OpenSpec.ofChange expireStaysWrong)

/-- 'catchmentlaw05.IntsEncodes': WHATEVER THE INPUT: true; the input reads as it did. -/
def intsEncodesSpec : ChangeSpec := { name := "intsEncodes", fn := fun _ => fun
  | [d1, d2] => { results := [.lit (.bool true)], args := [d1, d2] }
  | _ => none }
def intsEncodesRow : OpenClaim := { program := "ytekemfffaedmhaa", sum := "4566d9574eba0044b03e044ecf1f1b02083bc9a03b4663a059bb79d9cb8d6966", func := "catchment/catchmentlaw05.IntsEncodes", spec := "intsEncodes", unfollowed := true, recurses := true, apart := false }
def IntsEncodesSaid : Prop := intsEncodesRow.holds Try.pinned (OpenSpec.ofChange intsEncodesSpec)

/-- ITS FALSE NEIGHBOUR: 'it returns false'. Refute it at one input. -/
def intsEncodesWrong : ChangeSpec := { name := "intsEncodes", fn := fun _ => fun
  | [d1, d2] => { results := [.lit (.bool false)], args := [d1, d2] }
  | _ => none }
def IntsEncodesWrongFalsely : Prop := intsEncodesRow.holds Try.pinned (OpenSpec.ofChange intsEncodesWrong)

/-- 'catchmentlaw05.IntsReads': WHATEVER THE INPUT: true; the input reads as it did. -/
def intsReadsSpec : ChangeSpec := { name := "intsReads", fn := fun _ => fun
  | [d1, d2] => { results := [.lit (.bool true)], args := [d1, d2] }
  | _ => none }
def intsReadsRow : OpenClaim := { program := "ytekemfffaedmhaa", sum := "4566d9574eba0044b03e044ecf1f1b02083bc9a03b4663a059bb79d9cb8d6966", func := "catchment/catchmentlaw05.IntsReads", spec := "intsReads", unfollowed := true, recurses := true, apart := false }
def IntsReadsSaid : Prop := intsReadsRow.holds Try.pinned (OpenSpec.ofChange intsReadsSpec)

/-- ITS FALSE NEIGHBOUR: 'it returns false'. Refute it at one input. -/
def intsReadsWrong : ChangeSpec := { name := "intsReads", fn := fun _ => fun
  | [d1, d2] => { results := [.lit (.bool false)], args := [d1, d2] }
  | _ => none }
def IntsReadsWrongFalsely : Prop := intsReadsRow.holds Try.pinned (OpenSpec.ofChange intsReadsWrong)

/-- 'catchmentlaw05.IntsBack': WHATEVER THE INPUT: true; the input reads as it did. -/
def intsBackSpec : ChangeSpec := { name := "intsBack", fn := fun _ => fun
  | [d1, d2] => { results := [.lit (.bool true)], args := [d1, d2] }
  | _ => none }
def intsBackRow : OpenClaim := { program := "ytekemfffaedmhaa", sum := "4566d9574eba0044b03e044ecf1f1b02083bc9a03b4663a059bb79d9cb8d6966", func := "catchment/catchmentlaw05.IntsBack", spec := "intsBack", unfollowed := true, recurses := true, apart := false }
def IntsBackSaid : Prop := intsBackRow.holds Try.pinned (OpenSpec.ofChange intsBackSpec)

/-- ITS FALSE NEIGHBOUR: 'it returns false'. Refute it at one input. -/
def intsBackWrong : ChangeSpec := { name := "intsBack", fn := fun _ => fun
  | [d1, d2] => { results := [.lit (.bool false)], args := [d1, d2] }
  | _ => none }
def IntsBackWrongFalsely : Prop := intsBackRow.holds Try.pinned (OpenSpec.ofChange intsBackWrong)

/-- 'catchmentlaw05.IntsOne': WHATEVER THE INPUT: true; the input reads as it did. -/
def intsOneSpec : ChangeSpec := { name := "intsOne", fn := fun _ => fun
  | [d1, d2, d3] => { results := [.lit (.bool true)], args := [d1, d2, d3] }
  | _ => none }
def intsOneRow : OpenClaim := { program := "ytekemfffaedmhaa", sum := "4566d9574eba0044b03e044ecf1f1b02083bc9a03b4663a059bb79d9cb8d6966", func := "catchment/catchmentlaw05.IntsOne", spec := "intsOne", unfollowed := true, recurses := true, apart := false }
def IntsOneSaid : Prop := intsOneRow.holds Try.pinned (OpenSpec.ofChange intsOneSpec)

/-- ITS FALSE NEIGHBOUR: 'it returns false'. Refute it at one input. -/
def intsOneWrong : ChangeSpec := { name := "intsOne", fn := fun _ => fun
  | [d1, d2, d3] => { results := [.lit (.bool false)], args := [d1, d2, d3] }
  | _ => none }
def IntsOneWrongFalsely : Prop := intsOneRow.holds Try.pinned (OpenSpec.ofChange intsOneWrong)

/-- 'catchmentlaw05.IntsCut': WHATEVER THE INPUT: true; the input reads as it did. -/
def intsCutSpec : ChangeSpec := { name := "intsCut", fn := fun _ => fun
  | [d1, d2, d3, d4] => { results := [.lit (.bool true)], args := [d1, d2, d3, d4] }
  | _ => none }
def intsCutRow : OpenClaim := { program := "ytekemfffaedmhaa", sum := "4566d9574eba0044b03e044ecf1f1b02083bc9a03b4663a059bb79d9cb8d6966", func := "catchment/catchmentlaw05.IntsCut", spec := "intsCut", unfollowed := true, recurses := true, apart := false }
def IntsCutSaid : Prop := intsCutRow.holds Try.pinned (OpenSpec.ofChange intsCutSpec)

/-- ITS FALSE NEIGHBOUR: 'it returns false'. Refute it at one input. -/
def intsCutWrong : ChangeSpec := { name := "intsCut", fn := fun _ => fun
  | [d1, d2, d3, d4] => { results := [.lit (.bool false)], args := [d1, d2, d3, d4] }
  | _ => none }
def IntsCutWrongFalsely : Prop := intsCutRow.holds Try.pinned (OpenSpec.ofChange intsCutWrong)

/-- 'catchmentlaw05.IntsOwn': WHATEVER THE INPUT: true; the input reads as it did. -/
def intsOwnSpec : ChangeSpec := { name := "intsOwn", fn := fun _ => fun
  | [d1, d2] => { results := [.lit (.bool true)], args := [d1, d2] }
  | _ => none }
def intsOwnRow : OpenClaim := { program := "ytekemfffaedmhaa", sum := "4566d9574eba0044b03e044ecf1f1b02083bc9a03b4663a059bb79d9cb8d6966", func := "catchment/catchmentlaw05.IntsOwn", spec := "intsOwn", unfollowed := true, recurses := true, apart := false }
def IntsOwnSaid : Prop := intsOwnRow.holds Try.pinned (OpenSpec.ofChange intsOwnSpec)

/-- ITS FALSE NEIGHBOUR: 'it returns false'. Refute it at one input. -/
def intsOwnWrong : ChangeSpec := { name := "intsOwn", fn := fun _ => fun
  | [d1, d2] => { results := [.lit (.bool false)], args := [d1, d2] }
  | _ => none }
def IntsOwnWrongFalsely : Prop := intsOwnRow.holds Try.pinned (OpenSpec.ofChange intsOwnWrong)

/-- 'catchmentlaw06.ColumnBack': WHATEVER THE INPUT: true; the input reads as it did. -/
def columnBackSpec : ChangeSpec := { name := "columnBack", fn := fun _ => fun
  | [d1, d2] => { results := [.lit (.bool true)], args := [d1, d2] }
  | _ => none }
def columnBackRow : OpenClaim := { program := "ytekemfffaedmhaa", sum := "4566d9574eba0044b03e044ecf1f1b02083bc9a03b4663a059bb79d9cb8d6966", func := "catchment/catchmentlaw06.ColumnBack", spec := "columnBack", unfollowed := true, recurses := true, apart := false }
def ColumnBackSaid : Prop := columnBackRow.holds Try.pinned (OpenSpec.ofChange columnBackSpec)

/-- ITS FALSE NEIGHBOUR: 'it returns false'. Refute it at one input. -/
def columnBackWrong : ChangeSpec := { name := "columnBack", fn := fun _ => fun
  | [d1, d2] => { results := [.lit (.bool false)], args := [d1, d2] }
  | _ => none }
def ColumnBackWrongFalsely : Prop := columnBackRow.holds Try.pinned (OpenSpec.ofChange columnBackWrong)

/-- 'catchmentlaw06.ColumnCut': WHATEVER THE INPUT: true; the input reads as it did. -/
def columnCutSpec : ChangeSpec := { name := "columnCut", fn := fun _ => fun
  | [d1, d2, d3, d4] => { results := [.lit (.bool true)], args := [d1, d2, d3, d4] }
  | _ => none }
def columnCutRow : OpenClaim := { program := "ytekemfffaedmhaa", sum := "4566d9574eba0044b03e044ecf1f1b02083bc9a03b4663a059bb79d9cb8d6966", func := "catchment/catchmentlaw06.ColumnCut", spec := "columnCut", unfollowed := true, recurses := true, apart := false }
def ColumnCutSaid : Prop := columnCutRow.holds Try.pinned (OpenSpec.ofChange columnCutSpec)

/-- ITS FALSE NEIGHBOUR: 'it returns false'. Refute it at one input. -/
def columnCutWrong : ChangeSpec := { name := "columnCut", fn := fun _ => fun
  | [d1, d2, d3, d4] => { results := [.lit (.bool false)], args := [d1, d2, d3, d4] }
  | _ => none }
def ColumnCutWrongFalsely : Prop := columnCutRow.holds Try.pinned (OpenSpec.ofChange columnCutWrong)

/- THE SECOND FORM. 'bulk': how many values and letters a reading holds, each counted each time it is reached (what is shared counts as often as it is met; a slice's spare places count too). A statement '..UptoSaid' is the law's where the arguments, and the package variables that the reading takes, are together of bulk at most 1048576: NARROWER than '..Said'. Prove '..Said' where nothing that the law and all that it calls make is longer than what came in: it says more and counts as full. Else prove '..UptoSaid'. A law counts once. -/
mutual
def uptoBulk {H : Type} : DataW H → Nat
  | .lit (.string bytes) => bytes.length + 1
  | .lit _ => 1
  | .nil => 1
  | .ptr d => uptoBulk d + 1
  | .slice elems spare => uptoBulkAll elems + uptoBulkAll spare + 1
  | .agg parts => uptoBulkAll parts + 1
  | .iface _ d => uptoBulk d + 1
  | .map entries => uptoBulkEntries entries + 1
  | .held _ => 1
def uptoBulkAll {H : Type} : List (DataW H) → Nat
  | [] => 0
  | d :: r => uptoBulk d + uptoBulkAll r
def uptoBulkEntries {H : Type} : List (Lit × DataW H) → Nat
  | [] => 0
  | x :: r => uptoBulkEntry x + uptoBulkEntries r
def uptoBulkEntry {H : Type} : Lit × DataW H → Nat
  | (.string bytes, d) => bytes.length + uptoBulk d + 1
  | (_, d) => uptoBulk d + 1
 end
def uptoSmall : (H : Type) → List (DataW H) → Bool := fun _ ds => decide (uptoBulkAll ds ≤ 1048576)
def OpenSpec.upto (s : _root_.Go.ChangeSpec) : _root_.Go.OpenSpec := { _root_.Go.OpenSpec.ofChange s with cond := some uptoSmall }

/-- 'catchmentlaw20.ExpireWhich', WHERE WHAT IT READS IS OF BULK AT MOST 1048576: true; the input reads as it did. -/
def expireWhichUptoRow : OpenClaim := { program := "ytekemfffaedmhaa", sum := "4566d9574eba0044b03e044ecf1f1b02083bc9a03b4663a059bb79d9cb8d6966", func := "catchment/catchmentlaw20.ExpireWhich", spec := "expireWhich", apart := false, narrowed := true }
def ExpireWhichUptoSaid : Prop := expireWhichUptoRow.holds Try.pinned (OpenSpec.upto expireWhichSpec)

/-- 'catchmentlaw20.ExpireStays', WHERE WHAT IT READS IS OF BULK AT MOST 1048576: true; the input reads as it did. -/
def expireStaysUptoRow : OpenClaim := { program := "ytekemfffaedmhaa", sum := "4566d9574eba0044b03e044ecf1f1b02083bc9a03b4663a059bb79d9cb8d6966", func := "catchment/catchmentlaw20.ExpireStays", spec := "expireStays", apart := false, narrowed := true }
def ExpireStaysUptoSaid : Prop := expireStaysUptoRow.holds Try.pinned (OpenSpec.upto expireStaysSpec)

/-- 'catchmentlaw05.IntsEncodes', WHERE WHAT IT READS IS OF BULK AT MOST 1048576: true; the input reads as it did. -/
def intsEncodesUptoRow : OpenClaim := { program := "ytekemfffaedmhaa", sum := "4566d9574eba0044b03e044ecf1f1b02083bc9a03b4663a059bb79d9cb8d6966", func := "catchment/catchmentlaw05.IntsEncodes", spec := "intsEncodes", unfollowed := true, recurses := true, apart := false, narrowed := true }
def IntsEncodesUptoSaid : Prop := intsEncodesUptoRow.holds Try.pinned (OpenSpec.upto intsEncodesSpec)

/-- 'catchmentlaw05.IntsReads', WHERE WHAT IT READS IS OF BULK AT MOST 1048576: true; the input reads as it did. -/
def intsReadsUptoRow : OpenClaim := { program := "ytekemfffaedmhaa", sum := "4566d9574eba0044b03e044ecf1f1b02083bc9a03b4663a059bb79d9cb8d6966", func := "catchment/catchmentlaw05.IntsReads", spec := "intsReads", unfollowed := true, recurses := true, apart := false, narrowed := true }
def IntsReadsUptoSaid : Prop := intsReadsUptoRow.holds Try.pinned (OpenSpec.upto intsReadsSpec)

/-- 'catchmentlaw05.IntsBack', WHERE WHAT IT READS IS OF BULK AT MOST 1048576: true; the input reads as it did. -/
def intsBackUptoRow : OpenClaim := { program := "ytekemfffaedmhaa", sum := "4566d9574eba0044b03e044ecf1f1b02083bc9a03b4663a059bb79d9cb8d6966", func := "catchment/catchmentlaw05.IntsBack", spec := "intsBack", unfollowed := true, recurses := true, apart := false, narrowed := true }
def IntsBackUptoSaid : Prop := intsBackUptoRow.holds Try.pinned (OpenSpec.upto intsBackSpec)

/-- 'catchmentlaw05.IntsOne', WHERE WHAT IT READS IS OF BULK AT MOST 1048576: true; the input reads as it did. -/
def intsOneUptoRow : OpenClaim := { program := "ytekemfffaedmhaa", sum := "4566d9574eba0044b03e044ecf1f1b02083bc9a03b4663a059bb79d9cb8d6966", func := "catchment/catchmentlaw05.IntsOne", spec := "intsOne", unfollowed := true, recurses := true, apart := false, narrowed := true }
def IntsOneUptoSaid : Prop := intsOneUptoRow.holds Try.pinned (OpenSpec.upto intsOneSpec)

/-- 'catchmentlaw05.IntsCut', WHERE WHAT IT READS IS OF BULK AT MOST 1048576: true; the input reads as it did. -/
def intsCutUptoRow : OpenClaim := { program := "ytekemfffaedmhaa", sum := "4566d9574eba0044b03e044ecf1f1b02083bc9a03b4663a059bb79d9cb8d6966", func := "catchment/catchmentlaw05.IntsCut", spec := "intsCut", unfollowed := true, recurses := true, apart := false, narrowed := true }
def IntsCutUptoSaid : Prop := intsCutUptoRow.holds Try.pinned (OpenSpec.upto intsCutSpec)

/-- 'catchmentlaw05.IntsOwn', WHERE WHAT IT READS IS OF BULK AT MOST 1048576: true; the input reads as it did. -/
def intsOwnUptoRow : OpenClaim := { program := "ytekemfffaedmhaa", sum := "4566d9574eba0044b03e044ecf1f1b02083bc9a03b4663a059bb79d9cb8d6966", func := "catchment/catchmentlaw05.IntsOwn", spec := "intsOwn", unfollowed := true, recurses := true, apart := false, narrowed := true }
def IntsOwnUptoSaid : Prop := intsOwnUptoRow.holds Try.pinned (OpenSpec.upto intsOwnSpec)

/-- 'catchmentlaw06.ColumnBack', WHERE WHAT IT READS IS OF BULK AT MOST 1048576: true; the input reads as it did. -/
def columnBackUptoRow : OpenClaim := { program := "ytekemfffaedmhaa", sum := "4566d9574eba0044b03e044ecf1f1b02083bc9a03b4663a059bb79d9cb8d6966", func := "catchment/catchmentlaw06.ColumnBack", spec := "columnBack", unfollowed := true, recurses := true, apart := false, narrowed := true }
def ColumnBackUptoSaid : Prop := columnBackUptoRow.holds Try.pinned (OpenSpec.upto columnBackSpec)

/-- 'catchmentlaw06.ColumnCut', WHERE WHAT IT READS IS OF BULK AT MOST 1048576: true; the input reads as it did. -/
def columnCutUptoRow : OpenClaim := { program := "ytekemfffaedmhaa", sum := "4566d9574eba0044b03e044ecf1f1b02083bc9a03b4663a059bb79d9cb8d6966", func := "catchment/catchmentlaw06.ColumnCut", spec := "columnCut", unfollowed := true, recurses := true, apart := false, narrowed := true }
def ColumnCutUptoSaid : Prop := columnCutUptoRow.holds Try.pinned (OpenSpec.upto columnCutSpec)

end Rows
end Go.Proofs.Ytekemfffaedmhaa
