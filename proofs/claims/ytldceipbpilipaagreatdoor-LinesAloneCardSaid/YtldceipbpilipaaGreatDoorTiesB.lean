/- What the text lays. -/
import Derived.Test.YtldceipbpilipaaGreatDoorRows
import Derived.LaidByTextLater
import Derived.SevenTiedAt
import Derived.KernelRfl
set_option linter.all false
namespace Go.Proofs.YtldceipbpilipaaGreatDoor
open Go
abbrev tieL : List (String × DataW Unit) := [("unicode/utf8.acceptRanges", Rows.laid_unicode_utf8_acceptRanges), ("strconv.ErrSyntax", Rows.laid_strconv_ErrSyntax), ("strconv.ErrRange", Rows.laid_strconv_ErrRange), ("internal/strconv.uint64pow10", Rows.laid_internal_strconv_uint64pow10), ("math/bits.deBruijn32tab", Rows.laid_math_bits_deBruijn32tab), ("math/bits.deBruijn64tab", Rows.laid_math_bits_deBruijn64tab), ("catchment/crc.half", Rows.laid_catchment_crc_half)]
theorem tie_1:Tryz.prog.worded (varsWordLater true)=true:=by kernel_rfl
theorem tie_2:Tryz.prog.worded (varsWordLater false)=false:=by kernel_rfl
theorem tie_3:Tryz.prog.worded rootWordLater=true:=by kernel_rfl
theorem tie_4:tieL.map (fun x=>Tryz.prog.kindOfLater x.1)=[LaidKind.data,.sentinel,.sentinel,.data,.data,.data,.data].map some:=by kernel_rfl
theorem tie_5 : (Tryz.prog.funcNamed "gosem.cut.vars").isSome = true := by kernel_rfl
theorem tie_6:varsNamedLaterB Tryz.prog (varsId Tryz.prog) tieL=true:=by kernel_rfl
theorem tie_7 (os:Os) (tape:Tape):varsDone Tryz.prog 400 (varsId Tryz.prog) os tape=true:=by kernel_rfl
theorem tie_8 (os:Os) (tape:Tape):(DataW.laidRun Tryz.prog (varsWorld Tryz.prog 400 (varsId Tryz.prog) os tape).memory 8 (tieL.map (·.1))).map (·.1)=some tieL:=by kernel_rfl
theorem tie_9 (os:Os) (tape:Tape):(DataW.laidRun Tryz.prog (varsWorld Tryz.prog 400 (varsId Tryz.prog) os tape).memory 8 (tieL.map (·.1))).map (fun x=>decide x.2.Nodup && laidRowsB Tryz.prog (varsWorld Tryz.prog 400 (varsId Tryz.prog) os tape).memory x.2)=some true:=by kernel_rfl
theorem tie_all:Tryz.prog.laidByTextLater tieL [.data,.sentinel,.sentinel,.data,.data,.data,.data] true:=
 Program.laidByTextLater_by_run 400 8 tie_1 tie_2 tie_3 tie_4 tie_5 tie_6 tie_7 tie_8 tie_9
theorem pin_first : Tryz.pinned.checked.prog.pinnedFits "unicode/utf8.first" = true := by kernel_rfl
theorem noOwnUnsafe1 : Tryz.pinned.checked.prog.headLifts.contains "ownunsafe" = false := by kernel_rfl
theorem fits_all : Tryz.pinned.checked.prog.listedFits [("unicode/utf8.first", Rows.laid_unicode_utf8_first), ("unicode/utf8.acceptRanges", Rows.laid_unicode_utf8_acceptRanges), ("strconv.ErrSyntax", Rows.laid_strconv_ErrSyntax), ("strconv.ErrRange", Rows.laid_strconv_ErrRange), ("internal/strconv.uint64pow10", Rows.laid_internal_strconv_uint64pow10), ("math/bits.deBruijn32tab", Rows.laid_math_bits_deBruijn32tab), ("math/bits.deBruijn64tab", Rows.laid_math_bits_deBruijn64tab), ("catchment/crc.half", Rows.laid_catchment_crc_half)] = true := by
 unfold Program.listedFits
 rw[noOwnUnsafe1]
 kernel_rfl
end Go.Proofs.YtldceipbpilipaaGreatDoor
