/- Cells as data of their type. -/
import Derived.Test.YtibdiacpdmhmnaaGreatDoorReadA
import Derived.Test.YtibdiacpdmhmnaaGreatDoorCellsA
import Derived.Test.YtibdiacpdmhmnaaGreatDoorDecode
set_option linter.all false
namespace Go.Am.Ab
open Go.Proofs
structure CelI where
 kind:Int
 n:Int
 s:ByteArray
def CelI.d (c:CelI):D:= .agg [.int .u8 c.kind,.int .i64 c.n,.str c.s]
attribute [simp] CelI.d
def CelI.wf (c:CelI):Prop:=0<=c.kind/\c.kind<=255/\ -9223372036854775808<=c.n/\c.n<=9223372036854775807/\c.s.size<=maxLen
variable {m:Nat} {x:D}
def Cel.wf (c:Cel):Prop:=c.kind<256/\zal c.n/\c.s.size<=maxLen
end Go.Am.Ab
