/- Columns: their parts, read. -/
import Derived.Test.YtibdiacpdmhmnaaGreatDoorColA
import Derived.Test.YtibdiacpdmhmnaaGreatDoorParsing
import Derived.Test.YtibdiacpdmhmnaaGreatDoorColB
import Derived.Test.YtibdiacpdmhmnaaGreatDoorReadB
set_option linter.all false
namespace Go.Am.Ab
open Go.Proofs
set_option maxHeartbeats 4000000
set_option maxRecDepth 4000
@[simp] def zkP (b:UInt8):byteOf? (za2 b)=some b:=by
 simp[byteOf?,za2]
def ziR: ∀l:List UInt8,(bytes l).mapM byteOf?=some l
 |[]=>rfl
 |x::r=>by
  have:=ziR r;simp only[bytes]at this ⊢;rw[List.map_cons,List.mapM_cons,zkP,this];rfl
end Go.Am.Ab
namespace Go.Am.Ab
open Go.Proofs
set_option maxHeartbeats 4000000
set_option maxRecDepth 4000
end Go.Am.Ab
namespace Go.Am.Ab
open Go.Proofs
set_option maxHeartbeats 4000000
set_option maxRecDepth 4000
def pick (u:List ByteArray) (k:Int):ByteArray:=u.getD k.toNat noS
end Go.Am.Ab
namespace Go.Am.Ab
open Go.Proofs
set_option maxHeartbeats 4000000
set_option maxRecDepth 4000
end Go.Am.Ab
