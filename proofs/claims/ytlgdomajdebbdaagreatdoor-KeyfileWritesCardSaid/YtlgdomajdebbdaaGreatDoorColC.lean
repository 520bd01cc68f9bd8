/- Columns: their parts, read. -/
import Derived.Test.YtlgdomajdebbdaaGreatDoorColA
import Derived.Test.YtlgdomajdebbdaaGreatDoorParsing
import Derived.Test.YtlgdomajdebbdaaGreatDoorColB
import Derived.Test.YtlgdomajdebbdaaGreatDoorReadB
set_option linter.all false
namespace Go.Am.Ab
open Go.Proofs
set_option maxHeartbeats 4000000
set_option maxRecDepth 4000
@[simp] theorem byteOf_byteD (b : UInt8) : byteOf? (byteD b) = some b := by
 simp [byteOf?,byteD]
theorem mapM_bytes : ∀ l : List UInt8,(bytes l).mapM byteOf? = some l
 | [] => rfl
 | x :: r => by
  have := mapM_bytes r
  simp only [bytes] at this ⊢
  rw [List.map_cons,List.mapM_cons,byteOf_byteD,this]; rfl
end Go.Am.Ab
namespace Go.Am.Ab
open Go.Proofs
set_option maxHeartbeats 4000000
set_option maxRecDepth 4000
end Go.Am.Ab
namespace Go.Am.Ab
open Go.Proofs
set_option maxHeartbeats 4000000
set_option maxRecDepth 4000
def pick (u : List ByteArray) (k : Int) : ByteArray := u.getD k.toNat noS
end Go.Am.Ab
namespace Go.Am.Ab
open Go.Proofs
set_option maxHeartbeats 4000000
set_option maxRecDepth 4000
end Go.Am.Ab
