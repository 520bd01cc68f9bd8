/- Columns of the document, written. -/
import Derived.Test.YtlgdomajdebbdaaGreatDoorRColA
set_option linter.all false
namespace Go.Am.Ab
open Go.Proofs
set_option maxHeartbeats 8000000
set_option maxRecDepth 4000
end Go.Am.Ab
namespace Go.Am.Ab
open Go.Proofs
set_option maxHeartbeats 8000000
set_option maxRecDepth 4000
end Go.Am.Ab
namespace Go.Am.Ab
open Go.Proofs
set_option maxHeartbeats 8000000
set_option maxRecDepth 4000
end Go.Am.Ab
namespace Go.Am.Ab
open Go.Proofs
set_option maxHeartbeats 8000000
set_option maxRecDepth 4000
@[simp] theorem allSize_app (n : Nat) : ∀ a b : List D,allSize n (a ++ b) = (allSize n a && allSize n b)
 | [],b => by simp [allSize]
 | x :: a,b => by
  have := allSize_app n a b
  simp [allSize,this,Bool.and_assoc]
end Go.Am.Ab
