/- Columns of the document, read. -/
import Derived.Test.YtlgdomajdebbdaaGreatDoorBitsB
import Derived.Test.YtlgdomajdebbdaaGreatDoorColD
import Derived.Test.YtlgdomajdebbdaaGreatDoorRefRead
import Derived.Test.YtlgdomajdebbdaaGreatDoorRColC
import Derived.Test.YtlgdomajdebbdaaGreatDoorRColB
set_option linter.all false
namespace Go.Am.Ab
open Go.Proofs
set_option maxHeartbeats 8000000
set_option maxRecDepth 4000
end Go.Am.Ab
namespace Go.Am.Ab
open Go.Proofs
set_option maxHeartbeats 4000000
end Go.Am.Ab
namespace Go.Am.Ab
open Go.Proofs
set_option maxHeartbeats 16000000
set_option maxRecDepth 4000
def wholeD (x : Int) : D := .agg [.int .u8 1,.int .i64 x,.str noS]
@[simp] theorem allSize_wholeD (l : List Int) : allSize 3 (l.map wholeD) = true := allSize_map l fun v => rfl
end Go.Am.Ab
namespace Go.Am.Ab
open Go.Proofs
set_option maxHeartbeats 16000000
set_option maxRecDepth 4000
def truthD (x : Nat) : D := .agg [.int .u8 2,.int .i64 (x : Int),.str noS]
@[simp] theorem allSize_truthD (l : List Nat) : allSize 3 (l.map truthD) = true := allSize_map l fun v => rfl
end Go.Am.Ab
namespace Go.Am.Ab
open Go.Proofs
set_option maxHeartbeats 16000000
set_option maxRecDepth 4000
def textD (x : ByteArray) : D := .agg [.int .u8 3,.int .i64 0,.str x]
@[simp] theorem allSize_textD (l : List ByteArray) : allSize 3 (l.map textD) = true := allSize_map l fun v => rfl
end Go.Am.Ab
