/- The reading of the program. -/
import Derived.Test.YtlgdomajdebbdaaGreatDoorParsing
import Derived.Test.YtlgdomajdebbdaaGreatDoorReadA
set_option linter.all false
namespace Go.Am.Ab
open Go.Proofs
set_option maxHeartbeats 4000000
end Go.Am.Ab
namespace Go.Am.Ab
open Go.Proofs
set_option maxHeartbeats 4000000
end Go.Am.Ab
namespace Go.Am.Ab
open Go.Proofs
set_option maxHeartbeats 4000000
set_option maxRecDepth 4000
@[simp] theorem wrap_u64_zero : IntKind.u64.wrap 0 = 0 := wrap_u64 (by omega) (by omega)
end Go.Am.Ab
namespace Go.Am.Ab
open Go.Proofs
set_option maxHeartbeats 4000000
set_option maxRecDepth 4000
end Go.Am.Ab
