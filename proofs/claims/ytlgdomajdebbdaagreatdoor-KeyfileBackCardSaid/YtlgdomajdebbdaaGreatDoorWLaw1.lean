/- The statement that the bytes of any values are the document's. -/
import Derived.Test.YtlgdomajdebbdaaGreatDoorRColB
import Derived.Test.YtlgdomajdebbdaaGreatDoorColE
set_option linter.all false
namespace Go.Am.Ab
open Go.Proofs
set_option maxHeartbeats 8000000
set_option maxRecDepth 4000
end Go.Am.Ab
