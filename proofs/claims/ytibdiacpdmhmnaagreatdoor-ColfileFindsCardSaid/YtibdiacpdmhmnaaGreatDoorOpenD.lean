/- Files of rows, opened: the statement. -/
import Derived.Test.YtibdiacpdmhmnaaGreatDoorOpenC
set_option linter.all false
namespace Go.Am.Ab
open Go.Proofs
set_option maxHeartbeats 8000000
set_option maxRecDepth 4000
end Go.Am.Ab
