/- The statements on encoding lists. -/
import Derived.Test.YtibdiacpdmhmnaaGreatDoorParsing
set_option linter.all false
namespace Go.Am.Ab
open Go.Proofs
set_option maxHeartbeats 4000000
end Go.Am.Ab
