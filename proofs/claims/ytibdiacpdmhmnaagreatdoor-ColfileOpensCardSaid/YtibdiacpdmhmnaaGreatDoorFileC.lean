/- What is written of any rows. -/
import Derived.Test.YtibdiacpdmhmnaaGreatDoorFileB
import Derived.Test.YtibdiacpdmhmnaaGreatDoorAli
import Derived.Test.YtibdiacpdmhmnaaGreatDoorCDec
set_option linter.all false
namespace Go.Am.Ab
open Go.Proofs
set_option maxHeartbeats 8000000
set_option maxRecDepth 4000
def zFy (r:List Cel):D:= .list (ce ((r.take 20).map fix))
def zFz (r:List Cel):D:= .list (vs (r.map zay))
@[simp] def zyd (r:List Cel):(zFy r).cells=[zFy r]:=rfl
@[simp] def zye (r:List Cel):(zFz r).cells=[zFz r]:=rfl
end Go.Am.Ab
namespace Go.Am.Ab
open Go.Proofs
set_option maxHeartbeats 8000000
set_option maxRecDepth 4000
end Go.Am.Ab
