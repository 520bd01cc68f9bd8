/- Lists of the document. -/
import Derived.Test.YtibdiacpdmhmnaaGreatDoorIntsB
set_option linter.all false
namespace Go.Am.Ab
open Go.Proofs
set_option maxHeartbeats 4000000
end Go.Am.Ab
namespace Go.Am.Ab
open Go.Proofs
set_option maxHeartbeats 4000000
end Go.Am.Ab
namespace Go.Am.Ab
open Go.Proofs
set_option maxHeartbeats 4000000
end Go.Am.Ab
namespace Go.Am.Ab
open Go.Proofs
set_option maxHeartbeats 4000000
def zqb {l:List Int} (h:l≠[]):0<(uniq l).length:=by
 cases l with
 |nil=>exact absurd rfl h
 |cons x r=>exact List.length_pos_of_mem (uniq_mem.2 (by simp:x∈x::r))
end Go.Am.Ab
