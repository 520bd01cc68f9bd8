/- The small parts of the readers. -/
import Derived.Test.YtibdiacpdmhmnaaGreatDoorParsing
set_option linter.all false
namespace Go.Am.Ab
open Go.Proofs
set_option maxHeartbeats 4000000
abbrev B (b:List UInt8):V:= .d (.list (bytes b))
abbrev E (e:Nat):V:= .d (.int .i64 (e:Int))
abbrev Z:V:= .d (.int .i64 0)
end Go.Am.Ab
namespace Go.Am.Ab
open Go.Proofs
set_option maxHeartbeats 4000000
abbrev us (l:List Nat):List D:=l.map λ(n:Nat)=>D.int .u64 (n:Int)
end Go.Am.Ab
namespace Go.Am.Ab
open Go.Proofs
set_option maxHeartbeats 4000000
end Go.Am.Ab
