/- Columns of the document, their parts. -/
import Derived.Test.YtibdiacpdmhmnaaGreatDoorBitsA
import Derived.Test.YtibdiacpdmhmnaaGreatDoorVars
import Derived.Test.YtibdiacpdmhmnaaGreatDoorColA
import Derived.Test.YtibdiacpdmhmnaaGreatDoorRefInts
import Derived.Test.YtibdiacpdmhmnaaGreatDoorColB
set_option linter.all false
namespace Go.Am.Ab.Str
open Go.Proofs
set_option maxHeartbeats 4000000
set_option maxRecDepth 4000
def ins_length (x:Nat): ∀l:List Nat,(ins x l).length<=l.length+1
 |[]=>by simp[ins]
 |y::r=>by
  unfold ins;have:=ins_length x r;split
  ·simp
  ·split
   ·simp
   ·simp only[yad];omega
def uniq_length_le (l:List Nat):(uniq l).length<=l.length:=by
 have key: ∀ (l u:List Nat),(l.foldl (λu x=>ins x u) u).length<=u.length+l.length:=by
  intro l
  induction l with
  |nil=>intro u;simp
  |cons x r ih=>
   intro u;have h1:=ih (ins x u);have h2:=ins_length x u;simp only[yba,yad];omega
 have:=key l [];simpa[uniq]using this
end Go.Am.Ab.Str
namespace Go.Am.Ab
open Go.Proofs
end Go.Am.Ab
namespace Go.Am.Ab
open Go.Proofs
set_option maxHeartbeats 4000000
def zqZ {c:Cel} (h:chk c=0):fix c=c:=by rw[fix,yai h]
def zoa {c:Cel} (h:chk c=0) (hk:c.kind=1):zcB c= .whole c.n:=by
 unfold zcB;rw[zqZ h,yai hk]
def zuT {c:Cel} (h:chk c=0) (hk:c.kind=2):zcB c= .truth (decide (c.n=1)):=by
 unfold zcB;rw[zqZ h,yaf (by omega),yai hk]
def zq0 {c:Cel} (h:chk c=0) (hk:c.kind=3):zcB c= .text c.s:=by
 unfold zcB;rw[zqZ h,yaf (by omega),yaf (by omega),yai hk]
def zxs {c:Cel} (h:chk c=0) (hk:c.kind=0):zcB c= .null:=by
 unfold zcB;rw[zqZ h,yaf (by omega),yaf (by omega),yaf (by omega)]
def zxt {c:Cel} (h:chk c=0):(zcB c).kind=c.kind:=by
 have hk:=(ziO h).1;have h4:c.kind=0\/c.kind=1\/c.kind=2\/c.kind=3:=by omega
 rcases h4 with e | e | e | e
 ·rw[zxs h e,e];rfl
 ·rw[zoa h e,e];rfl
 ·rw[zuT h e,e];rfl
 ·rw[zq0 h e,e];rfl
end Go.Am.Ab
