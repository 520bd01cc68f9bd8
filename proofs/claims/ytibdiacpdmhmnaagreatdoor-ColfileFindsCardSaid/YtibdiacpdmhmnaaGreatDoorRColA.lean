/- Columns of the document, their parts. -/
import Derived.Test.YtibdiacpdmhmnaaGreatDoorVars
import Derived.Test.YtibdiacpdmhmnaaGreatDoorBitsA
import Derived.Test.YtibdiacpdmhmnaaGreatDoorColA
import Derived.Test.YtibdiacpdmhmnaaGreatDoorRefInts
import Derived.Test.YtibdiacpdmhmnaaGreatDoorColB
set_option linter.all false
namespace Go.Am.Ab.Str
open Go.Proofs
set_option maxHeartbeats 4000000
set_option maxRecDepth 4000
def ins_length (x:Nat): ∀l:List Nat,(ins x l).length<=l.length+1
 |[]=>by simp[ins]
 |y::r=>by
  unfold ins;have:=ins_length x r;split
  ·simp
  ·split
   ·simp
   ·simp only[yaf];omega
def uniq_length_le (l:List Nat):(uniq l).length<=l.length:=by
 have key: ∀ (l u:List Nat),(l.foldl (λu x=>ins x u) u).length<=u.length+l.length:=by
  intro l
  induction l with
  |nil=>intro u;simp
  |cons x r ih=>
   intro u;have h1:=ih (ins x u);have h2:=ins_length x u;simp only[ybc,yaf];omega
 have:=key l [];simpa[uniq]using this
end Go.Am.Ab.Str
namespace Go.Am.Ab
open Go.Proofs
end Go.Am.Ab
namespace Go.Am.Ab
open Go.Proofs
set_option maxHeartbeats 4000000
def zrA {c:Cel} (h:chk c=0):fix c=c:=by rw[fix,yag h]
def zoA {c:Cel} (h:chk c=0) (hk:c.kind=1):zaA c= .whole c.n:=by
 unfold zaA;rw[zrA h,yag hk]
def zvB {c:Cel} (h:chk c=0) (hk:c.kind=2):zaA c= .truth (decide (c.n=1)):=by
 unfold zaA;rw[zrA h,yac (by omega),yag hk]
def zrB {c:Cel} (h:chk c=0) (hk:c.kind=3):zaA c= .text c.s:=by
 unfold zaA;rw[zrA h,yac (by omega),yac (by omega),yag hk]
def zyj {c:Cel} (h:chk c=0) (hk:c.kind=0):zaA c= .null:=by
 unfold zaA;rw[zrA h,yac (by omega),yac (by omega),yac (by omega)]
def zyk {c:Cel} (h:chk c=0):(zaA c).kind=c.kind:=by
 have hk:=(zbv h).1;have h4:c.kind=0\/c.kind=1\/c.kind=2\/c.kind=3:=by omega
 rcases h4 with e | e | e | e
 ·rw[zyj h e,e];rfl
 ·rw[zoA h e,e];rfl
 ·rw[zvB h e,e];rfl
 ·rw[zrB h e,e];rfl
end Go.Am.Ab
