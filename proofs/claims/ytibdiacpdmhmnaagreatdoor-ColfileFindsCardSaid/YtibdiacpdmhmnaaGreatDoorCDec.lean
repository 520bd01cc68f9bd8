/- Cells as data of their type. -/
import Derived.Test.YtibdiacpdmhmnaaGreatDoorCellsA
import Derived.Test.YtibdiacpdmhmnaaGreatDoorReadA
import Derived.Test.YtibdiacpdmhmnaaGreatDoorDecode
set_option linter.all false
namespace Go.Am.Ab
open Go.Proofs
structure CelI where
 kind:Int
 n:Int
 s:ByteArray
def CelI.d (c:CelI):D:= .agg [.int .u8 c.kind,.int .i64 c.n,.str c.s]
attribute [simp] CelI.d
def CelI.wf (c:CelI):Prop:=0<=c.kind/\c.kind<=255/\ -9223372036854775808<=c.n/\c.n<=9223372036854775807/\c.s.size<=maxLen
variable {m:Nat} {x:D}
def CelI.dec (h:zby Tryz.prog m 41 x): ∃a:CelI,x=a.d/\a.wf:=by
 obtain⟨ys,rfl,g⟩:=zdA h Tryz.underlying41;obtain⟨y0,ys,rfl,h0,g⟩:=zaV g;obtain⟨y1,ys,rfl,h1,g⟩:=zaV g;obtain⟨y2,ys,rfl,h2,g⟩:=zaV g;have hn:=zhp g;subst hn;obtain⟨v0,rfl,h0v,h0w⟩:=zwq h0 Tryz.underlying39;obtain⟨v1,rfl,h1v,h1w⟩:=zwp h1 Tryz.underlying2;obtain⟨v2,rfl,h2w⟩:=zo8 h2 Tryz.underlying9;refine⟨⟨v0,v1,v2⟩,by simp, ?_⟩
 unfold CelI.wf;simp only;and_intros <;> (first | assumption | trivial)
def Cel.wf (c:Cel):Prop:=c.kind<256/\zah c.n/\c.s.size<=maxLen
def zwr (h:zby Tryz.prog m 41 x): ∃a:Cel,x=a.d/\a.wf:=by
 obtain⟨⟨k,n,s⟩,rfl,h1,h2,h3,h4,h5⟩:=CelI.dec h;simp only at h1 h2 h3 h4 h5;refine⟨⟨k.toNat,n,s⟩, ?_,by simp only;omega,⟨h3,h4⟩,h5⟩
 simp only[CelI.d,Cel.d,ydo h1]
def zws (h:zby Tryz.prog m 58 x): ∃l:List Cel,x= .list (ce l)/\(∀c∈l,c.wf)/\l.length<=maxLen:=by
 obtain⟨ys,rfl,hl,ha⟩:=zfI h Tryz.underlying58;obtain⟨l,rfl,hw⟩:=zkG (f:=Cel.d) (p:=Cel.wf) (λy hy=>zwr (ha y hy))
 exact⟨l,rfl,hw,by simpa using hl⟩
end Go.Am.Ab
