/- Data of the types of the program. -/
import Derived.Test.YtibdiacpdmhmnaaGreatDoorBase
import Derived.Test.YtibdiacpdmhmnaaGreatDoorShapes
set_option linter.all false
namespace Go.Am.Ab
open Go.Proofs
def Fld.wf (f:Fld):Prop:=0<=f.id/\f.id<=4294967295/\0<=f.kind/\f.kind<=255/\f.name.size<=maxLen
def Sch.wf (s:Sch):Prop:=0<=s.id/\s.id<=4294967295/\s.fields.length<=maxLen/\ ∀f∈s.fields,f.wf
def Snap.wf (s:Snap):Prop:=(0<=s.id/\s.id<=18446744073709551615)/\(0<=s.parent/\s.parent<=18446744073709551615)/\(0<=s.seq/\s.seq<=18446744073709551615)/\(0<=s.offset/\s.offset<=18446744073709551615)/\
 (0<=s.time/\s.time<=18446744073709551615)/\(0<=s.schema/\s.schema<=4294967295)/\s.mans.length<=maxLen/\ ∀n∈s.mans,n.size<=maxLen
def Tab.wf (t:Tab):Prop:=t.schemas.length<=maxLen/\(∀s∈t.schemas,s.wf)/\t.snaps.length<=maxLen/\(∀s∈t.snaps,s.wf)/\0<=t.current/\t.current<=18446744073709551615
def Pol.wf (p:Pol):Prop:= -9223372036854775808<=p.keep/\p.keep<=9223372036854775807/\0<=p.age/\p.age<=18446744073709551615
variable {m:Nat} {x:D}
def zwp {t:TypeId} (h:zby Tryz.prog m t x) (ht:Tryz.prog.underlying t=some (.int .i64)): ∃i:Int,x= .int .i64 i/\ -9223372036854775808<=i/\i<=9223372036854775807:=by
 have:=zkF h ht;rwa [zAT,zAU]at this
def zqH {t:TypeId} (h:zby Tryz.prog m t x) (ht:Tryz.prog.underlying t=some (.int .u32)): ∃i:Int,x= .int .u32 i/\0<=i/\i<=4294967295:=by
 have:=zkF h ht;rwa [zAV,zAW]at this
def zwq {t:TypeId} (h:zby Tryz.prog m t x) (ht:Tryz.prog.underlying t=some (.int .u8)): ∃i:Int,x= .int .u8 i/\0<=i/\i<=255:=by
 have:=zkF h ht;rwa [zEF,zEG]at this
def Fld.dec (h:zby Tryz.prog m 73 x): ∃a:Fld,x=a.d/\a.wf:=by
 obtain⟨ys,rfl,g⟩:=zdA h Tryz.underlying73;obtain⟨y0,ys,rfl,h0,g⟩:=zaV g;obtain⟨y1,ys,rfl,h1,g⟩:=zaV g;obtain⟨y2,ys,rfl,h2,g⟩:=zaV g;obtain⟨y3,ys,rfl,h3,g⟩:=zaV g;have hn:=zhp g;subst hn;obtain⟨v0,rfl,h0v,h0w⟩:=zqH h0 Tryz.underlying22;obtain⟨v1,rfl,h1w⟩:=zo8 h1 Tryz.underlying9;obtain⟨v2,rfl,h2v,h2w⟩:=zwq h2 Tryz.underlying39;obtain⟨v3,rfl⟩:=ztR h3 Tryz.underlying4;refine⟨⟨v0,v1,v2,v3⟩,by simp, ?_⟩
 unfold Fld.wf;simp only;and_intros <;> (first | assumption | trivial)
def Sch.dec (h:zby Tryz.prog m 25 x): ∃a:Sch,x=a.d/\a.wf:=by
 obtain⟨ys,rfl,g⟩:=zdA h Tryz.underlying25;obtain⟨y0,ys,rfl,h0,g⟩:=zaV g;obtain⟨y1,ys,rfl,h1,g⟩:=zaV g;have hn:=zhp g;subst hn;obtain⟨v0,rfl,h0v,h0w⟩:=zqH h0 Tryz.underlying22;obtain⟨v1,rfl,h1l,h1a⟩:=zfI h1 Tryz.underlying23;obtain⟨v1,rfl,h1w⟩:=zkG (f:=Fld.d) (p:=Fld.wf) (λy hy=>Fld.dec (h1a y hy))
 simp only[yah]at h1l;refine⟨⟨v0,v1⟩,by simp, ?_⟩
 unfold Sch.wf;simp only;and_intros <;> (first | assumption | trivial)
end Go.Am.Ab
