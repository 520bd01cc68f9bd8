/- Data of the types of the program. -/
import Derived.Test.YtibdiacpdmhmnaaGreatDoorBase
import Derived.Test.YtibdiacpdmhmnaaGreatDoorShapes
set_option linter.all false
namespace Go.Am.Ab
open Go.Proofs
def Fld.wf (f:Fld):Prop:=0<=f.id/\f.id<=4294967295/\0<=f.kind/\f.kind<=255/\f.name.size<=maxLen
def Sch.wf (s:Sch):Prop:=0<=s.id/\s.id<=4294967295/\s.fields.length<=maxLen/\ ∀f∈s.fields,f.wf
def Snap.wf (s:Snap):Prop:=(0<=s.id/\s.id<=18446744073709551615)/\(0<=s.parent/\s.parent<=18446744073709551615)/\(0<=s.seq/\s.seq<=18446744073709551615)/\(0<=s.offset/\s.offset<=18446744073709551615)/\
 (0<=s.time/\s.time<=18446744073709551615)/\(0<=s.schema/\s.schema<=4294967295)/\s.mans.length<=maxLen/\ ∀n∈s.mans,n.size<=maxLen
def Tab.wf (t:Tab):Prop:=t.schemas.length<=maxLen/\(∀s∈t.schemas,s.wf)/\t.snaps.length<=maxLen/\(∀s∈t.snaps,s.wf)/\0<=t.current/\t.current<=18446744073709551615
def Pol.wf (p:Pol):Prop:= -9223372036854775808<=p.keep/\p.keep<=9223372036854775807/\0<=p.age/\p.age<=18446744073709551615
variable {m:Nat} {x:D}
def zBg {t:TypeId} (h:zc1 Tryz.prog m t x) (ht:Tryz.prog.underlying t=some (.int .u8)): ∃i:Int,x= .int .u8 i/\0<=i/\i<=255:=by
 have:=ztW h ht;rwa [zBe,zBf]at this
def ztY {t e:TypeId} (h:zc1 Tryz.prog m t x) (ht:Tryz.prog.underlying t=some (.slice e)) (he:Tryz.prog.underlying e=some (.int .u8)): ∃b:List UInt8,x= .list (b.map zbb)/\b.length<=maxLen:=by
 obtain⟨ys,rfl,hl,ha⟩:=zrG h ht;obtain⟨b,rfl,_⟩:=ztX (f:=zbb) (p:=λ_=>True) (λy hy=>by
  obtain⟨i,rfl,h1,h2⟩:=zBg (ha y hy) he;refine⟨UInt8.ofNat i.toNat, ?_,trivial⟩;rw[zgm];rw[UInt8.toNat_ofNat'];omega)
 exact⟨b,rfl,by simpa using hl⟩
end Go.Am.Ab
