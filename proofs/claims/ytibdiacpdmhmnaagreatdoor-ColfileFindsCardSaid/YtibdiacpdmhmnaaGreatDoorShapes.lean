/- What data of a type look like. -/
import Derived.Test.YtibdiacpdmhmnaaGreatDoorMachD
set_option linter.all false
namespace Go.Am
section
variable {P:Program} {m:Nat} {t:TypeId} {x:D}
def zkF {k:IntKind} (hm:zby P m t x) (ht:P.underlying t=some (.int k)): ∃i,x= .int k i/\k.min<=i/\i<=k.max:=by
 cases m with
 |zero=>exact hm.elim
 |succ m=>
  simp only[zby,ht]at hm;obtain⟨i,rfl,h⟩:=hm;simp only[Lit.wf,yaw,yaB]at h;exact⟨i,rfl,h.1,h.2⟩
def ztR (hm:zby P m t x) (ht:P.underlying t=some .bool): ∃b,x= .bool b:=by
 cases m with
 |zero=>exact hm.elim
 |succ m=>simpa only[zby,ht]using hm
def zo8 (hm:zby P m t x) (ht:P.underlying t=some .string): ∃s:ByteArray,x= .str s/\s.size<=maxLen:=by
 cases m with
 |zero=>exact hm.elim
 |succ m=>simpa only[zby,ht]using hm
def zfI {e:TypeId} (hm:zby P m t x) (ht:P.underlying t=some (.slice e)): ∃xs,x= .list xs/\xs.length<=maxLen/\ ∀y∈xs,zby P (m - 1) e y:=by
 cases m with
 |zero=>exact hm.elim
 |succ m=>simp only[zby,ht]at hm;exact hm
def zdA {fs:Array Field} (hm:zby P m t x) (ht:P.underlying t=some (.struct fs)): ∃ys:List D,x= .agg (ys.flatMap D.cells)/\All2 (λf y=>zby P (m - 1) f.type y) fs.toList ys:=by
 cases m with
 |zero=>exact hm.elim
 |succ m=>simp only[zby,ht]at hm;exact hm
def zhp {α β:Type} {R:α->β->Prop} {bs:List β} (h:All2 R [] bs):bs=[]:=by cases h;rfl
def zaV {α β:Type} {R:α->β->Prop} {a:α} {as:List α} {bs:List β} (h:All2 R (a::as) bs): ∃b cs,bs=b::cs/\R a b/\All2 R as cs:=by
 cases h with
 |cons h1 h2=>exact⟨_,_,rfl,h1,h2⟩
def zkG {α:Type} {f:α->D} {p:α->Prop}: ∀ {xs:List D},(∀y∈xs, ∃a,y=f a/\p a)-> ∃l:List α,xs=l.map f/\ ∀a∈l,p a
 |[],_=>⟨[],rfl,by simp⟩
 |x::xs,h=>by
  obtain⟨a,rfl,ha⟩:=h x (by simp)
  obtain⟨l,rfl,hl⟩:=zkG (xs:=xs) λy hy=>h y (by simp[hy])
  exact⟨a::l,rfl,λb hb=>by
   rcases List.mem_cons.1 hb with rfl | hb
   ·exact ha
   ·exact hl b hb⟩
end
def zAT:IntKind.min .i64= -9223372036854775808:=by decide
def zAU:IntKind.max .i64=9223372036854775807:=by decide
def zAV:IntKind.min .u32=0:=by decide
def zAW:IntKind.max .u32=4294967295:=by decide
def zEF:IntKind.min .u8=0:=by decide
def zEG:IntKind.max .u8=255:=by decide
end Go.Am
