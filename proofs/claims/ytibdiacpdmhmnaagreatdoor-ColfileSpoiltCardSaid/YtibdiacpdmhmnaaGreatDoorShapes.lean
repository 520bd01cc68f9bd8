/- What data of a type look like. -/
import Derived.Test.YtibdiacpdmhmnaaGreatDoorMachD
set_option linter.all false
namespace Go.Am
section
variable {P:Program} {m:Nat} {t:TypeId} {x:D}
def zk3 {k:IntKind} (hm:zbP P m t x) (ht:P.underlying t=some (.int k)): ∃i,x= .int k i/\k.min<=i/\i<=k.max:=by
 cases m with
 |zero=>exact hm.elim
 |succ m=>
  simp only[zbP,ht]at hm;obtain⟨i,rfl,h⟩:=hm;simp only[Lit.wf,yav,yaG]at h;exact⟨i,rfl,h.1,h.2⟩
def zum (hm:zbP P m t x) (ht:P.underlying t=some .bool): ∃b,x= .bool b:=by
 cases m with
 |zero=>exact hm.elim
 |succ m=>simpa only[zbP,ht]using hm
def zpI (hm:zbP P m t x) (ht:P.underlying t=some .string): ∃s:ByteArray,x= .str s/\s.size<=maxLen:=by
 cases m with
 |zero=>exact hm.elim
 |succ m=>simpa only[zbP,ht]using hm
def zit {e:TypeId} (hm:zbP P m t x) (ht:P.underlying t=some (.slice e)): ∃xs,x= .list xs/\xs.length<=maxLen/\ ∀y∈xs,zbP P (m - 1) e y:=by
 cases m with
 |zero=>exact hm.elim
 |succ m=>simp only[zbP,ht]at hm;exact hm
def zfo {fs:Array Field} (hm:zbP P m t x) (ht:P.underlying t=some (.struct fs)): ∃ys:List D,x= .agg (ys.flatMap D.cells)/\All2 (λf y=>zbP P (m - 1) f.type y) fs.toList ys:=by
 cases m with
 |zero=>exact hm.elim
 |succ m=>simp only[zbP,ht]at hm;exact hm
def zhy {α β:Type} {R:α->β->Prop} {bs:List β} (h:All2 R [] bs):bs=[]:=by cases h;rfl
def zaY {α β:Type} {R:α->β->Prop} {a:α} {as:List α} {bs:List β} (h:All2 R (a::as) bs): ∃b cs,bs=b::cs/\R a b/\All2 R as cs:=by
 cases h with
 |cons h1 h2=>exact⟨_,_,rfl,h1,h2⟩
def znR {α:Type} {f:α->D} {p:α->Prop}: ∀ {xs:List D},(∀y∈xs, ∃a,y=f a/\p a)-> ∃l:List α,xs=l.map f/\ ∀a∈l,p a
 |[],_=>⟨[],rfl,by simp⟩
 |x::xs,h=>by
  obtain⟨a,rfl,ha⟩:=h x (by simp)
  obtain⟨l,rfl,hl⟩:=znR (xs:=xs) λy hy=>h y (by simp[hy])
  exact⟨a::l,rfl,λb hb=>by
   rcases List.mem_cons.1 hb with rfl | hb
   ·exact ha
   ·exact hl b hb⟩
end
def zAs:IntKind.min .i64= -9223372036854775808:=by decide
def zAt:IntKind.max .i64=9223372036854775807:=by decide
def zAu:IntKind.min .u32=0:=by decide
def zAv:IntKind.max .u32=4294967295:=by decide
def zD3:IntKind.min .u8=0:=by decide
def zD4:IntKind.max .u8=255:=by decide
end Go.Am
