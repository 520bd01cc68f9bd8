/- What data of a type look like. -/
import Derived.Test.YtibdiacpdmhmnaaGreatDoorMachD
set_option linter.all false
namespace Go.Am
section
variable {P:Program} {m:Nat} {t:TypeId} {x:D}
def ztW {k:IntKind} (hm:zc1 P m t x) (ht:P.underlying t=some (.int k)): ∃i,x= .int k i/\k.min<=i/\i<=k.max:=by
 cases m with
 |zero=>exact hm.elim
 |succ m=>
  simp only[zc1,ht]at hm;obtain⟨i,rfl,h⟩:=hm;simp only[Lit.wf,yar,yaG]at h;exact⟨i,rfl,h.1,h.2⟩
def zrF (hm:zc1 P m t x) (ht:P.underlying t=some .bool): ∃b,x= .bool b:=by
 cases m with
 |zero=>exact hm.elim
 |succ m=>simpa only[zc1,ht]using hm
def zrG {e:TypeId} (hm:zc1 P m t x) (ht:P.underlying t=some (.slice e)): ∃xs,x= .list xs/\xs.length<=maxLen/\ ∀y∈xs,zc1 P (m - 1) e y:=by
 cases m with
 |zero=>exact hm.elim
 |succ m=>simp only[zc1,ht]at hm;exact hm
def zvA {α β:Type} {R:α->β->Prop} {bs:List β} (h:All2 R [] bs):bs=[]:=by cases h;rfl
def znA {α β:Type} {R:α->β->Prop} {a:α} {as:List α} {bs:List β} (h:All2 R (a::as) bs): ∃b cs,bs=b::cs/\R a b/\All2 R as cs:=by
 cases h with
 |cons h1 h2=>exact⟨_,_,rfl,h1,h2⟩
def ztX {α:Type} {f:α->D} {p:α->Prop}: ∀ {xs:List D},(∀y∈xs, ∃a,y=f a/\p a)-> ∃l:List α,xs=l.map f/\ ∀a∈l,p a
 |[],_=>⟨[],rfl,by simp⟩
 |x::xs,h=>by
  obtain⟨a,rfl,ha⟩:=h x (by simp)
  obtain⟨l,rfl,hl⟩:=ztX (xs:=xs) λy hy=>h y (by simp[hy])
  exact⟨a::l,rfl,λb hb=>by
   rcases List.mem_cons.1 hb with rfl | hb
   ·exact ha
   ·exact hl b hb⟩
end
def zBe:IntKind.min .u8=0:=by decide
def zBf:IntKind.max .u8=255:=by decide
end Go.Am
