/- The abstract machine: calls, regions, code. -/
import Derived.OrdersIn
import Derived.LoopNIn
import Derived.RangeFuncNested
import Derived.RangeFuncLeaves
import Derived.LoopN
import Derived.Sort.Grow
import Derived.Test.YtibdiacpdmhmnaaGreatDoorMachB
set_option linter.all false
namespace Go.Am
def zk2:List Value->Value
 |[v]=>v
 |vs=> .tuple vs.toArray
def zk3 (X:Nat->Nat->Prop) (ρ:Places) (h:List Obj) (w:World) (rv:Value) (rets:List V):Prop:=
 ∃us:List Value,us.length=rets.length/\(∀ (j:Nat) (R:V),rets[j]? =some R-> ∃u,us[j]? =some u/\V2 X ρ h w u R)/\rv=zk2 us
def zbK (X:Nat->Nat->Prop) (ρ:Places) (h:List Obj) (w:World) (vs:List Value) (args:List V):Prop:=
 vs.length=args.length/\ ∀ (j:Nat) (A:V),args[j]? =some A-> ∃v,vs[j]? =some v/\zay X ρ h w v A
def zdk (P:Program) (G:Nat->Option (List D)) (run:Run):Prop:=
 ∀ (f:FuncId) (args:List V) (h:List Obj) (rets:List V) (h':List Obj),run f args h=some (rets,h')->
  ∀ (X:Nat->Nat->Prop) (ρ:Places) (w:World) (vs:List Value),HRel X ρ h w->GRel X G ρ h w->zbK X ρ h w vs args->
   Calls P f vs.toArray w λe w'=> ∃ρ' rv,e= .returned rv/\Stp X ρ h w ρ' h' w'/\zk3 X ρ' h' w' rv rets
def zcz (P:Program) (run:Run):Prop:=
 ∀ (f : FuncId) (args : List V) (h : List Obj) (r : List V × List Obj), run f args h = some r -> ∃ fn, P.funcs[f]? = some fn /\ (fn.name == "runtime.NumGoroutine") = false /\ fn.body.isNone = false
def znk {P:Program} {rf:Bool} {run:Run} {f:FuncId} {args:List V} {h:List Obj} {r:V × List Obj} (hh:zcz P run) (hx:callWith rf run f args h=some r):
 ∃ fn, P.funcs[f]? = some fn /\ (fn.name == "runtime.NumGoroutine") = false /\ fn.body.isNone = false := by
 unfold callWith at hx;split at hx
 ·cases hx
 ·simp only at hx
  split at hx
  ·split at hx
   ·rename_i hr
    exact hh _ _ _ _ hr
   ·cases hx
  ·cases hx
section
variable {X:Nat->Nat->Prop} {ρ ρ':Places} {h h':List Obj} {w w':World} {P:Program} {G:Nat->Option (List D)}
def zws {v:Value} {caps:List V} {xs:List D} (hp:zaH h caps.tail=some (xs,h')) (H:HRel X ρ h w) (hv:zay X ρ h w v (.clo 1000000000 caps)):Stp X ρ h w ρ h' w/\zay X ρ h' w v (.d (.list xs)):=by
 obtain⟨us,hcv,hl,he⟩:=hv;unfold zci at hcv;rw[yaf (by decide),yai rfl]at hcv
 obtain⟨h1,b,cap,rfl,h3,h4⟩:=hcv;cases caps with
 |nil=>simp only[yav]at hl;simp[Array.getElem?_eq_none (show us.size<=0 by omega)]at h1
 |cons a rows=>
  simp only[List.tail_cons,yad]at hp hl;obtain⟨st,e1,r1,-⟩:=zcT (ρ:=ρ) (w:=w) rows h (λj=>us.getD (j+1) undef) xs h' hp H λj c hj=>by
   obtain⟨u,k1,k2⟩:=he (j+1) c (by simpa using hj)
   rw[yap,k1];cases c with
   |clo _ _=>exact k2.elim
   |agg _=>exact k2.elim
   |tup _=>exact k2.elim
   |_=>exact k2
  have hcell: ∀ (j:Nat) (x:D),xs[j]? =some x-> ∃u,us[j+1]? =some u/\Rep (Mut X ρ h') w u x/\x.isCell=true:=λj x hj=>by
   have hlt:=lt_of_getElem? hj;have hu:us[j+1]? =some us[j+1]:=ya8 (by omega)
   have hr:=r1 j x hj;simp only[yap,hu,ycH]at hr;obtain⟨_,_,a,l,c,hs⟩:=h4 j _ hu;refine⟨_,hu,hr, ?_⟩;rw[hs]at hr;cases hr <;> rfl
  have hflat:flat xs=xs:=zgz λy hy=>by
   obtain⟨j,hj⟩:=ybe hy;exact (hcell j y hj).choose_spec.2.2
  refine⟨st,.list b 0 (us.size - 1) cap 1 xs (λj=>us.getD (j+1) undef) (by omega) h3 (λx hx=> ?_) (λj c hj=> ?_) λj c hj=> ?_⟩
  ·obtain⟨j,hj⟩:=ybe hx
   rw[D.cells_one (hcell j x hj).choose_spec.2.2];rfl
  ·rw[hflat]at hj
   obtain⟨u,k1,k2,k3⟩:=hcell j c hj;obtain⟨m1,m2,_⟩:=h4 j u k1;rw[yap,k1,yaO];exact⟨(st.fr.imm _ _ _ m2 m1).1,(st.fr.imm _ _ _ m2 m1).2,k3⟩
  ·rw[hflat]at hj
   obtain⟨u,k1,k2,k3⟩:=hcell j c hj;rw[yap,k1];exact k2
def zrP {v:Value} {A A':V} {rf:Bool} (ha:zfJ rf h A=some (A',h')) (H:HRel X ρ h w) (hv:zay X ρ h w v A):Stp X ρ h w ρ h' w/\zay X ρ h' w v A':=by
 unfold zfJ at ha;split at ha
 ·split at ha
  ·simp only[yaa,yab]at ha;obtain⟨rfl,rfl⟩:=ha;exact⟨Stp.refl H,hv⟩
  ·simp only[yac,yb8,yab]at ha
   obtain⟨x,h1,hp,rfl,rfl⟩:=ha;obtain⟨st,hr⟩:=zbI hp H hv;exact⟨st,hr⟩
 ·split at ha
  ·simp only[yaa,yab]at ha;obtain⟨rfl,rfl⟩:=ha;exact⟨Stp.refl H,hv⟩
  ·simp only[yac,yb8,yab]at ha
   obtain⟨x,h1,hp,rfl,rfl⟩:=ha;obtain⟨st,hr⟩:=zbI hp H hv;exact⟨st,hr⟩
 ·simp only[yaa,yab]at ha;obtain⟨rfl,rfl⟩:=ha;exact⟨Stp.refl H,hv⟩
 ·simp only[yaa,yab]at ha;obtain⟨rfl,rfl⟩:=ha;exact⟨Stp.refl H,hv⟩
 ·rename_i f caps
  split at ha
  ·rename_i hf
   subst hf;simp only[yac,yb8,yab]at ha;obtain⟨xs,h1,hp,rfl,rfl⟩:=ha;exact zws hp H hv
  ·simp only[yaa,yab]at ha;obtain⟨rfl,rfl⟩:=ha;exact⟨Stp.refl H,hv⟩
 ·simp only[yaa,yab]at ha;obtain⟨rfl,rfl⟩:=ha;exact⟨Stp.refl H,hv⟩
 ·simp only[yac,yb8,yab]at ha
  obtain⟨x,h1,hp,rfl,rfl⟩:=ha;obtain⟨st,hr⟩:=zbI hp H hv;exact⟨st,hr⟩
def zeh {rf:Bool}: ∀ (args:List V) (h:List Obj) (vs:List Value) (as:List V) (h':List Obj),zcb rf h args=some (as,h')->HRel X ρ h w->zbK X ρ h w vs args->
 Stp X ρ h w ρ h' w/\zbK X ρ h' w vs as
 |[],h,vs,as,h',ha,H,hv=>by
  simp only[zcb,yaa,yab]at ha;obtain⟨rfl,rfl⟩:=ha;exact⟨Stp.refl H,hv⟩
 |A::args,h,vs,as,h',ha,H,hv=>by
  simp only[zcb]at ha;split at ha
  ·rename_i A' h1 h1e
   split at ha
   ·rename_i as' h2 h2e
    simp only[yaa,yab]at ha;obtain⟨rfl,rfl⟩:=ha;obtain⟨hl,hg⟩:=hv;cases vs with
    |nil=>simp at hl
    |cons v vs=>
     obtain⟨v',hv1,hv2⟩:=hg 0 A (by simp)
     simp at hv1;subst hv1;obtain⟨s1,r1⟩:=zrP h1e H hv2;obtain⟨s2,l2,r2⟩:=zeh args h1 vs as' h2 h2e s1.rel ⟨by simpa using hl,λj B hj=>by
      obtain⟨u,hu1,hu2⟩:=hg (j+1) B (by simpa using hj)
      exact⟨u,by simpa using hu1,s1.vrel hu2⟩⟩
     refine⟨s1.trans H s2,by simp[l2],λj B hj=> ?_⟩
     cases j with
     |zero=>simp at hj;subst hj;exact⟨v,by simp,s2.vrel r1⟩
     |succ j=>simpa using r2 j B (by simpa using hj)
   ·cases ha
  ·cases ha
def zbK.ren {X':Nat->Nat->Prop} {f:Nat->Option Nat} {ρ2:Places} {h2:List Obj} (R:RenOk X X' f ρ h ρ2 h2) {vs:List Value} {as as2:List V} (ha:zbK X ρ h w vs as) (hm:as.mapM (V.ren f)=some as2):
 zbK X' ρ2 h2 w vs as2:=by
 obtain⟨e1,e2⟩:=zaV hm;refine⟨by rw[e1];exact ha.1,λj B hj=> ?_⟩
 obtain⟨A,hA,hr⟩:=e2 j B hj;obtain⟨v,h1,h2⟩:=ha.2 j A hA;exact⟨v,h1,h2.ren R hr⟩
def zmc {f:Nat->Option Nat} {x y:V} (hx: ∀vs,x≠ .tup vs) (hr:V.ren f x=some y):V.ren2 f x=some y:=by
 cases x with
 |tup vs=>exact absurd rfl (hx vs)
 |_=>exact hr
def ztI {ids:List Nat} {n j i:Nat} (hj:ids[j]? =some i):zd7 ids n j=some i:=by simp[zd7,hj]
def ztJ {ids:List Nat} {n j:Nat} (hj:ids.length<=j):zd7 ids n j=some (n+(j - ids.length)):=by simp[zd7,yaM hj]
def zhy (H:HRel X ρ h w) {ids:List Nat} (hn:ids.Nodup) {h2:List Obj} (ht:zax h (zar ids) ids=some h2) {ρ3:Places} {h3 h3':List Obj}
 (S:Stp (zbg X ρ h ids) (zat ρ ids) h2 w ρ3 h3 w') (hm:h3.mapM (Obj.ren (zd7 ids h.length))=some h3'):
 Stp X ρ h w (zbk ρ ids ρ3++ρ3.drop ids.length) (zbk h ids h3'++h3'.drop ids.length) w'/\
 RenOk (zbg X ρ h ids) X (zd7 ids h.length) ρ3 h3 (zbk ρ ids ρ3++ρ3.drop ids.length) (zbk h ids h3'++h3'.drop ids.length):=by
 obtain⟨R2,H2⟩:=zjl (Y:=zbg X ρ h ids) H hn ht (λ_ _ h=>h)
 obtain⟨t1,t2⟩:=zef ht;obtain⟨m1,m2⟩:=zaV hm;obtain⟨_,m3⟩:=zgD hm;have hle:ids.length<=h3.length:=by rw[<- t1];exact S.evo.le H2
 have hlen3:ρ3.length=h3.length:=S.rel.len;have hidlt: ∀i∈ids,i<h.length:=λi hi=>by
  obtain⟨j,hj⟩:=ybe hi;have hlt:j<h2.length:=by rw[t1];exact lt_of_getElem? hj
  obtain⟨i',o,hi',ho,_⟩:=t2 j h2[j] (by simp[hlt])
  rw[hj]at hi';cases hi';exact lt_of_getElem? ho
 obtain⟨a1,a2⟩:=zhx ids h3' h hn hidlt (by omega)
 obtain⟨b1,b2⟩:=zhx ids ρ3 ρ hn (λi hi=>by rw[H.len];exact hidlt i hi) (by omega)
 generalize hh4:zbk h ids h3'++h3'.drop ids.length=h4;generalize hρ4:zbk ρ ids ρ3++ρ3.drop ids.length=ρ4
 -- reading the two lists
 have getH: ∀i,h4[i]? =if i<h.length then (match zar ids i with | some j=>h3'[j]? | none=>h[i]?) else h3'[ids.length+(i - h.length)]? :=λi=>by
  rw[<- hh4];split
  ·rename_i hi;rw[yan (by omega),a2];cases zar ids i <;> rfl
  ·rename_i hi;rw[yah (by omega),a1,yaZ]
 have getR: ∀i,ρ4[i]? =if i<h.length then (match zar ids i with | some j=>ρ3[j]? | none=>ρ[i]?) else ρ3[ids.length+(i - h.length)]? :=λi=>by
  rw[<- hρ4];have:=H.len;split
  ·rename_i hi;rw[yan (by omega),b2];cases zar ids i <;> rfl
  ·rename_i hi;rw[yah (by omega),b1,yaZ,this]
 -- a callee's number
 have fwd: ∀j i,zd7 ids h.length j=some i->j<h3.length->h4[i]? =h3'[j]? /\ρ4[i]? =ρ3[j]? :=λj i hb hj=>by
  rcases ybF j ids.length with h1 | h1
  ·have hij:ids[j]? =some ids[j]:=by simp[h1]
   rw[ztI hij,yaa]at hb;subst hb;have hlt:=hidlt ids[j] (by simp)
   rw[getH,getR,yai hlt,yai hlt,zbX hn hij];exact⟨rfl,rfl⟩
  ·rw[ztJ h1,yaa]at hb
   subst hb;rw[getH,getR,yaf (by omega),yaf (by omega),show ids.length+(h.length+(j - ids.length) - h.length)=j by omega]
   exact⟨rfl,rfl⟩
 -- every object of the result is a callee's,or one of the zbg
 have cases4: ∀i o,h4[i]? =some o->(∃j,zd7 ids h.length j=some i/\j<h3.length/\h3'[j]? =some o/\ρ4[i]? =ρ3[j]?)\/(i∉ids/\i<h.length/\h[i]? =some o/\ρ4[i]? =ρ[i]?):=λi o ho=>by
  rw[getH]at ho;split at ho
  ·rename_i hi
   cases hp:zar ids i with
   |some j=>
    rw[hp]at ho;have hij:=zeJ hp;have hj3:j<h3.length:=by have:=lt_of_getElem? ho;omega
    exact .inl ⟨j,ztI hij,hj3,ho,by rw[getR,yai hi,hp]⟩
   |none=>
    rw[hp]at ho;exact .inr ⟨zk1 hp,hi,ho,by rw[getR,yai hi,hp]⟩
  ·rename_i hi
   have hlt:=lt_of_getElem? ho;refine .inl ⟨ids.length+(i - h.length), ?_,by omega,ho,by rw[getR,yaf hi]⟩
   rw[ztJ (by omega)]
   congr 1;omega
 have len4:ρ4.length=h4.length:=by
  rw[<- hh4,<- hρ4,yae,yae,a1,b1,yay,yay,m1,hlen3,H.len]
 have placeR: ∀i r,ρ4[i]? =some r->(∃j,zd7 ids h.length j=some i/\j<h3.length/\ρ3[j]? =some r)\/(i∉ids/\i<h.length/\ρ[i]? =some r):=λi r hr=>by
  have hlt:i<h4.length:=by rw[<- len4];exact lt_of_getElem? hr
  rcases cases4 i h4[i] (by simp[hlt]) with ⟨j,c1,c2,_,c4⟩ | ⟨c1,c2,_,c4⟩
  ·exact .inl ⟨j,c1,c2,by rw[<- c4,hr]⟩
  ·exact .inr ⟨c1,c2,by rw[<- c4,hr]⟩
 -- the other objects' blocks
 have otherBlock: ∀i b c,i∉ids->ρ[i]? =some (some (b,c))->(∀ (k c':Nat),(zat ρ ids)[k]? ≠some (some (b,c'))):=λi b c hi hr k c' hk=>by
  have hlt:k<h2.length:=by rw[t1];simpa[zat]using lt_of_getElem? hk
  obtain⟨i',o,hi',ho,_⟩:=t2 k h2[k] (by simp[hlt])
  rw[zeg H hi' ho]at hk;have:=H.inj _ _ b _ _ hr hk;subst this;exact hi (yao hi')
 have hmu: ∀b j,Mut X ρ4 h4 b j->Mut (zbg X ρ h ids) ρ3 h3 b j:=by
  rintro b j (hX | ⟨id,c,o,k1,k2,k3⟩)
  ·exact .inl (.inl hX)
  ·rcases cases4 id o k2 with ⟨j',_,c2,c3,c4⟩ | ⟨c1,_,c3,c4⟩
   ·obtain⟨o3,ho3,hr3⟩:=m2 j' o c3
    exact .inr ⟨j',c,o3,by rw[<- c4,k1],ho3,(znj hr3 j).1 k3⟩
   ·exact .inl (.inr ⟨id,c,o,c1,by rw[<- c4,k1],c3,k3⟩)
 have R4:RenOk (zbg X ρ h ids) X (zd7 ids h.length) ρ3 h3 ρ4 h4:=⟨λj i hb o ho=>by
  have hlt:=lt_of_getElem? ho;obtain⟨o',ho',hr'⟩:=m3 j o ho;obtain⟨e1,e2⟩:=fwd j i hb hlt;exact⟨o',by rw[e1,ho'],hr',e2⟩,hmu⟩
 have F4:Fr X ρ h w ρ4 h4 w':=by
  refine⟨S.fr.os,S.fr.tape,S.fr.output,S.fr.size,λb hb hno=> ?_,λb j v hnm hc=> ?_⟩
  ·obtain⟨e1,e2⟩:=S.fr.block b hb λk c hk=>by
    have hlt:k<h2.length:=by rw[t1];simpa[zat]using lt_of_getElem? hk
    obtain⟨i',o,hi',ho,_⟩:=t2 k h2[k] (by simp[hlt])
    rw[zeg H hi' ho]at hk;exact hno i' c hk
   refine⟨e1,λid c hid=> ?_⟩
   rcases placeR id _ hid with ⟨j,_,_,c3⟩ | ⟨_,_,c3⟩
   ·exact e2 j c c3
   ·exact hno id c c3
  ·obtain⟨e1,e2⟩:=S.fr.imm b j v (λhm'=>hnm (R2.mu b j hm')) hc
   exact⟨e1,λhm'=>e2 (hmu b j hm')⟩
 have E4:Evo h.length ρ h ρ4 h4:=λid o r hid ho hr=>by
  rw[getH,getR,yai hid,yai hid];cases hp:zar ids id with
  |none=>exact⟨o,r,ho,hr,zbl.refl _ _⟩
  |some j=>
   have hij:=zeJ hp;have hj2:j<h2.length:=by rw[t1];exact lt_of_getElem? hij
   obtain⟨i',o',hi',ho',hren⟩:=t2 j h2[j] (by simp[hj2])
   rw[hij]at hi';cases hi';rw[ho]at ho';cases ho';have hrj:(zat ρ ids)[j]? =some r:=by rw[zeg H hij ho,hr]
   obtain⟨o3,r3,g1,g2,g3⟩:=S.evo j h2[j] r hj2 (by simp[hj2]) hrj
   obtain⟨o4,ho4,hr4⟩:=m3 j o3 g1;exact⟨o4,r3,ho4,g2,zyS hren g3 hr4⟩
 refine⟨⟨⟨len4,λid o ho=> ?_,λb j hX=>ybn (H.xlt b j hX) S.fr.size,λid b c j hid hX=> ?_,λi j b c c' hi hj=> ?_⟩,F4,E4⟩,R4⟩
 ·rcases cases4 id o ho with ⟨j,_,c2,c3,c4⟩ | ⟨c1,c2,c3,c4⟩
  ·obtain⟨o3,ho3,hr3⟩:=m2 j o c3
   obtain⟨r,g1,g2⟩:=S.rel.obj j o3 ho3;exact⟨r,by rw[c4,g1],g2.ren R4 hr3⟩
  ·obtain⟨r,g1,g2⟩:=H.obj id o c3
   refine⟨r,by rw[c4,g1],g2.kept F4 E4 λb c hbc=> ?_⟩
   subst hbc;exact (S.fr.block b (H.lt g1) (otherBlock id b c c1 g1)).1
 ·rcases placeR id _ hid with ⟨j',_,_,c3⟩ | ⟨_,_,c3⟩
  ·exact S.rel.xown j' b c j c3 (.inl hX)
  ·exact H.xown id b c j c3 hX
 ·have mixed: ∀i j b c c',i∉ids->ρ[i]? =some (some (b,c))->ρ3[j]? =some (some (b,c'))->False:=λi j b c c' hi h1 h3'=>
   (S.fr.block b (H.lt h1) (otherBlock i b c hi h1)).2 j c' h3'
  rcases placeR i _ hi with ⟨i',c1,c2,c3⟩ | ⟨c1,c2,c3⟩ <;> rcases placeR j _ hj with ⟨j',d1,d2,d3⟩ | ⟨d1,d2,d3⟩
  ·have:=S.rel.inj _ _ b _ _ c3 d3
   subst this;rw[c1]at d1;simpa using d1
  ·exact (mixed j i' b c' c d1 d3 c3).elim
  ·exact (mixed i j' b c c' c1 c3 d3).elim
  ·exact H.inj _ _ b _ _ c3 d3
def zkB {rf:Bool} {run:Run} {f:FuncId} {args:List V} {x:V} {vs:List Value} (hrun:zdk P G run) (hx:callWith rf run f args h=some (x,h')) (H:HRel X ρ h w) (hg:GRel X G ρ h w) (ha:zbK X ρ h w vs args):
 Calls P f vs.toArray w λe w'=> ∃ρ' rv,e= .returned rv/\Stp X ρ h w ρ' h' w'/\zay X ρ' h' w' rv x:=by
 unfold callWith at hx;split at hx
 ·cases hx
 ·rename_i as h1 hargs
  obtain⟨s1,a1⟩:=zeh args h vs as h1 hargs H ha;have H1:=s1.rel;generalize hids:za8 h1 (zal [] (as.flatMap V.ids))=ids at hx;have hn:ids.Nodup:=by rw[<- hids];exact zee _ (zcj _ _ (by simp))
  simp only at hx;split at hx
  ·rename_i as2 hin hm ht
   split at hx
   ·rename_i rets hout hr
    split at hx
    ·rename_i rets2 hout2 hmr hmo
     simp only[yaa,yab]at hx;obtain⟨rfl,rfl⟩:=hx;obtain⟨R2,H2⟩:=zjl (Y:=zbg X ρ h1 ids) H1 hn ht (λ_ _ h=>h)
     have g2:GRel (zbg X ρ h1 ids) G (zat ρ ids) hin w:=λg cs e=>zgs.mono (λb j _ hm hc=>⟨hc,λh'=>hm (R2.mu b j h')⟩) (hg.mono s1.fr g cs e)
     refine (hrun f as2 hin rets hout hr (zbg X ρ h1 ids) _ w vs H2 g2 (a1.ren R2 hm)).mono ?_
     rintro e w' ⟨ρ3,rv,rfl,S,us,l1,l2,l3⟩
     obtain⟨S4,R4⟩:=zhy H1 hn ht S hmo;refine⟨_,rv,rfl,s1.trans H S4, ?_⟩;obtain⟨e1,e2⟩:=zaV hmr;have hu: ∀ (j:Nat) (R:V),rets2[j]? =some R-> ∃u,us[j]? =some u/\V2 X (zbk ρ ids ρ3++ρ3.drop ids.length) (zbk h1 ids hout2++hout2.drop ids.length) w' u R:=λj R hj=>by
      obtain⟨A,hA,hAr⟩:=e2 j R hj;obtain⟨u,hu1,hu2⟩:=l2 j A hA;refine⟨u,hu1,V2.ren R4 hu2 (zmc (λvs e=> ?_) hAr)⟩
      subst e;exact hu2.elim
     have hl:us.length=rets2.length:=by omega
     subst l3
     match us,rets2,hl,hu with
     |[],[],_,_=>exact⟨_,rfl,by simp,λj c hj=>by simp at hj⟩
     |[u],[R],_,hu=>
      obtain⟨u',h1,h2⟩:=hu 0 R (by simp)
      simp at h1;subst h1;exact h2.vrel
     |u::u'::us,R::R'::rets2,hl,hu=>
      exact⟨_,rfl,by simpa using hl,λj c hj=>by simpa using hu j c hj⟩
    ·cases hx
   ·cases hx
  ·cases hx
def zfN {h h':List Obj} {x:Option (V × List Obj)} {v:V} (hx:zdQ h x=some (v,h')):x=some (v,h')/\zas h h':=by
 unfold zdQ at hx;split at hx
 ·split at hx
  ·rename_i hk
   simp only[yaa,yab]at hx;obtain⟨rfl,rfl⟩:=hx;exact⟨rfl,hk⟩
  ·cases hx
 ·cases hx
def zmd {P:Program} {run:Run} {f:FuncId} {args:List V} {h:List Obj} {r:V × List Obj} (hh:zcz P run) (hx:callFresh run f args h=some r):
 ∃ fn, P.funcs[f]? = some fn /\ (fn.name == "runtime.NumGoroutine") = false /\ fn.body.isNone = false := by
 unfold callFresh at hx;split at hx
 ·cases hx
 ·split at hx
  ·rename_i hr
   exact hh _ _ _ _ hr
  ·cases hx
def znl {P:Program} {run:Run} {f:FuncId} {args:List V} {h:List Obj} {r:V × List Obj} (hh:zcz P run) (hx:callThaw run f args h=some r):
 ∃ fn, P.funcs[f]? = some fn /\ (fn.name == "runtime.NumGoroutine") = false /\ fn.body.isNone = false := by
 unfold callThaw at hx;split at hx
 ·cases hx
 ·split at hx
  ·rename_i hr
   exact hh _ _ _ _ hr
  ·cases hx
def zrQ {v x:V} {h1:List Obj} (hp:zaP v=true) (e:zfJ false h v=some (x,h1)):x.ids=[]:=by
 have key: ∀ {y:Option (D × List Obj)},(y.map λ(p:D × List Obj)=>(V.d p.1,p.2))=some (x,h1)->x.ids=[]:=by
  intro y hy;cases y with
  |none=>cases hy
  |some p=>simp only[yaF,yaa,yab]at hy;rw[<- hy.1];rfl
 cases v with
 |ptr a b=>simp[zaP]at hp
 |mp a=>simp[zaP]at hp
 |clo f c=>simp[zaP]at hp
 |ro cs=>simp only[zfJ,yaa,yab]at e;rw[<- e.1];rfl
 |arr a b=>simp only[zfJ,yaD,ybg]at e;exact key e
 |sl a b c d=>simp only[zfJ,yaD,ybg]at e;exact key e
 |_=>simp only[zfJ]at e;exact key e
def zfZ: ∀ (args:List V) (h:List Obj) (as:List V) (h1:List Obj),args.all zaP=true->zcb false h args=some (as,h1)->as.flatMap V.ids=[]
 |[],h,as,h1,_,e=>by simp only[zcb,yaa,yab]at e;rw[<- e.1];rfl
 |v::vs,h,as,h1,hp,e=>by
  simp only[ycj,yas]at hp;simp only[zcb]at e;split at e
  ·rename_i x h2 e1
   split at e
   ·rename_i xs h3 e2
    simp only[yaa,yab]at e;obtain⟨rfl,rfl⟩:=e;rw[yaY,zrQ hp.1 e1,zfZ vs h2 xs h3 hp.2 e2];rfl
   ·cases e
  ·cases e
def zwt {v x:V} {h1:List Obj} {g:Nat->Option Nat} (hp:zaP v=true) (e:zfJ false h v=some (x,h1)):V.ren g x=some x:=by
 have key: ∀ {y:Option (D × List Obj)},(y.map λ(p:D × List Obj)=>(V.d p.1,p.2))=some (x,h1)->V.ren g x=some x:=by
  intro y hy;cases y with
  |none=>cases hy
  |some p=>simp only[yaF,yaa,yab]at hy;rw[<- hy.1];rfl
 cases v with
 |ptr a b=>simp[zaP]at hp
 |mp a=>simp[zaP]at hp
 |clo f c=>simp[zaP]at hp
 |ro cs=>simp only[zfJ,yaa,yab]at e;rw[<- e.1];rfl
 |arr a b=>simp only[zfJ,yaD,ybg]at e;exact key e
 |sl a b c d=>simp only[zfJ,yaD,ybg]at e;exact key e
 |_=>simp only[zfJ]at e;exact key e
def zjm {g:Nat->Option Nat}: ∀ (args:List V) (h:List Obj) (as:List V) (h1:List Obj),args.all zaP=true->zcb false h args=some (as,h1)->as.mapM (V.ren g)=some as
 |[],h,as,h1,_,e=>by simp only[zcb,yaa,yab]at e;rw[<- e.1];rfl
 |v::vs,h,as,h1,hp,e=>by
  simp only[ycj,yas]at hp;simp only[zcb]at e;split at e
  ·rename_i x h2 e1
   split at e
   ·rename_i xs h3 e2
    simp only[yaa,yab]at e;obtain⟨rfl,rfl⟩:=e;rw[yaI,zwt hp.1 e1,zjm vs h2 xs h3 hp.2 e2];rfl
   ·cases e
  ·cases e
def zk4: ∀ {xs:List D},zd8 xs=true->flat xs=xs/\ ∀x∈xs,x.flat=true
 |[],_=>⟨rfl,by simp⟩
 |x::xs,hf=>by
  simp only[zd8,yas]at hf;obtain⟨e,a⟩:=zk4 hf.2;refine⟨?_,λy hy=> ?_⟩
  ·have hc:x.cells=[x]:=by
    cases x <;> first | rfl | simp[D.flat]at hf
   simp only[flat]at e ⊢;rw[yaY,e,hc];rfl
  ·rcases List.mem_cons.1 hy with rfl | hy
   ·exact hf.1
   ·exact a y hy
def zme {M M':Nat->Nat->Prop} {v:Value} {x:D} (hx:x.flat=true) (hr:Rep M w v x):Rep M' w v x:=by
 induction hr with
 |iface t v x _ ih=>exact .iface t v x (ih (by simpa[D.flat]using hx))
 |int k n=>exact .int k n
 |bool b=>exact .bool b
 |str s=>exact .str s
 |nilI=>exact .nilI
 |nilP=>exact .nilP
 |nilM=>exact .nilM
 |any v hv=>exact .any v hv
 |nilF=>exact .nilF
 |fn f=>simp[D.flat]at hx
 |nil a c hc=>simp[D.flat]at hx
 |list=>simp[D.flat]at hx
 |agg=>simp[D.flat]at hx
def zyT {Y:Nat->Nat->Prop} {v:Value} {x:V} (hx:x.flat=true) (hr:V1 X ρ h w v x):V1 Y ρ h w v x:=by
 cases x with
 |d x=>exact zme (M:=Mut X ρ h) (M':=Mut Y ρ h) hx hr
 |nilS=>exact hr
 |emp=>exact hr
 |arr a b=>exact hr
 |sl a b c d=>exact hr
 |ptr a b=>exact hr
 |_=>simp[V.flat]at hx
def zwu {Y:Nat->Nat->Prop} {r:zc3} {o:Obj} (ho:o.flat=true) (hr:ObjRel X ρ h w r o):ObjRel Y ρ h w r o:=by
 cases o with
 |arr sz xs wm=>
  refine⟨hr.1, ?_⟩;cases r with
  |none=>exact hr.2
  |some p=>
   obtain⟨b,c⟩:=p;obtain⟨_,cur,e,fz,h1,h2,h3,h4,h5,h6,h7,h8⟩:=hr;obtain⟨fe,fa⟩:=zk4 ho;refine⟨cur,e,fz,h1,h2,h3,h4,h5,h6,h7,λj x hj=> ?_⟩
   obtain⟨u,g1,g2,g3⟩:=h8 j x hj;rw[fe]at hj;exact⟨u,g1,zme (fa x (yao hj)) g2,g3⟩
 |box cs=>
  obtain⟨b,c,cur,e,fz,h1,h2,h3,h4,h5⟩:=hr;refine⟨b,c,cur,e,fz,h1,h2,h3,h4,λj x hj=> ?_⟩
  obtain⟨u,g1,g2,g3⟩:=h5 j x hj;exact⟨u,g1,zyT (List.all_eq_true.1 ho x (yao hj)) g2,g3⟩
 |_=>simp[Obj.flat]at ho
def zBg {Y:Nat->Nat->Prop} {v:Value} {x:V} (hx:x.flat=true) (hr:V2 X ρ h w v x):V2 Y ρ h w v x:=by
 cases x with
 |d x=>exact zme (M:=Mut X ρ h) (M':=Mut Y ρ h) hx hr
 |nilS=>exact hr
 |emp=>exact hr
 |arr a b=>exact hr
 |sl a b c d=>exact hr
 |ptr a b=>exact hr
 |_=>simp[V.flat]at hx
def zkC {run:Run} {f:FuncId} {args:List V} {x:V} {vs:List Value} (hrun:zdk P G run) (hx:callThaw run f args h=some (x,h')) (H:HRel X ρ h w) (hg:GRel X G ρ h w) (ha:zbK X ρ h w vs args):
 Calls P f vs.toArray w λe w'=> ∃ρ' rv,e= .returned rv/\Stp X ρ h w ρ' h' w'/\zay X ρ' h' w' rv x:=by
 unfold callThaw at hx;split at hx
 ·cases hx
 ·rename_i as h1 hargs
  split at hx
  ·rename_i rets hout hr
   split at hx
   ·rename_i hfl
    simp only[yas]at hfl;obtain⟨⟨hpure,hrf⟩,hof⟩:=hfl;split at hx
    ·rename_i rets2 hout2 hmr hmo
     simp only[yaa,yab]at hx;obtain⟨rfl,rfl⟩:=hx;have hno:=zfZ args h as h1 hpure hargs;obtain⟨s1,a1⟩:=zeh args h vs as h1 hargs H ha;have H1:=s1.rel;have hn:([]:List Nat).Nodup:=ydD;have ht1:zax h1 (zar []) []=some []:=rfl;have ht:zax h (zar []) []=some []:=rfl;obtain⟨R2,H2⟩:=zjl (Y:=zbg X ρ h1 []) H1 hn ht1 (λ_ _ h=>h)
     have g2:GRel (zbg X ρ h1 []) G (zat ρ []) [] w:=λg cs e=>zgs.mono (λb j _ hm hc=>⟨hc,λh'=>hm (R2.mu b j h')⟩) (hg.mono s1.fr g cs e)
     have hm:as.mapM (V.ren (zar []))=some as:=zjm args h as h1 hpure hargs;refine (hrun f as [] rets hout hr (zbg X ρ h1 []) _ w vs H2 g2 (a1.ren R2 hm)).mono ?_
     rintro e w' ⟨ρ3,rv,rfl,S,us,l1,l2,l3⟩
     -- what was frozen is own again
     have hlt: ∀b j,zbg X ρ h [] b j->b<w.heap.size:=by
      rintro b j (hX | ⟨id,c,o,_,k1,k2,k3⟩)
      ·exact H.xlt b j hX
      ·exact H.lt k1
     have S':Stp (zbg X ρ h []) (zat ρ []) [] w ρ3 hout w':=by
      refine⟨⟨S.rel.len,λid o ho=> ?_,λb j hX=>ybn (hlt b j hX) S.fr.size,λid b c j hid hX=> ?_,S.rel.inj⟩,⟨S.fr.os,S.fr.tape,S.fr.output,S.fr.size,S.fr.block,λb j v hnm hc=> ?_⟩,λid o r hid=>by simp at hid⟩
      ·obtain⟨r,g1,g3⟩:=S.rel.obj id o ho
       exact⟨r,g1,zwu (List.all_eq_true.1 hof o (yao ho)) g3⟩
      ·exact (S.fr.block b (hlt b j hX) (λk c' hk=>by simp[zat]at hk)).2 id c hid
      ·have hnX: ¬ zbg X ρ h [] b j:=λhX=>hnm (.inl hX)
       have hnM: ¬ Mut X ρ h b j:=by
        rintro (hX | ⟨id,c,o,k1,k2,k3⟩)
        ·exact hnX (.inl hX)
        ·exact hnX (.inr ⟨id,c,o,by simp,k1,k2,k3⟩)
       have hnM1:=(s1.fr.imm b j v hnM hc).2;obtain⟨e1,e2⟩:=S.fr.imm b j v (by
        rintro ((hX | ⟨id,c,o,_,k1,k2,k3⟩) | ⟨id,c,o,k1,k2,k3⟩)
        ·exact hnM1 (.inl hX)
        ·exact hnM1 (.inr ⟨id,c,o,k1,k2,k3⟩)
        ·simp at k2) hc
       refine⟨e1, ?_⟩
       rintro (hX | hX)
       ·exact hnX hX
       ·exact e2 (.inr hX)
     obtain⟨S4,R4⟩:=zhy H hn ht S' hmo;have e4:zbk ρ [] ρ3++ρ3.drop ([]:List Nat).length=ρ++ρ3:=by simp[zbk]
     have e5:zbk h [] hout2++hout2.drop ([]:List Nat).length=h++hout2:=by simp[zbk]
     rw[e4,e5]at S4 R4;refine⟨_,rv,rfl,S4, ?_⟩;obtain⟨e1,e2⟩:=zaV hmr;have hu: ∀ (j:Nat) (R:V),rets2[j]? =some R-> ∃u,us[j]? =some u/\V2 X (ρ++ρ3) (h++hout2) w' u R:=λj R hj=>by
      obtain⟨A,hA,hAr⟩:=e2 j R hj;obtain⟨u,hu1,hu2⟩:=l2 j A hA;refine⟨u,hu1,V2.ren R4 (zBg (List.all_eq_true.1 hrf A (yao hA)) hu2) (zmc (λvs e=> ?_) hAr)⟩
      subst e;exact hu2.elim
     have hl:us.length=rets2.length:=by omega
     subst l3
     match us,rets2,hl,hu with
     |[],[],_,_=>exact⟨_,rfl,by simp,λj c hj=>by simp at hj⟩
     |[u],[R],_,hu=>
      obtain⟨u',h1,h2⟩:=hu 0 R (by simp)
      simp at h1;subst h1;exact h2.vrel
     |u::u'::us,R::R'::rets2,hl,hu=>
      exact⟨_,rfl,by simpa using hl,λj c hj=>by simpa using hu j c hj⟩
    ·cases hx
   ·cases hx
  ·cases hx
def Fz (h h1:List Obj):Prop:= ∀id:Nat,h1[id]? =h[id]? \/ ∃ (sz:Nat) (xs:List D) (wm:Nat),h[id]? =some (.arr sz xs wm)/\h1[id]? =some (.arr sz xs xs.length)
def Fz.refl (h:List Obj):Fz h h:=λ_=> .inl rfl
def Fz.trans {a b c:List Obj} (x:Fz a b) (y:Fz b c):Fz a c:=λid=>by
 rcases x id with e | ⟨sz,xs,wm,e1,e2⟩
 ·rcases y id with e' | ⟨sz,xs,wm,e1,e2⟩
  ·exact .inl (e'.trans e)
  ·exact .inr ⟨sz,xs,wm,e ▸ e1,e2⟩
 ·rcases y id with e' | ⟨sz',xs',wm',e3,e4⟩
  ·exact .inr ⟨sz,xs,wm,e1,e'.trans e2⟩
  ·rw[e2]at e3;cases e3
   exact .inr ⟨sz,xs,wm,e1,e4⟩
def Fz.set {h:List Obj} {i sz:Nat} {xs:List D} {wm:Nat} (ho:h[i]? =some (.arr sz xs wm)):Fz h (h.set i (.arr sz xs xs.length)):=λid=>by
 by_cases e:i=id
 ·subst e
  exact .inr ⟨sz,xs,wm,ho,yaR (lt_of_getElem? ho)⟩
 ·exact .inl (ybq e)
def zqk {A:V} {x:D} {h h1:List Obj} (hp:zaY h A=some (x,h1)):Fz h h1:=by
 unfold zaY at hp;split at hp
 ·cases hp;exact Fz.refl _
 ·cases hp;exact Fz.refl _
 ·cases hp;exact Fz.refl _
 ·split at hp
  ·rename_i ho
   split at hp
   ·cases hp;exact Fz.set ho
   ·cases hp
  ·cases hp
 ·split at hp
  ·rename_i ho
   split at hp
   ·cases hp;exact Fz.set ho
   ·cases hp
  ·cases hp
 ·cases hp
def zjn: ∀ {cs:List V} {xs:List D} {h h1:List Obj},zaH h cs=some (xs,h1)->Fz h h1
 |[],xs,h,h1,hp=>by simp only[zaH,yaa,yab]at hp;rw[<- hp.2];exact Fz.refl _
 |c::cs,xs,h,h1,hp=>by
  simp only[zaH]at hp;split at hp
  ·rename_i e1
   split at hp
   ·rename_i e2
    simp only[yaa,yab]at hp;rw[<- hp.2];exact (zqk e1).trans (zjn e2)
   ·cases hp
  ·cases hp
def zwv {A:V} {x:D} {h h1:List Obj} (hp:zby h A=some (x,h1)):Fz h h1:=by
 unfold zby at hp;split at hp
 ·simp only[yac,yb8,yab]at hp
  obtain⟨xs,h2,hp,-,rfl⟩:=hp;exact zjn hp
 ·exact zqk hp
def zyU {A B:V} {h h1:List Obj} (hq:zaP A=true) (hp:zfJ false h A=some (B,h1)):Fz h h1:=by
 have key: ∀ {v:V},((zby h v).map λ(x,h)=>(V.d x,h))=some (B,h1)->Fz h h1:=λhk=>by
  simp only[yac,yb8,yab]at hk;obtain⟨x,h2,hk,-,rfl⟩:=hk;exact zwv hk
 cases A with
 |ptr a b=>simp[zaP]at hq
 |mp a=>simp[zaP]at hq
 |clo f c=>simp[zaP]at hq
 |ro cs=>simp only[zfJ,yaa,yab]at hp;rw[<- hp.2];exact Fz.refl _
 |arr a b=>simp only[zfJ,yaD,ybg]at hp;exact key hp
 |sl a b c d=>simp only[zfJ,yaD,ybg]at hp;exact key hp
 |_=>simp only[zfJ]at hp;exact key hp
def zql: ∀ (args:List V) (h:List Obj) (as:List V) (h1:List Obj),args.all zaP=true->zcb false h args=some (as,h1)->Fz h h1
 |[],h,as,h1,_,e=>by simp only[zcb,yaa,yab]at e;rw[<- e.2];exact Fz.refl _
 |v::vs,h,as,h1,hp,e=>by
  simp only[ycj,yas]at hp;simp only[zcb]at e;split at e
  ·rename_i e1
   split at e
   ·rename_i e2
    simp only[yaa,yab]at e;rw[<- e.2];exact (zyU hp.1 e1).trans (zql vs _ _ _ hp.2 e2)
   ·cases e
  ·cases e
def zfg: ∀ {xs:List D},zdb xs=true-> ∀x∈xs,x.clean=true
 |[],_,_,h=>by simp at h
 |y::ys,hc,x,h=>by
  simp only[zdb,yas]at hc;rcases List.mem_cons.1 h with rfl | h
  ·exact hc.1
  ·exact zfg hc.2 x h
def zjo {xs:List D} (hc:zdb xs=true): ∀c∈flat xs,c.clean=true:=λc h=>by
 obtain⟨x,hx,h⟩:=List.mem_flatMap.1 h;have:=zfg hc x hx;cases x with
 |agg cs=>exact zfg (show zdb cs=true by simpa[D.clean]using this) c h
 |_=>simp only[D.cells,ydv]at h;subst h;exact this
def zjp {M M':Nat->Nat->Prop} {w:World} (hd: ∀b,(∃j,¬ M b j/\M' b j)-> ∀ (j:Nat) (u:Value),¬ M b j->w.cell? ⟨b,j,none⟩=some u-> ∃n,u= .int .u8 n) {v:Value} {x:D} (hx:x.clean=true) (hr:Rep M w v x):Rep M' w v x:=by
 induction hr with
 |int k n=>exact .int k n
 |bool b=>exact .bool b
 |str s=>exact .str s
 |nilI=>exact .nilI
 |nilP=>exact .nilP
 |nilM=>exact .nilM
 |any v hv=>exact .any v hv
 |nilF=>exact .nilF
 |fn f=>exact .fn f
 |iface t v x _ ih=>exact .iface t v x (ih (by simpa[D.clean]using hx))
 |nil a c hc=>exact .nil a c hc
 |list b off len cap sz xs vs h1 h2 h3 h4 h5 ih=>
  simp only[D.clean,yas]at hx;have hcl:=zjo hx.2;refine .list b off len cap sz xs vs h1 h2 h3 (λj c hj=> ?_) λj c hj=>ih j c hj (hcl c (yao hj))
  obtain⟨g1,g2,g3⟩:=h4 j c hj;refine⟨g1,λhM=> ?_,g3⟩
  have hbad:=hd b ⟨off+j,g2,hM⟩;cases xs with
  |nil=>simp[flat]at hj
  |cons y ys=>
   have hh:=hx.1;simp only[zi0]at hh;cases hy:y.cells with
   |nil=>rw[hy]at hh;simp at hh
   |cons c0 cr=>
    have hf0:(flat (y::ys))[0]? =some c0:=by simp[flat,hy]
    obtain⟨e1,e2,_⟩:=h4 0 c0 hf0;obtain⟨n,hn⟩:=hbad _ _ e2 e1;have hrep:=h5 0 c0 hf0;rw[hn]at hrep;rw[hy]at hh;cases hrep with
    |int k n=>simp[zty]at hh
    |any v hv=>simp at hh
 |agg cs ds vs h1 h2 h3 ih=>exact .agg cs ds vs h1 h2 λj c hj=>ih j c hj (zfg (by simpa[D.clean]using hx) c (yao hj))
section
variable {Y:Nat->Nat->Prop} (hd: ∀b,(∃j,¬ Mut X ρ h b j/\Mut Y ρ h b j)-> ∀ (j:Nat) (u:Value),¬ Mut X ρ h b j->w.cell? ⟨b,j,none⟩=some u-> ∃n,u= .int .u8 n)
include hd
def zww {v:Value} {x:V} (hx:x.fresh=true) (hr:V1 X ρ h w v x):V1 Y ρ h w v x:=by
 cases x with
 |d x=>exact zjp (M:=Mut X ρ h) (M':=Mut Y ρ h) hd hx hr
 |nilS=>exact hr
 |emp=>exact hr
 |arr a b=>exact hr
 |sl a b c d=>exact hr
 |ptr a b=>exact hr
 |_=>simp[V.fresh]at hx
def ztK {r:zc3} {o:Obj} (ho:o.fresh=true) (hr:ObjRel X ρ h w r o):ObjRel Y ρ h w r o:=by
 cases o with
 |arr sz xs wm=>
  refine⟨hr.1, ?_⟩;cases r with
  |none=>exact hr.2
  |some p=>
   obtain⟨b,c⟩:=p;obtain⟨_,cur,e,fz,h1,h2,h3,h4,h5,h6,h7,h8⟩:=hr;refine⟨cur,e,fz,h1,h2,h3,h4,h5,h6,h7,λj x hj=> ?_⟩
   obtain⟨u,g1,g2,g3⟩:=h8 j x hj;exact⟨u,g1,zjp hd (zjo ho x (yao hj)) g2,g3⟩
 |box cs=>
  obtain⟨b,c,cur,e,fz,h1,h2,h3,h4,h5⟩:=hr;refine⟨b,c,cur,e,fz,h1,h2,h3,h4,λj x hj=> ?_⟩
  obtain⟨u,g1,g2,g3⟩:=h5 j x hj;exact⟨u,g1,zww hd (List.all_eq_true.1 ho x (yao hj)) g2,g3⟩
 |_=>simp[Obj.fresh]at ho
def zyV {v:Value} {x:V} (hx:x.fresh=true) (hr:V2 X ρ h w v x):V2 Y ρ h w v x:=by
 cases x with
 |d x=>exact zjp (M:=Mut X ρ h) (M':=Mut Y ρ h) hd hx hr
 |nilS=>exact hr
 |emp=>exact hr
 |arr a b=>exact hr
 |sl a b c d=>exact hr
 |ptr a b=>exact hr
 |_=>simp[V.fresh]at hx
end
def zjq {run:Run} {f:FuncId} {args:List V} {x:V} {vs:List Value} (hrun:zdk P G run) (hx:callFresh run f args h=some (x,h')) (H:HRel X ρ h w) (hg:GRel X G ρ h w) (ha:zbK X ρ h w vs args):
 Calls P f vs.toArray w λe w'=> ∃ρ' rv,e= .returned rv/\Stp X ρ h w ρ' h' w'/\zay X ρ' h' w' rv x:=by
 unfold callFresh at hx;split at hx
 ·cases hx
 ·rename_i as h1 hargs
  split at hx
  ·rename_i rets hout hr
   split at hx
   ·rename_i hfl
    simp only[yas]at hfl;obtain⟨⟨⟨hpure,hold⟩,hrf⟩,hof⟩:=hfl;split at hx
    ·rename_i rets2 hout2 hmr hmo
     simp only[yaa,yab]at hx;obtain⟨rfl,rfl⟩:=hx;have hno:=zfZ args h as h1 hpure hargs;obtain⟨s1,a1⟩:=zeh args h vs as h1 hargs H ha;have H1:=s1.rel;have hfz:=zql args h as h1 hpure hargs;have hn:([]:List Nat).Nodup:=ydD;have ht1:zax h1 (zar []) []=some []:=rfl;have ht:zax h (zar []) []=some []:=rfl;obtain⟨R2,H2⟩:=zjl (Y:=zbg X ρ h1 []) H1 hn ht1 (λ_ _ h=>h)
     have g2:GRel (zbg X ρ h1 []) G (zat ρ []) [] w:=λg cs e=>zgs.mono (λb j _ hm hc=>⟨hc,λh'=>hm (R2.mu b j h')⟩) (hg.mono s1.fr g cs e)
     have hm:as.mapM (V.ren (zar []))=some as:=zjm args h as h1 hpure hargs;refine (hrun f as [] rets hout hr (zbg X ρ h1 []) _ w vs H2 g2 (a1.ren R2 hm)).mono ?_
     rintro e w' ⟨ρ3,rv,rfl,S,us,l1,l2,l3⟩
     -- what was frozen is own again
     have hlt: ∀b j,zbg X ρ h [] b j->b<w.heap.size:=by
      rintro b j (hX | ⟨id,c,o,_,k1,k2,k3⟩)
      ·exact H.xlt b j hX
      ·exact H.lt k1
     have hd: ∀b,(∃j,¬ Mut (zbg X ρ h1 []) ρ3 hout b j/\Mut (zbg X ρ h []) ρ3 hout b j)-> ∀ (j:Nat) (u:Value),¬ Mut (zbg X ρ h1 []) ρ3 hout b j->w'.cell? ⟨b,j,none⟩=some u-> ∃n,u= .int .u8 n:=by
      rintro b ⟨j,hn1,hm1⟩ j2 u2 hn2 hc2
      have hn1': ¬ zbg X ρ h1 [] b j:=λh=>hn1 (.inl h)
      have hn2': ¬ zbg X ρ h1 [] b j2:=λh=>hn2 (.inl h)
      rcases hm1 with (hX | ⟨id,c,o,_,k1,k2,k3⟩) | hm1
      ·exact absurd (.inl hX) hn1'
      ·rcases hfz id with e | ⟨sz,xs,wm,e1,e2⟩
       ·exact absurd (.inr ⟨id,c,o,by simp,k1,by rw[e];exact k2,k3⟩) hn1'
       ·rw[k2]at e1;cases e1
        have hj: ¬ (Obj.arr sz xs xs.length).mutAt j:=λhmu=>hn1' (.inr ⟨id,c,_,by simp,k1,e2,hmu⟩)
        have hj2: ¬ (Obj.arr sz xs xs.length).mutAt j2:=λhmu=>hn2' (.inr ⟨id,c,_,by simp,k1,e2,hmu⟩)
        simp only[Obj.mutAt,ydZ]at hj hj2 k3;have hk:=List.all_eq_true.1 hold _ (yao k2);simp only[zm0,ybo,yas,yaA]at hk;rcases hk with rfl | ⟨rfl,hk⟩
        ·exact absurd k3 (Nat.not_le.2 hj)
        ·obtain⟨r,q1,q2⟩:=H1.obj id _ e2
         rw[k1]at q1;cases q1;obtain⟨_,cur,et,fz,m1,m2,m3,m4,m5,m6,m7,m8⟩:=q2;have hu8: ∀y∈xs,zty y=true:=λy hy=>List.all_eq_true.1 hk y hy
         have hfl:flat xs=xs:=zgz λy hy=>by
          have:=hu8 y hy;cases y <;> first | rfl | simp[zty]at this
         have hlt2:j2<xs.length:=by omega
         obtain⟨u,g1,g3,_⟩:=m8 j2 xs[j2] (by rw[hfl];simp[hlt2])
         have hcw:w.cell? ⟨b,j2,none⟩=some u:=by rw[zai m1];exact g1
         have hnM: ¬ Mut (zbg X ρ h1 []) (zat ρ []) [] b j2:=by
          rintro (hX | ⟨id',c',o',_,kk,_⟩)
          ·exact hn2' hX
          ·simp at kk
         have:=(S.fr.imm b j2 u hnM hcw).1;rw[hc2]at this;cases this;have hy:=hu8 _ (yar hlt2);generalize xs[j2]=y at g3 hy;cases g3 with
         |int k n=>cases k <;> first | exact⟨n,rfl⟩ | simp[zty]at hy
         |_=>simp[zty]at hy
      ·exact absurd (.inr hm1) hn1
     have S':Stp (zbg X ρ h []) (zat ρ []) [] w ρ3 hout w':=by
      refine⟨⟨S.rel.len,λid o ho=> ?_,λb j hX=>ybn (hlt b j hX) S.fr.size,λid b c j hid hX=> ?_,S.rel.inj⟩,⟨S.fr.os,S.fr.tape,S.fr.output,S.fr.size,S.fr.block,λb j v hnm hc=> ?_⟩,λid o r hid=>by simp at hid⟩
      ·obtain⟨r,g1,g3⟩:=S.rel.obj id o ho
       exact⟨r,g1,ztK hd (List.all_eq_true.1 hof o (yao ho)) g3⟩
      ·exact (S.fr.block b (hlt b j hX) (λk c' hk=>by simp[zat]at hk)).2 id c hid
      ·have hnX: ¬ zbg X ρ h [] b j:=λhX=>hnm (.inl hX)
       have hnM: ¬ Mut X ρ h b j:=by
        rintro (hX | ⟨id,c,o,k1,k2,k3⟩)
        ·exact hnX (.inl hX)
        ·exact hnX (.inr ⟨id,c,o,by simp,k1,k2,k3⟩)
       have hnM1:=(s1.fr.imm b j v hnM hc).2;obtain⟨e1,e2⟩:=S.fr.imm b j v (by
        rintro ((hX | ⟨id,c,o,_,k1,k2,k3⟩) | ⟨id,c,o,k1,k2,k3⟩)
        ·exact hnM1 (.inl hX)
        ·exact hnM1 (.inr ⟨id,c,o,k1,k2,k3⟩)
        ·simp at k2) hc
       refine⟨e1, ?_⟩
       rintro (hX | hX)
       ·exact hnX hX
       ·exact e2 (.inr hX)
     obtain⟨S4,R4⟩:=zhy H hn ht S' hmo;have e4:zbk ρ [] ρ3++ρ3.drop ([]:List Nat).length=ρ++ρ3:=by simp[zbk]
     have e5:zbk h [] hout2++hout2.drop ([]:List Nat).length=h++hout2:=by simp[zbk]
     rw[e4,e5]at S4 R4;refine⟨_,rv,rfl,S4, ?_⟩;obtain⟨e1,e2⟩:=zaV hmr;have hu: ∀ (j:Nat) (R:V),rets2[j]? =some R-> ∃u,us[j]? =some u/\V2 X (ρ++ρ3) (h++hout2) w' u R:=λj R hj=>by
      obtain⟨A,hA,hAr⟩:=e2 j R hj;obtain⟨u,hu1,hu2⟩:=l2 j A hA;refine⟨u,hu1,V2.ren R4 (zyV hd (List.all_eq_true.1 hrf A (yao hA)) hu2) (zmc (λvs e=> ?_) hAr)⟩
      subst e;exact hu2.elim
     have hl:us.length=rets2.length:=by omega
     subst l3
     match us,rets2,hl,hu with
     |[],[],_,_=>exact⟨_,rfl,by simp,λj c hj=>by simp at hj⟩
     |[u],[R],_,hu=>
      obtain⟨u',h1,h2⟩:=hu 0 R (by simp)
      simp at h1;subst h1;exact h2.vrel
     |u::u'::us,R::R'::rets2,hl,hu=>
      exact⟨_,rfl,by simpa using hl,λj c hj=>by simpa using hu j c hj⟩
    ·cases hx
   ·cases hx
  ·cases hx
end
end Go.Am
namespace Go.Am
section
variable {X:Nat->Nat->Prop} {ρ ρ':Places} {h h':List Obj} {w w':World} {P:Program} {G:Nat->Option (List D)}
def zdp {f : FuncId} {fn : Func} (hf : P.funcs[f]? = some fn) (hname : (fn.name == "runtime.NumGoroutine") = false) (hb : fn.body.isNone = false) (args : Array Value) :
 (callFunc f args).run P w= .ok (.enter f args) w:=by
 simp only[callFunc,Sem.run_bind,run_program,Result.andThen_ok,hf,hname,hb,yaD,ybg,Sem.run_pure]
def zyW (X:Nat->Nat->Prop) (ρ:Places) (h:List Obj) (w:World) (a:Act) (dst:Option Tmp) (x:V) (h':List Obj) (K:Act->World->Prop):Prop:=
 ∀v ρ' w',Stp X ρ h w ρ' h' w'->zay X ρ' h' w' v x->K (a.put dst v) w'
def Fw (r:Option Nat):Fence:= { Fence.wide with round:=r }
def zgE {r:Option Nat} {o:Oper} (hnd: ∀c,o.op≠ .defer c) (f:Operand->Value):o.semAt (Fw r).round f=execOp f o:=by
 cases r with
 |none=>rfl
 |some l=>
  show Oper.semAt (some l) f o=_
  unfold Oper.semAt;split
  ·rename_i l' c e1 e2
   exact absurd e2 (hnd c)
  ·rfl
def zaB {r:Option Nat} {n:Nat} {o:Oper} {a:Act} {K:Act->World->Prop} {Q:Exit->Act->World->Prop} {x:V} {v:Value} (hnd: ∀c,o.op≠ .defer c) (hr:(execOp a.eval o).run P w= .ok (.value v) w') (hs:Stp X ρ h w ρ' h' w') (hv:zay X ρ' h' w' v x)
 (hk:zyW X ρ h w a o.dst x h' K):o.wpIn (Fw r) n P a w K Q:=by
 refine⟨λ_ _=>trivial, ?_⟩
 rw[zgE hnd,hr];exact hk v ρ' w' hs hv
def zdB {a:Act} {s:Slots} (hg:GRel X G ρ h w) (hs:SRel X ρ h w a.tmps s) (xs:List Operand):zbK X ρ h w (xs.map a.eval) (xs.map (ev G s)):=
 ⟨by simp,λj A hj=>by
   simp only[yax,yac]at hj ⊢;obtain⟨x,hx,rfl⟩:=hj;exact⟨_,⟨x,hx,rfl⟩,zi6 hg hs x⟩⟩
def znm {a:Act} {s:Slots} (hg:GRel X G ρ h w) (hs:SRel X ρ h w a.tmps s) (ps:List (Nat × Operand)) (j:Nat) (p:Nat × V) (hj:(ps.map λp=>(p.1,ev G s p.2))[j]? =some p):
 ∃u,(ps.map λp=>(p.1,a.eval p.2))[j]? =some (p.1,u)/\zay X ρ h w u p.2:=by
 simp only[yax,yac]at hj ⊢;obtain⟨q,hq,rfl⟩:=hj;exact⟨_,⟨q,hq,rfl⟩,zi6 hg hs q.2⟩
def zjr {a:Act} {s:Slots} (hg:GRel X G ρ h w) (hs:SRel X ρ h w a.tmps s) (x:Option Operand):
 (∀A,x.map (ev G s)=some A-> ∃v,x.map a.eval=some v/\zay X ρ h w v A)/\(x.map (ev G s)=none->x.map a.eval=none):=by
 cases x with
 |none=>exact⟨λA e=>(by cases e),λ_=>rfl⟩
 |some y=>exact⟨λA e=>(by simp only[yaF,yaa]at e;subst e;exact⟨_,rfl,zi6 hg hs y⟩),λe=>(by cases e)⟩
def zkD {b:Builtin} {ts:Array TypeId} {ty:TypeId} {cs:Array Bool} {args:List V} {vs:List Value} {x:V} (hx:zbA P h b ts.toList args=some (x,h')) (H:HRel X ρ h w) (ha:zbK X ρ h w vs args):
 ∃v ρ' w',(builtin b ts ty cs vs.toArray).run P w= .ok (.value v) w'/\Stp X ρ h w ρ' h' w'/\zay X ρ' h' w' v x:=by
 obtain⟨hl,hg⟩:=ha;unfold zbA at hx;split at hx
 ·rename_i t tr A Ar hts
  simp only[yac,yab]at hx;obtain⟨n,hn,rfl,rfl⟩:=hx;obtain⟨v,hv1,hv2⟩:=hg 0 A (by simp)
  have ht0:ts[0]? =some t:=by
   have:ts.toList[0]? =some t:=by rw[hts];rfl
   simpa using this
  have hr:=zrJ (ty:=ty) (ts:=ts) (vs:=vs.toArray) hn H hv2 ht0 (by simpa using hv1)
  exact⟨_,ρ,w,by simp[builtin,hr],Stp.refl H,.int _ _⟩
 ·rename_i t tx tr A B Ar hts
  obtain⟨s,hs1,hs2⟩:=hg 0 A (by simp)
  obtain⟨v,hv1,hv2⟩:=hg 1 B (by simp)
  have sc:=zo8 H hv2;obtain⟨u,ρ',w',hr,st,hu⟩:=zec (ty:=ty) hx sc.rel (sc.vrel hs2) (sc.vrel hv2);refine⟨u,ρ',w', ?_,sc.trans H st,hu⟩;have h0:ts[0]? =some t:=by
   have:ts.toList[0]? =some t:=by rw[hts];rfl
   simpa using this
  have h1:ts[1]? =some tx:=by
   have:ts.toList[1]? =some tx:=by rw[hts];rfl
   simpa using this
  have hap:(Builtin.append_ ts ty vs.toArray)=Builtin.append_ #[t,tx] ty #[s,v]:=by
   have e0:vs.toArray[0]? =some s:=by simpa using hs1
   have e1:vs.toArray[1]? =some v:=by simpa using hv1
   simp[Builtin.append_,h0,h1,e0,e1]
  simp[builtin,hap,hr]
 ·rename_i td t2 tr A B Ar hts
  obtain⟨v,hv1,hv2⟩:=hg 0 A (by simp)
  obtain⟨u,hu1,hu2⟩:=hg 1 B (by simp)
  have h0:ts[0]? =some td:=by
   have:ts.toList[0]? =some td:=by rw[hts];rfl
   simpa using this
  obtain⟨z,w',hr,st,hz⟩:=zo6 (ts:=ts) (ty:=ty) (vs:=vs.toArray) hx H hv2 hu2 h0 (by simpa using hv1) (by simpa using hu1)
  exact⟨z,ρ,w',by simp[builtin,hr],st,hz⟩
 ·rename_i t tr A Ar hts
  obtain⟨v,hv1,hv2⟩:=hg 0 A (by simp)
  have h0:ts[0]? =some t:=by
   have:ts.toList[0]? =some t:=by rw[hts];rfl
   simpa using this
  obtain⟨z,w',hr,st,hz⟩:=zni (ts:=ts) (ty:=ty) (vs:=vs.toArray) hx H hv2 h0 (by simpa using hv1)
  exact⟨z,ρ,w',by simp[builtin,hr],st,hz⟩
 ·rename_i A r
  simp only[yac,yab]at hx;obtain⟨z,hz,rfl,rfl⟩:=hx;obtain⟨v,hv1,hv2⟩:=hg 0 A (by simp)
  cases vs with
  |nil=>simp at hv1
  |cons v' vs=>
   simp at hv1;subst hv1;obtain⟨u,hu,hu2⟩:=zfX (P:=P) (g:=Builtin.min2) (λA B x v u h1 h2 h3=>zrK h1 h2 h3) r vs A z v' hz hv2 (by simpa using hl) λj c hj=>by simpa using hg (j+1) c (by simpa using hj)
   exact⟨u,ρ,w,by simp[builtin,Builtin.min_,hu],Stp.refl H,hu2⟩
 ·rename_i A r
  simp only[yac,yab]at hx;obtain⟨z,hz,rfl,rfl⟩:=hx;obtain⟨v,hv1,hv2⟩:=hg 0 A (by simp)
  cases vs with
  |nil=>simp at hv1
  |cons v' vs=>
   simp at hv1;subst hv1;obtain⟨u,hu,hu2⟩:=zfX (P:=P) (g:=Builtin.max2) (λA B x v u h1 h2 h3=>zrL h1 h2 h3) r vs A z v' hz hv2 (by simpa using hl) λj c hj=>by simpa using hg (j+1) c (by simpa using hj)
   exact⟨u,ρ,w,by simp[builtin,Builtin.max_,hu],Stp.refl H,hu2⟩
 ·cases hx
def za7 {x:Option V} {y:V} (hx:zcc h x=some (y,h')):x=some y/\h'=h:=by
 simp only[zcc,yac]at hx;obtain⟨v,hv,e⟩:=hx;cases e;exact⟨hv,rfl⟩
def zk5 {h:List Obj} {A:V} (hA: ∀vs,A≠ .tup vs):zkV h A=(zby h A).map λp=>(.d p.1,p.2):=by
 cases A with
 |tup vs=>exact absurd rfl (hA vs)
 |_=>rfl
def znn {v:Value} {A B:V} {h h':List Obj} (hc:zkV h A=some (B,h')) (H:HRel X ρ h w) (hv:zay X ρ h w v A):Stp X ρ h w ρ h' w/\zay X ρ h' w v B:=by
 have one: ∀ {A B:V},(zby h A).map (λp=>(V.d p.1,p.2))=some (B,h')->zay X ρ h w v A->Stp X ρ h w ρ h' w/\zay X ρ h' w v B:=λe hv=>by
  obtain⟨⟨x,h1⟩,hx,e⟩:=Option.map_eq_some_iff.1 e;simp only[yab]at e;obtain⟨rfl,rfl⟩:=e;exact zbI hx H hv
 cases A with
 |tup vs=>
  obtain⟨⟨xs,h1⟩,hx,e⟩:=Option.map_eq_some_iff.1 hc;simp only[yab]at e;obtain⟨rfl,rfl⟩:=e;obtain⟨us,rfl,u1,u2⟩:=hv;obtain⟨s,e1,r⟩:=zeD (ρ:=ρ) (w:=w) vs h (λj=>us.getD j undef) xs _ hx H λj c hj=>by
   obtain⟨u,u3,u4⟩:=u2 j c hj;rw[show us.getD j undef=u by simp[yap,u3]]
   cases c with
   |tup _=>exact u4.elim
   |_=>exact u4
  refine⟨s,us,rfl,by simp[e1,u1],λj c hj=> ?_⟩
  rw[yax,yac]at hj;obtain⟨x,hj,rfl⟩:=hj;have hlt:j<us.size:=by have:=lt_of_getElem? hj;omega
  exact⟨us[j],by simp[hlt],by
   have:=r j x hj;rw[show us.getD j undef=us[j] by simp[yap,hlt]]at this
   exact this⟩
 |_=>exact one ((zk5 λvs e=>by cases e).symm.trans hc) hv
def zgF {r:Option Nat} {n:Nat} {o:Oper} {a:Act} {K:Act->World->Prop} {Q:Exit->Act->World->Prop} {rf:Bool} {run:Run} {f:FuncId} {args:List V} {vs:List Value} {x:V} (hnd: ∀c,o.op≠ .defer c) (hrun:zdk P G run) (hhas:zcz P run)
 (hx:callWith rf run f args h=some (x,h')) (H:HRel X ρ h w) (hg:GRel X G ρ h w) (ha:zbK X ρ h w vs args) (hr:(execOp a.eval o).run P w=(callFunc f vs.toArray).run P w)
 (hk:zyW X ρ h w a o.dst x h' K):o.wpIn (Fw r) n P a w K Q:=by
 obtain⟨fn,h1,h2,h3⟩:=znk hhas hx;refine⟨λ_ _=>trivial, ?_⟩
 rw[zgE hnd,hr,zdp h1 h2 h3];refine⟨(λe=>by cases e),CallsIn.mono (F:=Fw r) (callsIn_wide.2 (zkB hrun hx H hg ha)) ?_⟩
 rintro e w' ⟨ρ',rv,rfl,st,hv⟩
 exact hk rv ρ' w' st hv
def zyX {r:Option Nat} {n:Nat} {o:Oper} {a:Act} {K:Act->World->Prop} {Q:Exit->Act->World->Prop} {run:Run} {f:FuncId} {args:List V} {vs:List Value} {x:V} (hnd: ∀c,o.op≠ .defer c) (hrun:zdk P G run) (hhas:zcz P run)
 (hx:callThaw run f args h=some (x,h')) (H:HRel X ρ h w) (hg:GRel X G ρ h w) (ha:zbK X ρ h w vs args) (hr:(execOp a.eval o).run P w=(callFunc f vs.toArray).run P w)
 (hk:zyW X ρ h w a o.dst x h' K):o.wpIn (Fw r) n P a w K Q:=by
 obtain⟨fn,h1,h2,h3⟩:=znl hhas hx;refine⟨λ_ _=>trivial, ?_⟩
 rw[zgE hnd,hr,zdp h1 h2 h3];refine⟨(λe=>by cases e),CallsIn.mono (F:=Fw r) (callsIn_wide.2 (zkC hrun hx H hg ha)) ?_⟩
 rintro e w' ⟨ρ',rv,rfl,st,hv⟩
 exact hk rv ρ' w' st hv
def zwx {r:Option Nat} {n:Nat} {o:Oper} {a:Act} {K:Act->World->Prop} {Q:Exit->Act->World->Prop} {run:Run} {f:FuncId} {args:List V} {vs:List Value} {x:V} (hnd: ∀c,o.op≠ .defer c) (hrun:zdk P G run) (hhas:zcz P run)
 (hx:callFresh run f args h=some (x,h')) (H:HRel X ρ h w) (hg:GRel X G ρ h w) (ha:zbK X ρ h w vs args) (hr:(execOp a.eval o).run P w=(callFunc f vs.toArray).run P w)
 (hk:zyW X ρ h w a o.dst x h' K):o.wpIn (Fw r) n P a w K Q:=by
 obtain⟨fn,h1,h2,h3⟩:=zmd hhas hx;refine⟨λ_ _=>trivial, ?_⟩
 rw[zgE hnd,hr,zdp h1 h2 h3];refine⟨(λe=>by cases e),CallsIn.mono (F:=Fw r) (callsIn_wide.2 (zjq hrun hx H hg ha)) ?_⟩
 rintro e w' ⟨ρ',rv,rfl,st,hv⟩
 exact hk rv ρ' w' st hv
def zno {r:Option Nat} {n:Nat} {run:Run} {s:Slots} {o:Oper} {a:Act} {x:V} {K:Act->World->Prop} {Q:Exit->Act->World->Prop} (hrun:zdk P G run) (hhas:zcz P run) (hx:opV P G run s h o=some (x,h')) (H:HRel X ρ h w) (hg:GRel X G ρ h w)
 (hs:SRel X ρ h w a.tmps s) (hk:zyW X ρ h w a o.dst x h' K):o.wpIn (Fw r) n P a w K Q:=by
 have E:=λy=>zi6 hg hs y
 have hnd: ∀c,o.op≠ .defer c:=λc e=>by simp[opV,e]at hx
 unfold opV at hx;split at hx
 ·rename_i y ho
  simp only[yaa,yab]at hx;obtain⟨rfl,rfl⟩:=hx;exact zaB hnd (by simp[execOp,ho]) (Stp.refl H) (E y) hk
 ·rename_i y ho
  simp only[yaa,yab]at hx;obtain⟨rfl,rfl⟩:=hx;exact zaB hnd (by simp[execOp,ho]) (Stp.refl H) (E y) hk
 ·rename_i c y z ho
  obtain⟨hy,rfl⟩:=za7 hx;obtain⟨t,ht,hv⟩:=zo1 hy (E c) (E y) (E z);refine zaB (v:=if t then a.eval y else a.eval z) hnd ?_ (Stp.refl H) hv hk
  cases t <;> simp[execOp,ho,ht,asBool]
 ·rename_i t ho
  obtain⟨v,ρ',w',hr,st,hv⟩:=zng hx H;exact zaB hnd (by simp[execOp,ho,hr]) st hv hk
 ·rename_i t y ho
  split at hx
  ·rename_i hst
   simp only[yaa,yab]at hx;obtain⟨rfl,rfl⟩:=hx;obtain⟨v,ρ',w',hr,st,hv⟩:=ztF (P:=P) (t:=t) hst H (E y);exact zaB hnd (by simp[execOp,ho,hr]) st hv hk
  ·cases hx
 ·rename_i t parts ho
  obtain⟨hy,rfl⟩:=za7 hx;obtain⟨v,hr,hv⟩:=znf (rp:=parts.toList.map λp=>(p.1,a.eval p.2)) hy (by simp) (znm hg hs parts.toList)
  refine zaB hnd ?_ (Stp.refl H) hv hk;have e:(parts.map λ(i,x)=>(i,a.eval x))=(parts.toList.map λp=>(p.1,a.eval p.2)).toArray:=by
   apply ycn;simp
  simp only[execOp,ho,e,Sem.run_bind,hr,Result.andThen_ok,Sem.run_pure]
 ·rename_i t len parts ho
  obtain⟨v,ρ',w',hr,st,hv⟩:=zdU (rp:=parts.toList.map λp=>(p.1,a.eval p.2)) hx H (by simp) (znm hg hs parts.toList)
  refine zaB hnd ?_ st hv hk;have e:(parts.map λ(i,x)=>(i,a.eval x))=(parts.toList.map λp=>(p.1,a.eval p.2)).toArray:=by
   apply ycn;simp
  simp only[execOp,ho,e,Sem.run_bind,hr,Result.andThen_ok,Sem.run_pure]
 ·rename_i t y ho
  obtain⟨hy,rfl⟩:=za7 hx;obtain⟨v,hr,hv⟩:=zi7 hy H (E y);exact zaB hnd (by simp[execOp,ho,hr]) (Stp.refl H) hv hk
 ·rename_i t y z ho
  simp only[yac,yab]at hx;obtain⟨h1,hx,rfl,rfl⟩:=hx;obtain⟨w',hr,st⟩:=znh hx H (E y) (E z);refine⟨λ_ _=>trivial, ?_⟩
  have:(execOp a.eval o).run P w= .ok .skip w':=by simp[execOp,ho,hr]
  rw[zgE hnd,this];exact hk undef ρ w' st ⟨#[],rfl,rfl,λj c hj=>by simp at hj⟩
 ·rename_i y ho
  obtain⟨rfl,⟨ad,hp⟩,hv⟩:=zjb hx (E y);exact zaB (v:=a.eval y) hnd (by simp[execOp,ho,hp]) (Stp.refl H) hv hk
 ·rename_i op t y z yT ho
  obtain⟨hy,rfl⟩:=za7 hx;simp only[yac]at hy;obtain⟨d,hd,rfl⟩:=hy;obtain⟨v,hr,hv⟩:=zrH (P:=P) (Xo:=y) (Yo:=z) hd (E y) (E z);refine zaB (x:= .d d) (v:=v) hnd ?_ (Stp.refl H) hv hk;simp only[execOp,ho];rw[Sem.run_bind,hr];rfl
 ·rename_i op t y ho
  obtain⟨hy,rfl⟩:=za7 hx;simp only[yac]at hy;obtain⟨d,hd,rfl⟩:=hy;obtain⟨v,hr,hv⟩:=ztC (P:=P) hd (E y);exact zaB (x:= .d d) (v:=v) hnd (by simp[execOp,ho,hr]) (Stp.refl H) hv hk
 ·rename_i src dst y ho
  obtain⟨v,ρ',w',hr,st,hv⟩:=zo5 hx H (E y);exact zaB hnd (by simp[execOp,ho,hr]) st hv hk
 ·rename_i t y ho
  obtain⟨st,v,hr,hv⟩:=zne hx H (E y);exact zaB hnd (by simp[execOp,ho,hr]) st hv hk
 ·rename_i f first captured ho
  split at hx
  ·rename_i hf
   simp only[yaa,yab]at hx;obtain⟨rfl,rfl⟩:=hx;simp only[yas,yaA,Array.isEmpty_iff]at hf;obtain⟨⟨hlt,rfl⟩,hpl⟩:=hf;have ha:=zdB hg hs captured.toList;have hv:zay X ρ h w (.func (.func f) #[] (captured.map a.eval)) (.clo f (captured.toList.map (ev G s))):=by
    refine⟨captured.map a.eval,by unfold zci;rw[yai hlt],by simp,λj c hj=> ?_⟩
    obtain⟨u,h1,h2⟩:=ha.2 j c hj;refine⟨u,by simpa using h1, ?_⟩
    have hc:=List.all_eq_true.1 hpl c (yao hj);cases c <;> first
     |exact h2
     |simp[V.plain]at hc
   exact zaB hnd (by simp[execOp,ho,Instr.makeFunc]) (Stp.refl H) hv hk
  ·cases hx
 ·rename_i t y z ho
  split at hx
  ·obtain⟨v,ρ',w',hr,st,hv⟩:=zjf hx H (E y) (E z)
   exact zaB hnd (by simp[execOp,ho,hr]) st hv hk
  ·obtain⟨v,ρ',w',hr,st,hv⟩:=ziD hx H (E y) (E z)
   exact zaB hnd (by simp[execOp,ho,hr]) st hv hk
 ·rename_i t y lo hi mx ho
  obtain⟨hy,rfl⟩:=za7 hx;obtain⟨v,hr,hv⟩:=znd (vlo:=lo.map a.eval) (vhi:=hi.map a.eval) (vmx:=mx.map a.eval) hy H (E y) (zjr hg hs lo).1 (zjr hg hs lo).2 (zjr hg hs hi).1 (zjr hg hs hi).2 (zjr hg hs mx).2;exact zaB hnd (by simp[execOp,ho,hr]) (Stp.refl H) hv hk
 ·rename_i t y f ho
  obtain⟨hy,rfl⟩:=za7 hx;obtain⟨v,hr,hv⟩:=ziB hy (E y);exact zaB hnd (by simp[execOp,ho,hr]) (Stp.refl H) hv hk
 ·rename_i t y f ho
  obtain⟨hy,rfl⟩:=za7 hx;obtain⟨v,hr,hv⟩:=zna hy (E y);exact zaB hnd (by simp[execOp,ho,hr]) (Stp.refl H) hv hk
 ·rename_i t y z ho
  obtain⟨hy,rfl⟩:=za7 hx;obtain⟨v,hr,hv⟩:=ziC hy H (E y) (E z);exact zaB hnd (by simp[execOp,ho,hr]) (Stp.refl H) hv hk
 ·rename_i t y z ho
  obtain⟨hy,rfl⟩:=za7 hx;obtain⟨v,hr,hv⟩:=znb hy (E y) (E z);exact zaB hnd (by simp[execOp,ho,hr]) (Stp.refl H) hv hk
 ·rename_i y xT t ok ho
  obtain⟨hy,rfl⟩:=za7 hx;obtain⟨v,hr,hv⟩:=zl9 (xT:=xT) hy (E y);exact zaB hnd (by simp[execOp,ho,hr]) (Stp.refl H) hv hk
 ·rename_i y i ho
  obtain⟨hy,rfl⟩:=za7 hx;obtain⟨v,hr,hv⟩:=zkz (P:=P) hy (E y);exact zaB hnd (by simp[execOp,ho,hr]) (Stp.refl H) hv hk
 ·rename_i t y ho
  obtain⟨v,ρ',w',hr,st,hv⟩:=zkA hx H (E y);exact zaB hnd (by simp[execOp,ho,hr]) st hv hk
 ·rename_i y ho
  obtain⟨v,ρ',w',hr,st,hv⟩:=zo7 (P:=P) (ty:=o.type) hx H (E y);exact zaB hnd (by simp[execOp,ho,hr]) st hv hk
 ·rename_i c ho
  have hargs:c.args.map a.eval=(c.args.toList.map a.eval).toArray:=by apply ycn;simp
  split at hx
  ·rename_i b hc
   obtain⟨v,ρ',w',hr,st,hv⟩:=zkD (ty:=o.type) (cs:=c.args.map fun | .const _=>true | _=>false) hx H (zdB hg hs c.args.toList)
   refine zaB hnd ?_ st hv hk;simp only[execOp,ho,resolve,hc,hargs];rw[Sem.run_bind,Sem.run_pure,Result.andThen_ok];exact hr
  ·cases hx
  ·rename_i f hc
   unfold calleeV at hx;split at hx
   ·rename_i g hf
    have hv:=E f;rw[hf]at hv;have hfv:a.eval f= .func (.func g) #[] #[]:=by
     generalize a.eval f=vf at hv;cases hv;rfl
    have hex:(execOp a.eval o).run P w=(callFunc g (c.args.toList.map a.eval).toArray).run P w:=by
     simp only[execOp,ho,resolve,hc,hfv,Deferred.ofValue,Sem.run_bind,Sem.run_pure,Result.andThen_ok,invoke,hargs];simp
    split at hx
    ·split at hx
     ·exact zgF hnd hrun hhas (zfN hx).1 H hg (zdB hg hs c.args.toList) hex hk
     split at hx
     ·obtain⟨q,hq,e⟩:=Option.map_eq_some_iff.1 hx
      simp only[yab]at e;obtain⟨rfl,rfl⟩:=e;split at hq
      ·exact zwx hnd hrun hhas hq H hg (zdB hg hs c.args.toList) hex λv ρ' w' st hv=>by
        have sc:=zdA (q.2.length - h.length) h.length st.rel;exact hk v ρ' w' (st.trans H sc) (sc.vrel hv)
      ·exact zgF hnd hrun hhas hq H hg (zdB hg hs c.args.toList) hex λv ρ' w' st hv=>by
        have sc:=zdA (q.2.length - h.length) h.length st.rel;exact hk v ρ' w' (st.trans H sc) (sc.vrel hv)
     split at hx
     ·obtain⟨q,hq,e⟩:=Option.bind_eq_some_iff.1 hx
      exact zgF hnd hrun hhas hq H hg (zdB hg hs c.args.toList) hex λv ρ' w' st hv=>by
       obtain⟨sc,hv'⟩:=znn e st.rel hv;exact hk v ρ' w' (st.trans H sc) hv'
     ·exact zyX hnd hrun hhas hx H hg (zdB hg hs c.args.toList) hex hk
    ·exact zgF hnd hrun hhas hx H hg (zdB hg hs c.args.toList) hex hk
   ·rename_i g caps hf
    split at hx
    case isFalse=>cases hx
    rename_i hlt9;have hv:=E f;rw[hf]at hv;obtain⟨us,hfv,u1,u2⟩:=hv;replace hfv:=hfv.fn hlt9;have ha:=zdB hg hs c.args.toList;refine zgF (vs:=c.args.toList.map a.eval++us.toList) hnd hrun hhas hx H hg ⟨by simp[u1],λj A hj=> ?_⟩ ?_ hk
    ·rcases ybF j (c.args.toList.map (ev G s)).length with hlt | hge
     ·rw[yan hlt]at hj
      rw[yan (by simpa using hlt)]
      exact ha.2 j A hj
     ·rw[yah hge]at hj
      rw[yah (by simpa using hge)]
      obtain⟨u,hu,hu2⟩:=u2 _ A hj;refine⟨u,by simpa using hu, ?_⟩
      have:V1 X ρ h w u A:=by
       cases A with
       |clo _ _=>exact hu2.elim
       |_=>exact hu2
      exact this.vrel
    ·simp only[execOp,ho,resolve,hc,hfv,Deferred.ofValue,Sem.run_bind,Sem.run_pure,Result.andThen_ok,invoke,hargs]
     congr 2;apply ycn;simp
   ·cases hx
 ·cases hx
end
end Go.Am
namespace Go.Am
section
variable (P:Program) (G:Nat->Option (List D)) (run:Run)
noncomputable def zdC (hint:List Nat) (hv:List Obj) (i:Nat) (s:Slots) (h:List Obj) (o:Oper):Option (V × List Obj):=
 if hint.contains i then zcc h (blindV P G run hv s o) else if hint.isEmpty || hv.isEmpty || zmT G hv s o || za1 hint i o then opV P G run s h o else none
noncomputable def zdV (all:List Oper) (hint:List Nat) (hv:List Obj) (i:Nat) (s:Slots) (h:List Obj):Option (Slots × List Obj):=
 match all[i]? with
 |none=>some (s,h)
 |some o=>
  obind (za5 all s o.guard) λw=>
  if w then
   obind (zdC P G run hint hv i s h o) λp=>some (zeB s o.dst p.1,p.2)
  else some (zeB s o.dst (.tup []),h)
noncomputable def zmf (all:List Oper) (hint:List Nat) (hv:List Obj):List Nat->Slots->List Obj->Option (Slots × List Obj)
 |[],s,h=>some (s,h)
 |i::l,s,h=>obind (zdV P G run all hint hv i s h) λp=>zmf all hint hv l p.1 p.2
def znp (all:List Oper) (hint:List Nat) (hv:List Obj): ∀ (zav:List Oper) (i:Nat) (s:Slots) (h:List Obj),(∀j,zav[j]? =all[i+j]?)->
 opsV P G run all hint hv i zav s h=zmf P G run all hint hv (List.range' i zav.length) s h
 |[],i,s,h,_=>by simp[opsV,zmf]
 |o::zav,i,s,h,hr=>by
  have h0:all[i]? =some o:=by have:=hr 0;simpa using this.symm
  have ih:=znp all hint hv zav (i+1);simp only[opsV,yad,ydf,zmf,zdV,h0,zdC];have hr': ∀j,zav[j]? =all[i+1+j]? :=λj=>by
   have:=hr (j+1);rw[yaP]at this;rw[this];congr 1;omega
  cases hw:za5 all s o.guard with
  |none=>rfl
  |some b=>
   cases b with
   |false=>simp only[obind,yaD,ybg];exact ih _ _ hr'
   |true=>
    simp only[obind,ybm];cases (if hint.contains i then zcc h (blindV P G run hv s o) else if hint.isEmpty || hv.isEmpty || zmT G hv s o || za1 hint i o then opV P G run s h o else none) with
    |none=>rfl
    |some p=>simp only;exact ih _ _ hr'
end
section
variable {X:Nat->Nat->Prop} {ρ ρ':Places} {h h':List Obj} {w w':World} {P:Program} {G:Nat->Option (List D)}
structure Seen (hv h:List Obj):Prop where
 box: ∀ (id:Nat) (cs:List V),hv[id]? =some (.box cs)->h[id]? =some (.box cs)
 noarr: ∀ (id sz:Nat) (xs:List D) (wm:Nat),hv[id]? ≠some (.arr sz xs wm)
def zgG: ∀ (h:List Obj) (id:Nat) (o:Obj),(zqf h)[id]? =some o->(∃cs,o= .box cs/\h[id]? =some (.box cs))\/o= .siter ⟨#[]⟩ 0
 |[],id,o,h=>by simp[zqf]at h
 |.box cs::h,0,o,e=>by simp only[zqf,yau,yaa]at e;exact .inl ⟨cs,e.symm,rfl⟩
 |.arr _ _ _::h,0,o,e=>by simp only[zqf,yau,yaa]at e;exact .inr e.symm
 |.siter _ _::h,0,o,e=>by simp only[zqf,yau,yaa]at e;exact .inr e.symm
 |.box cs::h,id+1,o,e=>by simpa using zgG h id o (by simpa[zqf]using e)
 |.arr _ _ _::h,id+1,o,e=>by simpa using zgG h id o (by simpa[zqf]using e)
 |.siter _ _::h,id+1,o,e=>by simpa using zgG h id o (by simpa[zqf]using e)
def zqm (h:List Obj):Seen [] h:=⟨λid cs e=>by simp at e,λid sz xs wm e=>by simp at e⟩
def ztL (h:List Obj):Seen (zqf h) h where
 box:=λid cs e=>by
  rcases zgG h id _ e with ⟨cs',h1,h2⟩ | h1
  ·cases h1;exact h2
  ·cases h1
 noarr:=λid sz xs wm e=>by
  rcases zgG h id _ e with ⟨cs',h1,_⟩ | h1
  ·cases h1
  ·cases h1
def znq (s:Slots): ∀ (m:List Nat) {l h:List Obj},Seen l h->Seen (zm4 s m l) h
 |[],_,_,S=>S
 |m::r,l,h,S=>by
  have S2:=znq s r S;unfold zm4;split
  ·split
   ·refine⟨λid cs e=> ?_,λid sz xs wm e=> ?_⟩
    ·rw[yb2]at e
     split at e
     ·split at e <;> cases e
     ·exact S2.box id cs e
    ·rw[yb2]at e
     split at e
     ·split at e <;> cases e
     ·exact S2.noarr id sz xs wm e
   ·exact S2
  ·exact S2
variable {hv:List Obj}
def zpa (S:Seen hv h) {t:TypeId} {A x:V} (hx:zgk P hv t A=some x):zgk P h t A=some x:=by
 cases A with
 |ptr id off=>
  simp only[zgk]at hx ⊢;cases e:hv[id]? with
  |none=>rw[e]at hx;cases hx
  |some o=>
   rw[e]at hx;cases o with
   |box cs=>rw[S.box id cs e];exact hx
   |arr _ _ _=>cases hx
   |siter _ _=>cases hx
 |eptr id n i off=>
  simp only[zgk]at hx;cases e:hv[id]? with
  |none=>rw[e]at hx;cases hx
  |some o=>
   rw[e]at hx;cases o with
   |arr _ _ _=>exact absurd e (S.noarr _ _ _ _)
   |_=>cases hx
 |_=>exact hx
def ziE (S:Seen hv h) {t:TypeId} {A I x:V} (hx:zch P hv t A I=some x):zch P h t A I=some x:=by
 unfold zch at hx ⊢;split at hx
 ·split at hx
  ·rename_i hn
   rw[yai hn];split at hx
   ·exact hx
   ·split at hx
    ·rename_i e1 e2;first | exact absurd e1 (S.noarr _ _ _ _) | exact absurd e2 (S.noarr _ _ _ _)
    ·cases hx
   ·split at hx
    ·rename_i e1 e2;first | exact absurd e1 (S.noarr _ _ _ _) | exact absurd e2 (S.noarr _ _ _ _)
    ·cases hx
   ·split at hx
    ·rename_i e1 e2
     simp only[S.box _ _ e1,e2];exact hx
    ·cases hx
   ·exact hx
   ·cases hx
  ·cases hx
 ·exact hx
 ·cases hx
def zrR (S:Seen hv h) {c:V} {x:D} (hx:ztw hv c=some x):ztw h c=some x:=by
 unfold ztw at hx ⊢;split at hx
 ·exact hx
 ·split at hx
  ·rename_i e;exact absurd e (S.noarr _ _ _ _)
  ·cases hx
 ·cases hx
def zk6 {α β:Type} {f g:α->Option β} (hfg: ∀a b,f a=some b->g a=some b): ∀ {l:List α} {r:List β},l.mapM f=some r->l.mapM g=some r
 |[],r,hr=>hr
 |x::l,r,hr=>by
  simp only[yaI,ybz,yaT,ybR,yaa]at hr ⊢;obtain⟨y,hy,ys,hys,e⟩:=hr;exact⟨y,hfg _ _ hy,ys,zk6 hfg hys,e⟩
def zjs (S:Seen hv h) {A:V} {xs:List D} (hx:elems? hv A=some xs):elems? h A=some xs:=by
 unfold elems? at hx ⊢;split at hx
 ·exact hx
 ·exact hx
 ·exact hx
 ·split at hx
  ·rename_i e;exact absurd e (S.noarr _ _ _ _)
  ·cases hx
 ·split at hx
  ·rename_i e;exact absurd e (S.noarr _ _ _ _)
  ·cases hx
 ·split at hx
  ·rename_i e
   simp only[S.box _ _ e];exact zk6 (λ_ _=>zrR S) hx
  ·cases hx
 ·cases hx
def zjt (S:Seen hv h) {src dst:TypeId} {A x:V} (hx:za0 P hv src dst A=some x):za0 P h src dst A=some x:=by
 unfold za0 at hx ⊢;split at hx
 ·exact hx
 ·exact hx
 ·split at hx
  ·rename_i he hxs
   rw[he,zjs S hxs];exact hx
  ·rename_i he hxs
   rw[he,zjs S hxs];exact hx
  ·cases hx
 ·cases hx
def zrS {src dst:TypeId} {A x:V} (hx:za0 P h src dst A=some x):zhp P h src dst A=some (x,h):=by
 unfold zhp;split
 ·rename_i e s hs hd
  simp[za0,hs,hd]at hx
 ·rename_i hs hd
  simp[za0,hs,hd]at hx
 ·rw[hx];rfl
def znr (S:Seen hv h) {t:TypeId} {A x:V} {lo hi mx:Option V} (hx:zh7 P hv t A lo hi mx=some x):zh7 P h t A lo hi mx=some x:=by
 unfold zh7 at hx ⊢;split at hx
 ·exact hx
 ·exact hx
 ·exact hx
 ·split at hx
  ·rename_i e1 e2;first | exact absurd e1 (S.noarr _ _ _ _) | exact absurd e2 (S.noarr _ _ _ _)
  ·cases hx
 ·split at hx
  ·rename_i e1 e2;first | exact absurd e1 (S.noarr _ _ _ _) | exact absurd e2 (S.noarr _ _ _ _)
  ·cases hx
 ·exact hx
 ·cases hx
def zrT (S:Seen hv h) {t:TypeId} {A:V} {n:Nat} (hx:zx1 P hv t A=some n):zx1 P h t A=some n:=by
 unfold zx1 at hx ⊢;split at hx
 ·exact hx
 ·exact hx
 ·exact hx
 ·split at hx
  ·rename_i e;exact absurd e (S.noarr _ _ _ _)
  ·cases hx
 ·exact hx
 ·split at hx
  ·rename_i e;exact absurd e (S.noarr _ _ _ _)
  ·cases hx
 ·split at hx
  ·rename_i e
   simp only[S.box _ _ e];exact hx
  ·cases hx
 ·exact hx
 ·exact hx
 ·cases hx
def zhz {rf:Bool}: ∀ {args:List V},zwj args=true->zcb rf h args=some (args,h)/\args.flatMap V.ids=[]/\ ∀f:Nat->Option Nat,args.mapM (V.ren f)=some args
 |[],_=>⟨rfl,rfl,λ_=>rfl⟩
 |.d x::r,ha=>by
  obtain⟨h1,h2,h3⟩:=zhz (rf:=rf) (args:=r) ha;have e:zfJ rf h (.d x)=some (.d x,h):=by simp[zfJ,zby,zaY]
  refine⟨by simp only[zcb,e,h1],by rw[yaY,h2];rfl,λf=> ?_⟩
  have e2:V.ren f (.d x)=some (.d x):=rfl;simp only[yaI,e2,h3 f];rfl
 |.nilS::_,ha | .arr _ _::_,ha | .sl _ _ _ _::_,ha | .emp::_,ha | .ptr _ _::_,ha | .eptr _ _ _ _::_,ha | .ro _::_,ha | .mp _::_,ha | .clo _ _::_,ha | .agg _::_,ha | .tup _::_,ha | .dead::_,ha=>by cases ha
def zpb {run:Run} {rf:Bool} {f:FuncId} {args:List V} {x:V} (hx:zfd run f args=some x):callWith rf run f args h=some (x,h):=by
 unfold zfd at hx;split at hx
 ·rename_i ha
  obtain⟨h1,h2,h3⟩:=zhz (h:=h) (rf:=rf) ha;cases hr:run f args [] with
  |none=>rw[hr]at hx;cases hx
  |some q=>
   obtain⟨rets,hout⟩:=q;rw[hr]at hx;simp only[obind]at hx;split at hx
   ·rename_i hq
    simp only[yas,List.isEmpty_iff]at hq;obtain⟨rfl,hd⟩:=hq;simp only[yaa]at hx;subst hx;obtain⟨-,-,h6⟩:=zhz (h:=h) (rf:=rf) hd;have hids:za8 h (zal [] (args.flatMap V.ids))=[]:=by
     rw[h2];simp[zal,za8,zfV]
    unfold callWith;rw[h1];simp only[hids];simp only[h3];have ht:zax h (zar []) []=some []:=rfl;rw[ht];simp only[hr,h6];simp[zbk]
   ·cases hx
 ·cases hx
def ztM (S:Seen hv h) {run:Run} {s:Slots} {o:Oper} {x:V} (hx:blindV P G run hv s o=some x):opV P G run s h o=some (x,h):=by
 unfold blindV at hx;unfold opV;split at hx
 ·rename_i t a ho;simp only[ho,zcc,zpa S hx,yaF]
 ·rename_i t a lo hi mx ho;simp only[ho,zcc,znr S hx,yaF]
 ·rename_i t a i ho;simp only[ho,zcc,ziE S hx,yaF]
 ·rename_i src dst a ho;simp only[ho,zrS (zjt S hx)]
 ·rename_i c ho
  split at hx
  ·rename_i t tr A Ar hc ht ha
   simp only[yac]at hx;obtain⟨n,hn,rfl⟩:=hx;simp only[ho,hc,ht,ha,zbA,zrT S hn,yaF]
  ·rename_i f _ hc
   split at hx
   ·rename_i g hg
    split at hx
    ·cases hx
    ·rename_i hth
     simp only[ho,hc,calleeV,hg,hth];exact zpb hx
   ·cases hx
  ·cases hx
 ·cases hx
def Seen.append (S:Seen hv h) (l:List Obj):Seen hv (h++l):=⟨λid cs e=>by
 have:=S.box id cs e;rw[yan (lt_of_getElem? this)];exact this,S.noarr⟩
def Seen.setArr (S:Seen hv h) {i sz:Nat} {xs:List D} {wm:Nat} (ho:h[i]? =some (.arr sz xs wm)) (o:Obj):Seen hv (h.set i o):=⟨λid cs e=>by
 have:=S.box id cs e
 by_cases hi:i=id
 ·subst hi;rw[ho]at this;cases this
 ·rw[ybq hi];exact this,S.noarr⟩
def Seen.setIter (S:Seen hv h) {i:Nat} {t:ByteArray} {p:Nat} (ho:h[i]? =some (.siter t p)) (o:Obj):Seen hv (h.set i o):=⟨λid cs e=>by
 have:=S.box id cs e
 by_cases hi:i=id
 ·subst hi;rw[ho]at this;cases this
 ·rw[ybq hi];exact this,S.noarr⟩
def zbY: ∀ {h h':List Obj},zas h h'-> ∀ (id:Nat) (cs:List V),h[id]? =some (.box cs)->h'[id]? =some (.box cs)
 |[],_,_,id,cs,e=>by simp at e
 |.box cs0::h,.box cs'::h',k,0,cs,e=>by
  simp only[zas]at k;simp only[yau,yaa,Obj.box.injEq]at e ⊢;rw[<- k.1,e]
 |.box cs0::h,.box cs'::h',k,id+1,cs,e=>by
  simp only[zas]at k;simpa using zbY k.2 id cs (by simpa using e)
 |.box _::_,[],k,_,_,_=>by simp[zas]at k
 |.box _::_,.arr _ _ _::_,k,_,_,_=>by simp[zas]at k
 |.box _::_,.siter _ _::_,k,_,_,_=>by simp[zas]at k
 |.arr _ _ _::h,o::h',k,0,cs,e=>by simp at e
 |.siter _ _::h,o::h',k,0,cs,e=>by simp at e
 |.arr _ _ _::h,o::h',k,id+1,cs,e=>by
  simp only[zas]at k;simpa using zbY k id cs (by simpa using e)
 |.siter _ _::h,o::h',k,id+1,cs,e=>by
  simp only[zas]at k;simpa using zbY k id cs (by simpa using e)
 |.arr _ _ _::h,[],k,0,cs,e=>by simp at e
 |.siter _ _::h,[],k,0,cs,e=>by simp at e
 |.arr _ _ _::h,[],k,id+1,cs,e=>by
  simp only[zas]at k;have:=zbY k id cs (by simpa using e)
  simp at this
 |.siter _ _::h,[],k,id+1,cs,e=>by
  simp only[zas]at k;have:=zbY k id cs (by simpa using e)
  simp at this
def ztN (k:zas h h') (S:Seen hv h):Seen hv h':=⟨λid cs e=>zbY k id cs (S.box id cs e),S.noarr⟩
def zhA {A:V} {x:D} (hp:zaY h A=some (x,h')) (S:Seen hv h):Seen hv h':=by
 cases A with
 |arr id n=>
  simp only[zaY]at hp;split at hp
  ·rename_i ho
   split at hp
   ·simp only[yaa,yab]at hp
    obtain⟨_,rfl⟩:=hp;exact S.setArr ho _
   ·cases hp
  ·cases hp
 |d x=>simp only[zaY,yaa,yab]at hp;obtain⟨_,rfl⟩:=hp;exact S
 |sl id tot off len=>
  simp only[zaY]at hp;split at hp
  ·rename_i ho
   split at hp
   ·simp only[yaa,yab]at hp
    obtain⟨_,rfl⟩:=hp;exact S.setArr ho _
   ·cases hp
  ·cases hp
 |emp=>simp only[zaY,yaa,yab]at hp;obtain⟨_,rfl⟩:=hp;exact S
 |nilS=>simp only[zaY,yaa,yab]at hp;obtain⟨_,rfl⟩:=hp;exact S
 |_=>simp[zaY]at hp
def zei: ∀ {cs:List V} {xs:List D} {h h':List Obj},zaH h cs=some (xs,h')->Seen hv h->Seen hv h'
 |[],xs,h,h',hp,S=>by simp only[zaH,yaa,yab]at hp;obtain⟨_,rfl⟩:=hp;exact S
 |c::cs,xs,h,h',hp,S=>by
  simp only[zaH]at hp;split at hp
  ·rename_i h1
   split at hp
   ·rename_i h2
    simp only[yaa,yab]at hp;obtain⟨_,rfl⟩:=hp;exact zei h2 (zhA h1 S)
   ·cases hp
  ·cases hp
def zc6 {A:V} {x:D} (hp:zby h A=some (x,h')) (S:Seen hv h):Seen hv h':=by
 unfold zby at hp;split at hp
 ·simp only[yac,yb8,yab]at hp
  obtain⟨xs,h1,hl,_,rfl⟩:=hp;exact zei hl S
 ·exact zhA hp S
def zf0: ∀ {cs:List V} {xs:List D} {h h':List Obj},zdO h cs=some (xs,h')->Seen hv h->Seen hv h'
 |[],xs,h,h',hp,S=>by simp only[zdO,yaa,yab]at hp;obtain⟨_,rfl⟩:=hp;exact S
 |c::cs,xs,h,h',hp,S=>by
  simp only[zdO]at hp;split at hp
  ·rename_i h1
   split at hp
   ·rename_i h2
    simp only[yaa,yab]at hp;obtain⟨_,rfl⟩:=hp;exact zf0 h2 (zc6 h1 S)
   ·cases hp
  ·cases hp
def zk7: ∀ {cs as:List V} {h h':List Obj},cs.all zaP=true->zcb false h cs=some (as,h')->Seen hv h->Seen hv h'/\as.flatMap V.ids=[]
 |[],as,h,h',_,hp,S=>by simp only[zcb,yaa,yab]at hp;obtain⟨rfl,rfl⟩:=hp;exact⟨S,rfl⟩
 |c::cs,as,h,h',hc,hp,S=>by
  simp only[ycj,yas]at hc;simp only[zcb]at hp;split at hp
  ·rename_i y h1 e1
   split at hp
   ·rename_i h2
    simp only[yaa,yab]at hp;obtain⟨rfl,rfl⟩:=hp;have key:Seen hv h1/\y.ids=[]:=by
     unfold zfJ at e1;split at e1
     ·simp only[yaD,ybg,yac,yb8,yab]at e1
      obtain⟨x,h3,hl,rfl,rfl⟩:=e1;exact⟨zc6 hl S,rfl⟩
     ·simp only[yaD,ybg,yac,yb8,yab]at e1
      obtain⟨x,h3,hl,rfl,rfl⟩:=e1;exact⟨zc6 hl S,rfl⟩
     ·simp[zaP]at hc
     ·simp[zaP]at hc
     ·simp[zaP]at hc
     ·simp only[yaa,yab]at e1;obtain⟨rfl,rfl⟩:=e1;exact⟨S,rfl⟩
     ·simp only[yac,yb8,yab]at e1
      obtain⟨x,h3,hl,rfl,rfl⟩:=e1;exact⟨zc6 hl S,rfl⟩
    obtain⟨k1,k2⟩:=zk7 hc.2 h2 key.1;exact⟨k1,by simp[key.2,k2]⟩
   ·cases hp
  ·cases hp
def zej {run:Run} {f:FuncId} {args:List V} {x:V} (ha:args.all zaP=true) (hx:callWith false run f args h=some (x,h')) (S:Seen hv h):Seen hv h':=by
 unfold callWith at hx;split at hx
 ·cases hx
 ·rename_i as h1 hargs
  obtain⟨S1,hids⟩:=zk7 ha hargs S;simp only[hids,zal]at hx;have hre:za8 h1 []=[]:=by simp[za8,zfV]
  rw[hre]at hx;split at hx
  ·split at hx
   ·split at hx
    ·simp only[yaa,yab]at hx
     obtain⟨_,rfl⟩:=hx;simp only[zbk];exact S1.append _
    ·cases hx
   ·cases hx
  ·cases hx
def zpc {A B:V} {h h':List Obj} (hc:zkV h A=some (B,h')) (S:Seen hv h):Seen hv h':=by
 cases A with
 |tup vs=>
  obtain⟨p,hx,e⟩:=Option.map_eq_some_iff.1 hc;simp only[yab]at e;obtain⟨_,rfl⟩:=e;exact zf0 hx S
 |_=>
  rw[zk5 λvs e=>by cases e]at hc
  obtain⟨p,hx,e⟩:=Option.map_eq_some_iff.1 hc;simp only[yab]at e;obtain⟨_,rfl⟩:=e;exact zc6 hx S
def zdD: ∀ (cs:List V) {h:List Obj},Seen hv h->Seen hv (za9 h cs).2
 |[],_,S=>S
 |c::cs,h,S=>by
  unfold za9;split
  ·rename_i hx
   split at hx
   ·exact zdD cs (zhA hx S)
   ·cases hx
  ·exact zdD cs S
def zpd {id:Nat} (S:Seen hv h) (hid: ∀cs,hv[id]? ≠some (.box cs)):Seen hv (zkU h id):=by
 unfold zkU;split
 ·have S2:=zdD (hv:=hv) ‹_› S
  exact⟨λi cs e=>by
   have hne:id≠i:=λe2=>hid cs (by rw[e2];exact e)
   rw[ybq hne];exact S2.box i cs e,S2.noarr⟩
 ·exact S
def zek: ∀ (m n:Nat) {h:List Obj},Seen hv h->(∀ (id:Nat) (cs:List V),hv[id]? =some (.box cs)->id<n)->Seen hv (zgn m n h)
 |0,_,_,S,_=>S
 |m+1,n,h,S,hn=>zek m (n+1) (zpd S λcs e=>absurd (hn n cs e) (ybv _)) λid cs e=>Nat.lt_succ_of_lt (hn id cs e)
def zmg {run:Run} {f:FuncId} {args:List V} {x:V} (hx:callThaw run f args h=some (x,h')) (S:Seen hv h):Seen hv h':=by
 unfold callThaw at hx;split at hx
 ·cases hx
 ·split at hx
  ·split at hx
   ·split at hx
    ·simp only[yaa,yab]at hx
     obtain⟨_,rfl⟩:=hx;exact S.append _
    ·cases hx
   ·cases hx
  ·cases hx
def zkE {run:Run} {f:FuncId} {args:List V} {x:V} (hx:callFresh run f args h=some (x,h')) (S:Seen hv h):Seen hv h':=by
 unfold callFresh at hx;split at hx
 ·cases hx
 ·split at hx
  ·split at hx
   ·split at hx
    ·simp only[yaa,yab]at hx
     obtain⟨_,rfl⟩:=hx;exact S.append _
    ·cases hx
   ·cases hx
  ·cases hx
def ziF {t:TypeId} {n:Nat} {parts:List (Nat × V)} {x:V} (hx:zbe P h t n parts=some (x,h')) (S:Seen hv h):Seen hv h':=by
 unfold zbe at hx;split at hx
 ·split at hx
  ·split at hx
   ·split at hx
    ·rename_i hp
     split at hx
     ·simp only[yaa,yab]at hx
      obtain⟨_,rfl⟩:=hx;exact (zf0 hp S).append _
     ·cases hx
    ·cases hx
   ·cases hx
  ·cases hx
 ·cases hx
def zns {ts tx:TypeId} {A B x:V} (hx:zda P h ts tx A B=some (x,h')) (S:Seen hv h):Seen hv h':=by
 unfold zda at hx;split at hx
 ·split at hx
  ·split at hx
   ·split at hx
    ·split at hx
     ·simp only[yaa,yab]at hx
      obtain⟨_,rfl⟩:=hx;exact S.append _
     ·cases hx
    ·split at hx
     ·rename_i ho
      split at hx
      ·simp only[yaa,yab]at hx
       obtain⟨_,rfl⟩:=hx;exact S.setArr ho _
      ·cases hx
     ·cases hx
    ·cases hx
   ·cases hx
  ·cases hx
 ·cases hx
def zk8 {id tot off:Nat} {ys:List D} (hx:zoU h id tot off ys=some h') (S:Seen hv h):Seen hv h':=by
 unfold zoU at hx;split at hx
 ·rename_i ho
  split at hx
  ·simp only[yaa]at hx;subst hx
   exact S.setArr ho _
  ·cases hx
 ·cases hx
def zrU {t:TypeId} {A B x:V} (hx:zrC P h t A B=some (x,h')) (S:Seen hv h):Seen hv h':=by
 unfold zrC at hx;split at hx
 ·split at hx
  ·split at hx
   ·split at hx
    ·simp only[yac,yab]at hx
     obtain⟨h1,ho,_,rfl⟩:=hx;exact zk8 ho S
    ·cases hx
   ·cases hx
  ·cases hx
 ·cases hx
def zpe {t:TypeId} {A x:V} (hx:zkT P h t A=some (x,h')) (S:Seen hv h):Seen hv h':=by
 unfold zkT at hx;split at hx
 ·split at hx
  ·split at hx
   ·split at hx
    ·simp only[yac,yab]at hx
     obtain⟨h1,ho,_,rfl⟩:=hx;exact zk8 ho S
    ·cases hx
   ·cases hx
  ·cases hx
 ·cases hx
def zwy {run:Run} {s:Slots} {o:Oper} {x:V} (hm:zmT G hv s o=true) (hx:opV P G run s h o=some (x,h')) (S:Seen hv h):Seen hv h':=by
 have hw: ∀ {y:Option V},zcc h y=some (x,h')->Seen hv h':=λ{y} e=>by
  cases y with
  |none=>cases e
  |some y=>simp only[zcc,yaF,yaa,yab]at e;rw[<- e.2];exact S
 cases ho:o.op with
 |move a | assign a=>
  simp only[opV,ho,yaa,yab]at hx;rw[<- hx.2];exact S
 |pick _ _ _ | binOp _ _ _ _ _ | unOp _ _ _ | fieldAddr _ _ _ | extract _ _ | field _ _ _ | index _ _ _ | typeAssert _ _ _ _ | build _ _ | load _ _ | slice _ _ _ _ _ | indexAddr _ _ _=>
  simp only[opV,ho]at hx;exact hw hx
 |nilCheck a=>
  simp only[opV,ho]at hx;cases hv':ev G s a <;> simp only[hv',zdR,yaa,yab,reduceCtorEq]at hx <;> (rw[<- hx.2];exact S)
 |alloc t=>
  simp only[opV,ho,zcK]at hx;split at hx
  ·split at hx
   ·simp only[yaa,yab]at hx;rw[<- hx.2];exact S.append _
   ·cases hx
  ·cases hx
 |box t a=>
  simp only[opV,ho]at hx;split at hx
  ·simp only[yaa,yab]at hx;rw[<- hx.2];exact S.append _
  ·cases hx
 |buildSlice _ _ _=>simp only[opV,ho]at hx;exact ziF hx S
 |convert src dst a=>
  simp only[opV,ho]at hx;unfold zhp at hx;split at hx
  ·split at hx
   ·split at hx
    ·simp only[yaa,yab]at hx;rw[<- hx.2];exact S.append _
    ·cases hx
   ·split at hx
    ·simp only[yaa,yab]at hx;rw[<- hx.2];exact S.append _
    ·cases hx
   ·cases hx
  ·split at hx
   ·split at hx
    ·simp only[yaa,yab]at hx;rw[<- hx.2];exact S
    ·cases hx
   ·cases hx
  ·simp only[yac,yab]at hx
   obtain⟨_,_,_,rfl⟩:=hx;exact S
 |makeInterface t a=>
  simp only[opV,ho,zm2]at hx;split at hx
  ·cases hx
  ·simp only[yac,yb8,yab]at hx
   obtain⟨y,h1,hp,_,rfl⟩:=hx;exact zc6 hp S
  ·cases hx
 |makeFunc fn first cap=>
  cases fn <;> simp only[opV,ho]at hx
  ·split at hx
   ·simp only[yaa,yab]at hx;rw[<- hx.2];exact S
   ·cases hx
  all_goals cases hx
 |makeSlice t l c=>
  simp only[opV,ho]at hx;split at hx
  ·unfold zdP at hx
   split at hx
   ·split at hx
    ·split at hx
     ·simp only[yaa,yab]at hx;rw[<- hx.2];exact S.append _
     ·cases hx
    ·cases hx
   ·cases hx
  ·unfold zc5 at hx
   split at hx
   ·split at hx
    ·split at hx
     ·simp only[yaa,yab]at hx;rw[<- hx.2];exact S.append _
     ·cases hx
    ·cases hx
   ·cases hx
 |range t a=>
  simp only[opV,ho,zgo]at hx;split at hx
  ·simp only[yaa,yab]at hx;rw[<- hx.2];exact S.append _
  ·cases hx
 |next a b=>
  cases b <;> simp only[opV,ho,reduceCtorEq]at hx;unfold zoX at hx;split at hx
  ·split at hx
   ·rename_i ho'
    simp only[yaa]at hx;unfold zgp at hx;split at hx
    ·simp only[yab]at hx;rw[<- hx.2];exact S.setIter ho' _
    ·simp only[yab]at hx;rw[<- hx.2];exact S
   ·cases hx
  ·cases hx
 |store t a y=>
  simp only[zmT,ho]at hm;simp only[opV,ho,yac,yab]at hx;obtain⟨h2,hs,_,rfl⟩:=hx;revert hm hs;cases ev G s a <;> intro hm hs <;> simp only[ztA,yaD]at hm;rename_i id off;have hn: ∀cs,hv[id]? ≠some (.box cs):=λcs e=>by rw[e]at hm;cases hm
  have hset: ∃o,h2=h.set id o:=by
   simp only[zmY]at hs;split at hs
   ·split at hs
    ·split at hs
     ·exact⟨_,(yaV hs).symm⟩
     ·cases hs
    ·cases hs
   ·cases hs
  obtain⟨o2,rfl⟩:=hset;exact⟨λid' cs e=>by
   have hne:id≠id':=λe2=>hn cs (by rw[e2];exact e)
   rw[ybq hne];exact S.box id' cs e,S.noarr⟩
 |call c=>
  simp only[opV,ho]at hx;simp only[zmT,ho]at hm;cases hc:c.callee with
  |invoke _ _=>rw[hc]at hx;cases hx
  |builtin b=>
   rw[hc]at hx;simp only at hx;unfold zbA at hx;split at hx
   ·simp only[yac,yab]at hx;obtain⟨_,_,_,rfl⟩:=hx;exact S
   ·refine zns hx ?_
    unfold zkw;split
    ·split
     ·split
      ·rename_i hp
       exact zei hp S
      ·exact S
     ·exact S
    ·exact S
   ·exact zrU hx S
   ·exact zpe hx S
   ·simp only[yac,yab]at hx;obtain⟨_,_,_,rfl⟩:=hx;exact S
   ·simp only[yac,yab]at hx;obtain⟨_,_,_,rfl⟩:=hx;exact S
   ·cases hx
  |value f=>
   rw[hc]at hx hm;simp only at hx hm;split at hm
   ·rename_i g hg
    rw[hg]at hx;simp only[calleeV]at hx;split at hx
    ·split at hx
     ·exact ztN (zfN hx).2 S
     split at hx
     ·rename_i hk _
      obtain⟨q,hq,e⟩:=Option.map_eq_some_iff.1 hx;simp only[yab]at e;obtain⟨_,rfl⟩:=e;split at hq
      ·exact zek _ _ (zkE hq S) λid cs e=>lt_of_getElem? (S.box id cs e)
      simp only[ybo,yas]at hm;have hm':=hm.resolve_right λh=>hk h.2
      have hb:zab G g=false:=by simpa using hm'.1
      rw[hb]at hq;exact zek _ _ (zej hm'.2 hq S) λid cs e=>lt_of_getElem? (S.box id cs e)
     split at hx
     ·rename_i hk _ _
      obtain⟨q,hq,e⟩:=Option.bind_eq_some_iff.1 hx;simp only[ybo,yas]at hm;have hm':=hm.resolve_right λh=>hk h.2
      have hb:zab G g=false:=by simpa using hm'.1
      rw[hb]at hq;exact zpc e (zej hm'.2 hq S)
     ·exact zmg hx S
    ·rename_i ht
     simp only[ybo,yas]at hm;have hm':=hm.resolve_right λh=>ht h.1
     have hb:zab G g=false:=by simpa using hm'.1
     rw[hb]at hx;exact zej hm'.2 hx S
   ·simp at hm
 |_=>simp[opV,ho]at hx
def zqn {tmps:Array Value} {d t:Nat} {v:Value} (hd:d<tmps.size):(tmps.setIfInBounds d v).getD t undef=if d=t then v else tmps.getD t undef:=by
 simp only[yap,Array.getElem?_setIfInBounds]
 by_cases e:d=t
 ·subst e;simp[hd]
 ·simp[e]
def SRel.put {a:Act} {s:Slots} {dst:Option Tmp} {v:Value} {x:V} (hs:SRel X ρ h w a.tmps s) (hv:zay X ρ h w v x) (hd: ∀d,dst=some d->d<a.tmps.size):SRel X ρ h w (a.put dst v).tmps (zeB s dst x):=by
 cases dst with
 |none=>exact hs
 |some d=>
  intro t;simp only[Act.put,zeB,zbE,zqn (hd d rfl)];split
  ·exact hv
  ·exact hs t
def zqo (a:Act) (dst:Option Tmp) (v:Value):(a.put dst v).tmps.size=a.tmps.size:=by
 cases dst <;> simp[Act.put]
def zk9 (a:Act) (dst:Option Tmp) (v:Value):(a.put dst v).defers=a.defers:=by
 cases dst <;> rfl
def zii {all:List Oper} {s:Slots} {a:Act} {o:Oper} {b:Bool} (hw:za5 all s o.guard=some b) (hs:SRel X ρ h w a.tmps s):Region.wanted o (yielded all.toArray a.tmps)=b:=by
 unfold za5 at hw;unfold Region.wanted;cases hgu:o.guard with
 |none=>rw[hgu]at hw;simpa using hw
 |some p=>
  obtain⟨j,want⟩:=p;rw[hgu]at hw;simp only at hw ⊢;have hy: ∀d,(all[j]?).bind (·.dst)=some d->yielded all.toArray a.tmps j=(match a.tmps[d]? with | some (.bool b)=>some b | _=>none):=λd hd=>by
   have e:((all.toArray[j]?).bind (·.dst)).bind (a.tmps[·]?)=a.tmps[d]? :=by rw[yc9,hd];rfl
   unfold yielded;rw[e];cases a.tmps[d]? with
   |none=>rfl
   |some v=>cases v <;> rfl
  split at hw
  ·rename_i hn
   simp only[yaa]at hw;subst hw;have:yielded all.toArray a.tmps j=none:=by simp[yielded,hn]
   rw[this];rfl
  ·rename_i d hd
   rw[hy d hd];have hr:=hs d;have hgd:a.tmps.getD d undef=(a.tmps[d]?).getD undef:=by simp[yap]
   rw[hgd]at hr;split at hw
   ·rename_i b' hb
    simp only[yaa]at hw;subst hw;rw[hb]at hr;cases ht:a.tmps[d]? with
    |none=>rw[ht]at hr;cases hr
    |some v=>
     rw[ht]at hr;simp only[ycH]at hr;cases hr;simp
   ·rename_i hb
    simp only[yaa]at hw;subst hw;rw[hb]at hr;obtain⟨us,hu,_⟩:=hr;cases ht:a.tmps[d]? with
    |none=>rfl
    |some v=>
     rw[ht]at hu;simp only[ycH]at hu;subst hu;rfl
   ·cases hw
structure St (X:Nat->Nat->Prop) (G:Nat->Option (List D)) (nt:Nat) (ρ:Places) (h:List Obj) (w:World) (a:Act) (s:Slots):Prop where
 rel:HRel X ρ h w
 glob:GRel X G ρ h w
 slots:SRel X ρ h w a.tmps s
 size:a.tmps.size=nt
def zju {r:Option Nat} {n:Nat} {run:Run} {nt:Nat} {all:List Oper} {hint:List Nat} {Q:Exit->Act->World->Prop} (hrun:zdk P G run) (hhas:zcz P run) (hdst: ∀o∈all, ∀d,o.dst=some d->d<nt)
 {i:Nat} {s s1:Slots} {h h1:List Obj} {a:Act} {K:Act->World->Prop} (hr:zdV P G run all hint hv i s h=some (s1,h1)) (S:St X G nt ρ h w a s) (hseen:hint.contains i=true->Seen hv h)
 (hk: ∀ρ1 a1 w1,Stp X ρ h w ρ1 h1 w1->St X G nt ρ1 h1 w1 a1 s1->a1.defers=a.defers->K a1 w1):wpOpIn (Fw r) n P all.toArray Q i K a w:=by
 unfold wpOpIn;simp only[zdV,zdC]at hr;have cont: ∀ (dst:Option Tmp) (x:V),(∀d,dst=some d->d<nt)->zeB s dst x=s1-> ∀v ρ' w',Stp X ρ h w ρ' h1 w'->zay X ρ' h1 w' v x->K (a.put dst v) w':=λdst x hd e v ρ1 w1 st hv=>
  hk ρ1 _ w1 st ⟨st.rel,S.glob.mono st.fr,e ▸ SRel.put (S.slots.mono st) hv (λd e=>by rw[S.size];exact hd d e),(zqo _ _ _).trans S.size⟩ (zk9 _ _ _)
 cases hi:all[i]? with
 |none=>
  rw[hi]at hr;have hi':all.toArray[i]? =none:=by simpa using hi
  rw[hi'];simp only[yaa,yab]at hr;obtain⟨rfl,rfl⟩:=hr;exact hk ρ a w (Stp.refl S.rel) S rfl
 |some o=>
  rw[hi]at hr;have hi':all.toArray[i]? =some o:=by simpa using hi
  rw[hi'];simp only at hr ⊢;have hd:=hdst o (yao hi);cases hw:za5 all s o.guard with
  |none=>rw[hw]at hr;cases hr
  |some b=>
   rw[hw]at hr;rw[zii hw S.slots];cases b with
   |false=>
    simp only[obind,yaD,ybg,yaa,yab]at hr ⊢;obtain⟨e,rfl⟩:=hr;exact⟨λ_ _=>trivial,cont o.dst (.tup []) hd e undef ρ w (Stp.refl S.rel) ⟨#[],rfl,rfl,λj c hj=>by simp at hj⟩⟩
   |true=>
    simp only[obind,ybm]at hr ⊢;have hop: ∀x,opV P G run s h o=some (x,h1)->zeB s o.dst x=s1->o.wpIn (Fw r) n P a w K Q:=λx hx e=>
     zno hrun hhas hx S.rel S.glob S.slots λv ρ1 w1 st hv=>cont o.dst x hd e v ρ1 w1 st hv
    cases hc:hint.contains i with
    |true=>
     rw[hc,yai rfl]at hr;cases hb:blindV P G run hv s o with
     |none=>rw[hb]at hr;cases hr
     |some x=>
      rw[hb]at hr;simp only[zcc,yaF,yaa,yab]at hr;obtain⟨e,rfl⟩:=hr;exact hop x (ztM (hseen hc) hb) e
    |false=>
     rw[hc,yaf (by decide)]at hr
     cases hm:(hint.isEmpty || hv.isEmpty || zmT G hv s o || za1 hint i o) with
     |false=>rw[hm,yaf (by decide)]at hr;cases hr
     |true=>
     rw[hm,yai rfl]at hr;cases hx:opV P G run s h o with
     |none=>rw[hx]at hr;cases hr
     |some p=>
      obtain⟨x,h2⟩:=p;rw[hx]at hr;simp only[yaa,yab]at hr;obtain⟨e,rfl⟩:=hr;exact hop x hx e
def zrV {run:Run} {all:List Oper} {hint:List Nat} {i:Nat} {s s1:Slots} {h1:List Obj} (hr:zdV P G run all hint hv i s h=some (s1,h1)) (hne:hint≠[]) (S:Seen hv h) (hl:hv=[]\/ ∀o,all[i]? =some o->za1 hint i o=false):Seen hv h1:=by
 simp only[zdV,zdC]at hr;cases hi:all[i]? with
 |none=>rw[hi]at hr;simp only[yaa,yab]at hr;rw[<- hr.2];exact S
 |some o=>
  rw[hi]at hr;simp only at hr;cases hw:za5 all s o.guard with
  |none=>rw[hw]at hr;cases hr
  |some b=>
   rw[hw]at hr;cases b with
   |false=>simp only[obind,yaD,ybg,yaa,yab]at hr;rw[<- hr.2];exact S
   |true=>
    simp only[obind,ybm]at hr;cases hc:hint.contains i with
    |true=>
     rw[hc,yai rfl]at hr;cases hb:blindV P G run hv s o with
     |none=>rw[hb]at hr;cases hr
     |some x=>rw[hb]at hr;simp only[zcc,yaF,yaa,yab]at hr;rw[<- hr.2];exact S
    |false=>
     rw[hc,yaf (by decide)]at hr
     cases hm:(hint.isEmpty || hv.isEmpty || zmT G hv s o || za1 hint i o) with
     |false=>rw[hm,yaf (by decide)]at hr;cases hr
     |true=>
     rw[hm,yai rfl]at hr;have hemp:hint.isEmpty=false:=by cases hint with | nil=>exact absurd rfl hne | cons _ _=>rfl
     rw[hemp,ydn]at hm;cases hv with
     |nil=>exact zqm _
     |cons o0 hv0=>
     rw[(hl.resolve_left (by simp)) o hi]at hm
     simp only[List.isEmpty_cons,ydn,Bool.or_false]at hm;cases hx:opV P G run s h o with
     |none=>rw[hx]at hr;cases hr
     |some p=>
      obtain⟨x,h2⟩:=p;rw[hx]at hr;simp only[yaa,yab]at hr;rw[<- hr.2];exact zwy hm hx S
def zla {r:Option Nat} {n:Nat} {run:Run} {nt:Nat} {all:List Oper} {Q:Exit->Act->World->Prop} (hrun:zdk P G run) (hhas:zcz P run) (hdst: ∀o∈all, ∀d,o.dst=some d->d<nt):
 ∀ (l:List Nat) (ρ:Places) (s:Slots) (h:List Obj) (a:Act) (w:World) (s':Slots) (h':List Obj),zmf P G run all [] hv l s h=some (s',h')->St X G nt ρ h w a s->
  (∀ρ' a' w',Stp X ρ h w ρ' h' w'->St X G nt ρ' h' w' a' s'->a'.defers=a.defers->Q .normal a' w')->wpOpsIn (Fw r) n P all.toArray Q l a w
 |[],ρ,s,h,a,w,s',h',hr,S,hq=>by
  simp only[zmf,yaa,yab]at hr;obtain⟨rfl,rfl⟩:=hr;exact hq ρ a w (Stp.refl S.rel) S rfl
 |i::l,ρ,s,h,a,w,s',h',hr,S,hq=>by
  rw[wpOpsIn_cons];simp only[zmf]at hr;cases hs:zdV P G run all [] hv i s h with
  |none=>rw[hs]at hr;cases hr
  |some p=>
   obtain⟨s1,h1⟩:=p;rw[hs]at hr;exact zju hrun hhas hdst hs S (λc=>by simp at c) fun ρ1 a1 w1 st S1 hd1=>
    zla hrun hhas hdst l ρ1 s1 h1 a1 w1 s' h' hr S1 fun ρ2 a2 w2 st2 S2 hd2=>hq ρ2 a2 w2 (st.trans S.rel st2) S2 (hd2.trans hd1)
end
end Go.Am
namespace Go.Am
section
variable {X:Nat->Nat->Prop} {ρ ρ':Places} {h h':List Obj} {w w':World} {P:Program} {G:Nat->Option (List D)}
def ztO (H:HRel X ρ h w) {id:Nat} {xs:List D} {v:Value} (ho:h[id]? =some (.arr 1 xs xs.length)) (hv:V0 X ρ h w v (.arr id xs.length)) (hn:0<xs.length) {rows:List V} (hl:rows.length=xs.length) {us:Nat->Value}
 (hc: ∀b cap,v= .slice (some ⟨b,0,none⟩) xs.length cap-> ∀ (j:Nat) (c:V),rows[j]? =some c->w.cell? ⟨b,j,none⟩=some (us j)/\zb3 (us j)/\V0 X ρ h w (us j) c):
 zay X ρ h w v (.clo 1000000000 (.arr id xs.length::rows)):=by
 have hr:=zi5 H ho rfl (v:=v) hv;obtain⟨hsl,sz,xs',wm,r,g1,g2,g3,g4⟩:=hv;rw[ho]at g1;cases g1;have hav:=g4 rfl;cases r with
 |none=>have:=hav.1;omega
 |some p=>
  obtain⟨b,cap⟩:=p;have hv':v= .slice (some ⟨b,0,none⟩) xs.length cap:=hav;subst hv';generalize hv0:Value.slice (some ⟨b,0,none⟩) xs.length cap=v0 at hr;cases hr with
  |nil a c hc0=>simp at hn
  |list b' off len cap' sz' _ vs e1 e2 e3 e4 e5=>
   simp only[Value.slice.injEq,yaa,Addr.mk.injEq,yc6]at hv0;obtain⟨⟨rfl,rfl⟩,rfl,rfl⟩:=hv0;have hsz:sz'=1:=by
    obtain⟨r,q1,q2⟩:=H.obj id _ ho;rw[g2]at q1;cases q1;obtain⟨_,cur,e,fz,m1,m2,m3,m4,m5,m6,m7,m8⟩:=q2;have hx:xs[0]? =some xs[0]:=yal hn;rw[<- e3 _ (yao hx),m6 _ (yao hx)]
   subst hsz;have hfl:(flat xs).length=xs.length:=by rw[zaA e3,ybU]
   refine⟨#[.slice (some ⟨b,0,none⟩) xs.length cap]++((List.range xs.length).map us).toArray, ?_,by simp[hl],λj c hj=> ?_⟩
   ·unfold zci
    rw[yaf (by decide),yai rfl]
    refine⟨by simp,b,cap,by simp,by simpa using e2,λj u hj=> ?_⟩
    have hlt:j<xs.length:=by
     have:=(Array.getElem?_eq_some_iff.1 hj).1;simp at this;omega
    have hu:u=us j:=by
     rw[ycq (by simp)]at hj
     simp[yaK hlt]at hj;exact hj.symm
    subst hu;obtain⟨k1,k2,k3⟩:=hc b cap rfl j rows[j] (by simp[show j<rows.length by omega])
    have:=(e4 j (flat xs)[j] (by simp[show j<(flat xs).length by omega])).2.1
    rw[yaO]at this;exact⟨k1,this,k2⟩
   ·cases j with
    |zero=>
     simp only[yau,yaa]at hj;subst hj;exact⟨_,by simp,hsl,1,xs,xs.length,_,ho,g2,yag _,λ_=>rfl⟩
    |succ j=>
     simp only[yaP]at hj;obtain⟨k1,k2,k3⟩:=hc b cap rfl j c hj;have hlt:=lt_of_getElem? hj;refine⟨us j, ?_,k3⟩;rw[ycq (by simp)]
     simp[yaK (show j<xs.length by omega)]
def ztP {t e:TypeId} {z:Value} {u v:Value} (hs:P.underlying t=some (.slice e)) (hsz:sizeOf? P e=some 1) (hz:zero? P e=some z) (hu:u.oneCell'=true) (hr:(Instr.buildSlice t 1 #[(0,u)]).run P w= .ok v w'):
 v= .slice (some ⟨w.heap.size,0,none⟩) 1 1/\w'.cell? ⟨w.heap.size,0,none⟩=some u:=by
 have huc:u.cells= #[u]:=Value.cells_one hu;obtain⟨us',f1,f2,_,f4⟩:=zma 1 [(0,u)] 0 ((Array.range (1*1)).map (z.cells[·% z.cells.size]!)) (λj p hj=>by
  cases j with
  |zero=>simp at hj;subst hj;exact⟨rfl,by rw[huc];rfl⟩
  |succ j=>simp at hj) (by simp)
 have h0:=f4 0 0 (0,u) u rfl (by rw[huc];rfl)
 have hrun:(Instr.buildSlice t 1 #[(0,u)]).run P w= .ok (.slice (some ⟨w.heap.size,0,none⟩) 1 1) (w.alloc (.cells us' e)):=by
  simp only[Instr.buildSlice,Sem.run_bind,run_underlying hs,Result.andThen_ok,zaC hsz];rw[yaf (by decide),yaf (by decide)]
  simp only[Sem.run_bind,zbb hz,Sem.run_pure,Result.andThen_ok];rw[f1];rfl
 rw[hrun]at hr;cases hr;exact⟨rfl,by rw[zai (heap_alloc_new w _)];simpa using h0⟩
def zlb {ts tx e:TypeId} {i:TypeInfo} {z:Value} {ty:TypeId} {n cap b2 cap2:Nat} {base:Option Addr} {u v:Value} (ht:P.underlying ts=some (.slice e)) (hi:P.info? e=some i) (h1:i.size=1) (hz:i.zero=some z) (hby:i.bytes<=65536)
 (hx: ∃d,P.underlying tx=some d/\ ∀k,d≠ .int k) (hn:n+1<2147483648) (hnc:n<=cap) (hu:u.oneCell'=true) (hc2:w.cell? ⟨b2,0,none⟩=some u)
 (hb:(base=none/\n=0/\cap=0)\/ ∃ (b:Nat) (cur:Array Value) (et:TypeId) (fz:Nat × Nat),base=some ⟨b,0,none⟩/\w.heap[b]? =some (.cells cur et fz)/\cur.size=cap/\zbt w b cur.size)
 (hr:(Builtin.append_ #[ts,tx] ty #[.slice base n cap,.slice (some ⟨b2,0,none⟩) 1 cap2]).run P w= .ok v w'):
 ∃b' cap',v= .slice (some ⟨b',0,none⟩) (n+1) cap'/\w'.cell? ⟨b',n,none⟩=some u/\ ∀ (b j:Nat),base=some ⟨b,0,none⟩->j<n->w'.cell? ⟨b',j,none⟩=w.cell? ⟨b,j,none⟩:=by
 have hlen: ∀w0:World,(Builtin.lenOf (.slice (some ⟨b2,0,none⟩) 1 cap2)).run P w0= .ok 1 w0:=λw0=>by simp[Builtin.lenOf]
 have hfirst: ∀w0:World,w0.cell? ⟨b2,0,none⟩=some u->(Builtin.firstCells i.size 1 (.slice (some ⟨b2,0,none⟩) 1 cap2)).run P w0= .ok ([u]:List Value).toArray w0:=λw0 h0=>
  run_firstCells_some (P:=P) w0 i.size 1 ⟨b2,0,none⟩ 1 cap2 [u] (by simp[h1]) λj x hj=>by
   cases j with
   |zero=>simp only[yau,yaa]at hj;subst hj;rw[Addr.add_lit];exact h0
   |succ j=>simp at hj
 by_cases hfit:n+1<=cap
 ·rcases hb with ⟨rfl,rfl,rfl⟩ | ⟨b,cur,et,fz,rfl,hb1,hb2,hb3⟩
  ·omega
  ·have hput:=zmb (P:=P) (o:=n) (vs:=[u]) hb1 (by simp;omega) hb3 (λx hx=>by simp at hx;subst hx;exact hu)
   have:=zcw (P:=P) (w:=w) (ty:=ty) (base:=some ⟨b,0,none⟩) (n:=n) (cap:=cap) (m:=1) (news:=[u]) ht hi hx hlen (hfirst w hc2) hfit (w':=w.setCells b n [u]) (λa ha=>by
    cases ha;rw[Addr.add_lit,h1,ybU,yaO];exact hput) (λe=>by cases e)
   rw[this]at hr;cases hr;obtain⟨cur',c1,c2⟩:=zbV b [u] n w cur et fz hb1 (by simp;omega)
   have hget: ∀j,cur'[j]? =if n<=j/\j<n+1 then [u][j - n]? else cur[j]? :=λj=>by
    have e:cur'[j]? =cur'.toList[j]? :=by simp
    rw[e,c2,zaz (by simp;omega)]
    simp
   refine⟨b,cap,rfl, ?_,λb0 j e hj=> ?_⟩
   ·rw[zai c1,hget,yai (by omega)];simp
   ·cases e
    rw[zai c1,hget,yaf (by omega),zai hb1]
 ·have hcn:cap=n:=by omega
  subst hcn;obtain⟨olds,ho1,ho2,ho3⟩: ∃olds:List Value,olds.length=cap/\(Builtin.firstCells i.size cap (.slice base cap cap)).run P w.drew= .ok olds.toArray w.drew/\ ∀ (b j:Nat),base=some ⟨b,0,none⟩->j<cap->olds[j]? =w.cell? ⟨b,j,none⟩:=by
   rcases hb with ⟨rfl,h0,-⟩ | ⟨b,cur,et,fz,rfl,hb1,hb2,hb3⟩
   ·subst h0;exact⟨[],rfl,by simp[Builtin.firstCells],λb j e=>by cases e⟩
   ·refine⟨cur.toList,by simpa using hb2,run_firstCells_some (P:=P) w.drew i.size cap ⟨b,0,none⟩ cap cap cur.toList (by simp[h1,hb2]) λj x hj=> ?_,λb0 j e hj=> ?_⟩
    ·rw[Addr.add_lit,World.cell?_drew,zai hb1,yaO];simpa using hj
    ·cases e;rw[zai hb1];simp
  have:=zcZ (P:=P) (w:=w) (ty:=ty) (base:=base) (n:=cap) (cap:=cap) (m:=1) (olds:=olds) (news:=[u]) ht hi hz hx hlen (hfirst w.drew (by rw[World.cell?_drew];exact hc2)) ho2 (by omega) (by omega) hby
  rw[this]at hr;cases hr;have hcell: ∀j,j<cap+1->(w.drew.alloc (.cells (olds.toArray++([u]:List Value).toArray++Builtin.zeroCells z.cells (grownCap w (cap+1) cap e - (cap+1))) e)).cell? ⟨w.heap.size,j,none⟩=(olds++[u])[j]? :=λj hj=>by
   rw[show w.heap.size=w.drew.heap.size from rfl,zai (heap_alloc_new w.drew _),ybN (by simp[ho1];omega)]
   simp
  refine⟨_,_,rfl, ?_,λb j e hj=> ?_⟩
  ·rw[hcell _ (by omega),yah (by omega)];simp[ho1]
  ·rw[hcell _ (by omega),yan (by omega)];exact ho3 b j e hj
def ztQ {v:Value} {a r:V} (hv:zay X ρ h w v (.clo 1000000000 [a,r])): ∃b2 cap2 u,v= .slice (some ⟨b2,0,none⟩) 1 cap2/\w.cell? ⟨b2,0,none⟩=some u/\ ¬ Mut X ρ h b2 0/\zb3 u/\V0 X ρ h w u r/\1<=cap2:=by
 obtain⟨us,hcv,hl,he⟩:=hv;unfold zci at hcv;rw[yaf (by decide),yai rfl]at hcv
 obtain⟨h1,b,cap,rfl,h3,h4⟩:=hcv;have hl2:us.size=2:=by simpa using hl
 obtain⟨u,e1,e2⟩:=he 1 r rfl;obtain⟨k1,k2,k3⟩:=h4 0 u e1;exact⟨b,cap,u,by rw[hl2],k1,k2,k3,e2,by omega⟩
def ztR {v:Value} {b2 cap2:Nat} {u:Value} (hv:v= .slice (some ⟨b2,0,none⟩) 1 cap2) (hc:w.cell? ⟨b2,0,none⟩=some u) (hm: ¬ Mut X ρ h b2 0) (hu:zb3 u) (hcap:1<=cap2):zay X ρ h w v (.d (.list [.nilM])):=by
 subst hv;obtain⟨a,l,c,rfl⟩:=hu;refine .list b2 0 1 cap2 1 [.nilM] (λ_=> .slice a l c) rfl hcap (by simp[D.cells]) (λj x hj=> ?_) λj x hj=> ?_
 ·cases j with
  |zero=>simp[flat,D.cells]at hj;subst hj;exact⟨hc,hm,rfl⟩
  |succ j=>simp[flat,D.cells]at hj
 ·cases j with
  |zero=>simp[flat,D.cells]at hj;subst hj;exact .any _ rfl
  |succ j=>simp[flat,D.cells]at hj
def ztS {t:TypeId} {len id m:Nat} (hb:zbe P h t len [(0,.d .nilM)]=some (.arr id m,h')):
 ∃e z,P.underlying t=some (.slice e)/\sizeOf? P e=some 1/\zero? P e=some z/\len=1/\id=h.length/\h'=h++[.arr 1 [.nilM] 0]:=by
 unfold zbe at hb;split at hb
 ·rename_i e hs
  split at hb
  ·rename_i sz z hsz hz
   split at hb
   ·rename_i hc
    obtain⟨c1,c2,c3,c4⟩:=hc;have hp:zdO h (([(0,.d .nilM)]:List (Nat × V)).map (·.2))=some ([.nilM],h):=rfl
    rw[hp]at hb;simp only at hb;split at hb
    ·rename_i hall
     have:=zba hall .nilM (by simp)
     have hsz1:sz=1:=by simpa[D.cells]using this.symm
     subst hsz1;simp only[yaa,yab,V.arr.injEq]at hb;obtain⟨⟨rfl,_⟩,rfl⟩:=hb;exact⟨e,z,hs,hsz,hz,by simpa using c2.symm,rfl,rfl⟩
    ·cases hb
   ·cases hb
  ·cases hb
 ·cases hb
def zlc {ts tx:TypeId} {A x:V} (hb:zda P h ts tx A (.d (.list [.nilM]))=some (x,h')) (hA:A= .nilS\/ ∃id n xs wm,A= .arr id n/\h[id]? =some (.arr 1 xs wm)):
 ∃e i z,P.underlying ts=some (.slice e)/\P.info? e=some i/\i.zero=some z/\i.size=1/\i.bytes<=65536/\(∃d,P.underlying tx=some d/\ ∀k,d≠ .int k)/\
  (A= .nilS->x= .arr h.length 1/\h'=h++[.arr 1 [.nilM] 0])/\
  ∀id n xs wm,A= .arr id n->h[id]? =some (.arr 1 xs wm)->n=xs.length/\n+1<2147483648/\x= .arr id (n+1)/\h'=h.set id (.arr 1 (xs++[.nilM]) wm):=by
 unfold zda at hb;split at hb
 ·rename_i e ht
  split at hb
  ·rename_i i ys hi hsrc
   have hys:ys=[.nilM]/\ ∃d,P.underlying tx=some d/\ ∀k,d≠ .int k:=by
    unfold source? at hsrc;split at hsrc
    ·rename_i h1 h2;cases h2
    ·rename_i e' hx
     simp only[elems?,yaa]at hsrc;exact⟨hsrc.symm,_,hx,λk=>by simp⟩
    ·cases hsrc
   obtain⟨rfl,hd⟩:=hys;split at hb
   ·rename_i hcond
    obtain⟨hz,hsz,hby⟩:=hcond;simp only[yac]at hz;obtain⟨z,hz,hzsz⟩:=hz;rcases hA with rfl | ⟨id,n,xs,wm,rfl,ho⟩
    ·simp only at hb
     split at hb
     ·rename_i hc
      have:=zba hc.2 .nilM (by simp)
      have h1:i.size=1:=by simpa[D.cells]using this.symm
      simp only[yaa,yab]at hb;obtain⟨rfl,rfl⟩:=hb;exact⟨e,i,z,ht,hi,hz,h1,hby,hd,λ_=>⟨rfl,by rw[h1]⟩,λid n xs wm e=>by cases e⟩
     ·cases hb
    ·simp only[ho]at hb
     split at hb
     ·rename_i hc
      obtain⟨c1,c2,c3,c4⟩:=hc;simp only[yaa,yab]at hb;obtain⟨rfl,rfl⟩:=hb;refine⟨e,i,z,ht,hi,hz,c2.symm,hby,hd,(λe=>by cases e),λid' n' xs' wm' e ho'=> ?_⟩
      cases e;rw[ho]at ho';cases ho';exact⟨c1,c3,rfl,rfl⟩
     ·cases hb
   ·cases hb
  ·cases hb
 ·cases hb
def zBh {α β:Type} {f:α->β} {l:List α} {b:β} (h:l.map f=[b]): ∃q,l=[q]/\f q=b:=by
 match l,h with
 |[q],h=>exact⟨q,rfl,by simpa using h⟩
def zel {u:Value} (h:zb3 u):u.oneCell'=true:=by obtain⟨a,l,c,rfl⟩:=h;rfl
def zpf {r:Option Nat} {n:Nat} {s:Slots} {o:Oper} {a:Act} {x:V} {K:Act->World->Prop} {Q:Exit->Act->World->Prop} (hx:zi3 P G s h o=some (x,h')) (H:HRel X ρ h w) (hg:GRel X G ρ h w)
 (hs:SRel X ρ h w a.tmps s) (hk:zyW X ρ h w a o.dst x h' K):o.wpIn (Fw r) n P a w K Q:=by
 have E:=λy=>zi6 hg hs y
 unfold zi3 at hx;split at hx
 ·rename_i t len parts ho
  have hnd: ∀c,o.op≠ .defer c:=λc e=>by rw[ho]at e;cases e
  split at hx
  ·rename_i j m hp
   split at hx
   ·rename_i id h1 hb
    simp only[yaa,yab]at hx;obtain⟨rfl,rfl⟩:=hx;obtain⟨q,hq1,hq2⟩:=zBh hp;simp only[yab]at hq2;have hu:=E q.2;rw[hq2.2]at hu;have hu0:V0 X ρ h w (a.eval q.2) (.arr j m):=hu;have hsl:zb3 (a.eval q.2):=hu.1;obtain⟨v,ρ',w',hr,st,hv⟩:=zdU (rp:=[(0,a.eval q.2)]) hb H rfl λi p hj=>by
     cases i with
     |zero=>simp only[yau,yaa]at hj;subst hj;exact⟨_,rfl,.any _ (zel hsl)⟩
     |succ i=>simp at hj
    obtain⟨e,z,hs1,hsz,hz,rfl,rfl,rfl⟩:=ztS hb;obtain⟨hv',hcell⟩:=ztP hs1 hsz hz (zel hsl) hr;have ho1:(h++[Obj.arr 1 [D.nilM] 0])[h.length]? =some (.arr 1 [.nilM] 0):=by simp
    obtain⟨f1,f2,f3⟩:=zcd st.rel ho1;have sf:Stp X ρ' (h++[Obj.arr 1 [D.nilM] 0]) w' ρ' ((h++[Obj.arr 1 [D.nilM] 0]).set h.length (.arr 1 [.nilM] 1)) w':=⟨f1,f2,f3⟩;have hvt:=ztO (rows:=[.arr j m]) (us:=λ_=>a.eval q.2) sf.rel (id:=h.length) (xs:=[.nilM]) (v:=v) (by rw[yaR (by simp)];rfl) (sf.vrel hv) (by decide) rfl λb cap hvb i c hj=>by
     rw[hv']at hvb;simp only[Value.slice.injEq,yaa,Addr.mk.injEq,yc6]at hvb;obtain⟨rfl,_⟩:=hvb;cases i with
     |zero=>
      simp only[yau,yaa]at hj;subst hj;exact⟨hcell,hsl,(st.trans H sf).vrel hu⟩
     |succ i=>simp at hj
    refine zaB hnd ?_ (st.trans H sf) hvt hk;have ep:(parts.map λ(i,x)=>(i,a.eval x))= #[(0,a.eval q.2)]:=by
     apply ycn;simp only[Array.toList_map,hq1,ya1,yda];rw[<- hq2.1]
    simp only[execOp,ho,ep,Sem.run_bind,hr,Result.andThen_ok,Sem.run_pure]
   ·cases hx
  ·cases hx
 ·rename_i c ho
  have hnd: ∀c,o.op≠ .defer c:=λc e=>by rw[ho]at e;cases e
  have hargs:c.args.map a.eval=(c.args.toList.map a.eval).toArray:=by apply ycn;simp
  have hrel:=zdB hg hs c.args.toList;have call: ∀ {ts tx:TypeId} {s0 v0 u0:Value} {w1:World},c.callee= .builtin .append->c.argTypes.toList=[ts,tx]->(c.args.toList.map a.eval)=[s0,v0]->(Builtin.append_ #[ts,tx] o.type #[s0,v0]).run P w= .ok u0 w1->(execOp a.eval o).run P w= .ok (.value u0) w1:=by
   intro ts tx s0 v0 u0 w1 hc hts hvs hr;have h0:c.argTypes[0]? =some ts:=by
    have:c.argTypes.toList[0]? =some ts:=by rw[hts];rfl
    simpa using this
   have h1:c.argTypes[1]? =some tx:=by
    have:c.argTypes.toList[1]? =some tx:=by rw[hts];rfl
    simpa using this
   have hap:(Builtin.append_ c.argTypes o.type #[s0,v0])=Builtin.append_ #[ts,tx] o.type #[s0,v0]:=by
    simp[Builtin.append_,h0,h1]
   have hb:(builtin .append c.argTypes o.type (c.args.map fun | .const _=>true | _=>false) [s0,v0].toArray).run P w= .ok (.value u0) w1:=by simp[builtin,hap,hr]
   simp only[execOp,ho,resolve,hc,hargs,hvs];rw[Sem.run_bind,Sem.run_pure,Result.andThen_ok];exact hb
  have two: ∀ {A B:V},c.args.toList.map (ev G s)=[A,B]-> ∃s0 v0,c.args.toList.map a.eval=[s0,v0]/\zay X ρ h w s0 A/\zay X ρ h w v0 B:=by
   intro A B he;rw[he]at hrel;obtain⟨hl,hgx⟩:=hrel;obtain⟨s0,e0,r0⟩:=hgx 0 A rfl;obtain⟨v0,e1,r1⟩:=hgx 1 B rfl;generalize c.args.toList.map a.eval=L at*
   match L,hl,e0,e1 with
   |[p,q],_,e0,e1=>
    simp only[yau,yaP,yaa]at e0 e1;subst e0;subst e1;exact⟨p,q,rfl,r0,r1⟩
  split at hx
  ·rename_i ts tx f a2 rr hc hts hev
   split at hx
   ·rename_i hf
    subst hf;obtain⟨s0,v0,hvs,r0,r1⟩:=two hev;split at hx
    ·rename_i id h1 hb
     simp only[yaa,yab]at hx;obtain⟨rfl,rfl⟩:=hx;obtain⟨b2,cap2,u,rfl,k1,k2,k3,k4,k5⟩:=ztQ r1;obtain⟨e,i,z,ht,hi,hz,h1s,hby,hd,c1,-⟩:=zlc hb (.inl rfl);obtain⟨e1,rfl⟩:=c1 rfl;cases e1;have hs0:s0= .slice none 0 0:=r0;subst hs0;obtain⟨v,ρ',w',hr,st,hv⟩:=zec (ty:=o.type) hb H r0 (ztR rfl k1 k2 k3 k5);obtain⟨b',cap',hv',hcell,-⟩:=zlb (n:=0) (cap:=0) (base:=none) ht hi h1s hz hby hd (by decide) (yag _) (zel k3) k1 (.inl ⟨rfl,rfl,rfl⟩) hr
     have ho1:(h++[Obj.arr 1 [D.nilM] 0])[h.length]? =some (.arr 1 [.nilM] 0):=by simp
     obtain⟨f1,f2,f3⟩:=zcd st.rel ho1;have sf:Stp X ρ' (h++[Obj.arr 1 [D.nilM] 0]) w' ρ' ((h++[Obj.arr 1 [D.nilM] 0]).set h.length (.arr 1 [.nilM] 1)) w':=⟨f1,f2,f3⟩;have hvt:=ztO (rows:=[rr]) (us:=λ_=>u) sf.rel (id:=h.length) (xs:=[.nilM]) (v:=v) (by rw[yaR (by simp)];rfl) (sf.vrel hv) (by decide) rfl λb cap hvb i c hj=>by
      rw[hv']at hvb;simp only[Value.slice.injEq,yaa,Addr.mk.injEq,yc6]at hvb;obtain⟨rfl,_⟩:=hvb;cases i with
      |zero=>
       simp only[yau,yaa]at hj;subst hj;exact⟨hcell,k3,k4.mono (st.trans H sf).fr (st.trans H sf).evo⟩
      |succ i=>simp at hj
     exact zaB hnd (call hc hts hvs hr) (st.trans H sf) hvt hk
    ·cases hx
   ·cases hx
  ·rename_i ts tx g id m rows f a2 rr hc hts hev
   split at hx
   ·rename_i hf
    obtain⟨rfl,rfl,hm⟩:=hf;obtain⟨s0,v0,hvs,r0,r1⟩:=two hev;split at hx
    ·rename_i sz xs wm hobj
     split at hx
     ·rename_i hc2
      obtain⟨rfl,hpos⟩:=hc2;split at hx
      ·rename_i x0 h1 hb
       simp only[yaa,yab]at hx;obtain⟨rfl,rfl⟩:=hx;obtain⟨b2,cap2,u,rfl,k1,k2,k3,k4,k5⟩:=ztQ r1;obtain⟨e,i,z,ht,hi,hz,h1s,hby,hd,-,c1⟩:=zlc hb (.inr ⟨id,m,xs,wm,rfl,hobj⟩);obtain⟨hmx,hbd,rfl,rfl⟩:=c1 id m xs wm rfl hobj
       -- the table as it was
       obtain⟨us,hcv,hul,he⟩:=r0;unfold zci at hcv;rw[yaf (by decide),yai rfl]at hcv
       obtain⟨hus0,b,cap,rfl,hcap,hcells⟩:=hcv;simp only[yad]at hul;obtain⟨u0,q1,q2⟩:=he 0 _ rfl;rw[hus0]at q1;cases q1;have q2':V0 X ρ h w _ (.arr id m):=q2;obtain⟨v,ρ',w',hr,st,hv⟩:=zec (ty:=o.type) hb H (s:= .slice (some ⟨b,0,none⟩) (us.size - 1) cap) q2' (ztR rfl k1 k2 k3 k5);obtain⟨-,sz2,xs2,wm2,pl,g1,g2,g3,g4⟩:=q2';rw[hobj]at g1;cases g1;have hav:=g4 hmx;have hlm:us.size - 1=m:=by omega
       rw[hlm]at hr hav hcap;cases pl with
       |none=>have:=hav.1;omega
       |some pl=>
        obtain⟨b0,cap0⟩:=pl;simp only[zgr,Value.slice.injEq,yaa,Addr.mk.injEq,yc6]at hav;obtain⟨rfl,-,rfl⟩:=hav;obtain⟨pl,p1,p2⟩:=H.obj id _ hobj;rw[g2]at p1;cases p1;obtain⟨hwm,cur,et,fz,m1,m2,m3,m4,m5,m6,m7,m8⟩:=p2;obtain⟨b',cap',hv',hcell,hold⟩:=zlb (n:=m) (cap:=cap) (base:=some ⟨b,0,none⟩) ht hi h1s hz hby hd (by omega) hcap (zel k3) k1 (.inr ⟨b,cur,et,fz,rfl,m1,by rw[m2,ybU],m7⟩) hr
        have ho1:(h.set id (Obj.arr 1 (xs++[D.nilM]) wm))[id]? =some (.arr 1 (xs++[.nilM]) wm):=yaR (lt_of_getElem? hobj);obtain⟨f1,f2,f3⟩:=zcd st.rel ho1;have hlen1:(xs++[D.nilM]).length=m+1:=by simp[hmx]
        rw[hlen1]at f1 f2 f3;have e2:(h.set id (Obj.arr 1 (xs++[D.nilM]) wm)).set id (.arr 1 (xs++[.nilM]) (m+1))=h.set id (.arr 1 (xs++[.nilM]) (m+1)):=by simp
        rw[e2]at f1 f2 f3 hk;have sf:Stp X ρ' (h.set id (Obj.arr 1 (xs++[D.nilM]) wm)) w' ρ' (h.set id (.arr 1 (xs++[.nilM]) (m+1))) w':=⟨f1,f2,f3⟩;have hv2:V0 X ρ' (h.set id (.arr 1 (xs++[.nilM]) (m+1))) w' v (.arr id (xs++[D.nilM]).length):=by rw[hlen1];exact sf.vrel hv
        have hvt:=ztO (rows:=rows++[rr]) (us:=λj=>if j<m then us.getD (j+1) undef else u) sf.rel (id:=id) (xs:=xs++[.nilM]) (v:=v) (by rw[yaR (lt_of_getElem? hobj),hlen1]) hv2 (by rw[hlen1];omega) (by rw[hlen1,yae,<- hm];rfl) λbb cc hvb i c hj=>by
         rw[hv']at hvb;simp only[Value.slice.injEq,yaa,Addr.mk.injEq,yc6]at hvb;obtain⟨rfl,_⟩:=hvb;rcases ybF i rows.length with hlt | hge
         ·rw[yan hlt]at hj
          obtain⟨u1,y1,y2⟩:=he (i+1) c (by simpa using hj)
          obtain⟨z1,z2,z3⟩:=hcells i u1 y1;have hlt':i<m:=by omega
          simp only[yai hlt',yap,y1,ycH];refine⟨?_,z3,y2.mono (st.trans H sf).fr (st.trans H sf).evo⟩;rw[hold b i rfl hlt'];exact z1
         ·rw[yah hge]at hj
          have hi0:i=m:=by
           have:=lt_of_getElem? hj;simp at this;omega
          subst hi0;have:i - rows.length=0:=by omega
          rw[this]at hj;simp only[yau,yaa]at hj;subst hj;simp only[yaf (ybv i)];exact⟨hcell,k3,k4.mono (st.trans H sf).fr (st.trans H sf).evo⟩
        rw[hlen1]at hvt;rw[hlm]at hvs;exact zaB hnd (call hc hts hvs hr) (st.trans H sf) hvt hk
      ·cases hx
     ·cases hx
    ·cases hx
   ·cases hx
  ·cases hx
 ·cases hx
def zld {r:Option Nat} {n:Nat} {run:Run} {nt:Nat} {all:List Oper} {Q:Exit->Act->World->Prop} (hrun:zdk P G run) (hhas:zcz P run) (hdst: ∀o∈all, ∀d,o.dst=some d->d<nt):
 ∀ (zav:List Oper) (i:Nat) (ρ:Places) (s:Slots) (h:List Obj) (a:Act) (w:World) (s':Slots) (h':List Obj),(∀j,zav[j]? =all[i+j]?)->opsO P G run all zav s h=some (s',h')->St X G nt ρ h w a s->
  (∀ρ' a' w',Stp X ρ h w ρ' h' w'->St X G nt ρ' h' w' a' s'->a'.defers=a.defers->Q .normal a' w')->wpOpsIn (Fw r) n P all.toArray Q (List.range' i zav.length) a w
 |[],i,ρ,s,h,a,w,s',h',_,hr,S,hq=>by
  simp only[opsO,yaa,yab]at hr;obtain⟨rfl,rfl⟩:=hr;exact hq ρ a w (Stp.refl S.rel) S rfl
 |o::zav,i,ρ,s,h,a,w,s',h',hall,hr,S,hq=>by
  have hi:all[i]? =some o:=by have:=hall 0;simpa using this.symm
  have hi':all.toArray[i]? =some o:=by simpa using hi
  have hd:=hdst o (yao hi);have hall': ∀j,zav[j]? =all[i+1+j]? :=λj=>by
   have:=hall (j+1);rw[yaP]at this;rw[this];congr 1;omega
  rw[yad,ydf,wpOpsIn_cons];unfold wpOpIn;rw[hi'];simp only[opsO]at hr ⊢;have go: ∀ (x:V) (h1:List Obj),opsO P G run all zav (zeB s o.dst x) h1=some (s',h')->zyW X ρ h w a o.dst x h1 λa1 w1=>wpOpsIn (Fw r) n P all.toArray Q (List.range' (i+1) zav.length) a1 w1:=λx h1 hr1 v ρ1 w1 st hv=>
   zld hrun hhas hdst zav (i+1) ρ1 _ h1 _ w1 s' h' hall' hr1 ⟨st.rel,S.glob.mono st.fr,SRel.put (S.slots.mono st) hv (λd e=>by rw[S.size];exact hd d e),(zqo _ _ _).trans S.size⟩ fun ρ2 a2 w2 st2 S2 hd2=>hq ρ2 a2 w2 (st.trans S.rel st2) S2 (hd2.trans (zk9 _ _ _))
  cases hw:za5 all s o.guard with
  |none=>rw[hw]at hr;cases hr
  |some b=>
   rw[hw]at hr;rw[zii hw S.slots];cases b with
   |false=>
    simp only[obind,yaD,ybg]at hr ⊢;exact⟨λ_ _=>trivial,go (.tup []) h hr undef ρ w (Stp.refl S.rel) ⟨#[],rfl,rfl,λj c hj=>by simp at hj⟩⟩
   |true=>
    simp only[obind,ybm]at hr ⊢;cases hx:opM P G run s h o with
    |none=>rw[hx]at hr;cases hr
    |some p=>
     obtain⟨x,h1⟩:=p;rw[hx]at hr;simp only at hr;unfold opM at hx;cases he:zi3 P G s h o with
     |none=>
      rw[he]at hx;exact zno hrun hhas hx S.rel S.glob S.slots (go x h1 hr)
     |some q=>
      rw[he]at hx;cases hx;exact zpf he S.rel S.glob S.slots (go x h1 hr)
end
end Go.Am
namespace Go.Am
section
variable {P:Program} {G:Nat->Option (List D)} {run:Run}
def ztT {s s':Slots} (o:Oper) (h:List Obj) (he: ∀x∈o.op.operands,ev G s x=ev G s' x):opV P G run s h o=opV P G run s' h o:=by
 obtain⟨dst,op,type,pos,after,guard⟩:=o;have pairs: ∀ps:Array (Nat × Operand),(∀x∈ps.map (·.2),ev G s x=ev G s' x)->
  (ps.toList.map λp=>(p.1,ev G s p.2))=(ps.toList.map λp=>(p.1,ev G s' p.2)):=λps hp=>
  ya5 λp hm=>by
   obtain⟨i,x⟩:=p;simp only[hp x (Array.mem_map.2 ⟨(i,x),by simpa using hm,rfl⟩)]
 cases op <;> simp only[Op.operands]at he <;> simp only[opV]
 case build t ps=>rw[pairs ps λx hx=>he x (by simpa using hx)]
 case buildSlice t n ps=>rw[pairs ps λx hx=>he x (by simpa using hx)]
 case makeFunc fn first captured=>
  have:captured.toList.map (ev G s)=captured.toList.map (ev G s'):=ya5 λx hx=>he x (by simp only[Array.mem_append];exact .inr (by simpa using hx))
  cases fn <;> simp only[this]
 case call c=>
  have hargs:c.args.toList.map (ev G s)=c.args.toList.map (ev G s'):=ya5 λx hx=>he x (by simp only[Call.operands];simp;exact .inr (by simpa using hx))
  simp only[hargs];cases hc:c.callee with
  |value f=>have hf:ev G s f=ev G s' f:=he f (by simp[Call.operands,hc]);simp only[hf];rfl
  |invoke r m=>rfl
  |builtin b=>rfl
 case slice t x lo hi mx=>cases lo <;> cases hi <;> cases mx <;> simp_all
 case next it b=>
  have e:=he it (by simp)
  cases b
  ·rfl
  ·show zoX h (ev G s it)=zoX h (ev G s' it)
   rw[e]
 all_goals (first | rfl | (simp_all;done))
def znt {hv:List Obj} {s s':Slots} (o:Oper) (he: ∀x∈o.op.operands,ev G s x=ev G s' x):blindV P G run hv s o=blindV P G run hv s' o:=by
 obtain⟨dst,op,type,pos,after,guard⟩:=o;cases op <;> simp only[Op.operands]at he <;> simp only[blindV]
 case call c=>
  have hargs:c.args.toList.map (ev G s)=c.args.toList.map (ev G s'):=ya5 λx hx=>he x (by simp only[Call.operands];simp;exact .inr (by simpa using hx))
  cases hc:c.callee with
  |value f=>
   have hf:ev G s f=ev G s' f:=he f (by simp[Call.operands,hc])
   simp only[hargs,hf]
  |invoke r m=>simp only[hargs]
  |builtin b=>
   simp only[hargs];generalize List.map (ev G s') c.args.toList=l;generalize c.argTypes.toList=t;cases b <;> cases t <;> cases l <;> rfl
 case slice t x lo hi mx=>cases lo <;> cases hi <;> cases mx <;> simp_all
 all_goals (first | rfl | (simp_all;done))
def zrW {hv:List Obj} {s s':Slots} (o:Oper) (he: ∀x∈o.op.operands,ev G s x=ev G s' x):zmT G hv s o=zmT G hv s' o:=by
 unfold zmT;cases ho:o.op with
 |call c=>
  rw[ho]at he;simp only[Op.operands]at he;cases hc:c.callee with
  |value f=>
   have hf:ev G s f=ev G s' f:=he f (by simp[Call.operands,hc])
   have hargs:c.args.toList.map (ev G s)=c.args.toList.map (ev G s'):=ya5 λx hx=>he x (by simp only[Call.operands];simp;exact .inr (by simpa using hx))
   simp only[hc,hf,hargs]
  |invoke _ _=>simp only[hc]
  |builtin _=>simp only[hc]
 |store t a v=>
  rw[ho]at he;simp only[Op.operands]at he;simp only[he a (by simp)]
 |_=>rfl
def zjv {hint:List Nat} {hv:List Obj} {i:Nat} {s s':Slots} (o:Oper) (h:List Obj) (he: ∀x∈o.op.operands,ev G s x=ev G s' x):
 zdC P G run hint hv i s h o=zdC P G run hint hv i s' h o:=by
 unfold zdC;rw[ztT o h he,znt o he,zrW o he]
def Free (P:Program) (G:Nat->Option (List D)) (run:Run) (hint:List Nat) (hv:List Obj) (i:Nat) (o:Oper):Prop:=
 ∀s h x h1,zdC P G run hint hv i s h o=some (x,h1)->h1=h/\ ∀h',zdC P G run hint hv i s h' o=some (x,h')
def Quiet (P:Program) (G:Nat->Option (List D)) (run:Run) (hint:List Nat) (hv:List Obj) (i:Nat) (o:Oper):Prop:=
 ∀s h x h1,zdC P G run hint hv i s h o=some (x,h1)->h1=h
def zck {hint:List Nat} {hv:List Obj} {i:Nat} {o:Oper} (hc:hint.contains i=true):Free P G run hint hv i o:=by
 intro s h x h1 hx;unfold zdC at*;rw[yai hc]at hx;cases hb:blindV P G run hv s o with
 |none=>rw[hb]at hx;cases hx
 |some y=>
  rw[hb]at hx;simp only[zcc,yaF,yaa,yab]at hx;obtain⟨rfl,rfl⟩:=hx;exact⟨rfl,λh'=>by rw[yai hc];rfl⟩
def zle {h h1:List Obj} {y:Option V} {x:V} (hx:zcc h y=some (x,h1)):h1=h/\y=some x:=by
 cases y with
 |none=>cases hx
 |some y=>simp only[zcc,yaF,yaa,yab]at hx;exact⟨hx.2.symm,by rw[hx.1]⟩
def ztU {src dst:TypeId} {k:IntKind} (hd:P.underlying dst=some (.int k)) {A:V} {h h1:List Obj} {x:V} (hx:zhp P h src dst A=some (x,h1)):
 h1=h/\ ∀h',zhp P h' src dst A=some (x,h'):=by
 have e: ∀h,zhp P h src dst A=(za0 P h src dst A).map λx=>(x,h):=λh=>by
  unfold zhp;split
  ·rename_i hd';rw[hd]at hd';cases hd'
  ·rename_i hd';rw[hd]at hd';cases hd'
  ·rfl
 have r: ∀h h',za0 P h src dst A=za0 P h' src dst A:=λh h'=>by
  unfold za0;rw[hd];split <;> simp_all
 rw[e h]at hx;simp only[yac,yab]at hx;obtain⟨y,hy,rfl,rfl⟩:=hx;exact⟨rfl,λh'=>by rw[e h',r h' h,hy];rfl⟩
def znu {src dst:TypeId} (hd:P.underlying dst=some .string) {A:V} {h h1:List Obj} {x:V} (hx:zhp P h src dst A=some (x,h1)):h1=h:=by
 unfold zhp at hx;split at hx
 ·rename_i hd';rw[hd]at hd';cases hd'
 ·rename_i hd';rw[hd]at hd';cases hd'
 ·simp only[yac,yab]at hx
  obtain⟨y,hy,rfl,rfl⟩:=hx;rfl
def zgH {b:Builtin} (hb:b= .min\/b= .max) {h h1:List Obj} {ts:List TypeId} {args:List V} {x:V} (hx:zbA P h b ts args=some (x,h1)):
 h1=h/\ ∀h',zbA P h' b ts args=some (x,h'):=by
 rcases hb with rfl | rfl <;> cases args with
 |nil=>simp[zbA]at hx
 |cons A Ar=>
  simp only[zbA,yac,yab]at hx ⊢;obtain⟨y,hy,rfl,rfl⟩:=hx;simp[hy]
def znv {h h1:List Obj} {ts:List TypeId} {args:List V} {x:V} (hx:zbA P h .len ts args=some (x,h1)):h1=h:=by
 cases ts with
 |nil=>simp[zbA]at hx
 |cons t ts=>
  cases args with
  |nil=>simp[zbA]at hx
  |cons A Ar=>
   simp only[zbA,yac,yab]at hx;obtain⟨y,hy,rfl,rfl⟩:=hx;rfl
def zlf {hint:List Nat} {hv:List Obj} {i:Nat} {o:Oper} (hc:zdz P o= .still):Free P G run hint hv i o:=by
 by_cases hh:hint.contains i=true
 ·exact zck hh
 intro s h x h1 hx;unfold zdC at*;rw[yaf hh]at hx;have hm:(hint.isEmpty || hv.isEmpty || zmT G hv s o || za1 hint i o)=true:=by
  by_cases hm:(hint.isEmpty || hv.isEmpty || zmT G hv s o || za1 hint i o)=true
  ·exact hm
  ·rw[yaf hm]at hx;cases hx
 rw[yai hm]at hx;simp only[yaf hh,yai hm];cases ho:o.op with
 |move a | assign a=>
  simp only[opV,ho,yaa,yab]at hx ⊢;obtain⟨rfl,rfl⟩:=hx;simp
 |pick _ _ _ | binOp _ _ _ _ _ | unOp _ _ _ | fieldAddr _ _ _ | extract _ _ | field _ _ _ | index _ _ _ | typeAssert _ _ _ _ | build _ _=>
  simp only[opV,ho]at hx ⊢;obtain⟨rfl,hy⟩:=zle hx;exact⟨rfl,λh'=>by rw[hy];rfl⟩
 |nilCheck a=>
  simp only[opV,ho]at hx ⊢;cases hv:ev G s a <;> simp only[hv,zdR,yaa,yab,reduceCtorEq]at hx ⊢ <;> (obtain⟨rfl,rfl⟩:=hx;simp)
 |convert src dst a=>
  simp only[opV,ho]at hx ⊢;simp only[zdz,ho]at hc;split at hc
  ·rename_i k hk;exact ztU hk hx
  ·cases hc
  ·cases hc
 |call c=>
  simp only[zdz,ho]at hc;simp only[opV,ho]at hx ⊢;split at hc
  ·cases hc
  ·rename_i hcc
   simp only[hcc]at hx ⊢;exact zgH (.inl rfl) hx
  ·rename_i hcc
   simp only[hcc]at hx ⊢;exact zgH (.inr rfl) hx
  ·cases hc
 |_=>simp[zdz,ho]at hc
def zjw {hint:List Nat} {hv:List Obj} {i:Nat} {o:Oper} (hc:zdz P o= .reads):Quiet P G run hint hv i o:=by
 by_cases hh:hint.contains i=true
 ·exact λs h x h1 hx=>(zck hh s h x h1 hx).1
 intro s h x h1 hx;unfold zdC at*;rw[yaf hh]at hx;have hm:(hint.isEmpty || hv.isEmpty || zmT G hv s o || za1 hint i o)=true:=by
  by_cases hm:(hint.isEmpty || hv.isEmpty || zmT G hv s o || za1 hint i o)=true
  ·exact hm
  ·rw[yaf hm]at hx;cases hx
 rw[yai hm]at hx;cases ho:o.op with
 |load _ _ | indexAddr _ _ _ | slice _ _ _ _ _=>
  simp only[opV,ho]at hx;exact (zle hx).1
 |convert src dst a=>
  simp only[opV,ho]at hx;simp only[zdz,ho]at hc;split at hc
  ·cases hc
  ·rename_i hk;exact znu hk hx
  ·cases hc
 |call c=>
  simp only[zdz,ho]at hc;simp only[opV,ho]at hx;split at hc
  ·rename_i hcc
   simp only[hcc]at hx;exact znv hx
  all_goals cases hc
 |_=>simp[zdz,ho]at hc
/-! ### two operations,one behind the other -/
def zeK (s:Slots) (dst:Option Tmp) (v:V) (t:Nat):zbE (zeB s dst v) t=if dst=some t then v else zbE s t:=by
 cases dst with
 |none=>simp[zeB]
 |some d=>
  simp only[zeB,zbE,yaa]
def SEq (s s':Slots):Prop:= ∀t,zbE s t=zbE s' t
def SEq.ev {s s':Slots} (e:SEq s s') (x:Operand):ev G s x=ev G s' x:=by
 cases x <;> first | rfl | exact e _
def SEq.put {s s':Slots} (e:SEq s s') (dst:Option Tmp) (v:V):SEq (zeB s dst v) (zeB s' dst v):=λt=>by
 rw[zeK,zeK,e t]
def zBi {ops:Array Oper} {o:Oper} {dst:Option Tmp} (hd: ∀d,dst=some d->d∉o.looksAt ops) (s:Slots) (v:V): ∀x∈o.op.operands,ev G (zeB s dst v) x=ev G s x:=by
 intro x hx;cases x with
 |tmp t=>
  show zbE _ t=zbE _ t
  rw[zeK,yaf];intro e;exact hd t e (yb0 _ (List.mem_filterMap.2 ⟨.tmp t,by simpa using hx,rfl⟩))
 |_=>rfl
def zmh {all:List Oper} {s s':Slots} (e:SEq s s') (g:Option (Nat × Bool)):za5 all s g=za5 all s' g:=by
 unfold za5;cases g with
 |none=>rfl
 |some p=>simp only[e _]
def zpg {all:List Oper} {o:Oper} {dst:Option Tmp} (hd: ∀d,dst=some d->d∉o.looksAt all.toArray) (s:Slots) (v:V):
 za5 all (zeB s dst v) o.guard=za5 all s o.guard:=by
 unfold za5;cases hg:o.guard with
 |none=>rfl
 |some p=>
  obtain⟨j,want⟩:=p;simp only;cases ht:(all[j]?).bind (·.dst) with
  |none=>rfl
  |some d=>
   simp only;rw[zeK,yaf];intro e;exact hd d e (by simp only[Oper.looksAt,hg,yc9,ht];simp)
def zph {all:List Oper} {hint:List Nat} {hv:List Obj} {i:Nat} {s s':Slots} {h:List Obj} (e:SEq s s') {s1:Slots} {h1:List Obj} (hr:zdV P G run all hint hv i s h=some (s1,h1)):
 ∃s1',zdV P G run all hint hv i s' h=some (s1',h1)/\SEq s1 s1':=by
 unfold zdV at*;cases hi:all[i]? with
 |none=>rw[hi]at hr;simp only[yaa,yab]at hr;obtain⟨rfl,rfl⟩:=hr;exact⟨s',rfl,e⟩
 |some o=>
  simp only[hi]at hr ⊢;rw[<- zmh e];cases hw:za5 all s o.guard with
  |none=>rw[hw]at hr;cases hr
  |some b=>
   rw[hw]at hr;cases b with
   |false=>
    simp only[obind,yaD,ybg,yaa,yab]at hr ⊢;obtain⟨rfl,rfl⟩:=hr;exact⟨_,⟨rfl,rfl⟩,e.put _ _⟩
   |true=>
    simp only[obind,ybm]at hr ⊢;rw[zjv o h (λx _=>e.ev x)]at hr
    cases hx:zdC P G run hint hv i s' h o with
    |none=>rw[hx]at hr;cases hr
    |some p=>
     rw[hx]at hr;simp only[yaa,yab]at hr ⊢;obtain⟨rfl,rfl⟩:=hr;exact⟨_,⟨rfl,rfl⟩,e.put _ _⟩
def zlg {all:List Oper} {hint:List Nat} {hv:List Obj}: ∀ (l:List Nat) {s s':Slots} {h:List Obj} (_:SEq s s') {s1:Slots} {h1:List Obj},zmf P G run all hint hv l s h=some (s1,h1)->
 ∃s1',zmf P G run all hint hv l s' h=some (s1',h1)/\SEq s1 s1'
 |[],s,s',h,e,s1,h1,hr=>by simp only[zmf,yaa,yab]at hr;obtain⟨rfl,rfl⟩:=hr;exact⟨s',rfl,e⟩
 |i::l,s,s',h,e,s1,h1,hr=>by
  simp only[zmf]at hr ⊢;cases hx:zdV P G run all hint hv i s h with
  |none=>rw[hx]at hr;cases hr
  |some p=>
   obtain⟨s2,h2⟩:=p;rw[hx]at hr;obtain⟨s2',hx',e'⟩:=zph e hx;rw[hx'];exact zlg l e' hr
def ztV {ops:Array Oper} {hint:List Nat} {hv:List Obj} {i:Nat} {o:Oper} {dst:Option Tmp} (hd: ∀d,dst=some d->d∉o.looksAt ops) (s:Slots) (v:V) (h:List Obj):
 zdC P G run hint hv i (zeB s dst v) h o=zdC P G run hint hv i s h o:=zjv o h (zBi hd s v)
def SEq.swap (s:Slots) {x y:Option Tmp} (v u:V) (hd: ∀d,x=some d->y≠some d):SEq (zeB (zeB s x v) y u) (zeB (zeB s y u) x v):=λt=>by
 simp only[zeK]
 by_cases h1:y=some t <;> by_cases h2:x=some t <;> simp only[h1,h2,ybm,ybg]
 exact absurd h1 (hd t h2)
noncomputable def zgI (P:Program) (G:Nat->Option (List D)) (run:Run) (all:List Oper) (hint:List Nat) (hv:List Obj) (i:Nat) (s:Slots) (h:List Obj) (o:Oper):Option (V × List Obj):=
 obind (za5 all s o.guard) λw=>if w then zdC P G run hint hv i s h o else some (.tup [],h)
def zfh {all:List Oper} {hint:List Nat} {hv:List Obj} {i:Nat} {o:Oper} (hi:all[i]? =some o) (s:Slots) (h:List Obj):
 zdV P G run all hint hv i s h=obind (zgI P G run all hint hv i s h o) λp=>some (zeB s o.dst p.1,p.2):=by
 unfold zdV zgI;simp only[hi];cases za5 all s o.guard with
 |none=>rfl
 |some b=>cases b <;> rfl
def znw {all:List Oper} {hint:List Nat} {hv:List Obj} {i:Nat} {o:Oper} {dst:Option Tmp} (hd: ∀d,dst=some d->d∉o.looksAt all.toArray) (s:Slots) (v:V) (h:List Obj):
 zgI P G run all hint hv i (zeB s dst v) h o=zgI P G run all hint hv i s h o:=by
 unfold zgI;rw[zpg hd,ztV hd]
def Free.core {all:List Oper} {hint:List Nat} {hv:List Obj} {i:Nat} {o:Oper} (hf:Free P G run hint hv i o) {s:Slots} {h h1:List Obj} {x:V} (hx:zgI P G run all hint hv i s h o=some (x,h1)):
 h1=h/\ ∀h',zgI P G run all hint hv i s h' o=some (x,h'):=by
 unfold zgI at*;cases hw:za5 all s o.guard with
 |none=>rw[hw]at hx;cases hx
 |some b=>
  rw[hw]at hx;cases b with
  |false=>
   simp only[obind,yaD,ybg,yaa,yab]at hx ⊢;exact⟨hx.2.symm,λ_=>⟨hx.1,trivial⟩⟩
  |true=>exact hf s h x h1 hx
def Quiet.core {all:List Oper} {hint:List Nat} {hv:List Obj} {i:Nat} {o:Oper} (hf:Quiet P G run hint hv i o) {s:Slots} {h h1:List Obj} {x:V} (hx:zgI P G run all hint hv i s h o=some (x,h1)):h1=h:=by
 unfold zgI at*;cases hw:za5 all s o.guard with
 |none=>rw[hw]at hx;cases hx
 |some b=>
  rw[hw]at hx;cases b with
  |false=>
   simp only[obind,yaD,ybg,yaa,yab]at hx;exact hx.2.symm
  |true=>exact hf s h x h1 hx
structure Indep (P:Program) (G:Nat->Option (List D)) (run:Run) (all:List Oper) (hint:List Nat) (hv:List Obj) (i j:Nat):Prop where
 two: ∃x y,all[i]? =some x/\all[j]? =some y/\x.apart all.toArray y=true/\
  (Free P G run hint hv i x\/Free P G run hint hv j y\/(Quiet P G run hint hv i x/\Quiet P G run hint hv j y))
def zrX {all:List Oper} {hint:List Nat} {hv:List Obj} {i j:Nat} (hf:zfe P hint all i j=true):Indep P G run all hint hv i j:=by
 unfold zfe at hf;split at hf
 ·rename_i x y hx hy
  simp only[yas]at hf;refine⟨x,y,hx,hy,hf.1.1, ?_⟩;have h2:=hf.1.2;split at h2
  ·rename_i h;exact .inl (zlf h)
  ·rename_i h _;exact .inr (.inl (zlf h))
  ·rename_i c1 c2;exact .inr (.inr ⟨zjw c1,zjw c2⟩)
  ·exact .inl (zck h2)
  ·exact .inr (.inl (zck h2))
  ·rw[ybo]at h2
   rcases h2 with h2 | h2
   ·exact .inl (zck h2)
   ·exact .inr (.inl (zck h2))
 ·cases hf
def swap {all:List Oper} {hint:List Nat} {hv:List Obj} {i j:Nat} (hf:Indep P G run all hint hv i j) {s s1 s2:Slots} {h h1 h2:List Obj}
 (hi:zdV P G run all hint hv i s h=some (s1,h1)) (hj:zdV P G run all hint hv j s1 h1=some (s2,h2)):
 ∃s1' h1' s2',zdV P G run all hint hv j s h=some (s1',h1')/\zdV P G run all hint hv i s1' h1'=some (s2',h2)/\SEq s2 s2':=by
 obtain⟨x,y,hx,hy,ha,hc⟩:=hf.two;obtain⟨a1,a2,a3⟩:=Oper.apart_spec ha;rw[zfh hx]at hi;rw[zfh hy]at hj;cases cx:zgI P G run all hint hv i s h x with
 |none=>rw[cx]at hi;cases hi
 |some p=>
  obtain⟨u,g1⟩:=p;rw[cx]at hi;simp only[obind,yaa,yab]at hi;obtain⟨rfl,rfl⟩:=hi;rw[znw a1]at hj;cases cy:zgI P G run all hint hv j s g1 y with
  |none=>rw[cy]at hj;cases hj
  |some q=>
   obtain⟨v,g2⟩:=q;rw[cy]at hj;simp only[obind,yaa,yab]at hj;obtain⟨rfl,rfl⟩:=hj;have key: ∃g,zgI P G run all hint hv j s h y=some (v,g)/\zgI P G run all hint hv i s g x=some (u,g2):=by
    rcases hc with hc | hc | ⟨hc,hd⟩
    ·obtain⟨rfl,hall⟩:=hc.core cx
     exact⟨g2,cy,hall g2⟩
    ·obtain⟨rfl,hall⟩:=hc.core cy
     exact⟨h,hall h,cx⟩
    ·have:=hc.core cx
     subst this;have:=hd.core cy;subst this;exact⟨g2,cy,cx⟩
   obtain⟨g,k1,k2⟩:=key;refine⟨zeB s y.dst v,g,zeB (zeB s y.dst v) x.dst u, ?_, ?_,SEq.swap s u v a2⟩
   ·rw[zfh hy,k1];rfl
   ·rw[zfh hx,znw a3,k2];rfl
def zlh {all:List Oper} {hint:List Nat} {hv:List Obj} {j:Nat}: ∀ (l1 l2:List Nat),(∀i∈l1,Indep P G run all hint hv i j)-> ∀ {s s2:Slots} {h h2:List Obj},
 zmf P G run all hint hv (l1++j::l2) s h=some (s2,h2)-> ∃s2',zmf P G run all hint hv (j::(l1++l2)) s h=some (s2',h2)/\SEq s2 s2'
 |[],l2,_,s,s2,h,h2,hr=>⟨s2,hr,λ_=>rfl⟩
 |i::l1,l2,hf,s,s2,h,h2,hr=>by
  simp only[ya4,zmf]at hr;cases hi:zdV P G run all hint hv i s h with
  |none=>rw[hi]at hr;cases hr
  |some p=>
   obtain⟨sa,ha⟩:=p;rw[hi]at hr;obtain⟨sb,hb,e1⟩:=zlh l1 l2 (λk hk=>hf k (ybb _ hk)) hr
   simp only[zmf]at hb;cases hj:zdV P G run all hint hv j sa ha with
   |none=>rw[hj]at hb;cases hb
   |some q=>
    obtain⟨sc,hc⟩:=q;rw[hj]at hb;obtain⟨t1,g1,t2,k1,k2,e2⟩:=swap (hf i (ybh ..)) hi hj;obtain⟨sd,hd,e3⟩:=zlg _ e2 hb;refine⟨sd, ?_,λt=>(e1 t).trans (e3 t)⟩
    simp only[ya4,zmf,k1,obind,k2];exact hd
/-! ### who must wait for whom -/
def zdE: ∀ (ops:List Oper) (acc:List (List Nat)), ∃l,zb6 ops acc=acc++l/\l.length=ops.length/\
 ∀ (j:Nat) (o:Oper),ops[j]? =some o->l.getD j []=o.after.toList.foldl (λs e=>if Region.binds .any e then zal (zal s [e.on]) ((acc++l.take j).getD e.on []) else s) []
 |[],acc=>⟨[],by simp[zb6],rfl,λj o hj=>by simp at hj⟩
 |o::r,acc=>by
  obtain⟨l,h1,h2,h3⟩:=zdE r (acc++[o.after.toList.foldl (λs e=>if Region.binds .any e then zal (zal s [e.on]) (acc.getD e.on []) else s) []])
  refine⟨_::l,by rw[zb6,h1,yam];rfl,by simp[h2],λj o' hj=> ?_⟩
  cases j with
  |zero=>simp only[yau,yaa]at hj;subst hj;simp
  |succ j=>
   simp only[yaP]at hj;have:=h3 j o' hj;simp only[ydp,ydq];rw[this,yam];rfl
def zcl {i:Nat}: ∀ {l acc:List Nat},i∈zal acc l↔i∈acc\/i∈l
 |[],acc=>by simp[zal]
 |x::l,acc=>by
  simp only[zal];split
  ·rename_i hc
   rw[zcl];simp only[ybA];have:x∈acc:=by simpa using hc
   constructor
   ·rintro (h | h);exact .inl h;exact .inr (.inr h)
   ·rintro (h | rfl | h);exact .inl h;exact .inl this;exact .inr h
  ·rw[zcl]
   simp only[ycr,ybA,ycI,or_false,or_assoc]
def zwz {after:List Edge} {f:Nat->List Nat} {i:Nat}: ∀ (s:List Nat),i∈after.foldl (λs e=>if Region.binds .any e then zal (zal s [e.on]) (f e.on) else s) s->
 i∈s\/ ∃e∈after,Region.binds .any e=true/\(i=e.on\/i∈f e.on):=by
 induction after with
 |nil=>intro s hi;exact .inl hi
 |cons e after ih=>
  intro s hi;simp only[yba]at hi;rcases ih _ hi with h | ⟨e',he',h⟩
  ·by_cases hb:Region.binds .any e=true
   ·rw[yai hb]at h
    rcases zcl.1 h with h | h
    ·rcases zcl.1 h with h | h
     ·exact .inl h
     ·exact .inr ⟨e,ybh ..,hb,.inl (by simpa using h)⟩
    ·exact .inr ⟨e,ybh ..,hb,.inr h⟩
   ·rw[yaf hb]at h;exact .inl h
  ·exact .inr ⟨e',ybb _ he',h⟩
def zwA {after:List Edge} {f:Nat->List Nat} {e:Edge} (he:e∈after) (hb:Region.binds .any e=true): ∀ (s:List Nat),e.on∈after.foldl (λs e=>if Region.binds .any e then zal (zal s [e.on]) (f e.on) else s) s:=by
 have keep: ∀ (after:List Edge) (s:List Nat),e.on∈s->e.on∈after.foldl (λs e=>if Region.binds .any e then zal (zal s [e.on]) (f e.on) else s) s:=by
  intro after
  induction after with
  |nil=>intro s h;exact h
  |cons e' after ih=>
   intro s h;simp only[yba];apply ih;split
   ·exact zcl.2 (.inl (zcl.2 (.inl h)))
   ·exact h
 induction after with
 |nil=>cases he
 |cons e' after ih=>
  intro s;simp only[yba];rcases List.mem_cons.1 he with rfl | h
  ·apply keep
   rw[yai hb];exact zcl.2 (.inl (zcl.2 (.inr (List.mem_singleton.2 rfl))))
  ·exact ih h _
def zwB {ops:List Oper} {i j:Nat} {o:Oper} (hj:ops[j]? =some o) (hi:i∈(zb6 ops []).getD j []):
 ∃e∈o.after,Region.binds .any e=true/\(i=e.on\/(e.on<j/\i∈(zb6 ops []).getD e.on [])):=by
 obtain⟨l,h1,h2,h3⟩:=zdE ops [];rw[ybC]at h1;rw[h1]at hi ⊢;rw[h3 j o hj]at hi;rcases zwz (f:=λn=>([]++List.take j l).getD n []) _ hi with h | ⟨e,he,hb,h⟩
 ·cases h
 ·refine⟨e,by simpa using he,hb,h.imp id λh=> ?_⟩
  rw[ybC]at h
  by_cases hlt:e.on<j
  ·refine⟨hlt, ?_⟩
   simp only[yaw,yaU,hlt,ybm]at h ⊢;exact h
  ·simp[yaw,yaU,hlt]at h
def zwC {ops:List Oper} {j:Nat} {o:Oper} (hj:ops[j]? =some o) {e:Edge} (he:e∈o.after) (hb:Region.binds .any e=true):e.on∈(zb6 ops []).getD j []:=by
 obtain⟨l,h1,h2,h3⟩:=zdE ops [];rw[ybC]at h1;rw[h1,h3 j o hj];exact zwA (f:=λn=>([]++List.take j l).getD n []) (Array.mem_toList_iff.2 he) hb _
def zpi {hint:List Nat} {ops:List Oper} (hd:zfK P hint ops=true) {j:Nat} {o:Oper} (hj:ops[j]? =some o) {e:Edge} (he:e∈o.after) (hb:Region.binds .any e=true):e.on<j:=by
 unfold zfK at hd;simp only[ybS,ydE,yas,yaA]at hd;exact (hd.2 j (List.getElem?_eq_some_iff.1 hj).1).1 _ (zwC hj he hb)
def zpj {hint:List Nat} {ops:List Oper} (hd:zfK P hint ops=true) {i j:Nat} (hj:j<ops.length) (hij:i<j):
 i∈(zb6 ops []).getD j []\/zfe P hint ops i j=true:=by
 unfold zfK at hd;simp only[ybS,ydE,yas,ybo,yaA]at hd;exact ((hd.2 j hj).2 i hij).imp (by simp) id
def zpk {hint:List Nat} {ops:List Oper} (hd:zfK P hint ops=true):ops.length<=1000:=by
 unfold zfK at hd;simp only[yas,yaA]at hd;exact hd.1
def zrY {ops:List Oper} {listed:Array Bool} (hcl: ∀ (k:Nat) (o:Oper),ops[k]? =some o->listed.getD k true=true-> ∀e∈o.after,Region.binds .any e=true->listed.getD e.on false=true)
 (hsz:listed.size=ops.length): ∀ (j:Nat) (o:Oper),ops[j]? =some o->(∀e∈o.after,Region.binds .any e=true->listed.getD e.on false=true)-> ∀i∈(zb6 ops []).getD j [],listed.getD i false=true:=by
 intro j
 induction j using Nat.strongRecOn with
 |_ j ih=>
  intro o hj hall i hi;obtain⟨e,he,hb,h⟩:=zwB hj hi;rcases h with rfl | ⟨hlt,h⟩
  ·exact hall e he hb
  ·have hjl:j<ops.length:=(List.getElem?_eq_some_iff.1 hj).1
   have hel:e.on<ops.length:=by omega
   have ho:ops[e.on]? =some ops[e.on]:=yal hel;refine ih e.on hlt _ ho (hcl e.on _ ho ?_) i h;have:=hall e he hb;simp only[yap]at this ⊢;rw[ya8 (by omega)]at this ⊢
   simpa using this
end
section
variable {X:Nat->Nat->Prop} {P:Program} {G:Nat->Option (List D)}
def Stp.draw {ρ:Places} {h:List Obj} {w:World} (H:HRel X ρ h w) (n:Nat):Stp X ρ h w ρ h { w with drawn:=n }:=by
 have f:Fr X ρ h w ρ h { w with drawn:=n }:=⟨rfl,rfl,rfl,yag _,λ_ _ hb=>⟨rfl,hb⟩,λ_ _ _ hm hc=>⟨hc,hm⟩⟩
 refine⟨⟨H.len,λid o ho=> ?_,H.xlt,H.xown,H.inj⟩,f,Evo.refl _ _ _⟩
 obtain⟨r,hr,hrel⟩:=H.obj id o ho;exact⟨r,hr,hrel.kept f (Evo.refl _ _ _) λ_ _ _=>rfl⟩
def SRel.seq {ρ:Places} {h:List Obj} {w:World} {tmps:Array Value} {s s':Slots} (hs:SRel X ρ h w tmps s) (e:SEq s s'):SRel X ρ h w tmps s':=λt=>e t ▸ hs t
def zrZ {rd:Option Nat} {n:Nat} {run:Run} {nt:Nat} {all:List Oper} {hint:List Nat} {hv:List Obj} {Q:Exit->Act->World->Prop} (hrun:zdk P G run) (hhas:zcz P run) (hdst: ∀o∈all, ∀d,o.dst=some d->d<nt)
 (hd:zfK P hint all=true) (hvl:zbG all hint=false->hv=[]) {h':List Obj}:
 ∀ (s':Slots) (rem:List Nat) (listed:Array Bool) (ρ:Places) (s:Slots) (h:List Obj) (a:Act) (w:World),rem.Pairwise (·< ·)->(∀j,j∈rem↔j<all.length/\listed.getD j true=false)->listed.size=all.length->
  (∀ (k:Nat) (o:Oper),all[k]? =some o->listed.getD k true=true-> ∀e∈o.after,Region.binds .any e=true->listed.getD e.on false=true)->
  zmf P G run all hint hv rem s h=some (s',h')->St X G nt ρ h w a s->((∃k,k∈rem/\hint.contains k=true)->Seen hv h)->
  (∀ρ' a' w',Stp X ρ h w ρ' h' w'->St X G nt ρ' h' w' a' s'->a'.defers=a.defers->Q .normal a' w')-> ∀fuel,rem.length=fuel->wpAnyIn (Fw rd) n P .any all.toArray Q fuel listed a w:=by
 intro s' rem listed ρ s h a w hp hm hsz hcl hr S hseen hq fuel
 induction fuel generalizing s' rem listed ρ s h a w with
 |zero=>
  intro hl;have:rem=[]:=List.length_eq_zero_iff.1 hl;subst this;simp only[zmf,yaa,yab]at hr;obtain⟨rfl,rfl⟩:=hr;refine⟨?_,hq ρ a w (Stp.refl S.rel) S rfl⟩;apply List.eq_nil_iff_forall_not_mem.2;intro j hj;obtain⟨h0,o,ho,-⟩:=mem_ready.1 hj;have hjl:j<all.length:=by have:=(Array.getElem?_eq_some_iff.1 ho).1;simpa using this
  have:=(hm j).2 ⟨hjl,h0⟩;cases this
 |succ fuel ih=>
  intro hl;constructor
  ·intro hnone
   exfalso;cases rem with
   |nil=>cases hl
   |cons j r=>
    obtain⟨hjl,hjn⟩:=(hm j).1 (ybh ..);have ho:all[j]? =some all[j]:=yal hjl;have:j∈Region.ready .any all.toArray listed:=by
     refine mem_ready.2 ⟨hjn,all[j],by simp[ho],λe he hb=> ?_⟩
     have hlt:=zpi hd ho he hb
     by_cases hx:listed.getD e.on true=false
     ·have hmem:=(hm e.on).2 ⟨by omega,hx⟩
      rcases List.mem_cons.1 hmem with h1 | h1
      ·omega
      ·have:=(List.pairwise_cons.1 hp).1 _ h1
       omega
     ·simp only[yap]at hx ⊢
      rw[ya8 (by omega)]at hx ⊢
      simpa using hx
    rw[hnone]at this;cases this
  ·intro j hj
   obtain⟨h0,o,ho,hall⟩:=mem_ready.1 hj;have ho':all[j]? =some o:=by simpa using ho
   have hjl:j<all.length:=(List.getElem?_eq_some_iff.1 ho').1;have hjm:j∈rem:=(hm j).2 ⟨hjl,h0⟩;obtain⟨l1,l2,rfl⟩:=List.append_of_mem hjm;have hp':=List.pairwise_append.1 hp;have hp2:=List.pairwise_cons.1 hp'.2.1;have hfit: ∀i∈l1,zfe P hint all i j=true:=λi hi=>by
    have hij:i<j:=hp'.2.2 i hi j (ybh ..);rcases zpj hd hjl hij with h1 | h1
    ·exfalso
     have h2:=zrY hcl hsz j o ho' hall i h1;have h3:=((hm i).1 (yb0 _ hi)).2;simp only[yap]at h2 h3;rw[ya8 (by omega)]at h2 h3
     simp only[ycH]at h2 h3;rw[h2]at h3;cases h3
    ·exact h1
   have hind: ∀i∈l1,Indep P G run all hint hv i j:=λi hi=>zrX (hfit i hi)
   obtain⟨s2,hr2,he⟩:=zlh l1 l2 hind hr;simp only[zmf]at hr2;cases hs:zdV P G run all hint hv j s h with
   |none=>rw[hs]at hr2;cases hr2
   |some p=>
    obtain⟨s1,h1⟩:=p;rw[hs]at hr2;refine zju hrun hhas hdst hs S (λc=>hseen ⟨j,hjm,c⟩) fun ρ1 a1 w1 st S1 hd1=> ?_
    have hne: ∀i∈l1++l2,i≠j:=λi hi e=>by
     subst e;rcases List.mem_append.1 hi with h | h
     ·exact ybv _ (hp'.2.2 i h i (ybh ..))
     ·exact ybv _ (hp2.1 i h)
    have hset: ∀i d,(listed.setIfInBounds j true).getD i d=if i=j then true else listed.getD i d:=λi d=>by
     by_cases e:i=j
     ·subst e
      simp[yap,hsz,hjl]
     ·rw[getD_set_ne d (Ne.symm e),yaf e]
    refine ih s2 (l1++l2) (listed.setIfInBounds j true) ρ1 s1 h1 a1 w1 ?_ ?_ (by simpa using hsz) ?_ hr2 S1 ?_ ?_ ?_
    ·exact List.pairwise_append.2 ⟨hp'.1,hp2.2,λx hx y hy=>hp'.2.2 x hx y (ybb _ hy)⟩
    ·intro i
     rw[hset];constructor
     ·intro hi
      rw[yaf (hne i hi)];exact (hm i).1 (by
       rcases List.mem_append.1 hi with hi | hi
       ·exact yb0 _ hi
       ·exact ycs _ (ybb _ hi))
     ·rintro ⟨hil,hi⟩
      split at hi
      ·cases hi
      ·rename_i hij
       have:=(hm i).2 ⟨hil,hi⟩;rcases List.mem_append.1 this with h | h
       ·exact yb0 _ h
       ·rcases List.mem_cons.1 h with h | h
        ·exact absurd h hij
        ·exact ycs _ h
    ·intro k o' hk hkl e hee hb
     apply getD_set_true;rw[hset]at hkl;split at hkl
     ·rename_i hkj
      subst hkj;rw[ho']at hk;cases hk;exact hall e hee hb
     ·exact hcl k o' hk hkl e hee hb
    ·rintro ⟨k,hk,hkh⟩
     have hkm:k∈l1++j::l2:=by
      rcases List.mem_append.1 hk with h | h
      ·exact yb0 _ h
      ·exact ycs _ (ybb _ h)
     have hne':hint≠[]:=λe=>by rw[e]at hkh;simp at hkh
     refine zrV hs hne' (hseen ⟨k,hkm,hkh⟩) ?_
     by_cases hv0:hv=[]
     ·exact .inl hv0
     ·right
      intro o' ho2;cases hlt:za1 hint j o' with
      |false=>rfl
      |true=>
       exfalso;unfold za1 at hlt;simp only[yas,ybo,ybS,yaA]at hlt;have hkj:k<j:=by
        have:=zpk hd;have:=((hm k).1 hkm).1;rcases hlt.2 k (by simpa using hkh) with h | h <;> omega
       have hk1:k∈l1:=by
        rcases List.mem_append.1 hk with h | h
        ·exact h
        ·have:=hp2.1 k h;omega
       have hf:=hfit k hk1;have hhl:zbG all hint=true:=by
        cases e:zbG all hint with
        |true=>rfl
        |false=>exact absurd (hvl e) hv0
       unfold zfe at hf;rw[ho2]at hf;cases hx:all[k]? with
       |none=>rw[hx]at hf;simp at hf
       |some xk=>
        rw[hx]at hf;simp only[hhl,hlt.1,hkh,ydo,Bool.or_true,Bool.not_true,ycE,Bool.or_self,yaD]at hf
    ·intro ρ2 a2 w2 st2 S2 hd2
     exact hq ρ2 a2 w2 (st.trans S.rel st2) ⟨S2.rel,S2.glob,S2.slots.seq λt=>(he t).symm,S2.size⟩ (hd2.trans hd1)
    ·simp only[yae,yad]at hl ⊢;omega
def znx {rd:Option Nat} {n:Nat} {run:Run} {nt:Nat} {ops:Array Oper} {hint:List Nat} {hv:List Obj} {id:Nat} {draw:Bool} {Q:Exit->Act->World->Prop} (hm:P.follows .mixedOrders=true) (hrun:zdk P G run) (hhas:zcz P run)
 (hdst: ∀o∈ops.toList, ∀d,o.dst=some d->d<nt) (hd:draw=true->zfK P hint ops.toList=true) {ρ:Places} {s s':Slots} {h h':List Obj} {a:Act} {w:World}
 (hr:opsV P G run ops.toList (if draw then hint else []) hv 0 ops.toList s h=some (s',h')) (S:St X G nt ρ h w a s) (hseen:Seen hv h) (hvl:zbG ops.toList (if draw then hint else [])=false->hv=[])
 (hq: ∀ρ' a' w',Stp X ρ h w ρ' h' w'->St X G nt ρ' h' w' a' s'->a'.defers=a.defers->Q .normal a' w'):(Code.region id ops draw).wpIn (Fw rd) n P Q a w:=by
 rw[znp P G run _ _ _ _ 0 s h (λj=>by rw[yaO])]at hr
 have hops:ops.toList.toArray=ops:=ydl;cases draw with
 |false=>
  have:=zla (r:=rd) (n:=n) hrun hhas hdst _ ρ s h a w s' h' hr S hq;rw[hops,<- yca,ybd]at this;exact wpIn_region this
 |true=>
  refine wpIn_region_any hm ?_;have hs:=Stp.draw S.rel (w.drawn+1);have hrep: ∀j,j<ops.size->(Array.replicate ops.size false).getD j true=false:=λj hj=>by simp[yap,hj]
  have:=zrZ (rd:=rd) (n:=n) hrun hhas hdst (hd rfl) hvl s' _ (Array.replicate ops.size false) ρ s h a { w with drawn:=w.drawn+1 } (List.pairwise_lt_range' ..) (λj=>⟨λh=>⟨by simpa using h,hrep j (by simpa using h)⟩,λh=>by simpa using h.1⟩) (by simp) (λk o hk hl=>by rw[hrep k (by simpa using (List.getElem?_eq_some_iff.1 hk).1)]at hl;cases hl) hr
   ⟨hs.rel,S.glob.mono hs.fr,S.slots.mono hs,S.size⟩ (λ_=>hseen) (fun ρ' a' w' st=>hq ρ' a' w' (hs.trans S.rel st)) ops.size (by simp)
  rw[hops]at this;exact this
end
end Go.Am
namespace Go.Am
structure Stk (k:Nat) (X:Nat->Nat->Prop) (ρ:Places) (h:List Obj) (w:World) (ρ':Places) (h':List Obj) (w':World):Prop where
 rel:HRel X ρ' h' w'
 fr:Fr X ρ h w ρ' h' w'
 evo:Evo k ρ h ρ' h'
 le:k<=h'.length
section
variable {X:Nat->Nat->Prop} {ρ ρ' ρ'':Places} {h h' h'' h2:List Obj} {w w' w'':World} {k:Nat} {P:Program} {G:Nat->Option (List D)}
def Stk.refl (H:HRel X ρ h w) (hk:k<=h.length):Stk k X ρ h w ρ h w:=⟨H,Fr.refl _ _ _,Evo.refl _ _ _,hk⟩
def Stk.trans (a:Stk k X ρ h w ρ' h' w') (b:Stk k X ρ' h' w' ρ'' h'' w''):Stk k X ρ h w ρ'' h'' w'':=⟨b.rel,a.fr.trans b.fr,a.evo.trans b.evo,b.le⟩
def Stp.stk (a:Stp X ρ h w ρ' h' w') (H:HRel X ρ h w) (hk:k<=h.length):Stk k X ρ h w ρ' h' w':=⟨a.rel,a.fr,a.evo.mono hk,ybc hk (a.evo.le H)⟩
def zwD {f:Nat->Option Nat} {o o1:Obj} (h1:Obj.ren f o=some o1) (r:zc3):zbl o o1 r r:=by
 cases o with
 |box cs=>
  simp only[Obj.ren,yac]at h1;obtain⟨cs1,hc1,rfl⟩:=h1;exact⟨(zaV hc1).1,rfl⟩
 |arr _ _ _=>simp only[Obj.ren,yaa]at h1;subst h1;exact zbl.refl _ _
 |siter _ _=>simp only[Obj.ren,yaa]at h1;subst h1;exact zbl.refl _ _
def zjx (H:HRel X ρ h w) {ids r:List Nat} (hn:ids.Nodup) (ht:zax h (zar ids) ids=some h2) (hr:ids=List.range k++r):
 RenOk X X (zar ids) ρ h (zat ρ ids) h2/\Stk k X ρ h w (zat ρ ids) h2 w:=by
 obtain⟨R,H2⟩:=zjl (Y:=X) H hn ht λb j hX=> .inl hX
 obtain⟨t1,t2⟩:=zef ht;have hsub: ∀ (id:Nat) (r:zc3),(zat ρ ids)[id]? =some r-> ∃i,ρ[i]? =some r:=λid r hid=>by
  have hlt:id<h2.length:=by rw[t1];simpa[zat]using lt_of_getElem? hid
  obtain⟨i,o,hi,ho,_⟩:=t2 id h2[id] (by simp[hlt])
  rw[zeg H hi ho]at hid;exact⟨i,hid⟩
 refine⟨R,H2,⟨rfl,rfl,rfl,yag _,λb _ hno=>⟨rfl,λid c hid=> ?_⟩,λb j v hm hc=>⟨hc,λhm'=>hm (R.mu b j hm')⟩⟩,λid o r0 hid ho hr0=> ?_,by rw[t1,hr];simp⟩
 ·obtain⟨i,hi⟩:=hsub id _ hid
  exact hno i c hi
 ·have hget:ids[id]? =some id:=by rw[hr,yan (by simpa using hid),yaK hid]
  have hlt:id<h2.length:=by rw[t1];exact lt_of_getElem? hget
  obtain⟨i,o',hi,ho',hren⟩:=t2 id h2[id] (by simp[hlt])
  rw[hget]at hi;cases hi;rw[ho]at ho';cases ho';exact⟨h2[id],r0,by simp[hlt],by rw[zeg H hget ho,hr0],zwD hren r0⟩
def zbm {tmps:Array Value} {s:Slots}: ∀ (keep:List (Nat × Nat)) (ρ:Places) (h:List Obj),HRel X ρ h w->SRel X ρ h w tmps s->
 ∃ρ',Stp X ρ h w ρ' (zad s h keep).2 w/\SRel X ρ' (zad s h keep).2 w tmps (zad s h keep).1
 |[],ρ,h,H,hs=>⟨ρ,Stp.refl H,λt=>trivial⟩
 |(t,sz)::r,ρ,h,H,hs=>by
  unfold zad;split
  ·split
   ·rename_i sz' hv
    obtain⟨n1,n2⟩:=zo4 H (sz'+1);obtain⟨ρ',s1,r1⟩:=zbm r _ _ n1.rel (hs.mono n1);refine⟨ρ',n1.trans H s1,λt'=> ?_⟩
    simp only[zbE];split
    ·rename_i e
     subst e;have:=hs t;rw[hv]at this;have hv':tmps.getD t undef= .slice none 0 0:=this;rw[hv'];exact s1.vrel n2
    ·exact r1 t'
   ·obtain⟨ρ',s1,r1⟩:=zbm r _ _ H hs
    refine⟨ρ',s1,λt'=> ?_⟩
    simp only[zbE];split
    ·rename_i e
     subst e;exact s1.vrel (hs t)
    ·exact r1 t'
  ·split
   ·rename_i x h0 hp
    generalize t - 1000000=t0 at hp ⊢;obtain⟨p1,p2⟩:=zbI hp H (hs t0);obtain⟨ρ',s1,r1⟩:=zbm r _ _ p1.rel (hs.mono p1);refine⟨ρ',p1.trans H s1,λt'=> ?_⟩
    simp only[zbE];split
    ·rename_i e
     subst e;exact s1.vrel (show zay X ρ h0 w (tmps.getD t0 undef) (.d x) from p2)
    ·exact r1 t'
   ·exact zbm r _ _ H hs
def zgJ {f:Nat->Option Nat}: ∀ {s s2:Slots} (_:zaw f s=some s2) (t:Nat),V.ren f (zbE s t)=some (zbE s2 t)
 |[],s2,hr,t=>by simp[zaw]at hr;subst hr;rfl
 |(i,v)::s,s2,hr,t=>by
  simp only[zaw,yaI,ybz,yaT,yac,ybR,yaa]at hr;obtain⟨p,⟨y,hy,rfl⟩,ys,hys,rfl⟩:=hr;simp only[zbE];split
  ·exact hy
  ·exact zgJ hys t
def SRel.ren {X':Nat->Nat->Prop} {f:Nat->Option Nat} {ρ2:Places} {tmps:Array Value} {s s2:Slots} (R:RenOk X X' f ρ h ρ2 h2) (hs:SRel X ρ h w tmps s) (hr:zaw f s=some s2):SRel X' ρ2 h2 w tmps s2:=
 λt=>(hs t).ren R (zgJ hr t)
def zli {keep:List (Nat × Nat)} {s s2:Slots} {tmps:Array Value} (hx:zew k keep s h=some (s2,h2)) (H:HRel X ρ h w) (hs:SRel X ρ h w tmps s) (hk:k<=h.length):
 ∃ρ2,Stk k X ρ h w ρ2 h2 w/\SRel X ρ2 h2 w tmps s2:=by
 unfold zew at hx;obtain⟨ρ1,s1,r1⟩:=zbm keep ρ h H hs;generalize zad s h keep=p at*;simp only at hx;obtain⟨r,hr⟩:=zfY p.2 k (p.1.flatMap λq=>q.2.ids)
 have hn:(za8 p.2 (zal (List.range k) (p.1.flatMap λq=>q.2.ids))).Nodup:=zee _ (zcj _ _ ybT)
 generalize za8 p.2 (zal (List.range k) (p.1.flatMap λq=>q.2.ids))=ids at*
 split at hx
 ·rename_i s3 h3 e1 e2
  simp only[yaa,yab]at hx;obtain⟨rfl,rfl⟩:=hx;obtain⟨R,st⟩:=zjx s1.rel hn e2 hr;exact⟨_,(s1.stk H hk).trans st,r1.ren R e1⟩
 ·cases hx
def zdf: ∀ (s:Slots) (h:List Obj),HRel X ρ h w->Stp X ρ h w ρ (zbF h s) w
 |[],h,H=>Stp.refl H
 |(i,v)::s,h,H=>by
  simp only[zbF];split
  ·rename_i x h1 hp
   have:Stp X ρ h w ρ h1 w:=by
    cases v with
    |arr id n=>
     simp only[zaY]at hp;split at hp
     ·rename_i sz xs wm ho
      split at hp
      ·simp only[yaa,yab]at hp
       obtain⟨_,rfl⟩:=hp;obtain⟨f1,f2,f3⟩:=zcd H ho;exact⟨f1,f2,f3⟩
      ·cases hp
     ·cases hp
    |sl id tot off len=>
     simp only[zaY]at hp;split at hp
     ·rename_i sz xs wm ho
      split at hp
      ·simp only[yaa,yab]at hp
       obtain⟨_,rfl⟩:=hp;obtain⟨f1,f2,f3⟩:=zcd H ho;exact⟨f1,f2,f3⟩
      ·cases hp
     ·cases hp
    |emp=>simp only[zaY,yaa,yab]at hp;obtain⟨_,rfl⟩:=hp;exact Stp.refl H
    |d x=>simp only[zaY,yaa,yab]at hp;obtain⟨_,rfl⟩:=hp;exact Stp.refl H
    |nilS=>simp only[zaY,yaa,yab]at hp;obtain⟨_,rfl⟩:=hp;exact Stp.refl H
    |_=>simp[zaY]at hp
   exact this.trans H (zdf s h1 this.rel)
  ·exact zdf s h H
def Out.exit':Out->Exit
 |.normal=> .normal
 |.exit i=> .exit i
 |.ret=> .ret
def St.stp {nt:Nat} {a:Act} {s:Slots} (S:St X G nt ρ h w a s) (st:Stp X ρ h w ρ' h' w'):St X G nt ρ' h' w' a s:=⟨st.rel,S.glob.mono st.fr,S.slots.mono st,S.size⟩
def zpl (ops:List Oper) (hint:List Nat) (s:Slots) (h:List Obj):Seen (zkW ops hint s h) h:=by
 unfold zkW;split
 ·exact znq s hint (ztL h)
 ·exact zqm h
def zmi {rd:Option Nat} {n:Nat} {run:Run} {rf:Bool} {nt:Nat} {ops:Array Oper} {hint:List Nat} {id:Nat} {draw:Bool} {Q:Exit->Act->World->Prop} (hm:P.follows .mixedOrders=true) (hrun:zdk P G run) (hhas:zcz P run)
 (hdst: ∀o∈ops.toList, ∀d,o.dst=some d->d<nt) (hd:draw=true->zfK P hint ops.toList=true) {s s':Slots} {a:Act} {out:Out}
 (hr:zi4 P G run rf hint ops.toList draw s h=some (out,s',h')) (S:St X G nt ρ h w a s)
 (hq: ∀ρ' a' w',Stp X ρ h w ρ' h' w'->St X G nt ρ' h' w' a' s'->a'.defers=a.defers->Q out.exit' a' w'):(Code.region id ops draw).wpIn (Fw rd) n P Q a w:=by
 unfold zi4 at hr;split at hr
 ·rename_i hown
  obtain⟨-,rfl⟩:=hown;cases ho:opsO P G run ops.toList ops.toList s h with
  |none=>rw[ho]at hr;cases hr
  |some p=>
   obtain⟨s2,h2⟩:=p;rw[ho]at hr;simp only[obind,yaa,yab]at hr;obtain⟨rfl,rfl,rfl⟩:=hr;have:=zld (r:=rd) (n:=n) hrun hhas hdst ops.toList 0 ρ s h a w s2 h2 (λj=>by rw[yaO]) ho S hq
   rw[ydl,<- yca,ybd]at this;exact wpIn_region this
 generalize hh1:(if (zd9 ops.toList && !zea ops.toList && !rf)=true then zbF h ((zi2 ops.toList ops.toList).map λt=>(t,zbE s t)) else h)=h1 at hr
 have st:Stp X ρ h w ρ h1 w:=by
  rw[<- hh1];split
  ·exact zdf _ h S.rel
  ·exact Stp.refl S.rel
 have e0: ∀ (f:List Obj->Res),obind (some h1) f=f h1:=λ_=>rfl
 rw[e0]at hr;cases ho:opsV P G run ops.toList (if draw then hint else []) (zkW ops.toList (if draw then hint else []) s h1) 0 ops.toList s h1 with
 |none=>rw[ho]at hr;cases hr
 |some p=>
  obtain⟨s2,h2⟩:=p;rw[ho]at hr;simp only[obind,yaa,yab]at hr;obtain⟨rfl,rfl,rfl⟩:=hr;exact znx hm hrun hhas hdst hd ho (S.stp st) (zpl _ _ s h1) (λe=>by unfold zkW;rw[e];rfl) fun ρ' a' w' st'=>hq ρ' a' w' (st.trans S.rel st')
def zoN (ρ:Places) (L:Nat):Prop:= ∀id c:Nat,ρ[id]? ≠some (some (L,c))
def Fr.off (f:Fr X ρ h w ρ' h' w') {L:Nat} {o:Go.Obj} (hL:w.heap[L]? =some o) (hn:zoN ρ L):w'.heap[L]? =some o/\zoN ρ' L:=
 let ⟨h1,h2⟩:=f.block L (Array.getElem?_eq_some_iff.1 hL).1 hn
 ⟨h1.trans hL,h2⟩
def zr0 {L:Nat} {o o':Go.Obj} (hL:w.heap[L]? =some o) (hc:o.isCells=false) (hc':o'.isCells=false) (b j:Nat):(w.putObj L o').cell? ⟨b,j,none⟩=w.cell? ⟨b,j,none⟩:=by
 unfold World.cell?
 by_cases e:b=L
 ·subst e
  rw[World.putObj_heap_same (Array.getElem?_eq_some_iff.1 hL).1,hL];cases o <;> simp_all [Go.Obj.isCells] <;> cases o' <;> simp_all [Go.Obj.isCells]
 ·rw[World.putObj_heap_other e]
def zwE {o:Go.Obj} (hc:o.isCells=false) (b j:Nat):(w.alloc o).cell? ⟨b,j,none⟩=w.cell? ⟨b,j,none⟩:=by
 unfold World.cell?
 by_cases e:b=w.heap.size
 ·subst e
  rw[World.alloc_heap_new,Array.getElem?_eq_none (yag _)];cases o <;> simp_all [Go.Obj.isCells]
 ·show (match (w.heap.push o)[b]? with | some (Obj.cells c _ _)=>_ | _=>_)=_
  rw[Array.getElem?_push,yaf e];rfl
structure Aside (ρ:Places) (B:Nat) (w w':World):Prop where
 os:w'.os=w.os
 tape:w'.tape=w.tape
 output:w'.output=w.output
 size:w.heap.size<=w'.heap.size
 cell: ∀b j,w'.cell? ⟨b,j,none⟩=w.cell? ⟨b,j,none⟩
 low: ∀b,b<B->w'.heap[b]? =w.heap[b]?
 at_: ∀id b c:Nat,ρ[id]? =some (some (b,c))->w'.heap[b]? =w.heap[b]?
def Aside.put {B L:Nat} {o o':Go.Obj} (hL:w.heap[L]? =some o) (hc:o.isCells=false) (hc':o'.isCells=false) (hn:zoN ρ L) (hB:B<=L):Aside ρ B w (w.putObj L o'):=
 ⟨rfl,rfl,rfl,by simp,zr0 hL hc hc',λb hb=>World.putObj_heap_other (by omega),λid b c e=>World.putObj_heap_other λe'=>hn id c (e' ▸ e)⟩
def Aside.new {o:Go.Obj} (H:HRel X ρ h w) (hc:o.isCells=false) {B:Nat} (hB:B<=w.heap.size):Aside ρ B w (w.alloc o):=by
 have hb: ∀b,b<w.heap.size->(w.alloc o).heap[b]? =w.heap[b]? :=λb hb=>RowKit.Below.heap_alloc w o b hb
 exact⟨rfl,rfl,rfl,by simp,zwE hc,λb h=>hb b (by omega),λid b c e=>hb b (H.lt e)⟩
def Aside.draw (n B:Nat):Aside ρ B w { w with drawn:=n }:=⟨rfl,rfl,rfl,yag _,λ_ _=>rfl,λ_ _=>rfl,λ_ _ _ _=>rfl⟩
def Aside.trans {B:Nat} (A:Aside ρ B w w') (A':Aside ρ B w' w''):Aside ρ B w w'':=
 ⟨A'.os.trans A.os,A'.tape.trans A.tape,A'.output.trans A.output,ybc A.size A'.size,λb j=>(A'.cell b j).trans (A.cell b j),λb hb=>(A'.low b hb).trans (A.low b hb),λid b c e=>(A'.at_ id b c e).trans (A.at_ id b c e)⟩
def Aside.imm {B:Nat} (A:Aside ρ B w w'):Imm X ρ h w ρ h w':=λb j v hm hc=>⟨(A.cell b j).trans hc,hm⟩
def Aside.rel {B:Nat} (A:Aside ρ B w w') (H:HRel X ρ h w):HRel X ρ h w' where
 len:=H.len
 obj:=λid o ho=>let ⟨r,h1,h2⟩:=H.obj id o ho;⟨r,h1,h2.ikept A.imm (Evo.refl _ _ _) λb c e=>A.at_ id b c (e ▸ h1)⟩
 xlt:=λb j hx=>ybn (H.xlt b j hx) A.size
 xown:=H.xown
 inj:=H.inj
def Aside.stk {w0:World} {ρ0:Places} {h0:List Obj} (A:Aside ρ w0.heap.size w w') (S:Stk k X ρ0 h0 w0 ρ h w):Stk k X ρ0 h0 w0 ρ h w':=
 ⟨A.rel S.rel,⟨A.os.trans S.fr.os,A.tape.trans S.fr.tape,A.output.trans S.fr.output,ybc S.fr.size A.size,
   λb hb hn=>let ⟨h1,h2⟩:=S.fr.block b hb hn;⟨(A.low b hb).trans h1,h2⟩,
   λb j v hm hc=>let ⟨h1,h2⟩:=S.fr.imm b j v hm hc;⟨(A.cell b j).trans h1,h2⟩⟩,S.evo,S.le⟩
def MarksOk (ρ:Places) (N:Nat) (w:World) (ds:List Deferred):Prop:=
 ∃Ds:List Nat,ds=Ds.map (λD=> { target:= .collected D,args:= #[] })/\Ds.Nodup/\ ∀D∈Ds,N<=D/\w.heap[D]? =some (.deferred (some []))/\zoN ρ D
def MarksOk.fr {N:Nat} {ds:List Deferred} (m:MarksOk ρ N w ds) (f:Fr X ρ h w ρ' h' w'):MarksOk ρ' N w' ds:=
 let ⟨Ds,h1,h2,h3⟩:=m
 ⟨Ds,h1,h2,λD hD=>let ⟨h4,h5,h6⟩:=h3 D hD;⟨h4,f.off h5 h6⟩⟩
structure StM (N:Nat) (X:Nat->Nat->Prop) (G:Nat->Option (List D)) (nt:Nat) (ρ:Places) (h:List Obj) (w:World) (a:Act) (s:Slots):Prop where
 st:St X G nt ρ h w a s
 marks:MarksOk ρ N w a.defers
 le:N<=w.heap.size
def GRel.aside {B:Nat} (A:Aside ρ B w w') (g:GRel X G ρ h w):GRel X G ρ h w':=λi cs e=>(g i cs e).mono A.imm
def SRel.aside {B:Nat} {tmps:Array Value} {s:Slots} (A:Aside ρ B w w') (g:SRel X ρ h w tmps s):SRel X ρ h w' tmps s:=λt=>(g t).imono A.imm (Evo.refl _ _ _)
def St.aside {B nt:Nat} {a:Act} {s:Slots} (A:Aside ρ B w w') (S:St X G nt ρ h w a s):St X G nt ρ h w' a s:=⟨A.rel S.rel,S.glob.aside A,S.slots.aside A,S.size⟩
def zDC (k N:Nat) (X:Nat->Nat->Prop) (G:Nat->Option (List D)) (nt:Nat) (ρ:Places) (h:List Obj) (w:World) (r:Out × Slots × List Obj) (Q:Exit->Act->World->Prop):Prop:=
 ∀ρ' a' w',Stk k X ρ h w ρ' r.2.2 w'->StM N X G nt ρ' r.2.2 w' a' r.2.1->Q r.1.exit' a' w'
def zDC.step {N nt:Nat} {w1:World} {ρ1:Places} {h1:List Obj} {r:Out × Slots × List Obj} {Q:Exit->Act->World->Prop} (hq:zDC k N X G nt ρ h w r Q) (st:Stk k X ρ h w ρ1 h1 w1):
 zDC k N X G nt ρ1 h1 w1 r Q:=fun ρ' a' w' st' S'=>hq ρ' a' w' (st.trans st') S'
def zqp (k:Nat) (P:Program) (X:Nat->Nat->Prop) (G:Nat->Option (List D)) (nt:Nat) (rd:Option Nat) (c:Code) (f:Slots->List Obj->Res):Prop:=
 ∀ (n N:Nat) (ρ:Places) (s:Slots) (h:List Obj) (a:Act) (w:World) (r:Out × Slots × List Obj) (Q:Exit->Act->World->Prop),f s h=some r->StM N X G nt ρ h w a s->k<=h.length->
  zDC k N X G nt ρ h w r Q->c.wpIn (Fw rd) n P Q a w
def ztW {nt:Nat} {rd:Option Nat} {c:Code} {f:Slots->List Obj->Res} (hc:zqp k P X G nt rd c f): ∀m,zqp k P X G nt rd (.loop c) (iter f m):=by
 intro m n N ρ s h a w r Q hr S hk hq;refine wpIn_loop_rounds m ?_
 induction m generalizing ρ s h a w r with
 |zero=>simp[iter]at hr
 |succ m ih=>
  show c.wpIn (Fw rd) n P _ a w
  simp only[iter]at hr;cases hf:f s h with
  |none=>rw[hf]at hr;cases hr
  |some q=>
   refine hc n N ρ s h a w q _ hf S hk fun ρ1 a1 w1 st S1=> ?_
   rw[hf]at hr;obtain⟨o,s1,h1⟩:=q;cases o with
   |normal=>exact ih ρ1 s1 h1 a1 w1 r hr S1 st.le (hq.step st)
   |exit i=>simp only[onNormal,yaa]at hr;subst hr;exact hq ρ1 a1 w1 st S1
   |ret=>simp only[onNormal,yaa]at hr;subst hr;exact hq ρ1 a1 w1 st S1
def zjy (n:Nat) (hn:0<n): ∀ (m:Nat) (xs:List D),xs.length<=m->
 xs.length<=(zcv n m xs).length*n/\(zcv n m xs).length*n<xs.length+n/\ ∀i,i<(zcv n m xs).length->(zcv n m xs)[i]? =some ((xs.drop (i*n)).take n)
 |0,xs,h=>by
  have:xs=[]:=yaL (by omega)
  subst this;exact⟨by simp,by simpa[zcv]using hn,λi hi=>by simp[zcv]at hi⟩
 |m+1,[],h=>⟨by simp,by simpa[zcv]using hn,λi hi=>by simp[zcv]at hi⟩
 |m+1,x::xs,h=>by
  obtain⟨h1,h2,h3⟩:=zjy n hn m ((x::xs).drop n) (by simp only[yay,yad]at h ⊢;omega)
  rw[yay]at h1 h2;simp only[zcv];generalize zcv n m ((x::xs).drop n)=l at h1 h2 h3;simp only[yad,ya9,ycl]at h1 h2 ⊢;refine⟨by omega, ?_,λi hi=> ?_⟩
  ·rcases ybF xs.length n with c | c
   ·have:l.length=0:=by
     rcases ybs l.length with e | e
     ·exact e
     ·have:=yaE n e
      omega
    rw[this];omega
   ·omega
  ·cases i with
   |zero=>simp
   |succ i=>
    rw[yaP,h3 i (by omega),yc7]
    have e:n+i*n=(i+1)*n:=by rw[ya9,ycl,yby]
    rw[e]
def chunkVal (ad:Option Addr) (n len i:Nat):Value:=
 match ad with
 |some p=> .slice (some ⟨p.block,p.off+i*n,none⟩) (min n (len - i*n):Nat) (min n (len - i*n):Nat)
 |none=>undef
def zf1 (P:Program) (g:FuncId):Prop:=
 (∀args w,(callFunc g args).run P w= .ok (.enter g args) w)/\
 ∀ (l b1 b2 n m len cap:Nat) (ad:Option Addr) (J:Nat->World->Prop) (Jx:World->Prop) (W:World),0<n->n<=65536->len<=65536->len<=m*n->m*n<len+n->len<=cap->
  (0<len-> ∃b off,ad=some ⟨b,off,none⟩)->
  (∀i W,J i W->W.cell? ⟨b1,0,none⟩=some (.slice ad len cap)/\W.cell? ⟨b2,0,none⟩=some (.int .i64 n))->(∀i W k,J i W->J i { W with drawn:=k })->
  (∀i W1,i<m->J i W1->YieldAt (Fw none) 7 P l #[chunkVal ad n len i] W1 λe W'=>(e= .returned (.bool true)/\J (i+1) W')\/(e= .returned (.bool false)/\Jx W'))->J 0 W->
  CallsIn (Fw none) 8 P g #[.func (.yield l) #[] #[],.pointer (some ⟨b1,0,none⟩),.pointer (some ⟨b2,0,none⟩)] W λe W'=>(∃v,e= .returned v)/\(J m W'\/Jx W')
def ztX {M:Nat->Nat->Prop} {v:Value} {xs:List D} (hr:Rep M w v (.list xs)) (h1:zao 1 xs=true):
 ∃ (ad:Option Addr) (cap:Nat),v= .slice ad xs.length cap/\(0<xs.length-> ∃b off,ad=some ⟨b,off,none⟩)/\xs.length<=cap/\
  ∀ (M':Nat->Nat->Prop) (w':World),(∀ (b j:Nat) (v:Value),¬ M b j->w.cell? ⟨b,j,none⟩=some v->w'.cell? ⟨b,j,none⟩=some v/\ ¬ M' b j)->
   ∀i n,0<n->i*n<xs.length->Rep M' w' (chunkVal ad n xs.length i) (.list ((xs.drop (i*n)).take n)):=by
 have hs:=zba h1;cases hr with
 |nil a c hac=>exact⟨a,c,rfl,λh=>by simp at h,yaj _,λM' w' _ i n _ h=>by simp at h⟩
 |list b off len cap sz _ vs e1 e2 e3 e4 e5=>
  subst e1;refine⟨_,cap,rfl,λ_=>⟨b,off,rfl⟩,e2,λM' w' hi i n hn hlt=> ?_⟩
  have hl:((xs.drop (i*n)).take n).length=min n (xs.length - i*n):=by simp
  have hc: ∀ (j:Nat) (c:D),(flat ((xs.drop (i*n)).take n))[j]? =some c->(flat xs)[i*n+j]? =some c:=λj c hj=>by
   obtain⟨-,g1⟩:=zgC hs (Nat.le_of_lt hlt);rw[ybU]at g1;have g2:flat (xs.drop (i*n))=flat ((xs.drop (i*n)).take n)++flat ((xs.drop (i*n)).drop n):=by rw[<- zbH,ybk]
   rw[<- yaZ,<- g1,g2,yan (lt_of_getElem? hj)];exact hj
  show Rep M' w' (.slice (some ⟨b,off+i*n,none⟩) (min n (xs.length - i*n):Nat) (min n (xs.length - i*n):Nat)) _
  refine .list b (off+i*n) _ _ 1 _ (λj=>vs (i*n+j)) hl.symm (yag _) (λx hx=>hs x (ybO (yaH hx))) (λj c hj=> ?_) λj c hj=>(e5 _ c (hc j c hj)).mono hi
  obtain⟨k1,k2,k3⟩:=e4 _ c (hc j c hj);rw[ya0];exact⟨(hi _ _ _ k2 k1).1,(hi _ _ _ k2 k1).2,k3⟩
def zr1 {keep:List (Nat × Nat)} {s s2:Slots} (hn:zew k keep s h=some (s2,h2)) (H:HRel X ρ h w) {tmps:Array Value} (hs:SRel X ρ h w tmps s) (hk:k<=h.length):
 ∃ρ2,Stk k X ρ h w ρ2 h2 w/\SRel X ρ2 h2 w tmps s2/\ ∀ (i b c:Nat) (cs:List V),zfW k keep s h i=true->h[i]? =some (.box cs)->ρ[i]? =some (some (b,c))->zoN ρ2 b:=by
 unfold zew at hn;unfold zfW;obtain⟨ρ1,s1,r1⟩:=zbm keep ρ h H hs;generalize zad s h keep=p at*;simp only at hn ⊢;obtain⟨r,hr⟩:=zfY p.2 k (p.1.flatMap λq=>q.2.ids)
 have hnd:(za8 p.2 (zal (List.range k) (p.1.flatMap λq=>q.2.ids))).Nodup:=zee _ (zcj _ _ ybT)
 generalize za8 p.2 (zal (List.range k) (p.1.flatMap λq=>q.2.ids))=ids at*
 split at hn
 ·rename_i s3 h3 e1 e2
  simp only[yaa,yab]at hn;obtain⟨rfl,rfl⟩:=hn;obtain⟨R,st⟩:=zjx s1.rel hnd e2 hr;refine⟨_,(s1.stk H hk).trans st,r1.ren R e1,λi b c cs hl ho hi id c' e=> ?_⟩
  obtain⟨o',r',k1,k2,k3⟩:=s1.evo i _ _ (lt_of_getElem? ho) ho hi;have k4:r'=some (b,c):=by
   cases o' with
   |box cs'=>exact k3.2
   |_=>exact k3.elim
  subst k4;have e': ∃i',ids[id]? =some i'/\ρ1[i']? =some (some (b,c')):=by
   simp only[zat,yax,yac]at e;obtain⟨i',g1,g2⟩:=e;refine⟨i',g1, ?_⟩;cases g3:ρ1[i']? with
   |none=>rw[g3]at g2;cases g2
   |some r=>rw[g3]at g2;exact congrArg some g2
  obtain⟨i',g1,g2⟩:=e';have:=s1.rel.inj i' i b c' c g2 k2;subst this;simp only[yc1,List.contains_eq_mem,yaX]at hl;exact hl (yao g1)
 ·cases hn
def zr2 {f:V} {it:Nat × Nat × List (List D)} (hi:zkx G h f=some it): ∃ (g i j:Nat) (xs:List D) (n:Int),f= .clo g [.ptr i 0,.ptr j 0]/\(zdo G g=true/\g<1000000000)/\h[i]? =some (.box [.d (.list xs)])/\
 h[j]? =some (.box [.d (.int .i64 n)])/\0<n/\n<=65536/\xs.length<=65536/\zao 1 xs=true/\it=(i,j,zcv n.toNat xs.length xs):=by
 unfold zkx at hi;split at hi
 ·rename_i g i j
  split at hi
  ·rename_i hc
   split at hi
   ·rename_i xs n h1 h2
    split at hi
    ·rename_i hcond
     simp only[yaa]at hi;exact⟨g,i,j,xs,n,rfl,by simpa using hc,h1,h2,hcond.1,hcond.2.1,hcond.2.2.1,hcond.2.2.2,hi.symm⟩
    ·cases hi
   ·cases hi
  ·cases hi
 ·cases hi
def zqq (H:HRel X ρ h w) {i b c:Nat} {x:V} (ho:h[i]? =some (.box [x])) (hp:ρ[i]? =some (some (b,c))): ∃v,w.cell? ⟨b,0,none⟩=some v/\V1 X ρ h w v x:=by
 obtain⟨r,k1,k2⟩:=H.obj i _ ho;rw[hp]at k1;cases k1;obtain⟨b',c',cur,e,fz,e1,e2,e3,-,e5⟩:=k2;cases e1;obtain⟨u,g1,g2,-⟩:=e5 0 x rfl;exact⟨u,by rw[zai e2];exact g1,g2⟩
def Out.code:Out->Code
 |.exit i=> .exit i
 |_=> .ret
def zr3 {run:Run} {K:zgm} {Sh:zgl} {F:FuncId} {nt b0:Nat} {loopI:(Slots->List Obj->Res)->Slots->List Obj->Res} (hit: ∀g,zdo G g=true->zf1 P g) {f:Operand} {ps:Array Tmp} {x y:Code} {keep:List (Nat × Nat)} {p:Nat}
 (hx: ∀l k,zqp k P X G nt (some l) x (codeV P G K Sh run loopI F k b0 x)) (hy: ∀l k,zqp k P X G nt (some l) y (codeV P G K Sh run loopI F k b0 y)) (hp:ps.toList=[p]) (hlt:p<nt):
 zqp k P X G nt none (.rangeFunc f ps x y) λs h=>obind (zkx G h (ev G s f)) λit=>if zfW k keep s h it.1 && zfW k keep s h it.2.1 then
  obind (zew k keep s h) λq=>rangeV (λz s h=>
   match codeV P G K Sh run loopI F h.length b0 x ((p,.d (.list z))::s) h with
   |some (.normal,s1,h1)=>codeV P G K Sh run loopI F h.length b0 y s1 h1
   |_=>none) k keep it.2.2 q.1 q.2
  else none:=by
 obtain rfl:ps= #[p]:=ycn hp;intro n N ρ s h a w r Q hr S hk hq;replace hr:(obind (zkx G h (ev G s f)) λit=>if zfW k keep s h it.1 && zfW k keep s h it.2.1 then
  obind (zew k keep s h) λq=>rangeV (λz s h=>
   match codeV P G K Sh run loopI F h.length b0 x ((p,.d (.list z))::s) h with
   |some (.normal,s1,h1)=>codeV P G K Sh run loopI F h.length b0 y s1 h1
   |_=>none) k keep it.2.2 q.1 q.2
  else none)=some r:=hr
 obtain⟨round,hround⟩: ∃round:List D->Slots->List Obj->Res,round=λz s h=>
        match codeV P G K Sh run loopI F h.length b0 x ((p,.d (.list z))::s) h with
        |some (.normal,s1,h1)=>codeV P G K Sh run loopI F h.length b0 y s1 h1
        |_=>none:=⟨_,rfl⟩
 rw[<- hround]at hr;cases hi:zkx G h (ev G s f) with
 |none=>rw[hi]at hr;cases hr
 |some it=>
  rw[hi]at hr;obtain⟨g,i,j,xs,nn,hf,hg,ho1,ho2,hn0,hn1,hlen,hsz,rfl⟩:=zr2 hi;simp only[obind]at hr;split at hr
  ·rename_i hlo
   simp only[yas]at hlo;cases hnm:zew k keep s h with
   |none=>rw[hnm]at hr;cases hr
   |some q=>
    obtain⟨s0,h0⟩:=q;rw[hnm]at hr;simp only at hr;obtain⟨nk,rfl⟩: ∃nk:Nat,nn=nk:=⟨nn.toNat,by omega⟩
    rw[yaz]at hr;obtain⟨ρ0,st0,sr0,np0⟩:=zr1 hnm S.st.rel S.st.slots hk;have hv:=zi6 S.st.glob S.st.slots f;rw[hf]at hv;obtain⟨us,hfv,hus,hc⟩:=hv;replace hfv:=hfv.fn hg.2;replace hg:=hg.1;obtain⟨u1,hu1,o1,b1,c1,-,-,e3,rfl⟩:=hc 0 (.ptr i 0) rfl;obtain⟨u2,hu2,o2,b2,c2,-,-,e6,rfl⟩:=hc 1 (.ptr j 0) rfl;have hus':us= #[.pointer (some ⟨b1,0,none⟩),.pointer (some ⟨b2,0,none⟩)]:=by
     apply Array.ext
     ·simpa using hus
     ·intro t ht1 ht2
      have:t=0\/t=1:=by simp at ht2;omega
      rcases this with rfl | rfl
      ·rw[ya8 ht1]at hu1;simpa using hu1
      ·rw[ya8 ht1]at hu2;simpa using hu2
    subst hus';obtain⟨v1,hc1,r1⟩:=zqq S.st.rel ho1 e3;obtain⟨v2,hc2,r2⟩:=zqq S.st.rel ho2 e6;have r2':Rep (Mut X ρ h) w v2 (.int .i64 nk):=r2;cases r2';have r1':Rep (Mut X ρ h) w v1 (.list xs):=r1;obtain⟨ad,cap,rfl,had,hcap,hsub⟩:=ztX r1' hsz;have hnk:0<nk:=by omega
    obtain⟨sp1,sp2,sp3⟩:=zjy nk hnk xs.length xs (yag _);have nb1:=np0 i b1 c1 _ hlo.1 ho1 e3;have nb2:=np0 j b2 c2 _ hlo.2 ho2 e6;obtain⟨eg,hco⟩:=hit g hg;refine wpIn_rangeFunc λfn _=> ?_
    show ∃ (l:Nat) (mark:List Deferred) (w₁:World) (d:Deferred) (w₁':World) (f':FuncId) (args:Array Value) (w₂:World),(Instr.enterLoop fn a.tmps #[p] x y none).run P w= .ok (l,mark) w₁/\_
    obtain⟨rec,hrec⟩: ∃rec:LoopState->Option Code->Loop,rec=λst pe=> { state:=st,pending:=pe,fn,tmps:=a.tmps,params:= #[p],assign:=x,body:=y,defers:=w.heap.size }:=⟨_,rfl⟩
    obtain⟨W1,hW1⟩: ∃W1,(w.alloc (.deferred (some []))).alloc (.loop (rec .ready none))=W1:=⟨_,rfl⟩;have hL1:W1.heap[w.heap.size+1]? =some (.loop (rec .ready none)):=by
     rw[<- hW1];have:=World.alloc_heap_new (w.alloc (.deferred (some []))) (.loop (rec .ready none));rwa [World.size_alloc]at this
    have hK1:W1.heap[w.heap.size]? =some (.deferred (some [])):=by
     rw[<- hW1];exact (RowKit.Below.heap_alloc _ _ _ (by simp)).trans (World.alloc_heap_new w _)
    have hbk1: ∃o,w.heap[b1]? =some o:=⟨_,ya8 (S.st.rel.lt e3)⟩;have hbk2: ∃o,w.heap[b2]? =some o:=⟨_,ya8 (S.st.rel.lt e6)⟩;obtain⟨ob1,hob1⟩:=hbk1;obtain⟨ob2,hob2⟩:=hbk2;have A1:Aside ρ0 w.heap.size w W1:=by
     rw[<- hW1];exact (Aside.new st0.rel rfl (yag _)).trans (Aside.new ((Aside.new st0.rel (o:= .deferred (some [])) rfl (yag _)).rel st0.rel) rfl (by simp))
    have hfresh: ∀B,w.heap.size<=B->zoN ρ0 B:=λB hB id c e=>by have:=st0.rel.lt e;omega
    obtain⟨Lr,hLr⟩: ∃Lr,Lr=w.heap.size+1:=⟨_,rfl⟩;obtain⟨Dm,hDm⟩: ∃Dm,Dm=w.heap.size:=⟨_,rfl⟩;rw[<- hLr]at hL1;rw[<- hDm]at hK1;generalize hcs:zcv nk xs.length xs=cs at hr sp1 sp2 sp3;obtain⟨J,hJ⟩: ∃J:Nat->World->Prop,J=λi W=> ∃ρ1 s1 h1,rangeV round k keep (cs.drop i) s1 h1=some r/\Stk k X ρ h w ρ1 h1 W/\St X G nt ρ1 h1 W a s1/\(zoN ρ1 b1/\W.heap[b1]? =some ob1)/\(zoN ρ1 b2/\W.heap[b2]? =some ob2)/\
     (zoN ρ1 Lr/\W.heap[Lr]? =some (.loop (rec .ready none)))/\(zoN ρ1 Dm/\W.heap[Dm]? =some (.deferred (some []))):=⟨_,rfl⟩
    obtain⟨Jx,hJx⟩: ∃Jx:World->Prop,Jx=λW=> ∃o s1 h1 ρ1,r=(o,s1,h1)/\o≠ .normal/\Stk k X ρ h w ρ1 h1 W/\St X G nt ρ1 h1 W a s1/\(zoN ρ1 Lr/\W.heap[Lr]? =some (.loop (rec .done (some o.code))))/\(zoN ρ1 Dm/\W.heap[Dm]? =some (.deferred (some []))):=⟨_,rfl⟩
    have hJ0:J 0 W1:=by
     rw[hJ];refine⟨ρ0,s0,h0,by simpa using hr,A1.stk st0,⟨A1.rel st0.rel,(S.st.glob.mono st0.fr).aside A1,sr0.aside A1,S.st.size⟩,⟨nb1, ?_⟩,⟨nb2, ?_⟩,⟨hfresh _ (by omega),hL1⟩,⟨hfresh _ (by omega),hK1⟩⟩
     ·rw[A1.low _ (S.st.rel.lt e3)];exact hob1
     ·rw[A1.low _ (S.st.rel.lt e6)];exact hob2
    have hcell: ∀i W,J i W->W.cell? ⟨b1,0,none⟩=some (.slice ad xs.length cap)/\W.cell? ⟨b2,0,none⟩=some (.int .i64 nk):=λi W hj=>by
     rw[hJ]at hj;obtain⟨ρ1,s1,h1,-,-,-,⟨-,g1⟩,⟨-,g2⟩,-⟩:=hj;exact⟨(World.cell?_of_block (a:=⟨b1,0,none⟩) (g1.trans hob1.symm)).trans hc1,(World.cell?_of_block (a:=⟨b2,0,none⟩) (g2.trans hob2.symm)).trans hc2⟩
    have hdraw: ∀i W n,J i W->J i { W with drawn:=n }:=λi W n hj=>by
     rw[hJ]at hj ⊢;obtain⟨ρ1,s1,h1,g1,g2,g3,g4,g5,g6,g7⟩:=hj;exact⟨ρ1,s1,h1,g1,(Aside.draw n _).stk g2,g3.aside (Aside.draw (ρ:=ρ1) n 0),g4,g5,g6,g7⟩
    have hcall:CallsIn (Fw none) 8 P g #[.func (.yield Lr) #[] #[],.pointer (some ⟨b1,0,none⟩),.pointer (some ⟨b2,0,none⟩)] W1 λe W'=>(∃v,e= .returned v)/\(J cs.length W'\/Jx W'):=by
     refine hco Lr b1 b2 nk cs.length xs.length cap ad J Jx W1 hnk (by omega) hlen sp1 sp2 hcap had hcell hdraw (λi W hlt' hj=> ?_) hJ0
     rw[hJ]at hj;obtain⟨ρ1,s1,h1,g1,g2,g3,⟨n1,k1⟩,⟨n2,k2⟩,⟨n3,k3⟩,⟨n4,k4⟩⟩:=hj;have hik:i*nk<xs.length:=by
      have:=yaE nk (show i+1<=cs.length from hlt')
      rw[ya9,ycl]at this;omega
     have hz:=sp3 i hlt';generalize hzz:(xs.drop (i*nk)).take nk=z at hz;have hdr:cs.drop i=z::cs.drop (i+1):=by
      rw[yal hlt',yaa]at hz;rw[yaG hlt',hz]
     rw[hdr]at g1;have hrep:zay X ρ1 h1 W (chunkVal ad nk xs.length i) (.d (.list z)):=by
      have:=hsub (Mut X ρ1 h1) W g2.fr.imm i nk hnk hik;rw[hzz]at this;exact this
     have hy0:=run_yield (P:=P) (args:= #[chunkVal ad nk xs.length i]) k3 (by rw[hrec];rfl)
     rw[hrec]at hy0;refine⟨_,_,_,_,hy0,roundIn_of_wpIn trivial ?_⟩;have htm:((#[p]:Array Tmp).zip #[chunkVal ad nk xs.length i]).foldl (λtmps (t,a)=>tmps.setIfInBounds t a) a.tmps=a.tmps.setIfInBounds p (chunkVal ad nk xs.length i):=by simp
     have S1:StM 0 X G nt ρ1 h1 W { tmps:=((#[p]:Array Tmp).zip #[chunkVal ad nk xs.length i]).foldl (λtmps (t,a)=>tmps.setIfInBounds t a) a.tmps,defers:=[] } ((p,.d (.list z))::s1):=by
      rw[htm];refine⟨⟨g3.rel,g3.glob,λt=> ?_,by simpa using g3.size⟩,⟨[],rfl,ydD,λ_ h=>by cases h⟩,yaj _⟩
      simp only[zbE];rw[zqn (by rw[g3.size];exact hlt)]
      split
      ·exact hrep
      ·exact g3.slots t
     simp only[rangeV]at g1;cases hrd:round z s1 h1 with
     |none=>rw[hrd]at g1;cases g1
     |some rr=>
      obtain⟨o,s3,h3⟩:=rr;rw[hrd]at g1;have hrd':=hrd;rw[hround]at hrd';simp only at hrd';cases hcx:codeV P G K Sh run loopI F h1.length b0 x ((p,.d (.list z))::s1) h1 with
      |none=>rw[hcx]at hrd';cases hrd'
      |some rx=>
       obtain⟨ox,s2,h2⟩:=rx;rw[hcx]at hrd';cases ox with
       |exit _=>cases hrd'
       |ret=>cases hrd'
       |normal=>
        simp only at hrd';refine hx Lr h1.length _ 0 ρ1 _ h1 _ W _ _ hcx S1 (yag _) fun ρ2 a2 W2 stx S2=> ?_
        obtain⟨k3',n3'⟩:=stx.fr.off k3 n3;obtain⟨k4',n4'⟩:=stx.fr.off k4 n4;obtain⟨k1',n1'⟩:=stx.fr.off k1 n1;obtain⟨k2',n2'⟩:=stx.fr.off k2 n2;have stA:Stk k X ρ h w ρ2 h2 W2:=g2.trans ⟨stx.rel,stx.fr,stx.evo.mono g2.le,ybc g2.le stx.le⟩;refine⟨_,run_beginRound k3' (by rw[hrec]), ?_⟩
        have hne: ∀D,w.heap.size≠D->D≠Dm:=λD e e'=>e (by omega)
        obtain⟨W2',hW2'⟩: ∃W2',W2.putObj Lr (.loop { rec .ready none with state:= .busy })=W2':=⟨_,rfl⟩
        have Ab:Aside ρ2 w.heap.size W2 W2':=by rw[<- hW2'];exact Aside.put k3' rfl rfl n3' (by omega)
        have hoth: ∀ (B:Nat) (o:Go.Obj),W2.heap[B]? =some o->B≠Lr->W2'.heap[B]? =some o:=λB o hB hne=>by rw[<- hW2',World.putObj_heap_other hne];exact hB
        have hLb:W2'.heap[Lr]? =some (.loop { rec .ready none with state:= .busy }):=by rw[<- hW2'];exact World.putObj_heap_same (Array.getElem?_eq_some_iff.1 k3').1
        rw[hW2'];have hltL: ∀ {b c id:Nat},ρ[id]? =some (some (b,c))->b≠Lr:=λe e'=>by have:=S.st.rel.lt e;omega
        have hmk:MarksOk ρ2 0 W2' a2.defers:=by
         obtain⟨Ds,d1,d2,d3⟩:=S2.marks;refine⟨Ds,d1,d2,λD hD=> ?_⟩
         obtain⟨d4,d5,d6⟩:=d3 D hD;refine⟨d4,hoth D _ d5 λe=> ?_,d6⟩
         rw[e,k3']at d5;cases d5
        refine hy Lr h1.length _ 0 ρ2 s2 h2 a2 W2' _ _ hrd' ⟨S2.st.aside Ab,hmk,yaj _⟩ stx.le fun ρ3 a3 W3 sty S3=> ?_
        obtain⟨k3'',n3''⟩:=sty.fr.off hLb n3';obtain⟨k4'',n4''⟩:=sty.fr.off (hoth _ _ k4' (by omega)) n4'
        obtain⟨k1'',n1''⟩:=sty.fr.off (hoth _ _ k1' (hltL e3)) n1';obtain⟨k2'',n2''⟩:=sty.fr.off (hoth _ _ k2' (hltL e6)) n2';have stB:Stk k X ρ h w ρ3 h3 W3:=(Ab.stk stA).trans ⟨sty.rel,sty.fr,sty.evo.mono g2.le,ybc g2.le sty.le⟩;have himm:Imm X ρ1 h1 W ρ3 h3 W3:=λb j v hm hc=>by
         obtain⟨i1,i2⟩:=stx.fr.imm b j v hm hc;obtain⟨i3,i4⟩:=Ab.imm b j v i2 i1;exact sty.fr.imm b j v i4 i3
        have hevo:Evo h1.length ρ1 h1 ρ3 h3:=stx.evo.trans sty.evo;have hsr:SRel X ρ3 h3 W3 a.tmps s1:=λt=>(g3.slots t).imono himm hevo
        have hgl:GRel X G ρ3 h3 W3:=λgi cs' e=>(g3.glob gi cs' e).mono himm
        have fin: ∀ (jump:Option Code) (ρ4:Places),zoN ρ4 Lr->
         (Instr.endRound Lr jump).run P W3= .ok (.bool jump.isNone) (W3.putObj Lr (.loop (rec (if jump.isNone then .ready else .done) jump)))/\
         Aside ρ4 w.heap.size W3 (W3.putObj Lr (.loop (rec (if jump.isNone then .ready else .done) jump))):=λjump ρ4 hno=>by
         have:=run_endRound (P:=P) jump k3'';rw[hrec]at this ⊢;rw[hrec]at k3'';exact⟨this,Aside.put k3'' rfl rfl hno (by omega)⟩
        have hsame: ∀ (o':Go.Obj),(W3.putObj Lr o').heap[Lr]? =some o':=λo'=>World.putObj_heap_same (Array.getElem?_eq_some_iff.1 k3'').1
        have hoth3: ∀ (B:Nat) (o o':Go.Obj),W3.heap[B]? =some o->B≠Lr->(W3.putObj Lr o').heap[B]? =some o:=λB o o' hB hne=>(World.putObj_heap_other hne).trans hB
        have left: ∀o',o'≠ .normal->o=o'->roundPost P Lr (λe W'=>(e= .returned (.bool true)/\J (i+1) W')\/(e= .returned (.bool false)/\Jx W')) o.exit' a3 W3:=λo' hno ho=>by
         have hr2:r=(o,s1,h3):=by
          subst ho;cases o with
          |normal=>exact absurd rfl hno
          |exit i=>simpa using g1.symm
          |ret=>simpa using g1.symm
         obtain⟨f1,f2⟩:=fin (some o.code) ρ3 n3'';have hx':Jx (W3.putObj Lr (.loop (rec .done (some o.code)))):=by
          rw[hJx];exact⟨o,s1,h3,ρ3,hr2,ho ▸ hno,f2.stk stB,⟨f2.rel sty.rel,hgl.aside f2,hsr.aside f2,g3.size⟩,⟨n3'',hsame _⟩,⟨n4'',hoth3 _ _ _ k4'' (by omega)⟩⟩
         subst ho;cases o with
         |normal=>exact absurd rfl hno
         |exit i=>exact⟨_,_,f1,.inr ⟨rfl,hx'⟩⟩
         |ret=>exact⟨_,_,f1,.inr ⟨rfl,hx'⟩⟩
        cases o with
        |exit i=>exact left _ (by simp) rfl
        |ret=>exact left _ (by simp) rfl
        |normal=>
         simp only at g1;cases hnn:zew k keep s1 h3 with
         |none=>rw[hnn]at g1;cases g1
         |some q4=>
          obtain⟨s4,h4⟩:=q4;rw[hnn]at g1;obtain⟨ρ4,st4,sr4⟩:=zli hnn sty.rel hsr (ybc g2.le sty.le);obtain⟨-,m3⟩:=st4.fr.off k3'' n3'';obtain⟨-,m4⟩:=st4.fr.off k4'' n4'';obtain⟨-,m1⟩:=st4.fr.off k1'' n1'';obtain⟨-,m2⟩:=st4.fr.off k2'' n2'';obtain⟨f1,f2⟩:=fin none ρ4 m3;refine⟨_,_,f1,.inl ⟨rfl, ?_⟩⟩;rw[hJ];exact⟨ρ4,s4,h4,g1,f2.stk (stB.trans st4),⟨f2.rel st4.rel,(hgl.mono st4.fr).aside f2,sr4.aside f2,g3.size⟩,⟨m1,hoth3 _ _ _ k1'' (hltL e3)⟩,⟨m2,hoth3 _ _ _ k2'' (hltL e6)⟩,⟨m3,hsame _⟩,⟨m4,hoth3 _ _ _ k4'' (by omega)⟩⟩
    refine⟨w.heap.size+1,[{ target:= .collected w.heap.size,args:= #[] }],W1, { target:= .fn (.func g) #[.pointer (some ⟨b1,0,none⟩),.pointer (some ⟨b2,0,none⟩)],args:= #[.func (.yield (w.heap.size+1)) #[] #[]] },W1,g,
     #[.func (.yield (w.heap.size+1)) #[] #[],.pointer (some ⟨b1,0,none⟩),.pointer (some ⟨b2,0,none⟩)],W1, ?_, ?_,λ_ _=>trivial, ?_,(λe=>by cases e), ?_⟩
    ·rw[<- hW1,hrec];exact run_enterLoop_outer _ _ _ _ _
    ·simp only[resolve,hfv]
     simp[go_sem]
    ·simp[invoke,go_sem,eg]
    ·rw[<- hLr]
     refine (callsIn_wide (n:=n - 1)).2 (Calls.mono ((callsIn_wide (n:=8)).1 hcall) ?_);have hmarks: ∀ (ρ1:Places) (h1:List Obj) (W W':World),Stk k X ρ h w ρ1 h1 W'->zoN ρ1 Dm->W'.heap[Dm]? =some (.deferred (some []))->MarksOk ρ1 N W' ([{ target:= .collected w.heap.size,args:= #[] }]++a.defers):=fun ρ1 h1 W W' st hno hd=>by
      obtain⟨Ds,d1,d2,d3⟩:=S.marks.fr st.fr;obtain⟨Ds',d1',d2',d3'⟩:=S.marks;have hDD:Ds'=Ds:=by
       have:=d1'.symm.trans d1;exact (List.map_inj_right (λx y e=>by simpa using e)).1 this
      subst hDD;refine⟨Dm::Ds',by rw[d1,hDm];rfl,List.nodup_cons.2 ⟨λhm=> ?_,d2⟩,λD hD=> ?_⟩
      ·have:=(Array.getElem?_eq_some_iff.1 (d3' Dm hm).2.1).1
       omega
      ·rcases List.mem_cons.1 hD with rfl | hD
       ·exact⟨by have:=S.le;omega,hd,hno⟩
       ·exact d3 D hD
     rintro e W' ⟨⟨v,rfl⟩,hj | hj⟩
     ·rw[hJ]at hj
      obtain⟨ρ1,s1,h1,g1,g2,g3,-,-,⟨n3,k3⟩,⟨n4,k4⟩⟩:=hj;rw[yb9]at g1;simp only[rangeV,yaa]at g1;subst g1;have hel:=run_endLoop (P:=P) k3 (by rw[hrec];simp)
      refine⟨none,_,by rw[hrec]at hel;exact hel, ?_⟩
      have Ae:Aside ρ1 w.heap.size W' (W'.putObj Lr (.loop { rec .ready none with state:= .exhausted })):=Aside.put k3 rfl rfl n3 (by omega)
      have hk4:(W'.putObj Lr (.loop { rec .ready none with state:= .exhausted })).heap[Dm]? =some (.deferred (some [])):=(World.putObj_heap_other (by omega)).trans k4
      rw[hrec]at Ae hk4;exact hq ρ1 { a with defers:=[{ target:= .collected w.heap.size,args:= #[] }]++a.defers } _ (Ae.stk g2) ⟨⟨Ae.rel g3.rel,g3.glob.aside Ae,g3.slots.aside Ae,g3.size⟩,hmarks _ _ W' _ (Ae.stk g2) n4 hk4,ybc S.le (Ae.stk g2).fr.size⟩
     ·rw[hJx]at hj
      obtain⟨o,s1,h1,ρ1,rfl,hno,g2,g3,⟨n3,k3⟩,⟨n4,k4⟩⟩:=hj;have hel:=run_endLoop (P:=P) k3 (by rw[hrec];simp)
      refine⟨some o.code,_,by rw[hrec]at hel;exact hel, ?_⟩
      have Ae:Aside ρ1 w.heap.size W' (W'.putObj Lr (.loop { rec .done (some o.code) with state:= .exhausted })):=Aside.put k3 rfl rfl n3 (by omega)
      have hk4:(W'.putObj Lr (.loop { rec .done (some o.code) with state:= .exhausted })).heap[Dm]? =some (.deferred (some [])):=(World.putObj_heap_other (by omega)).trans k4
      rw[hrec]at Ae hk4;have hqq:=hq ρ1 { a with defers:=[{ target:= .collected w.heap.size,args:= #[] }]++a.defers } _ (Ae.stk g2) ⟨⟨Ae.rel g3.rel,g3.glob.aside Ae,g3.slots.aside Ae,g3.size⟩,hmarks _ _ W' _ (Ae.stk g2) n4 hk4,ybc S.le (Ae.stk g2).fr.size⟩
      cases o with
      |normal=>exact absurd rfl hno
      |exit i=>exact wpIn_exit hqq
      |ret=>exact wpIn_ret hqq
  ·cases hr
def zr4 {rd:Option Nat} {run:Run} {nt:Nat} {K:zgm} {Sh:zgl} {F:FuncId} {loopI:(Slots->List Obj->Res)->Slots->List Obj->Res} (hm:P.follows .mixedOrders=true) (hrun:zdk P G run) (hhas:zcz P run) (hit: ∀g,zdo G g=true->zf1 P g)
 (zfE: ∀ (k:Nat) (rd:Option Nat) (c:Code) (f:Slots->List Obj->Res),zqp k P X G nt rd c f->zqp k P X G nt rd (.loop c) (loopI f)):
 ∀ (c:Code) (k b:Nat),codeOk P (Sh F) nt c=true->(rd=none\/ziA c=true)->zqp k P X G nt rd c (codeV P G K Sh run loopI F k b c):=by
 intro c
 induction c generalizing rd with
 |skip=>
  intro k b hok hfl n N ρ s h a w r Q hr S hk hq;simp only[codeV,yaa]at hr;subst hr;exact wpIn_skip (hq ρ a w (Stk.refl S.st.rel hk) S)
 |region id ops draw=>
  intro k b hok hfl n N ρ s h a w r Q hr S hk hq;simp only[codeV]at hr;simp only[codeOk,yas,ybS]at hok;obtain⟨o,s',h'⟩:=r;refine zmi hm hrun hhas (λo ho d hd=> ?_) (λhd=> ?_) hr S.st fun ρ' a' w' st S' hd=>hq ρ' a' w' (st.stk S.st.rel hk) ⟨S',hd ▸ S.marks.fr st.fr,ybc S.le st.fr.size⟩
  ·have:=hok.1 o ho
   rw[hd]at this;simpa using this
  ·have:=hok.2
   rw[hd]at this;simpa using this
 |seq x y ihx ihy=>
  intro k b hok hfl n N ρ s h a w r Q hr S hk hq;simp only[codeV]at hr;simp only[codeOk,yas]at hok;simp only[ziA,yas]at hfl;refine wpIn_seq ?_;cases hf:codeV P G K Sh run loopI F k b x s h with
  |none=>rw[hf]at hr;cases hr
  |some q=>
   refine ihx k b hok.1 (hfl.imp id (·.1)) n N ρ s h a w q _ hf S hk fun ρ1 a1 w1 st S1=> ?_
   rw[hf]at hr;obtain⟨o,s1,h1⟩:=q;cases o with
   |normal=>exact ihy k b hok.2 (hfl.imp id (·.2)) n N ρ1 s1 h1 a1 w1 r Q hr S1 st.le (hq.step st)
   |exit i=>simp only[onNormal,yaa]at hr;subst hr;exact hq ρ1 a1 w1 st S1
   |ret=>simp only[onNormal,yaa]at hr;subst hr;exact hq ρ1 a1 w1 st S1
 |cond c x y ihx ihy=>
  intro k b hok hfl n N ρ s h a w r Q hr S hk hq;simp only[codeV]at hr;simp only[codeOk,yas]at hok;simp only[ziA,yas]at hfl;unfold branch at hr;split at hr
  ·rename_i t hc
   have hv:=zi6 S.st.glob S.st.slots c;rw[hc]at hv;have hb:a.eval c= .bool t:=by
    generalize a.eval c=v at hv;cases hv;rfl
   refine wpIn_cond hb ?_;cases t with
   |true=>exact ihx k b hok.1 (hfl.imp id (·.1)) n N ρ s h a w r Q hr S hk hq
   |false=>exact ihy k b hok.2 (hfl.imp id (·.2)) n N ρ s h a w r Q hr S hk hq
  ·cases hr
 |block id c ih=>
  intro k b hok hfl n N ρ s h a w r Q hr S hk hq;simp only[codeV]at hr;simp only[codeOk]at hok;refine wpIn_block ?_;cases hf:codeV P G K Sh run loopI F k id c s h with
  |none=>rw[hf]at hr;cases hr
  |some q=>
   refine ih k id hok hfl n N ρ s h a w q _ hf S hk fun ρ1 a1 w1 st S1=> ?_
   rw[hf]at hr;obtain⟨o,s1,h1⟩:=q;cases o with
   |normal=>simp only[leave,yaa]at hr;subst hr;exact hq ρ1 a1 w1 st S1
   |exit i=>
    simp only[leave]at hr;simp only[Out.exit',Exit.inBlock];split at hr
    ·rename_i e
     rw[yai e];simp only[yaa]at hr;subst hr;exact hq ρ1 a1 w1 st S1
    ·rename_i e
     rw[yaf e];simp only[yaa]at hr;subst hr;exact hq ρ1 a1 w1 st S1
   |ret=>simp only[leave,yaa]at hr;subst hr;exact hq ρ1 a1 w1 st S1
 |loop c ih=>
  intro k b hok hfl n N ρ s h a w r Q hr S hk hq;simp only[codeV]at hr;simp only[codeOk]at hok;split at hr
  ·rename_i keep hkeep
   refine zfE k rd c (λs h=>obind (zew k keep s h) λp=>codeV P G K Sh run loopI F k b c p.1 p.2) ?_ n N ρ s h a w r Q hr S hk hq
   intro n N ρ s h a w r Q hr S hk hq;replace hr:(obind (zew k keep s h) λp=>codeV P G K Sh run loopI F k b c p.1 p.2)=some r:=hr
   cases hn:zew k keep s h with
   |none=>rw[hn]at hr;cases hr
   |some p=>
    obtain⟨s2,h2⟩:=p;rw[hn]at hr;obtain⟨ρ2,st,hs⟩:=zli hn S.st.rel S.st.slots hk;exact ih k b hok hfl n N ρ2 s2 h2 a w r Q hr ⟨⟨st.rel,S.st.glob.mono st.fr,hs,S.st.size⟩,S.marks.fr st.fr,ybc S.le st.fr.size⟩ st.le (hq.step st)
  ·exact zfE k rd c _ (ih k b hok hfl) n N ρ s h a w r Q hr S hk hq
 |exit id=>
  intro k b hok hfl n N ρ s h a w r Q hr S hk hq;simp only[codeV,yaa]at hr;subst hr;exact wpIn_exit (hq ρ a w (Stk.refl S.st.rel hk) S)
 |ret=>
  intro k b hok hfl n N ρ s h a w r Q hr S hk hq;simp only[codeV,yaa]at hr;subst hr;exact wpIn_ret (hq ρ a w (Stk.refl S.st.rel hk) S)
 |rangeFunc f ps x y ihx ihy=>
  intro k b hok hfl n N ρ s h a w r Q hr S hk hq;obtain rfl:rd=none:=hfl.resolve_right (by simp[ziA])
  simp only[codeV]at hr;simp only[codeOk,yas]at hok;obtain⟨⟨⟨⟨f1,f2⟩,hps⟩,ok1⟩,ok2⟩:=hok;split at hr
  ·rename_i keep p hkp hp
   exact zr3 hit (λl k=>ihx k b ok1 (.inr f1)) (λl k=>ihy k b ok2 (.inr f2)) hp (by simpa[hp]using hps) n N ρ s h a w r Q hr S hk hq
  ·cases hr
 |_=>
  intro k b hok hfl n N ρ s h a w r Q hr S hk hq;simp[codeV]at hr
open Classical in
noncomputable def loops (body:Slots->List Obj->Res) (s:Slots) (h:List Obj):Res:=
 if e: ∃n r,iter body n s h=some r then some (Classical.choose (ybu e)) else none
def zjz {body:Slots->List Obj->Res}: ∀ {n m:Nat},n<=m-> ∀ {s:Slots} {h:List Obj} {r:Out × Slots × List Obj},iter body n s h=some r->iter body m s h=some r
 |0,_,_,s,h,r,hr=>by simp[iter]at hr
 |n+1,0,hl,_,_,_,_=>by omega
 |n+1,m+1,hl,s,h,r,hr=>by
  simp only[iter]at hr ⊢;cases hb:body s h with
  |none=>rw[hb]at hr;cases hr
  |some q=>
   rw[hb]at hr;obtain⟨o,s1,h1⟩:=q;cases o with
   |normal=>exact zjz (Nat.le_of_succ_le_succ hl) hr
   |exit i=>exact hr
   |ret=>exact hr
def zc7 {body:Slots->List Obj->Res} {s:Slots} {h:List Obj} {r:Out × Slots × List Obj}:loops body s h=some r↔ ∃n,iter body n s h=some r:=by
 unfold loops;constructor
 ·intro hr
  split at hr
  ·rename_i e
   simp only[yaa]at hr;subst hr;exact⟨_,ybu (ybu e)⟩
  ·cases hr
 ·rintro ⟨n,hn⟩
  have e: ∃n r,iter body n s h=some r:=⟨n,r,hn⟩;rw[dif_pos e];have h2:=ybu (ybu e);have h3:=zjz (Nat.le_max_left n (Classical.choose e)) hn;have h4:=zjz (Nat.le_max_right n (Classical.choose e)) h2;rw[h3]at h4;simpa using h4.symm
def zwF (body:Slots->List Obj->Res) (s:Slots) (h:List Obj):loops body s h=onNormal (body s h) (loops body):=by
 apply Option.ext;intro r;rw[zc7];cases hb:body s h with
 |none=>
  simp only[onNormal,reduceCtorEq,iff_false,not_exists];intro n hn;cases n with
  |zero=>simp[iter]at hn
  |succ n=>simp[iter,hb,onNormal]at hn
 |some q=>
  obtain⟨o,s1,h1⟩:=q;cases o with
  |normal=>
   simp only[onNormal];rw[zc7];constructor
   ·rintro ⟨n,hn⟩
    cases n with
    |zero=>simp[iter]at hn
    |succ n=>exact⟨n,by simpa[iter,hb,onNormal]using hn⟩
   ·rintro ⟨n,hn⟩
    exact⟨n+1,by simpa[iter,hb,onNormal]using hn⟩
  |exit i=>
   simp only[onNormal];constructor
   ·rintro ⟨n,hn⟩
    cases n with
    |zero=>simp[iter]at hn
    |succ n=>simpa[iter,hb,onNormal]using hn
   ·intro hr
    exact⟨1,by simpa[iter,hb,onNormal]using hr⟩
  |ret=>
   simp only[onNormal];constructor
   ·rintro ⟨n,hn⟩
    cases n with
    |zero=>simp[iter]at hn
    |succ n=>simpa[iter,hb,onNormal]using hn
   ·intro hr
    exact⟨1,by simpa[iter,hb,onNormal]using hr⟩
def zr5 {nt:Nat} {rd:Option Nat} {c:Code} {f:Slots->List Obj->Res} (hc:zqp k P X G nt rd c f):zqp k P X G nt rd (.loop c) (loops f):=λm N ρ s h a w r Q hr S hk hq=>
 let ⟨n,hn⟩:=zc7.1 hr
 ztW hc n m N ρ s h a w r Q hn S hk hq
end
end Go.Am
namespace Go.Am
section
variable {X:Nat->Nat->Prop} {ρ:Places} {w:World} {P:Program} {f:FuncId}
def zjA {α:Type} (le:α->α->Bool) (x:α): ∀l,(ztB le x l).Perm (x::l)
 |[]=> .refl _
 |y::r=>by
  unfold ztB;split
  ·exact .refl _
  ·exact (List.Perm.cons y (zjA le x r)).trans (.swap x y r)
def zfi {α:Type} (le:α->α->Bool): ∀l:List α,(zeb le l).Perm l
 |[]=> .refl _
 |x::l=>(zjA le x _).trans ((zfi le l).cons x)
def zqr {α:Type} {le:α->α->Bool} (ht: ∀a b c,le a b=true->le b c=true->le a c=true) (hl: ∀a b,(le a b || le b a)=true) (x:α): ∀l,l.Pairwise (λa b=>le a b=true)->(ztB le x l).Pairwise λa b=>le a b=true
 |[],_=>by simp[ztB]
 |y::r,h=>by
  obtain⟨h1,h2⟩:=List.pairwise_cons.1 h;unfold ztB;split
  ·rename_i e
   refine List.pairwise_cons.2 ⟨λz hz=> ?_,h⟩
   rcases List.mem_cons.1 hz with rfl | hz
   ·exact e
   ·exact ht _ _ _ e (h1 z hz)
  ·rename_i e
   refine List.pairwise_cons.2 ⟨λz hz=> ?_,zqr ht hl x r h2⟩
   rcases List.mem_cons.1 ((zjA le x r).mem_iff.1 hz) with rfl | hz
   ·have:=hl z y
    simp only[ybo]at this;exact this.resolve_left e
   ·exact h1 z hz
def zgK {α:Type} {le:α->α->Bool} (ht: ∀a b c,le a b=true->le b c=true->le a c=true) (hl: ∀a b,(le a b || le b a)=true): ∀l,(zeb le l).Pairwise λa b=>le a b=true
 |[]=> .nil
 |x::l=>zqr ht hl x _ (zgK ht hl l)
def zqs {α:Type} {le:α->α->Bool} (ht: ∀a b c,le a b=true->le b c=true->le a c=true) (hl: ∀a b,(le a b || le b a)=true) (ha: ∀a b,le a b=true->le b a=true->a=b) (l:List α):l.mergeSort le=zeb le l:=
 List.Perm.eq_of_pairwise (λa b _ _=>ha a b) (List.pairwise_mergeSort ht hl l) (zgK ht hl l) ((List.mergeSort_perm l le).trans (zfi le l).symm)
def zny {α β:Type} {le:α->α->Bool} {le':β->β->Bool} {f:β->α} (h: ∀a b,le (f a) (f b)=le' a b): ∀l:List β,zeb le (l.map f)=(zeb le' l).map f
 |[]=>rfl
 |x::l=>by
  have key: ∀r:List β,ztB le (f x) (r.map f)=(ztB le' x r).map f:=λr=>by
   induction r with
   |nil=>rfl
   |cons y r ih=>
    simp only[ya1,ztB,h];split
    ·rfl
    ·rw[ih];rfl
  show ztB le (f x) (zeb le (l.map f))=_
  rw[zny h l,key];rfl
def zpm {a b:Int}:leI a b=true↔a<=b:=decide_eq_true_iff
def zhB {a b:List UInt8}:leS a b=true↔a<=b:=decide_eq_true_iff
def zBj (l:List Int):l.mergeSort leI=zeb leI l:=
 zqs (le:=leI) (λa b c h1 h2=>by simp only[zpm]at *;omega) (λa b=>by simp only[ybo,zpm];omega) (λa b h1 h2=>by simp only[zpm]at *;omega) l
def zBk (l:List (List UInt8)):l.mergeSort leS=zeb leS l:=
 zqs (le:=leS) (λa b c h1 h2=>zhB.2 (List.le_trans (zhB.1 h1) (zhB.1 h2))) (λa b=>by simp only[ybo,zhB];exact List.le_total a b) (λa b h1 h2=>List.le_antisymm (zhB.1 h1) (zhB.1 h2)) l
structure Sorter {α:Type} [Inhabited α] (P:Program) (f:FuncId) (enc:α->Value) (le:α->α->Bool):Prop where
 has : ∃ fn, P.funcs[f]? = some fn /\ (fn.name == "runtime.NumGoroutine") = false /\ fn.body.isNone = false
 some: ∀ (blk off cap:Nat) (zs:List α) (w:World),Sort.Holds enc w blk off zs.toArray->blk<w.heap.size->zs.length<4611686018427387904->
  Calls P f #[.slice (some ⟨blk,off,none⟩) zs.length cap] w λe w'=>e= .returned (.tuple #[])/\ ∃n os,w'=Sort.grow (Sort.putRow enc (Sort.ahead w n) blk off (zs.mergeSort le).toArray) os
 none: ∀ (p:Option Addr) (cap:Nat) (w:World),Calls P f #[.slice p 0 cap] w λe w'=>e= .returned (.tuple #[])/\w'=w
def zem {α:Type} {dec:α->D} (h1: ∀a,(dec a).isCell=true): ∀zs:List α,flat (zs.map dec)=zs.map dec
 |[]=>rfl
 |z::zs=>by
  have:=zem h1 zs;simp only[flat,ya1,yaY,D.cells_one (h1 z)]at this ⊢;rw[this];rfl
def znz {α:Type} [Inhabited α] {enc:α->Value} {dec:α->D} {le:α->α->Bool} (h1: ∀a,(dec a).isCell=true) (h2: ∀M w a,Rep M w (enc a) (dec a)) (h3: ∀M w v a,Rep M w v (dec a)->v=enc a)
 (hs:Sorter P f enc le) {zs:List α} (hz:zs.length<=65536) {vs:List Value} (H:HRel X ρ [.arr 1 (zs.map dec) 0] w) (ha:zbK X ρ [.arr 1 (zs.map dec) 0] w vs [.arr 0 zs.length]):
 Calls P f vs.toArray w λe w'=> ∃ρ' rv,e= .returned rv/\Stp X ρ [.arr 1 (zs.map dec) 0] w ρ' [.arr 1 ((zs.mergeSort le).map dec) 0] w'/\zk3 X ρ' [.arr 1 ((zs.mergeSort le).map dec) 0] w' rv []:=by
 obtain⟨v,e,hv⟩:=ha.2 0 _ rfl;have hvs:vs=[v]:=by
  have:=ha.1
  match vs,this,e with
  |[u],_,e=>simpa using e
 subst hvs;obtain⟨-,sz,xs,wm,r,g1,g2,-,g4⟩:=hv;simp only[yau,yaa,Obj.arr.injEq]at g1;obtain⟨rfl,rfl,rfl⟩:=g1;replace g4:=g4 (by simp)
 have hret: ∀ρ' h' w',zk3 X ρ' h' w' (.tuple #[]) []:=λ_ _ _=>⟨[],rfl,λj R hj=>by simp at hj,rfl⟩
 rcases ybs zs.length with h0 | h0
 ·have:zs=[]:=yaL h0
  subst this;obtain⟨p,cap,rfl⟩: ∃p cap,v= .slice p 0 cap:=by
   cases r with
   |none=>obtain⟨-,a,rfl⟩:=g4;exact⟨a,0,rfl⟩
   |some q=>exact⟨_,_,g4⟩
  refine (hs.none p cap w).mono ?_
  rintro e w' ⟨rfl,rfl⟩
  exact⟨ρ,_,rfl,by simpa using Stp.refl H,hret _ _ _⟩
 ·obtain⟨r',q1,q2⟩:=H.obj 0 _ rfl
  rw[g2]at q1;cases q1;cases r with
  |none=>have:=q2.2;simp at this;subst this;simp at h0
  |some q=>
   obtain⟨b,cap⟩:=q;obtain⟨-,cur,et,fz,m1,m2,m3,m4,m5,m6,m7,m8⟩:=q2;have hv':v= .slice (some ⟨b,0,none⟩) zs.length cap:=g4;subst hv';rw[yak]at m3;rw[zem h1]at m8;have hlt:=H.lt g2;have hH:Sort.Holds enc w b 0 zs.toArray:=λj hj=>by
    simp only[ycc]at hj;obtain⟨u,f1,f2,f3⟩:=m8 j (dec zs[j]) (by simp[hj])
    have:=h3 _ _ _ _ f2;subst this;refine⟨?_, ?_⟩
    ·rw[yaO,zai m1,f1,getElem!_pos zs.toArray j (by simpa using hj)];simp
    ·rw[yaO];exact m7.get j (by omega)
   refine (hs.some b 0 cap zs w hH hlt (by omega)).mono ?_
   rintro e w' ⟨rfl,n,os,rfl⟩
   have hlen:(zs.mergeSort le).length=zs.length:=List.length_mergeSort ..;generalize zs.mergeSort le=zs' at hlen ⊢;have hold: ∀k,k<w.heap.size->(Sort.grow (Sort.putRow enc (Sort.ahead w n) b 0 zs'.toArray) os).heap[k]? =(w.heap.modify b (Sort.onCells (Sort.putCells enc 0 zs'.toArray)))[k]? :=λk hk=>by
    rw[Sort.heap_grow_old]
    ·rfl
    ·simpa[Sort.putRow,Sort.mapBlock,Sort.ahead]using hk
   have hb:(Sort.grow (Sort.putRow enc (Sort.ahead w n) b 0 zs'.toArray) os).heap[b]? =some (.cells (Sort.putCells enc 0 zs'.toArray cur) et fz):=by
    rw[hold b hlt,ybK,yai rfl,m1];rfl
   have hsz:(Sort.putCells enc 0 zs'.toArray cur).size=cur.size:=by simp[Sort.putCells]
   have st:=zcS (w':=Sort.grow (Sort.putRow enc (Sort.ahead w n) b 0 zs'.toArray) os) (r':=some (b,cap)) (o:= .arr 1 (zs.map dec) 0) (o':= .arr 1 (zs'.map dec) 0) H rfl g2 rfl rfl rfl
    (by simp[Sort.grow,Sort.putRow,Sort.mapBlock,Sort.ahead])
    (λk hk hk'=>by rw[hold k hk,ybK,yaf λe=>hk' cap (by rw[e])]) (.inl rfl)
    (λj u b' c' _ hmu _=>absurd (yaj j) (by simpa[Obj.mutAt]using hmu)) (λ_ j hj=>hj) ⟨rfl,by simp[hlen],λ_=>rfl⟩
    (λhf he=>⟨yaj _,_,et,fz,hb,by rw[hsz,m2],by simpa[hlen]using m3,m4,m5,λx hx=>by
      simp only[ycb]at hx;obtain⟨a,_,rfl⟩:=hx;rw[D.cells_one (h1 a)];rfl,by
      rw[hsz];intro cs t fz' he';rw[hb]at he';cases he';exact m7 cur et fz m1,λj x hj=>by
      rw[zem h1,yax,yac]at hj;obtain⟨a,ha,rfl⟩:=hj;have hj:=lt_of_getElem? ha;refine⟨enc a, ?_,h2 _ _ a,h1 a⟩;rw[Sort.putCells,Array.getElem?_mapIdx,ya8 (show j<cur.size by omega),yaF,yai (by simp;omega),ydU,getElem!_pos zs'.toArray j (by simpa using hj)]
      simp[(List.getElem?_eq_some_iff.1 ha).2]⟩)
   rw[zbU g2]at st;exact⟨ρ,_,rfl,⟨st.1,st.2.1,st.2.2⟩,hret _ _ _⟩
def zhC: ∀ {xs:List D} {zs:List Int},zm5 xs=some zs->xs=zs.map λn=> .int .i64 n
 |[],zs,h=>by simp only[zm5,yaa]at h;subst h;rfl
 |x::xs,zs,h=>by
  unfold zm5 at h;split at h
  ·simp only[yaa]at h;subst h;rename_i e;cases e
  ·rename_i n xs' e
   cases e;simp only[yac]at h;obtain⟨l,h1,rfl⟩:=h;rw[zhC h1];rfl
  ·cases h
def zhD: ∀ {xs:List D} {zs:List (List UInt8)},zm6 xs=some zs->xs=zs.map strD
 |[],zs,h=>by simp only[zm6,yaa]at h;subst h;rfl
 |x::xs,zs,h=>by
  unfold zm6 at h;split at h
  ·rename_i e;cases e
  ·rename_i n xs' e
   cases e;simp only[yac]at h;obtain⟨l,h1,rfl⟩:=h;rw[zhD h1];rfl
  ·cases h
abbrev zHD (l:List UInt8):Value:= .string ⟨l.toArray⟩
def znA (P:Program) (G:Nat->Option (List D)) (f:FuncId):Prop:=
 (zbs G f=1->Sorter P f (Value.int .i64) leI)/\(zbs G f=2->Sorter P f zHD leS)
def zjB (G:Nat->Option (List D)) (f:FuncId):zbs G f=0\/zbs G f=1\/zbs G f=2\/zbs G f=3:=by
 unfold zbs;split
 ·split
  ·simp
  ·split
   ·simp
   ·split <;> simp
 ·simp
def zr6 {k:Nat} {args:List V} {h:List Obj} {r:List V × List Obj} (hr:zm7 k args h=some r):
 ∃xs,args=[.arr 0 xs.length]/\h=[.arr 1 xs 0]/\xs.length<=65536/\(k=1-> ∃zs:List Int,zm5 xs=some zs/\r=([],[.arr 1 ((zeb leI zs).map λn=> .int .i64 n) 0]))/\
  (k≠1-> ∃zs:List (List UInt8),zm6 xs=some zs/\r=([],[.arr 1 ((zeb leS zs).map strD) 0])):=by
 unfold zm7 at hr;split at hr
 ·rename_i n xs
  split at hr
  ·rename_i hn
   obtain⟨rfl,hn⟩:=hn;refine⟨xs,rfl,rfl,hn,λhk=> ?_,λhk=> ?_⟩
   ·rw[yai hk,yac]at hr
    obtain⟨zs,h1,rfl⟩:=hr;exact⟨zs,h1,rfl⟩
   ·rw[yaf hk,yac]at hr
    obtain⟨zs,h1,rfl⟩:=hr;exact⟨zs,h1,rfl⟩
  ·cases hr
 ·cases hr
def zyY {G:Nat->Option (List D)} (hs:znA P G f) (hk:zbs G f≠0) (hk3:zbs G f≠3) {args:List V} {h h':List Obj} {rets:List V} (hr:zm7 (zbs G f) args h=some (rets,h')):
 ∀ (X:Nat->Nat->Prop) (ρ:Places) (w:World) (vs:List Value),HRel X ρ h w->zbK X ρ h w vs args->
  Calls P f vs.toArray w λe w'=> ∃ρ' rv,e= .returned rv/\Stp X ρ h w ρ' h' w'/\zk3 X ρ' h' w' rv rets:=by
 intro X ρ w vs H ha;obtain⟨xs,rfl,rfl,hn,k1,k2⟩:=zr6 hr;rcases zjB G f with e | e | e | e
 ·exact absurd e hk
 ·obtain⟨zs,e1,e2⟩:=k1 e
  cases e2;rw[zhC e1,yak]at ha hn;rw[zhC e1]at H ⊢;rw[<- zBj];exact znz (λ_=>rfl) (λ_ _ a=> .int _ a) (λ_ _ v a h=>by cases h;rfl) (hs.1 e) hn H ha
 ·obtain⟨zs,e1,e2⟩:=k2 (by omega)
  cases e2;rw[zhD e1,yak]at ha hn;rw[zhD e1]at H ⊢;rw[<- zBk];exact znz (λ_=>rfl) (λ_ _ a=> .str _) (λ_ _ v a h=>by cases h;rfl) (hs.2 e) hn H ha
 ·exact absurd e hk3
end
end Go.Am
namespace Go.Am
section
variable {X:Nat->Nat->Prop} {ρ ρ' ρ'':Places} {h h' h'' h2:List Obj} {w w' w'':World} {k:Nat} {P:Program} {G:Nat->Option (List D)}
def zkF {t:TypeId} {v u:Value} (hr:(Instr.loadAt t v).run P w= .ok u w):(do loadVar t (<- asAddr v)).run P w= .ok u w:=by
 cases v with
 |pointer a=>
  cases a with
  |none=>simp[Instr.loadAt,Instr.sureAddr]at hr
  |some a=>simpa[Instr.loadAt,Instr.sureAddr,asAddr]using hr
 |_=>simp[Instr.loadAt,Instr.sureAddr]at hr
def zgL (tmps:Array Value):ResultVar->Sem Value
 |.tmp t=>pure (tmps.getD t undef)
 |.cell a t=>do loadVar t (<- asAddr (tmps.getD a undef))
def zhE {tmps:Array Value} {s:Slots} (H:HRel X ρ h w) (hs:SRel X ρ h w tmps s): ∀ (l:List ResultVar) (vs:List V),zrE P s h l=some vs->
 ∃us:List Value,(l.mapM (zgL tmps)).run P w= .ok us w/\zbK X ρ h w us vs
 |[],vs,hr=>by
  simp only[zrE,yaa]at hr;subst hr;exact⟨[],by simp,rfl,λj A hj=>by simp at hj⟩
 |.tmp t::l,vs,hr=>by
  simp only[zrE,yac]at hr;obtain⟨vs',hr',rfl⟩:=hr;obtain⟨us,h1,h2,h3⟩:=zhE H hs l vs' hr';refine⟨tmps.getD t undef::us,by simp[zgL,h1],by simp[h2],λj A hj=> ?_⟩
  cases j with
  |zero=>simp only[yau,yaa]at hj;subst hj;exact⟨_,rfl,hs t⟩
  |succ j=>simpa using h3 j A (by simpa using hj)
 |.cell a t::l,vs,hr=>by
  simp only[zrE]at hr;split at hr
  ·rename_i v vs' hl hr'
   simp only[yaa]at hr;subst hr;obtain⟨us,h1,h2,h3⟩:=zhE H hs l vs' hr';obtain⟨u,h4,h5⟩:=zi7 hl H (hs a);have h6:=zkF h4;refine⟨u::us, ?_,by simp[h2],λj A hj=> ?_⟩
   ·simp only[yaI,zgL,Sem.run_bind]
    simp only[Sem.run_bind]at h6;rw[h6];simp[h1]
   ·cases j with
    |zero=>simp only[yau,yaa]at hj;subst hj;exact⟨u,rfl,h5⟩
    |succ j=>simpa using h3 j A (by simpa using hj)
  ·cases hr
def zpn {fn:Func} {tmps:Array Value} {us:List Value} (hr:(fn.results.toList.mapM (zgL tmps)).run P w= .ok us w):(results fn tmps).run P w= .ok (zk2 us) w:=by
 have e:results fn tmps=(do let vs <- fn.results.mapM (zgL tmps);pure (if h:vs.size=1 then vs[0] else .tuple vs)):=by
  unfold results;congr 1
 rw[e,ydC];simp only[Sem.run_bind,Sem.run_map,hr]
 match us with
 |[]=>simp[zk2]
 |[v]=>simp[zk2]
 |v::u::us=>simp[zk2]
def zf2: ∀ (vs:List V) (ts:List TypeId) (ρ:Places) (h:List Obj) (us:List Value),HRel X ρ h w->zbK X ρ h w us vs->
 ∃ρ',Stp X ρ h w ρ' (zhr P h vs ts).2 w/\zbK X ρ' (zhr P h vs ts).2 w us (zhr P h vs ts).1
 |[],ts,ρ,h,us,H,ha=>⟨ρ,Stp.refl H,ha⟩
 |v::vs,ts,ρ,h,us,H,⟨hl,hg⟩=>by
  match us,hl,hg with
  |u::us,hl,hg=>
  obtain⟨u',e,hv⟩:=hg 0 v (by simp)
  simp only[yau,yaa]at e;subst e;have tail:zbK X ρ h w us vs:=⟨by simpa using hl,λj A hj=>by simpa using hg (j+1) A (by simpa using hj)⟩
  simp only[zhr];split
  ·obtain⟨n1,n2⟩:=zo4 H (za2 P (ts.headD 0))
   have hu:u= .slice none 0 0:=hv;subst hu;obtain⟨ρ',s1,l1,r1⟩:=zf2 vs ts.tail _ _ us n1.rel ⟨tail.1,λj A hj=>let ⟨v,a,b⟩:=tail.2 j A hj;⟨v,a,n1.vrel b⟩⟩
   refine⟨ρ',n1.trans H s1,by simp[l1],λj A hj=> ?_⟩
   cases j with
   |zero=>simp only[yau,yaa]at hj;subst hj;exact⟨_,rfl,s1.vrel n2⟩
   |succ j=>simpa using r1 j A (by simpa using hj)
  ·obtain⟨ρ',s1,l1,r1⟩:=zf2 vs ts.tail _ _ us H tail
   refine⟨ρ',s1,by simp[l1],λj A hj=> ?_⟩
   cases j with
   |zero=>simp only[yau,yaa]at hj;subst hj;exact⟨_,rfl,s1.vrel hv⟩
   |succ j=>simpa using r1 j A (by simpa using hj)
def znB {ts:List TypeId} {vs ws:List V} {us:List Value} (hx:zdn P k ts vs h=some (ws,h2)) (H:HRel X ρ h w) (ha:zbK X ρ h w us vs) (hk:k<=h.length):
 ∃ρ2,Stk k X ρ h w ρ2 h2 w/\zk3 X ρ2 h2 w (zk2 us) ws:=by
 unfold zdn at hx;obtain⟨ρ1,s1,r1⟩:=zf2 (P:=P) vs ts ρ h us H ha;generalize zhr P h vs ts=p at*;simp only at hx;obtain⟨r,hr⟩:=zfY p.2 k (p.1.flatMap V.ids);have hn:(za8 p.2 (zal (List.range k) (p.1.flatMap V.ids))).Nodup:=zee _ (zcj _ _ ybT);generalize za8 p.2 (zal (List.range k) (p.1.flatMap V.ids))=ids at*;split at hx
 ·rename_i s3 h3 e1 e2
  simp only[yaa,yab]at hx;obtain⟨rfl,rfl⟩:=hx;obtain⟨R,st⟩:=zjx s1.rel hn e2 hr;obtain⟨m1,m2⟩:=zaV e1;refine⟨_,(s1.stk H hk).trans st,us,by rw[r1.1,m1],λj B hj=> ?_,rfl⟩
  obtain⟨A,hA,hAr⟩:=m2 j B hj;obtain⟨u,hu,hv⟩:=r1.2 j A hA;refine⟨u,hu,V2.ren R ?_ hAr⟩;cases A with
  |tup vs=>simp[V.ren2,V.ren1,V.ren0]at hAr
  |_=>exact hv
 ·cases hx
def zfO: ∀ (args:List V) (i t:Nat),zbE (zaq i args) t=if i<=t then args.getD (t - i) .dead else .dead
 |[],i,t=>by simp[zaq,zbE]
 |v::vs,i,t=>by
  simp only[zaq,zbE];rw[zfO vs (i+1) t]
  by_cases e:i=t
  ·subst e;simp
  ·rw[yaf e]
   by_cases h1:i<=t
   ·rw[yai h1,yai (by omega),show t - i=t - (i+1)+1 by omega,ydp]
   ·rw[yaf h1,yaf (by omega)]
def zij {n:Nat} {fn:Func} {tmps:Array Value} {R:Ending->World->Prop} {N:Nat} {Z:World->Prop} (hZ: ∀ (W:World) (D:Nat),Z W->N<=D->W.heap[D]? =some (.deferred (some []))->zoN ρ D->Z (W.putObj D (.deferred none)))
 (hR: ∀W,Z W-> ∃v,(results fn tmps).run P W= .ok v W/\R (.returned v) W):
 ∀ (Ds:List Nat) (W:World),Z W->Ds.Nodup->(∀D∈Ds,N<=D/\W.heap[D]? =some (.deferred (some []))/\zoN ρ D)->
  LeavesInM (Fw none) n P fn tmps R (Ds.map λD=> { target:= .collected D,args:= #[] }) .returning W
 |[],W,hz,_,_=>hR W hz
 |D::Ds,W,hz,hn,hd=>by
  obtain⟨h1,h2⟩:=List.nodup_cons.1 hn;obtain⟨d1,d2,d3⟩:=hd D (ybh ..);refine⟨by simp,.inl ⟨D,_,rfl,run_takeDeferred d2,zij hZ hR Ds _ (hZ W D hz d1 d2 d3) h2 λD' hD'=> ?_⟩⟩
  obtain⟨e1,e2,e3⟩:=hd D' (ybb _ hD');exact⟨e1,(World.putObj_heap_other (show D'≠D from λe=>h1 (by rw[<- e];exact hD'))).trans e2,e3⟩
def zqt {run:Run} {K:zgm} {Sh:zgl} (hit: ∀g,zdo G g=true->zf1 P g) (hm:P.follows .mixedOrders=true) {loopI:(Slots->List Obj->Res)->Slots->List Obj->Res} (hrun:zdk P G run) (hhas:zcz P run)
 (zfE: ∀ (k nt:Nat) (X:Nat->Nat->Prop) (rd:Option Nat) (c:Code) (f:Slots->List Obj->Res),zqp k P X G nt rd c f->zqp k P X G nt rd (.loop c) (loopI f)):
 zdk P G (bodyV P G K Sh run loopI)/\zcz P (bodyV P G K Sh run loopI):=by
 have open' : ∀ f args h r, bodyV P G K Sh run loopI f args h = some r -> ∃ fn c, P.funcs[f]? = some fn /\ fn.body = some c /\ (fn.name == "runtime.NumGoroutine") = false /\ codeOk P (Sh f) fn.ntmps c = true /\
  args.length<=fn.ntmps/\zAc P fn h.length (codeV P G K Sh run loopI f h.length 0 c (zaq 0 args) h)=some r:=λf args h r hr=>by
  unfold bodyV at hr;split at hr
  ·cases hr
  ·rename_i fn hf
   split at hr
   ·cases hr
   ·rename_i c hb
    split at hr
    ·rename_i hc
     simp only[yas,yaA,yc1]at hc;exact⟨fn,c,hf,hb,hc.2,hc.1.1,hc.1.2,hr⟩
    ·cases hr
 refine⟨λf args h rets h' hr X ρ w vs H hg ha=> ?_,λf args h r hr=> ?_⟩
 ·obtain⟨fn,c,hf,hb,_,hok,hle,he⟩:=open' _ _ _ _ hr
  refine (callsIn_wide (n:=9)).1 (callsIn_of_wp_marks (F:=Fw none) hf hb trivial ?_);have S:St X G fn.ntmps ρ h w { tmps:=vs.toArray++Array.replicate (fn.ntmps - vs.toArray.size) undef,defers:=[] } (zaq 0 args):=by
   refine⟨H,hg,λt=> ?_, ?_⟩
   ·rw[zfO,yai (yaj _),ydU]
    rcases ybF t args.length with ht | ht
    ·obtain⟨v,h1,h2⟩:=ha.2 t args[t] (by simp[ht])
     have h3:args.getD t .dead=args[t]:=by simp[yaw,ht]
     rw[h3,yap,ybN (by simpa[ha.1]using ht),yc9,h1]
     exact h2
    ·have h3:args.getD t .dead= .dead:=by simp[yaw,yaM ht]
     rw[h3];trivial
   ·have:=ha.1
    simp only[ycy,ycc,ydk];omega
  cases hcv:codeV P G K Sh run loopI f h.length 0 c (zaq 0 args) h with
  |none=>rw[hcv]at he;cases he
  |some q=>
   obtain⟨o,s1,h1⟩:=q;rw[hcv]at he;refine zr4 hm hrun hhas hit (λk rd c f=>zfE k _ _ rd c f) c _ 0 hok (.inl rfl) 9 w.heap.size ρ _ h _ w _ _ hcv ⟨S,⟨[],rfl,ydD,λ_ h=>by cases h⟩,yag _⟩ (yag _) fun ρ1 a1 w1 st S1=> ?_
   have key:obind (zrE P s1 h1 fn.results.toList) (λvs=>zdn P h.length fn.resultTypes.toList vs h1)=some (rets,h')->
    LeavesInM (Fw none) 9 P fn a1.tmps (λe w'=> ∃ρ' rv,e= .returned rv/\Stp X ρ h w ρ' h' w'/\zk3 X ρ' h' w' rv rets) a1.defers .returning w1:=λhe=>by
    obtain⟨Ds,d1,d2,d3⟩:=S1.marks;rw[d1];refine zij (ρ:=ρ1) (N:=w.heap.size) (Z:=λW=>Stk h.length X ρ h w ρ1 h1 W/\SRel X ρ1 h1 W a1.tmps s1) (λW D hz hN hD hno=> ?_) (λW hz=> ?_) Ds w1 ⟨st,S1.st.slots⟩ d2 d3
    ·have A:Aside ρ1 w.heap.size W (W.putObj D (.deferred none)):=Aside.put hD rfl rfl hno hN
     exact⟨A.stk hz.1,hz.2.aside A⟩
    ·obtain⟨stW,srW⟩:=hz
     cases hres:zrE P s1 h1 fn.results.toList with
     |none=>rw[hres]at he;cases he
     |some rs=>
      rw[hres]at he;obtain⟨us,r1,r2⟩:=zhE stW.rel srW _ _ hres;obtain⟨ρ2,st2,rr⟩:=znB he stW.rel r2 stW.le;have st3:=stW.trans st2;exact⟨_,zpn r1,ρ2,_,rfl,⟨st3.rel,st3.fr,st3.evo⟩,rr⟩
   cases o with
   |normal=>exact key he
   |exit i=>simp[zAc]at he
   |ret=>exact key he
 ·obtain⟨fn,c,hf,hb,hname,_⟩:=open' _ _ _ _ hr
  exact⟨fn,hf,hname,by rw[hb];rfl⟩
def zlj {x y:Option (List V × List Obj)} {r:List V × List Obj} (hj:joinV x y=some r):x=some r/\y=some r:=by
 unfold joinV at hj;split at hj
 ·rename_i e
  exact⟨hj,e ▸ hj⟩
 ·cases hj
def zjC {run:Run} {K:zgm} {Sh:zgl} {loopI:(Slots->List Obj->Res)->Slots->List Obj->Res} {f:FuncId} {args:List V} {r:List V × List Obj} (hr:bodyS P G K Sh run loopI f args h=some r):
 (zbs G f=3/\bodyV P (zoM G) K Sh run loopI f args h=some r)\/(zbs G f≠0/\zbs G f≠3/\zm7 (zbs G f) args h=some r)\/bodyV P G K Sh run loopI f args h=some r\/ ∃zav,args= .d (.list [])::zav/\bodyV P G K Sh run loopI f (.nilS::zav) h=some r/\bodyV P G K Sh run loopI f (.emp::zav) h=some r:=by
 unfold bodyS at hr;split at hr
 ·exact .inl ⟨‹_›,hr⟩
 rename_i h3;refine .inr ?_;split at hr
 ·exact .inl ⟨‹_›,h3,hr⟩
 ·refine .inr ?_
  split at hr
  ·exact .inr ⟨_,rfl,zlj hr⟩
  ·exact .inl hr
def GRel.own {X:Nat->Nat->Prop} {ρ:Places} {h:List Obj} {w:World} (hg:GRel X G ρ h w):GRel X (zoM G) ρ h w:=by
 intro g cs hc;unfold zoM at hc;split at hc
 ·simp only[yaa]at hc
  subst hc;exact⟨g,0,λ_=> .bool false,rfl,λj c h=>by simp at h,λj c h=>by simp at h⟩
 ·exact hg g cs hc
def GRel.unown (h9:zdy G=false) {X:Nat->Nat->Prop} {ρ:Places} {h:List Obj} {w:World} (hg:GRel X (zoM G) ρ h w):GRel X G ρ h w:=by
 intro g cs hc;refine hg g cs ?_;unfold zoM
 by_cases e:g=999999
 ·subst e;unfold zdy at h9;rw[hc]at h9;cases h9
 ·rw[yaf e];exact hc
def zwG {run:Run} {K:zgm} {Sh:zgl} (h9:zdy G=false) (hso: ∀g,znA P G g) (hit: ∀g,zdo G g=true->zf1 P g) (hm:P.follows .mixedOrders=true) {loopI:(Slots->List Obj->Res)->Slots->List Obj->Res} (hrun:zdk P G run) (hhas:zcz P run)
 (zfE: ∀ (G':Nat->Option (List D)) (k nt:Nat) (X:Nat->Nat->Prop) (rd:Option Nat) (c:Code) (f:Slots->List Obj->Res),zqp k P X G' nt rd c f->zqp k P X G' nt rd (.loop c) (loopI f)):
 zdk P G (bodyS P G K Sh run loopI)/\zcz P (bodyS P G K Sh run loopI):=by
 obtain⟨b1,b2⟩:=zqt (K:=K) (Sh:=Sh) hit hm hrun hhas (zfE G);obtain⟨c1,c2⟩:=zqt (G:=zoM G) (K:=K) (Sh:=Sh) (λg hg=>hit g (by
  unfold zdo zoM at hg;rw[yaf (by omega)]at hg
  exact hg)) hm (run:=run) (λf args h rets h' hr X ρ w vs H hg ha=>hrun f args h rets h' hr X ρ w vs H (hg.unown h9) ha) hhas (zfE (zoM G))
 refine⟨λf args h rets h' hr X ρ w vs H hg ha=> ?_,λf args h r hr=> ?_⟩
 ·rcases zjC hr with ⟨-,hr⟩ | ⟨hk,hk3,hr⟩ | hr | ⟨zav,rfl,hr1,hr2⟩
  ·exact c1 f args h rets h' hr X ρ w vs H hg.own ha
  ·exact zyY (hso f) hk hk3 hr X ρ w vs H ha
  ·exact b1 f args h rets h' hr X ρ w vs H hg ha
  ·obtain⟨v,hv1,hv2⟩:=ha.2 0 _ rfl
   have rest': ∀A,zay X ρ h w v A->zbK X ρ h w vs (A::zav):=λA hA=>⟨by simpa using ha.1,λj B hj=>by
    cases j with
    |zero=>simp only[yau,yaa]at hj;subst hj;exact⟨v,hv1,hA⟩
    |succ j=>exact ha.2 (j+1) B (by simpa using hj)⟩
   have hrep:Rep (Mut X ρ h) w v (.list []):=hv2;cases hrep with
   |nil a c hac=>
    cases a with
    |none=>
     have:=hac rfl;subst this;exact b1 f _ h rets h' hr1 X ρ w vs H hg (rest' .nilS rfl)
    |some a=>exact b1 f _ h rets h' hr2 X ρ w vs H hg (rest' .emp ⟨a,c,rfl⟩)
   |list b off len cap sz _ vs' e1 e2 e3 e4 e5=>
    have:len=0:=by simpa using e1
    subst this;exact b1 f _ h rets h' hr2 X ρ w vs H hg (rest' .emp ⟨_,_,rfl⟩)
 ·rcases zjC hr with ⟨-,hr⟩ | ⟨hk,hk3,hr⟩ | hr | ⟨zav,rfl,hr1,hr2⟩
  ·exact c2 f args h r hr
  ·rcases zjB G f with e | e | e | e
   ·exact absurd e hk
   ·exact ((hso f).1 e).has
   ·exact ((hso f).2 e).has
   ·exact absurd e hk3
  ·exact b2 f args h r hr
  ·exact b2 f _ h r hr1
end
end Go.Am
