/- The abstract machine: calls, regions, code. -/
import Derived.OrdersIn
import Derived.LoopNIn
import Derived.RangeFuncNested
import Derived.RangeFuncLeaves
import Derived.LoopN
import Derived.Sort.Grow
import Derived.Test.YtibdiacpdmhmnaaGreatDoorMachB
set_option linter.all false
namespace Go.Am
def zll:List Value->Value
 |[v]=>v
 |vs=> .tuple vs.toArray
def zlm (X:Nat->Nat->Prop) (ρ:Places) (h:List Obj) (w:World) (rv:Value) (rets:List V):Prop:=
 ∃us:List Value,us.length=rets.length/\(∀ (j:Nat) (R:V),rets[j]? =some R-> ∃u,us[j]? =some u/\V2 X ρ h w u R)/\rv=zll us
def zb5 (X:Nat->Nat->Prop) (ρ:Places) (h:List Obj) (w:World) (vs:List Value) (args:List V):Prop:=
 vs.length=args.length/\ ∀ (j:Nat) (A:V),args[j]? =some A-> ∃v,vs[j]? =some v/\zat X ρ h w v A
def zdU (P:Program) (G:Nat->Option (List D)) (run:Run):Prop:=
 ∀ (f:FuncId) (args:List V) (h:List Obj) (rets:List V) (h':List Obj),run f args h=some (rets,h')->
  ∀ (X:Nat->Nat->Prop) (ρ:Places) (w:World) (vs:List Value),HRel X ρ h w->GRel X G ρ h w->zb5 X ρ h w vs args->
   Calls P f vs.toArray w λe w'=> ∃ρ' rv,e= .returned rv/\Stp X ρ h w ρ' h' w'/\zlm X ρ' h' w' rv rets
def zc5 (P:Program) (run:Run):Prop:=
 ∀ (f : FuncId) (args : List V) (h : List Obj) (r : List V × List Obj), run f args h = some r -> ∃ fn, P.funcs[f]? = some fn /\ (fn.name == "runtime.NumGoroutine") = false /\ fn.body.isNone = false
def znJ {P:Program} {rf:Bool} {run:Run} {f:FuncId} {args:List V} {h:List Obj} {r:V × List Obj} (hh:zc5 P run) (hx:callWith rf run f args h=some r):
 ∃ fn, P.funcs[f]? = some fn /\ (fn.name == "runtime.NumGoroutine") = false /\ fn.body.isNone = false := by
 unfold callWith at hx;split at hx
 ·cases hx
 ·simp only at hx
  split at hx
  ·split at hx
   ·rename_i hr
    exact hh _ _ _ _ hr
   ·cases hx
  ·cases hx
section
variable {X:Nat->Nat->Prop} {ρ ρ':Places} {h h':List Obj} {w w':World} {P:Program} {G:Nat->Option (List D)}
def zso {v:Value} {A A':V} {rf:Bool} (ha:zim rf h A=some (A',h')) (H:HRel X ρ h w) (hv:zat X ρ h w v A):Stp X ρ h w ρ h' w/\zat X ρ h' w v A':=by
 unfold zim at ha;split at ha
 ·split at ha
  ·simp only[yaa,yad]at ha;obtain⟨rfl,rfl⟩:=ha;exact⟨Stp.refl H,hv⟩
  ·simp only[yab,ycs,yad]at ha
   obtain⟨x,h1,hp,rfl,rfl⟩:=ha;obtain⟨st,hr⟩:=zbJ hp H hv;exact⟨st,hr⟩
 ·split at ha
  ·simp only[yaa,yad]at ha;obtain⟨rfl,rfl⟩:=ha;exact⟨Stp.refl H,hv⟩
  ·simp only[yab,ycs,yad]at ha
   obtain⟨x,h1,hp,rfl,rfl⟩:=ha;obtain⟨st,hr⟩:=zbJ hp H hv;exact⟨st,hr⟩
 ·simp only[yaa,yad]at ha;obtain⟨rfl,rfl⟩:=ha;exact⟨Stp.refl H,hv⟩
 ·simp only[yaa,yad]at ha;obtain⟨rfl,rfl⟩:=ha;exact⟨Stp.refl H,hv⟩
 ·simp only[yaa,yad]at ha;obtain⟨rfl,rfl⟩:=ha;exact⟨Stp.refl H,hv⟩
 ·simp only[yaa,yad]at ha;obtain⟨rfl,rfl⟩:=ha;exact⟨Stp.refl H,hv⟩
 ·simp only[yab,ycs,yad]at ha
  obtain⟨x,h1,hp,rfl,rfl⟩:=ha;obtain⟨st,hr⟩:=zbJ hp H hv;exact⟨st,hr⟩
def zf9 {rf:Bool}: ∀ (args:List V) (h:List Obj) (vs:List Value) (as:List V) (h':List Obj),zc8 rf h args=some (as,h')->HRel X ρ h w->zb5 X ρ h w vs args->
 Stp X ρ h w ρ h' w/\zb5 X ρ h' w vs as
 |[],h,vs,as,h',ha,H,hv=>by
  simp only[zc8,yaa,yad]at ha;obtain⟨rfl,rfl⟩:=ha;exact⟨Stp.refl H,hv⟩
 |A::args,h,vs,as,h',ha,H,hv=>by
  simp only[zc8]at ha;split at ha
  ·rename_i A' h1 h1e
   split at ha
   ·rename_i as' h2 h2e
    simp only[yaa,yad]at ha;obtain⟨rfl,rfl⟩:=ha;obtain⟨hl,hg⟩:=hv;cases vs with
    |nil=>simp at hl
    |cons v vs=>
     obtain⟨v',hv1,hv2⟩:=hg 0 A (by simp)
     simp at hv1;subst hv1;obtain⟨s1,r1⟩:=zso h1e H hv2;obtain⟨s2,l2,r2⟩:=zf9 args h1 vs as' h2 h2e s1.rel ⟨by simpa using hl,λj B hj=>by
      obtain⟨u,hu1,hu2⟩:=hg (j+1) B (by simpa using hj)
      exact⟨u,by simpa using hu1,s1.vrel hu2⟩⟩
     refine⟨s1.trans H s2,by simp[l2],λj B hj=> ?_⟩
     cases j with
     |zero=>simp at hj;subst hj;exact⟨v,by simp,s2.vrel r1⟩
     |succ j=>simpa using r2 j B (by simpa using hj)
   ·cases ha
  ·cases ha
def zb5.ren {X':Nat->Nat->Prop} {f:Nat->Option Nat} {ρ2:Places} {h2:List Obj} (R:RenOk X X' f ρ h ρ2 h2) {vs:List Value} {as as2:List V} (ha:zb5 X ρ h w vs as) (hm:as.mapM (V.ren f)=some as2):
 zb5 X' ρ2 h2 w vs as2:=by
 obtain⟨e1,e2⟩:=zaY hm;refine⟨by rw[e1];exact ha.1,λj B hj=> ?_⟩
 obtain⟨A,hA,hr⟩:=e2 j B hj;obtain⟨v,h1,h2⟩:=ha.2 j A hA;exact⟨v,h1,h2.ren R hr⟩
def zqW {f:Nat->Option Nat} {x y:V} (hx: ∀vs,x≠ .tup vs) (hr:V.ren f x=some y):V.ren2 f x=some y:=by
 cases x with
 |tup vs=>exact absurd rfl (hx vs)
 |_=>exact hr
def zut {ids:List Nat} {n j i:Nat} (hj:ids[j]? =some i):zi1 ids n j=some i:=by simp[zi1,hj]
def zuu {ids:List Nat} {n j:Nat} (hj:ids.length<=j):zi1 ids n j=some (n+(j - ids.length)):=by simp[zi1,yaL hj]
def zln (H:HRel X ρ h w) {ids:List Nat} (hn:ids.Nodup) {h2:List Obj} (ht:zaG h (zas ids) ids=some h2) {ρ3:Places} {h3 h3':List Obj}
 (S:Stp (zc4 X ρ h ids) (zax ρ ids) h2 w ρ3 h3 w') (hm:h3.mapM (Obj.ren (zi1 ids h.length))=some h3'):
 Stp X ρ h w (zb0 ρ ids ρ3++ρ3.drop ids.length) (zb0 h ids h3'++h3'.drop ids.length) w'/\
 RenOk (zc4 X ρ h ids) X (zi1 ids h.length) ρ3 h3 (zb0 ρ ids ρ3++ρ3.drop ids.length) (zb0 h ids h3'++h3'.drop ids.length):=by
 obtain⟨R2,H2⟩:=zms (Y:=zc4 X ρ h ids) H hn ht (λ_ _ h=>h)
 obtain⟨t1,t2⟩:=zeh ht;obtain⟨m1,m2⟩:=zaY hm;obtain⟨_,m3⟩:=zgK hm;have hle:ids.length<=h3.length:=by rw[<- t1];exact S.evo.le H2
 have hlen3:ρ3.length=h3.length:=S.rel.len;have hidlt: ∀i∈ids,i<h.length:=λi hi=>by
  obtain⟨j,hj⟩:=ybo hi;have hlt:j<h2.length:=by rw[t1];exact lt_of_getElem? hj
  obtain⟨i',o,hi',ho,_⟩:=t2 j h2[j] (by simp[hlt])
  rw[hj]at hi';cases hi';exact lt_of_getElem? ho
 obtain⟨a1,a2⟩:=zhH ids h3' h hn hidlt (by omega)
 obtain⟨b1,b2⟩:=zhH ids ρ3 ρ hn (λi hi=>by rw[H.len];exact hidlt i hi) (by omega)
 generalize hh4:zb0 h ids h3'++h3'.drop ids.length=h4;generalize hρ4:zb0 ρ ids ρ3++ρ3.drop ids.length=ρ4
 -- reading the two lists
 have getH: ∀i,h4[i]? =if i<h.length then (match zas ids i with | some j=>h3'[j]? | none=>h[i]?) else h3'[ids.length+(i - h.length)]? :=λi=>by
  rw[<- hh4];split
  ·rename_i hi;rw[yar (by omega),a2];cases zas ids i <;> rfl
  ·rename_i hi;rw[yal (by omega),a1,ya1]
 have getR: ∀i,ρ4[i]? =if i<h.length then (match zas ids i with | some j=>ρ3[j]? | none=>ρ[i]?) else ρ3[ids.length+(i - h.length)]? :=λi=>by
  rw[<- hρ4];have:=H.len;split
  ·rename_i hi;rw[yar (by omega),b2];cases zas ids i <;> rfl
  ·rename_i hi;rw[yal (by omega),b1,ya1,this]
 -- a callee's number
 have fwd: ∀j i,zi1 ids h.length j=some i->j<h3.length->h4[i]? =h3'[j]? /\ρ4[i]? =ρ3[j]? :=λj i hb hj=>by
  rcases ybL j ids.length with h1 | h1
  ·have hij:ids[j]? =some ids[j]:=by simp[h1]
   rw[zut hij,yaa]at hb;subst hb;have hlt:=hidlt ids[j] (by simp)
   rw[getH,getR,yag hlt,yag hlt,zeg hn hij];exact⟨rfl,rfl⟩
  ·rw[zuu h1,yaa]at hb
   subst hb;rw[getH,getR,yac (by omega),yac (by omega),show ids.length+(h.length+(j - ids.length) - h.length)=j by omega]
   exact⟨rfl,rfl⟩
 -- every object of the result is a callee's,or one of the zc4
 have cases4: ∀i o,h4[i]? =some o->(∃j,zi1 ids h.length j=some i/\j<h3.length/\h3'[j]? =some o/\ρ4[i]? =ρ3[j]?)\/(i∉ids/\i<h.length/\h[i]? =some o/\ρ4[i]? =ρ[i]?):=λi o ho=>by
  rw[getH]at ho;split at ho
  ·rename_i hi
   cases hp:zas ids i with
   |some j=>
    rw[hp]at ho;have hij:=zeO hp;have hj3:j<h3.length:=by have:=lt_of_getElem? ho;omega
    exact .inl ⟨j,zut hij,hj3,ho,by rw[getR,yag hi,hp]⟩
   |none=>
    rw[hp]at ho;exact .inr ⟨zlk hp,hi,ho,by rw[getR,yag hi,hp]⟩
  ·rename_i hi
   have hlt:=lt_of_getElem? ho;refine .inl ⟨ids.length+(i - h.length), ?_,by omega,ho,by rw[getR,yac hi]⟩
   rw[zuu (by omega)]
   congr 1;omega
 have len4:ρ4.length=h4.length:=by
  rw[<- hh4,<- hρ4,yae,yae,a1,b1,yax,yax,m1,hlen3,H.len]
 have placeR: ∀i r,ρ4[i]? =some r->(∃j,zi1 ids h.length j=some i/\j<h3.length/\ρ3[j]? =some r)\/(i∉ids/\i<h.length/\ρ[i]? =some r):=λi r hr=>by
  have hlt:i<h4.length:=by rw[<- len4];exact lt_of_getElem? hr
  rcases cases4 i h4[i] (by simp[hlt]) with ⟨j,c1,c2,_,c4⟩ | ⟨c1,c2,_,c4⟩
  ·exact .inl ⟨j,c1,c2,by rw[<- c4,hr]⟩
  ·exact .inr ⟨c1,c2,by rw[<- c4,hr]⟩
 -- the other objects' blocks
 have otherBlock: ∀i b c,i∉ids->ρ[i]? =some (some (b,c))->(∀ (k c':Nat),(zax ρ ids)[k]? ≠some (some (b,c'))):=λi b c hi hr k c' hk=>by
  have hlt:k<h2.length:=by rw[t1];simpa[zax]using lt_of_getElem? hk
  obtain⟨i',o,hi',ho,_⟩:=t2 k h2[k] (by simp[hlt])
  rw[zei H hi' ho]at hk;have:=H.inj _ _ b _ _ hr hk;subst this;exact hi (yay hi')
 have hmu: ∀b j,Mut X ρ4 h4 b j->Mut (zc4 X ρ h ids) ρ3 h3 b j:=by
  rintro b j (hX | ⟨id,c,o,k1,k2,k3⟩)
  ·exact .inl (.inl hX)
  ·rcases cases4 id o k2 with ⟨j',_,c2,c3,c4⟩ | ⟨c1,_,c3,c4⟩
   ·obtain⟨o3,ho3,hr3⟩:=m2 j' o c3
    exact .inr ⟨j',c,o3,by rw[<- c4,k1],ho3,(znI hr3 j).1 k3⟩
   ·exact .inl (.inr ⟨id,c,o,c1,by rw[<- c4,k1],c3,k3⟩)
 have R4:RenOk (zc4 X ρ h ids) X (zi1 ids h.length) ρ3 h3 ρ4 h4:=⟨λj i hb o ho=>by
  have hlt:=lt_of_getElem? ho;obtain⟨o',ho',hr'⟩:=m3 j o ho;obtain⟨e1,e2⟩:=fwd j i hb hlt;exact⟨o',by rw[e1,ho'],hr',e2⟩,hmu⟩
 have F4:Fr X ρ h w ρ4 h4 w':=by
  refine⟨S.fr.os,S.fr.tape,S.fr.output,S.fr.size,λb hb hno=> ?_,λb j v hnm hc=> ?_⟩
  ·obtain⟨e1,e2⟩:=S.fr.block b hb λk c hk=>by
    have hlt:k<h2.length:=by rw[t1];simpa[zax]using lt_of_getElem? hk
    obtain⟨i',o,hi',ho,_⟩:=t2 k h2[k] (by simp[hlt])
    rw[zei H hi' ho]at hk;exact hno i' c hk
   refine⟨e1,λid c hid=> ?_⟩
   rcases placeR id _ hid with ⟨j,_,_,c3⟩ | ⟨_,_,c3⟩
   ·exact e2 j c c3
   ·exact hno id c c3
  ·obtain⟨e1,e2⟩:=S.fr.imm b j v (λhm'=>hnm (R2.mu b j hm')) hc
   exact⟨e1,λhm'=>e2 (hmu b j hm')⟩
 have E4:Evo h.length ρ h ρ4 h4:=λid o r hid ho hr=>by
  rw[getH,getR,yag hid,yag hid];cases hp:zas ids id with
  |none=>exact⟨o,r,ho,hr,zbl.refl _ _⟩
  |some j=>
   have hij:=zeO hp;have hj2:j<h2.length:=by rw[t1];exact lt_of_getElem? hij
   obtain⟨i',o',hi',ho',hren⟩:=t2 j h2[j] (by simp[hj2])
   rw[hij]at hi';cases hi';rw[ho]at ho';cases ho';have hrj:(zax ρ ids)[j]? =some r:=by rw[zei H hij ho,hr]
   obtain⟨o3,r3,g1,g2,g3⟩:=S.evo j h2[j] r hj2 (by simp[hj2]) hrj
   obtain⟨o4,ho4,hr4⟩:=m3 j o3 g1;exact⟨o4,r3,ho4,g2,zzQ hren g3 hr4⟩
 refine⟨⟨⟨len4,λid o ho=> ?_,λb j hX=>ybp (H.xlt b j hX) S.fr.size,λid b c j hid hX=> ?_,λi j b c c' hi hj=> ?_⟩,F4,E4⟩,R4⟩
 ·rcases cases4 id o ho with ⟨j,_,c2,c3,c4⟩ | ⟨c1,c2,c3,c4⟩
  ·obtain⟨o3,ho3,hr3⟩:=m2 j o c3
   obtain⟨r,g1,g2⟩:=S.rel.obj j o3 ho3;exact⟨r,by rw[c4,g1],g2.ren R4 hr3⟩
  ·obtain⟨r,g1,g2⟩:=H.obj id o c3
   refine⟨r,by rw[c4,g1],g2.kept F4 E4 λb c hbc=> ?_⟩
   subst hbc;exact (S.fr.block b (H.lt g1) (otherBlock id b c c1 g1)).1
 ·rcases placeR id _ hid with ⟨j',_,_,c3⟩ | ⟨_,_,c3⟩
  ·exact S.rel.xown j' b c j c3 (.inl hX)
  ·exact H.xown id b c j c3 hX
 ·have mixed: ∀i j b c c',i∉ids->ρ[i]? =some (some (b,c))->ρ3[j]? =some (some (b,c'))->False:=λi j b c c' hi h1 h3'=>
   (S.fr.block b (H.lt h1) (otherBlock i b c hi h1)).2 j c' h3'
  rcases placeR i _ hi with ⟨i',c1,c2,c3⟩ | ⟨c1,c2,c3⟩ <;> rcases placeR j _ hj with ⟨j',d1,d2,d3⟩ | ⟨d1,d2,d3⟩
  ·have:=S.rel.inj _ _ b _ _ c3 d3
   subst this;rw[c1]at d1;simpa using d1
  ·exact (mixed j i' b c' c d1 d3 c3).elim
  ·exact (mixed i j' b c c' c1 c3 d3).elim
  ·exact H.inj _ _ b _ _ c3 d3
def zkU {rf:Bool} {run:Run} {f:FuncId} {args:List V} {x:V} {vs:List Value} (hrun:zdU P G run) (hx:callWith rf run f args h=some (x,h')) (H:HRel X ρ h w) (hg:GRel X G ρ h w) (ha:zb5 X ρ h w vs args):
 Calls P f vs.toArray w λe w'=> ∃ρ' rv,e= .returned rv/\Stp X ρ h w ρ' h' w'/\zat X ρ' h' w' rv x:=by
 unfold callWith at hx;split at hx
 ·cases hx
 ·rename_i as h1 hargs
  obtain⟨s1,a1⟩:=zf9 args h vs as h1 hargs H ha;have H1:=s1.rel;generalize hids:zbi h1 (zaj [] (as.flatMap V.ids))=ids at hx;have hn:ids.Nodup:=by rw[<- hids];exact zef _ (zch _ _ (by simp))
  simp only at hx;split at hx
  ·rename_i as2 hin hm ht
   split at hx
   ·rename_i rets hout hr
    split at hx
    ·rename_i rets2 hout2 hmr hmo
     simp only[yaa,yad]at hx;obtain⟨rfl,rfl⟩:=hx;obtain⟨R2,H2⟩:=zms (Y:=zc4 X ρ h1 ids) H1 hn ht (λ_ _ h=>h)
     have g2:GRel (zc4 X ρ h1 ids) G (zax ρ ids) hin w:=λg cs e=>zhB.mono (λb j _ hm hc=>⟨hc,λh'=>hm (R2.mu b j h')⟩) (hg.mono s1.fr g cs e)
     refine (hrun f as2 hin rets hout hr (zc4 X ρ h1 ids) _ w vs H2 g2 (a1.ren R2 hm)).mono ?_
     rintro e w' ⟨ρ3,rv,rfl,S,us,l1,l2,l3⟩
     obtain⟨S4,R4⟩:=zln H1 hn ht S hmo;refine⟨_,rv,rfl,s1.trans H S4, ?_⟩;obtain⟨e1,e2⟩:=zaY hmr;have hu: ∀ (j:Nat) (R:V),rets2[j]? =some R-> ∃u,us[j]? =some u/\V2 X (zb0 ρ ids ρ3++ρ3.drop ids.length) (zb0 h1 ids hout2++hout2.drop ids.length) w' u R:=λj R hj=>by
      obtain⟨A,hA,hAr⟩:=e2 j R hj;obtain⟨u,hu1,hu2⟩:=l2 j A hA;refine⟨u,hu1,V2.ren R4 hu2 (zqW (λvs e=> ?_) hAr)⟩
      subst e;exact hu2.elim
     have hl:us.length=rets2.length:=by omega
     subst l3
     match us,rets2,hl,hu with
     |[],[],_,_=>exact⟨_,rfl,by simp,λj c hj=>by simp at hj⟩
     |[u],[R],_,hu=>
      obtain⟨u',h1,h2⟩:=hu 0 R (by simp)
      simp at h1;subst h1;exact h2.vrel
     |u::u'::us,R::R'::rets2,hl,hu=>
      exact⟨_,rfl,by simpa using hl,λj c hj=>by simpa using hu j c hj⟩
    ·cases hx
   ·cases hx
  ·cases hx
def zfT {h h':List Obj} {x:Option (V × List Obj)} {v:V} (hx:zdP h x=some (v,h')):x=some (v,h')/\zaB h h':=by
 unfold zdP at hx;split at hx
 ·split at hx
  ·rename_i hk
   simp only[yaa,yad]at hx;obtain⟨rfl,rfl⟩:=hx;exact⟨rfl,hk⟩
  ·cases hx
 ·cases hx
def znK {P:Program} {run:Run} {f:FuncId} {args:List V} {h:List Obj} {r:V × List Obj} (hh:zc5 P run) (hx:callThaw run f args h=some r):
 ∃ fn, P.funcs[f]? = some fn /\ (fn.name == "runtime.NumGoroutine") = false /\ fn.body.isNone = false := by
 unfold callThaw at hx;split at hx
 ·cases hx
 ·split at hx
  ·rename_i hr
   exact hh _ _ _ _ hr
  ·cases hx
def zsp {v x:V} {h1:List Obj} (hp:zbj v=true) (e:zim false h v=some (x,h1)):x.ids=[]:=by
 have key: ∀ {y:Option (D × List Obj)},(y.map λ(p:D × List Obj)=>(V.d p.1,p.2))=some (x,h1)->x.ids=[]:=by
  intro y hy;cases y with
  |none=>cases hy
  |some p=>simp only[yaM,yaa,yad]at hy;rw[<- hy.1];rfl
 cases v with
 |ptr a b=>simp[zbj]at hp
 |mp a=>simp[zbj]at hp
 |clo f c=>simp[zbj]at hp
 |ro cs=>simp only[zim,yaa,yad]at e;rw[<- e.1];rfl
 |arr a b=>simp only[zim,yaD,ybd]at e;exact key e
 |sl a b c d=>simp only[zim,yaD,ybd]at e;exact key e
 |_=>simp only[zim]at e;exact key e
def zjA: ∀ (args:List V) (h:List Obj) (as:List V) (h1:List Obj),args.all zbj=true->zc8 false h args=some (as,h1)->as.flatMap V.ids=[]
 |[],h,as,h1,_,e=>by simp only[zc8,yaa,yad]at e;rw[<- e.1];rfl
 |v::vs,h,as,h1,hp,e=>by
  simp only[ycB,yaw]at hp;simp only[zc8]at e;split at e
  ·rename_i x h2 e1
   split at e
   ·rename_i xs h3 e2
    simp only[yaa,yad]at e;obtain⟨rfl,rfl⟩:=e;rw[ya5,zsp hp.1 e1,zjA vs h2 xs h3 hp.2 e2];rfl
   ·cases e
  ·cases e
def zxj {v x:V} {h1:List Obj} {g:Nat->Option Nat} (hp:zbj v=true) (e:zim false h v=some (x,h1)):V.ren g x=some x:=by
 have key: ∀ {y:Option (D × List Obj)},(y.map λ(p:D × List Obj)=>(V.d p.1,p.2))=some (x,h1)->V.ren g x=some x:=by
  intro y hy;cases y with
  |none=>cases hy
  |some p=>simp only[yaM,yaa,yad]at hy;rw[<- hy.1];rfl
 cases v with
 |ptr a b=>simp[zbj]at hp
 |mp a=>simp[zbj]at hp
 |clo f c=>simp[zbj]at hp
 |ro cs=>simp only[zim,yaa,yad]at e;rw[<- e.1];rfl
 |arr a b=>simp only[zim,yaD,ybd]at e;exact key e
 |sl a b c d=>simp only[zim,yaD,ybd]at e;exact key e
 |_=>simp only[zim]at e;exact key e
def znL {g:Nat->Option Nat}: ∀ (args:List V) (h:List Obj) (as:List V) (h1:List Obj),args.all zbj=true->zc8 false h args=some (as,h1)->as.mapM (V.ren g)=some as
 |[],h,as,h1,_,e=>by simp only[zc8,yaa,yad]at e;rw[<- e.1];rfl
 |v::vs,h,as,h1,hp,e=>by
  simp only[ycB,yaw]at hp;simp only[zc8]at e;split at e
  ·rename_i x h2 e1
   split at e
   ·rename_i xs h3 e2
    simp only[yaa,yad]at e;obtain⟨rfl,rfl⟩:=e;rw[ya2,zxj hp.1 e1,znL vs h2 xs h3 hp.2 e2];rfl
   ·cases e
  ·cases e
def zlo: ∀ {xs:List D},zd9 xs=true->flat xs=xs/\ ∀x∈xs,x.flat=true
 |[],_=>⟨rfl,by simp⟩
 |x::xs,hf=>by
  simp only[zd9,yaw]at hf;obtain⟨e,a⟩:=zlo hf.2;refine⟨?_,λy hy=> ?_⟩
  ·have hc:x.cells=[x]:=by
    cases x <;> first | rfl | simp[D.flat]at hf
   simp only[flat]at e ⊢;rw[ya5,e,hc];rfl
  ·rcases List.mem_cons.1 hy with rfl | hy
   ·exact hf.1
   ·exact a y hy
def zmt {M M':Nat->Nat->Prop} {v:Value} {x:D} (hx:x.flat=true) (hr:Rep M w v x):Rep M' w v x:=by
 induction hr with
 |iface t v x _ ih=>exact .iface t v x (ih (by simpa[D.flat]using hx))
 |int k n=>exact .int k n
 |bool b=>exact .bool b
 |str s=>exact .str s
 |nilI=>exact .nilI
 |nilP=>exact .nilP
 |nilM=>exact .nilM
 |nilF=>exact .nilF
 |fn f=>simp[D.flat]at hx
 |nil a c hc=>simp[D.flat]at hx
 |list=>simp[D.flat]at hx
 |agg=>simp[D.flat]at hx
def zzR {Y:Nat->Nat->Prop} {v:Value} {x:V} (hx:x.flat=true) (hr:V1 X ρ h w v x):V1 Y ρ h w v x:=by
 cases x with
 |d x=>exact zmt (M:=Mut X ρ h) (M':=Mut Y ρ h) hx hr
 |nilS=>exact hr
 |emp=>exact hr
 |arr a b=>exact hr
 |sl a b c d=>exact hr
 |ptr a b=>exact hr
 |_=>simp[V.flat]at hx
def zxk {Y:Nat->Nat->Prop} {r:zdi} {o:Obj} (ho:o.flat=true) (hr:ObjRel X ρ h w r o):ObjRel Y ρ h w r o:=by
 cases o with
 |arr sz xs wm=>
  refine⟨hr.1, ?_⟩;cases r with
  |none=>exact hr.2
  |some p=>
   obtain⟨b,c⟩:=p;obtain⟨_,cur,e,fz,h1,h2,h3,h4,h5,h6,h7,h8⟩:=hr;obtain⟨fe,fa⟩:=zlo ho;refine⟨cur,e,fz,h1,h2,h3,h4,h5,h6,h7,λj x hj=> ?_⟩
   obtain⟨u,g1,g2,g3⟩:=h8 j x hj;rw[fe]at hj;exact⟨u,g1,zmt (fa x (yay hj)) g2,g3⟩
 |box cs=>
  obtain⟨b,c,cur,e,fz,h1,h2,h3,h4,h5⟩:=hr;refine⟨b,c,cur,e,fz,h1,h2,h3,h4,λj x hj=> ?_⟩
  obtain⟨u,g1,g2,g3⟩:=h5 j x hj;exact⟨u,g1,zzR (List.all_eq_true.1 ho x (yay hj)) g2,g3⟩
 |_=>simp[Obj.flat]at ho
def zB6 {Y:Nat->Nat->Prop} {v:Value} {x:V} (hx:x.flat=true) (hr:V2 X ρ h w v x):V2 Y ρ h w v x:=by
 cases x with
 |d x=>exact zmt (M:=Mut X ρ h) (M':=Mut Y ρ h) hx hr
 |nilS=>exact hr
 |emp=>exact hr
 |arr a b=>exact hr
 |sl a b c d=>exact hr
 |ptr a b=>exact hr
 |_=>simp[V.flat]at hx
def zkV {run:Run} {f:FuncId} {args:List V} {x:V} {vs:List Value} (hrun:zdU P G run) (hx:callThaw run f args h=some (x,h')) (H:HRel X ρ h w) (hg:GRel X G ρ h w) (ha:zb5 X ρ h w vs args):
 Calls P f vs.toArray w λe w'=> ∃ρ' rv,e= .returned rv/\Stp X ρ h w ρ' h' w'/\zat X ρ' h' w' rv x:=by
 unfold callThaw at hx;split at hx
 ·cases hx
 ·rename_i as h1 hargs
  split at hx
  ·rename_i rets hout hr
   split at hx
   ·rename_i hfl
    simp only[yaw]at hfl;obtain⟨⟨hpure,hrf⟩,hof⟩:=hfl;split at hx
    ·rename_i rets2 hout2 hmr hmo
     simp only[yaa,yad]at hx;obtain⟨rfl,rfl⟩:=hx;have hno:=zjA args h as h1 hpure hargs;obtain⟨s1,a1⟩:=zf9 args h vs as h1 hargs H ha;have H1:=s1.rel;have hn:([]:List Nat).Nodup:=ydX;have ht1:zaG h1 (zas []) []=some []:=rfl;have ht:zaG h (zas []) []=some []:=rfl;obtain⟨R2,H2⟩:=zms (Y:=zc4 X ρ h1 []) H1 hn ht1 (λ_ _ h=>h)
     have g2:GRel (zc4 X ρ h1 []) G (zax ρ []) [] w:=λg cs e=>zhB.mono (λb j _ hm hc=>⟨hc,λh'=>hm (R2.mu b j h')⟩) (hg.mono s1.fr g cs e)
     have hm:as.mapM (V.ren (zas []))=some as:=znL args h as h1 hpure hargs;refine (hrun f as [] rets hout hr (zc4 X ρ h1 []) _ w vs H2 g2 (a1.ren R2 hm)).mono ?_
     rintro e w' ⟨ρ3,rv,rfl,S,us,l1,l2,l3⟩
     -- what was frozen is own again
     have hlt: ∀b j,zc4 X ρ h [] b j->b<w.heap.size:=by
      rintro b j (hX | ⟨id,c,o,_,k1,k2,k3⟩)
      ·exact H.xlt b j hX
      ·exact H.lt k1
     have S':Stp (zc4 X ρ h []) (zax ρ []) [] w ρ3 hout w':=by
      refine⟨⟨S.rel.len,λid o ho=> ?_,λb j hX=>ybp (hlt b j hX) S.fr.size,λid b c j hid hX=> ?_,S.rel.inj⟩,⟨S.fr.os,S.fr.tape,S.fr.output,S.fr.size,S.fr.block,λb j v hnm hc=> ?_⟩,λid o r hid=>by simp at hid⟩
      ·obtain⟨r,g1,g3⟩:=S.rel.obj id o ho
       exact⟨r,g1,zxk (List.all_eq_true.1 hof o (yay ho)) g3⟩
      ·exact (S.fr.block b (hlt b j hX) (λk c' hk=>by simp[zax]at hk)).2 id c hid
      ·have hnX: ¬ zc4 X ρ h [] b j:=λhX=>hnm (.inl hX)
       have hnM: ¬ Mut X ρ h b j:=by
        rintro (hX | ⟨id,c,o,k1,k2,k3⟩)
        ·exact hnX (.inl hX)
        ·exact hnX (.inr ⟨id,c,o,by simp,k1,k2,k3⟩)
       have hnM1:=(s1.fr.imm b j v hnM hc).2;obtain⟨e1,e2⟩:=S.fr.imm b j v (by
        rintro ((hX | ⟨id,c,o,_,k1,k2,k3⟩) | ⟨id,c,o,k1,k2,k3⟩)
        ·exact hnM1 (.inl hX)
        ·exact hnM1 (.inr ⟨id,c,o,k1,k2,k3⟩)
        ·simp at k2) hc
       refine⟨e1, ?_⟩
       rintro (hX | hX)
       ·exact hnX hX
       ·exact e2 (.inr hX)
     obtain⟨S4,R4⟩:=zln H hn ht S' hmo;have e4:zb0 ρ [] ρ3++ρ3.drop ([]:List Nat).length=ρ++ρ3:=by simp[zb0]
     have e5:zb0 h [] hout2++hout2.drop ([]:List Nat).length=h++hout2:=by simp[zb0]
     rw[e4,e5]at S4 R4;refine⟨_,rv,rfl,S4, ?_⟩;obtain⟨e1,e2⟩:=zaY hmr;have hu: ∀ (j:Nat) (R:V),rets2[j]? =some R-> ∃u,us[j]? =some u/\V2 X (ρ++ρ3) (h++hout2) w' u R:=λj R hj=>by
      obtain⟨A,hA,hAr⟩:=e2 j R hj;obtain⟨u,hu1,hu2⟩:=l2 j A hA;refine⟨u,hu1,V2.ren R4 (zB6 (List.all_eq_true.1 hrf A (yay hA)) hu2) (zqW (λvs e=> ?_) hAr)⟩
      subst e;exact hu2.elim
     have hl:us.length=rets2.length:=by omega
     subst l3
     match us,rets2,hl,hu with
     |[],[],_,_=>exact⟨_,rfl,by simp,λj c hj=>by simp at hj⟩
     |[u],[R],_,hu=>
      obtain⟨u',h1,h2⟩:=hu 0 R (by simp)
      simp at h1;subst h1;exact h2.vrel
     |u::u'::us,R::R'::rets2,hl,hu=>
      exact⟨_,rfl,by simpa using hl,λj c hj=>by simpa using hu j c hj⟩
    ·cases hx
   ·cases hx
  ·cases hx
end
end Go.Am
namespace Go.Am
section
variable {X:Nat->Nat->Prop} {ρ ρ':Places} {h h':List Obj} {w w':World} {P:Program} {G:Nat->Option (List D)}
def zeP {f : FuncId} {fn : Func} (hf : P.funcs[f]? = some fn) (hname : (fn.name == "runtime.NumGoroutine") = false) (hb : fn.body.isNone = false) (args : Array Value) :
 (callFunc f args).run P w= .ok (.enter f args) w:=by
 simp only[callFunc,Sem.run_bind,run_program,Result.andThen_ok,hf,hname,hb,yaD,ybd,Sem.run_pure]
def zEP (X:Nat->Nat->Prop) (ρ:Places) (h:List Obj) (w:World) (a:Act) (dst:Option Tmp) (x:V) (h':List Obj) (K:Act->World->Prop):Prop:=
 ∀v ρ' w',Stp X ρ h w ρ' h' w'->zat X ρ' h' w' v x->K (a.put dst v) w'
def Fw (r:Option Nat):Fence:= { Fence.wide with round:=r }
def zi3 {r:Option Nat} {o:Oper} (hnd: ∀c,o.op≠ .defer c) (f:Operand->Value):o.semAt (Fw r).round f=execOp f o:=by
 cases r with
 |none=>rfl
 |some l=>
  show Oper.semAt (some l) f o=_
  unfold Oper.semAt;split
  ·rename_i l' c e1 e2
   exact absurd e2 (hnd c)
  ·rfl
def zaC {r:Option Nat} {n:Nat} {o:Oper} {a:Act} {K:Act->World->Prop} {Q:Exit->Act->World->Prop} {x:V} {v:Value} (hnd: ∀c,o.op≠ .defer c) (hr:(execOp a.eval o).run P w= .ok (.value v) w') (hs:Stp X ρ h w ρ' h' w') (hv:zat X ρ' h' w' v x)
 (hk:zEP X ρ h w a o.dst x h' K):o.wpIn (Fw r) n P a w K Q:=by
 refine⟨λ_ _=>trivial, ?_⟩
 rw[zi3 hnd,hr];exact hk v ρ' w' hs hv
def zeQ {a:Act} {s:Slots} (hg:GRel X G ρ h w) (hs:SRel X ρ h w a.tmps s) (xs:List Operand):zb5 X ρ h w (xs.map a.eval) (xs.map (ev G s)):=
 ⟨by simp,λj A hj=>by
   simp only[yau,yab]at hj ⊢;obtain⟨x,hx,rfl⟩:=hj;exact⟨_,⟨x,hx,rfl⟩,zlg hg hs x⟩⟩
def znM {a:Act} {s:Slots} (hg:GRel X G ρ h w) (hs:SRel X ρ h w a.tmps s) (ps:List (Nat × Operand)) (j:Nat) (p:Nat × V) (hj:(ps.map λp=>(p.1,ev G s p.2))[j]? =some p):
 ∃u,(ps.map λp=>(p.1,a.eval p.2))[j]? =some (p.1,u)/\zat X ρ h w u p.2:=by
 simp only[yau,yab]at hj ⊢;obtain⟨q,hq,rfl⟩:=hj;exact⟨_,⟨q,hq,rfl⟩,zlg hg hs q.2⟩
def zjB {a:Act} {s:Slots} (hg:GRel X G ρ h w) (hs:SRel X ρ h w a.tmps s) (x:Option Operand):
 (∀A,x.map (ev G s)=some A-> ∃v,x.map a.eval=some v/\zat X ρ h w v A)/\(x.map (ev G s)=none->x.map a.eval=none):=by
 cases x with
 |none=>exact⟨λA e=>(by cases e),λ_=>rfl⟩
 |some y=>exact⟨λA e=>(by simp only[yaM,yaa]at e;subst e;exact⟨_,rfl,zlg hg hs y⟩),λe=>(by cases e)⟩
def zkW {b:Builtin} {ts:Array TypeId} {ty:TypeId} {cs:Array Bool} {args:List V} {vs:List Value} {x:V} (hx:zbz P h b ts.toList args=some (x,h')) (H:HRel X ρ h w) (ha:zb5 X ρ h w vs args):
 ∃v ρ' w',(builtin b ts ty cs vs.toArray).run P w= .ok (.value v) w'/\Stp X ρ h w ρ' h' w'/\zat X ρ' h' w' v x:=by
 obtain⟨hl,hg⟩:=ha;unfold zbz at hx;split at hx
 ·rename_i t tr A Ar hts
  simp only[yab,yad]at hx;obtain⟨n,hn,rfl,rfl⟩:=hx;obtain⟨v,hv1,hv2⟩:=hg 0 A (by simp)
  have ht0:ts[0]? =some t:=by
   have:ts.toList[0]? =some t:=by rw[hts];rfl
   simpa using this
  have hr:=zsi (ty:=ty) (ts:=ts) (vs:=vs.toArray) hn H hv2 ht0 (by simpa using hv1)
  exact⟨_,ρ,w,by simp[builtin,hr],Stp.refl H,.int _ _⟩
 ·rename_i t tx tr A B Ar hts
  obtain⟨s,hs1,hs2⟩:=hg 0 A (by simp)
  obtain⟨v,hv1,hv2⟩:=hg 1 B (by simp)
  have sc:=zpF H hv2;obtain⟨u,ρ',w',hr,st,hu⟩:=zmr (ty:=ty) hx sc.rel (sc.vrel hs2) (sc.vrel hv2);refine⟨u,ρ',w', ?_,sc.trans H st,hu⟩;have h0:ts[0]? =some t:=by
   have:ts.toList[0]? =some t:=by rw[hts];rfl
   simpa using this
  have h1:ts[1]? =some tx:=by
   have:ts.toList[1]? =some tx:=by rw[hts];rfl
   simpa using this
  have hap:(Builtin.append_ ts ty vs.toArray)=Builtin.append_ #[t,tx] ty #[s,v]:=by
   have e0:vs.toArray[0]? =some s:=by simpa using hs1
   have e1:vs.toArray[1]? =some v:=by simpa using hv1
   simp[Builtin.append_,h0,h1,e0,e1]
  simp[builtin,hap,hr]
 ·rename_i td t2 tr A B Ar hts
  obtain⟨v,hv1,hv2⟩:=hg 0 A (by simp)
  obtain⟨u,hu1,hu2⟩:=hg 1 B (by simp)
  have h0:ts[0]? =some td:=by
   have:ts.toList[0]? =some td:=by rw[hts];rfl
   simpa using this
  obtain⟨z,w',hr,st,hz⟩:=zpD (ts:=ts) (ty:=ty) (vs:=vs.toArray) hx H hv2 hu2 h0 (by simpa using hv1) (by simpa using hu1)
  exact⟨z,ρ,w',by simp[builtin,hr],st,hz⟩
 ·rename_i t tr A Ar hts
  obtain⟨v,hv1,hv2⟩:=hg 0 A (by simp)
  have h0:ts[0]? =some t:=by
   have:ts.toList[0]? =some t:=by rw[hts];rfl
   simpa using this
  obtain⟨z,w',hr,st,hz⟩:=znH (ts:=ts) (ty:=ty) (vs:=vs.toArray) hx H hv2 h0 (by simpa using hv1)
  exact⟨z,ρ,w',by simp[builtin,hr],st,hz⟩
 ·rename_i A r
  simp only[yab,yad]at hx;obtain⟨z,hz,rfl,rfl⟩:=hx;obtain⟨v,hv1,hv2⟩:=hg 0 A (by simp)
  cases vs with
  |nil=>simp at hv1
  |cons v' vs=>
   simp at hv1;subst hv1;obtain⟨u,hu,hu2⟩:=zf7 (P:=P) (g:=Builtin.min2) (λA B x v u h1 h2 h3=>zsj h1 h2 h3) r vs A z v' hz hv2 (by simpa using hl) λj c hj=>by simpa using hg (j+1) c (by simpa using hj)
   exact⟨u,ρ,w,by simp[builtin,Builtin.min_,hu],Stp.refl H,hu2⟩
 ·rename_i A r
  simp only[yab,yad]at hx;obtain⟨z,hz,rfl,rfl⟩:=hx;obtain⟨v,hv1,hv2⟩:=hg 0 A (by simp)
  cases vs with
  |nil=>simp at hv1
  |cons v' vs=>
   simp at hv1;subst hv1;obtain⟨u,hu,hu2⟩:=zf7 (P:=P) (g:=Builtin.max2) (λA B x v u h1 h2 h3=>zsk h1 h2 h3) r vs A z v' hz hv2 (by simpa using hl) λj c hj=>by simpa using hg (j+1) c (by simpa using hj)
   exact⟨u,ρ,w,by simp[builtin,Builtin.max_,hu],Stp.refl H,hu2⟩
 ·cases hx
def za9 {x:Option V} {y:V} (hx:zca h x=some (y,h')):x=some y/\h'=h:=by
 simp only[zca,yab]at hx;obtain⟨v,hv,e⟩:=hx;cases e;exact⟨hv,rfl⟩
def zlp {h:List Obj} {A:V} (hA: ∀vs,A≠ .tup vs):zld h A=(zbE h A).map λp=>(.d p.1,p.2):=by
 cases A with
 |tup vs=>exact absurd rfl (hA vs)
 |_=>rfl
def znN {v:Value} {A B:V} {h h':List Obj} (hc:zld h A=some (B,h')) (H:HRel X ρ h w) (hv:zat X ρ h w v A):Stp X ρ h w ρ h' w/\zat X ρ h' w v B:=by
 have one: ∀ {A B:V},(zbE h A).map (λp=>(V.d p.1,p.2))=some (B,h')->zat X ρ h w v A->Stp X ρ h w ρ h' w/\zat X ρ h' w v B:=λe hv=>by
  obtain⟨⟨x,h1⟩,hx,e⟩:=Option.map_eq_some_iff.1 e;simp only[yad]at e;obtain⟨rfl,rfl⟩:=e;exact zbJ hx H hv
 cases A with
 |tup vs=>
  obtain⟨⟨xs,h1⟩,hx,e⟩:=Option.map_eq_some_iff.1 hc;simp only[yad]at e;obtain⟨rfl,rfl⟩:=e;obtain⟨us,rfl,u1,u2⟩:=hv;obtain⟨s,e1,r⟩:=zeH (ρ:=ρ) (w:=w) vs h (λj=>us.getD j undef) xs _ hx H λj c hj=>by
   obtain⟨u,u3,u4⟩:=u2 j c hj;rw[show us.getD j undef=u by simp[yav,u3]]
   cases c with
   |tup _=>exact u4.elim
   |_=>exact u4
  refine⟨s,us,rfl,by simp[e1,u1],λj c hj=> ?_⟩
  rw[yau,yab]at hj;obtain⟨x,hj,rfl⟩:=hj;have hlt:j<us.size:=by have:=lt_of_getElem? hj;omega
  exact⟨us[j],by simp[hlt],by
   have:=r j x hj;rw[show us.getD j undef=us[j] by simp[yav,hlt]]at this
   exact this⟩
 |_=>exact one ((zlp λvs e=>by cases e).symm.trans hc) hv
def zgL {r:Option Nat} {n:Nat} {o:Oper} {a:Act} {K:Act->World->Prop} {Q:Exit->Act->World->Prop} {rf:Bool} {run:Run} {f:FuncId} {args:List V} {vs:List Value} {x:V} (hnd: ∀c,o.op≠ .defer c) (hrun:zdU P G run) (hhas:zc5 P run)
 (hx:callWith rf run f args h=some (x,h')) (H:HRel X ρ h w) (hg:GRel X G ρ h w) (ha:zb5 X ρ h w vs args) (hr:(execOp a.eval o).run P w=(callFunc f vs.toArray).run P w)
 (hk:zEP X ρ h w a o.dst x h' K):o.wpIn (Fw r) n P a w K Q:=by
 obtain⟨fn,h1,h2,h3⟩:=znJ hhas hx;refine⟨λ_ _=>trivial, ?_⟩
 rw[zi3 hnd,hr,zeP h1 h2 h3];refine⟨(λe=>by cases e),CallsIn.mono (F:=Fw r) (callsIn_wide.2 (zkU hrun hx H hg ha)) ?_⟩
 rintro e w' ⟨ρ',rv,rfl,st,hv⟩
 exact hk rv ρ' w' st hv
def zzS {r:Option Nat} {n:Nat} {o:Oper} {a:Act} {K:Act->World->Prop} {Q:Exit->Act->World->Prop} {run:Run} {f:FuncId} {args:List V} {vs:List Value} {x:V} (hnd: ∀c,o.op≠ .defer c) (hrun:zdU P G run) (hhas:zc5 P run)
 (hx:callThaw run f args h=some (x,h')) (H:HRel X ρ h w) (hg:GRel X G ρ h w) (ha:zb5 X ρ h w vs args) (hr:(execOp a.eval o).run P w=(callFunc f vs.toArray).run P w)
 (hk:zEP X ρ h w a o.dst x h' K):o.wpIn (Fw r) n P a w K Q:=by
 obtain⟨fn,h1,h2,h3⟩:=znK hhas hx;refine⟨λ_ _=>trivial, ?_⟩
 rw[zi3 hnd,hr,zeP h1 h2 h3];refine⟨(λe=>by cases e),CallsIn.mono (F:=Fw r) (callsIn_wide.2 (zkV hrun hx H hg ha)) ?_⟩
 rintro e w' ⟨ρ',rv,rfl,st,hv⟩
 exact hk rv ρ' w' st hv
def zuv {r:Option Nat} {n:Nat} {run:Run} {s:Slots} {o:Oper} {a:Act} {x:V} {K:Act->World->Prop} {Q:Exit->Act->World->Prop} (hrun:zdU P G run) (hhas:zc5 P run) (hx:opV P G run s h o=some (x,h')) (H:HRel X ρ h w) (hg:GRel X G ρ h w)
 (hs:SRel X ρ h w a.tmps s) (hk:zEP X ρ h w a o.dst x h' K):o.wpIn (Fw r) n P a w K Q:=by
 have E:=λy=>zlg hg hs y
 have hnd: ∀c,o.op≠ .defer c:=λc e=>by simp[opV,e]at hx
 unfold opV at hx;split at hx
 ·rename_i y ho
  simp only[yaa,yad]at hx;obtain⟨rfl,rfl⟩:=hx;exact zaC hnd (by simp[execOp,ho]) (Stp.refl H) (E y) hk
 ·rename_i y ho
  simp only[yaa,yad]at hx;obtain⟨rfl,rfl⟩:=hx;exact zaC hnd (by simp[execOp,ho]) (Stp.refl H) (E y) hk
 ·rename_i c y z ho
  obtain⟨hy,rfl⟩:=za9 hx;obtain⟨t,ht,hv⟩:=zpx hy (E c) (E y) (E z);refine zaC (v:=if t then a.eval y else a.eval z) hnd ?_ (Stp.refl H) hv hk
  cases t <;> simp[execOp,ho,ht,asBool]
 ·rename_i t ho
  obtain⟨v,ρ',w',hr,st,hv⟩:=znF hx H;exact zaC hnd (by simp[execOp,ho,hr]) st hv hk
 ·rename_i t y ho
  split at hx
  ·rename_i hst
   simp only[yaa,yad]at hx;obtain⟨rfl,rfl⟩:=hx;obtain⟨v,ρ',w',hr,st,hv⟩:=zuq (P:=P) (t:=t) hst H (E y);exact zaC hnd (by simp[execOp,ho,hr]) st hv hk
  ·cases hx
 ·rename_i t parts ho
  obtain⟨hy,rfl⟩:=za9 hx;obtain⟨v,hr,hv⟩:=znE (rp:=parts.toList.map λp=>(p.1,a.eval p.2)) hy (by simp) (znM hg hs parts.toList)
  refine zaC hnd ?_ (Stp.refl H) hv hk;have e:(parts.map λ(i,x)=>(i,a.eval x))=(parts.toList.map λp=>(p.1,a.eval p.2)).toArray:=by
   apply ycO;simp
  simp only[execOp,ho,e,Sem.run_bind,hr,Result.andThen_ok,Sem.run_pure]
 ·rename_i t len parts ho
  obtain⟨v,ρ',w',hr,st,hv⟩:=zhG (rp:=parts.toList.map λp=>(p.1,a.eval p.2)) hx H (by simp) (znM hg hs parts.toList)
  refine zaC hnd ?_ st hv hk;have e:(parts.map λ(i,x)=>(i,a.eval x))=(parts.toList.map λp=>(p.1,a.eval p.2)).toArray:=by
   apply ycO;simp
  simp only[execOp,ho,e,Sem.run_bind,hr,Result.andThen_ok,Sem.run_pure]
 ·rename_i t y ho
  obtain⟨hy,rfl⟩:=za9 hx;obtain⟨v,hr,hv⟩:=zjm hy H (E y);exact zaC hnd (by simp[execOp,ho,hr]) (Stp.refl H) hv hk
 ·rename_i t y z ho
  simp only[yab,yad]at hx;obtain⟨h1,hx,rfl,rfl⟩:=hx;obtain⟨w',hr,st⟩:=znG hx H (E y) (E z);refine⟨λ_ _=>trivial, ?_⟩
  have:(execOp a.eval o).run P w= .ok .skip w':=by simp[execOp,ho,hr]
  rw[zi3 hnd,this];exact hk undef ρ w' st ⟨#[],rfl,rfl,λj c hj=>by simp at hj⟩
 ·rename_i y ho
  obtain⟨rfl,⟨ad,hp⟩,hv⟩:=zjq hx (E y);exact zaC (v:=a.eval y) hnd (by simp[execOp,ho,hp]) (Stp.refl H) hv hk
 ·rename_i op t y z yT ho
  obtain⟨hy,rfl⟩:=za9 hx;simp only[yab]at hy;obtain⟨d,hd,rfl⟩:=hy;obtain⟨v,hr,hv⟩:=zsg (P:=P) (Xo:=y) (Yo:=z) hd (E y) (E z);refine zaC (x:= .d d) (v:=v) hnd ?_ (Stp.refl H) hv hk;simp only[execOp,ho];rw[Sem.run_bind,hr];rfl
 ·rename_i op t y ho
  obtain⟨hy,rfl⟩:=za9 hx;simp only[yab]at hy;obtain⟨d,hd,rfl⟩:=hy;obtain⟨v,hr,hv⟩:=zun (P:=P) hd (E y);exact zaC (x:= .d d) (v:=v) hnd (by simp[execOp,ho,hr]) (Stp.refl H) hv hk
 ·rename_i src dst y ho
  obtain⟨v,ρ',w',hr,st,hv⟩:=zpC hx H (E y);exact zaC hnd (by simp[execOp,ho,hr]) st hv hk
 ·rename_i t y ho
  obtain⟨st,v,hr,hv⟩:=znD hx H (E y);exact zaC hnd (by simp[execOp,ho,hr]) st hv hk
 ·rename_i f first captured ho
  split at hx
  ·rename_i hf
   simp only[yaa,yad]at hx;obtain⟨rfl,rfl⟩:=hx;simp only[yaw,Array.isEmpty_iff]at hf;obtain⟨rfl,hpl⟩:=hf;have ha:=zeQ hg hs captured.toList;have hv:zat X ρ h w (.func (.func f) #[] (captured.map a.eval)) (.clo f (captured.toList.map (ev G s))):=by
    refine⟨captured.map a.eval,rfl,by simp,λj c hj=> ?_⟩
    obtain⟨u,h1,h2⟩:=ha.2 j c hj;refine⟨u,by simpa using h1, ?_⟩
    have hc:=List.all_eq_true.1 hpl c (yay hj);cases c <;> first
     |exact h2
     |simp[V.plain]at hc
   exact zaC hnd (by simp[execOp,ho,Instr.makeFunc]) (Stp.refl H) hv hk
  ·cases hx
 ·rename_i t y z ho
  split at hx
  ·obtain⟨v,ρ',w',hr,st,hv⟩:=zju hx H (E y) (E z)
   exact zaC hnd (by simp[execOp,ho,hr]) st hv hk
  ·obtain⟨v,ρ',w',hr,st,hv⟩:=ziR hx H (E y) (E z)
   exact zaC hnd (by simp[execOp,ho,hr]) st hv hk
 ·rename_i t y lo hi mx ho
  obtain⟨hy,rfl⟩:=za9 hx;obtain⟨v,hr,hv⟩:=znC (vlo:=lo.map a.eval) (vhi:=hi.map a.eval) (vmx:=mx.map a.eval) hy H (E y) (zjB hg hs lo).1 (zjB hg hs lo).2 (zjB hg hs hi).1 (zjB hg hs hi).2 (zjB hg hs mx).2;exact zaC hnd (by simp[execOp,ho,hr]) (Stp.refl H) hv hk
 ·rename_i t y f ho
  obtain⟨hy,rfl⟩:=za9 hx;obtain⟨v,hr,hv⟩:=ziP hy (E y);exact zaC hnd (by simp[execOp,ho,hr]) (Stp.refl H) hv hk
 ·rename_i t y f ho
  obtain⟨hy,rfl⟩:=za9 hx;obtain⟨v,hr,hv⟩:=znz hy (E y);exact zaC hnd (by simp[execOp,ho,hr]) (Stp.refl H) hv hk
 ·rename_i t y z ho
  obtain⟨hy,rfl⟩:=za9 hx;obtain⟨v,hr,hv⟩:=ziQ hy H (E y) (E z);exact zaC hnd (by simp[execOp,ho,hr]) (Stp.refl H) hv hk
 ·rename_i t y z ho
  obtain⟨hy,rfl⟩:=za9 hx;obtain⟨v,hr,hv⟩:=znA hy (E y) (E z);exact zaC hnd (by simp[execOp,ho,hr]) (Stp.refl H) hv hk
 ·rename_i y xT t ok ho
  obtain⟨hy,rfl⟩:=za9 hx;obtain⟨v,hr,hv⟩:=zmq (xT:=xT) hy (E y);exact zaC hnd (by simp[execOp,ho,hr]) (Stp.refl H) hv hk
 ·rename_i y i ho
  obtain⟨hy,rfl⟩:=za9 hx;obtain⟨v,hr,hv⟩:=zkS (P:=P) hy (E y);exact zaC hnd (by simp[execOp,ho,hr]) (Stp.refl H) hv hk
 ·rename_i t y ho
  obtain⟨v,ρ',w',hr,st,hv⟩:=zkT hx H (E y);exact zaC hnd (by simp[execOp,ho,hr]) st hv hk
 ·rename_i y ho
  obtain⟨v,ρ',w',hr,st,hv⟩:=zpE (P:=P) (ty:=o.type) hx H (E y);exact zaC hnd (by simp[execOp,ho,hr]) st hv hk
 ·rename_i c ho
  have hargs:c.args.map a.eval=(c.args.toList.map a.eval).toArray:=by apply ycO;simp
  split at hx
  ·rename_i b hc
   obtain⟨v,ρ',w',hr,st,hv⟩:=zkW (ty:=o.type) (cs:=c.args.map fun | .const _=>true | _=>false) hx H (zeQ hg hs c.args.toList)
   refine zaC hnd ?_ st hv hk;simp only[execOp,ho,resolve,hc,hargs];rw[Sem.run_bind,Sem.run_pure,Result.andThen_ok];exact hr
  ·cases hx
  ·rename_i f hc
   unfold calleeV at hx;split at hx
   ·rename_i g hf
    have hv:=E f;rw[hf]at hv;have hfv:a.eval f= .func (.func g) #[] #[]:=by
     generalize a.eval f=vf at hv;cases hv;rfl
    have hex:(execOp a.eval o).run P w=(callFunc g (c.args.toList.map a.eval).toArray).run P w:=by
     simp only[execOp,ho,resolve,hc,hfv,Deferred.ofValue,Sem.run_bind,Sem.run_pure,Result.andThen_ok,invoke,hargs];simp
    split at hx
    ·split at hx
     ·exact zgL hnd hrun hhas (zfT hx).1 H hg (zeQ hg hs c.args.toList) hex hk
     split at hx
     ·obtain⟨q,hq,e⟩:=Option.map_eq_some_iff.1 hx
      simp only[yad]at e;obtain⟨rfl,rfl⟩:=e;exact zgL hnd hrun hhas hq H hg (zeQ hg hs c.args.toList) hex λv ρ' w' st hv=>by
       have sc:=zfS (q.2.length - h.length) h.length st.rel;exact hk v ρ' w' (st.trans H sc) (sc.vrel hv)
     split at hx
     ·obtain⟨q,hq,e⟩:=Option.bind_eq_some_iff.1 hx
      exact zgL hnd hrun hhas hq H hg (zeQ hg hs c.args.toList) hex λv ρ' w' st hv=>by
       obtain⟨sc,hv'⟩:=znN e st.rel hv;exact hk v ρ' w' (st.trans H sc) hv'
     ·exact zzS hnd hrun hhas hx H hg (zeQ hg hs c.args.toList) hex hk
    ·exact zgL hnd hrun hhas hx H hg (zeQ hg hs c.args.toList) hex hk
   ·rename_i g caps hf
    have hv:=E f;rw[hf]at hv;obtain⟨us,hfv,u1,u2⟩:=hv;have ha:=zeQ hg hs c.args.toList;refine zgL (vs:=c.args.toList.map a.eval++us.toList) hnd hrun hhas hx H hg ⟨by simp[u1],λj A hj=> ?_⟩ ?_ hk
    ·rcases ybL j (c.args.toList.map (ev G s)).length with hlt | hge
     ·rw[yar hlt]at hj
      rw[yar (by simpa using hlt)]
      exact ha.2 j A hj
     ·rw[yal hge]at hj
      rw[yal (by simpa using hge)]
      obtain⟨u,hu,hu2⟩:=u2 _ A hj;refine⟨u,by simpa using hu, ?_⟩
      have:V1 X ρ h w u A:=by
       cases A with
       |clo _ _=>exact hu2.elim
       |_=>exact hu2
      exact this.vrel
    ·simp only[execOp,ho,resolve,hc,hfv,Deferred.ofValue,Sem.run_bind,Sem.run_pure,Result.andThen_ok,invoke,hargs]
     congr 2;apply ycO;simp
   ·cases hx
 ·cases hx
end
end Go.Am
namespace Go.Am
section
variable (P:Program) (G:Nat->Option (List D)) (run:Run)
noncomputable def zdE (hint:List Nat) (hv:List Obj) (i:Nat) (s:Slots) (h:List Obj) (o:Oper):Option (V × List Obj):=
 if hint.contains i then zca h (blindV P G run hv s o) else if hint.isEmpty || hv.isEmpty || znj G hv s o || za2 hint i o then opV P G run s h o else none
noncomputable def zdV (all:List Oper) (hint:List Nat) (hv:List Obj) (i:Nat) (s:Slots) (h:List Obj):Option (Slots × List Obj):=
 match all[i]? with
 |none=>some (s,h)
 |some o=>
  obind (zbk all s o.guard) λw=>
  if w then
   obind (zdE P G run hint hv i s h o) λp=>some (zf5 s o.dst p.1,p.2)
  else some (zf5 s o.dst (.tup []),h)
noncomputable def zmu (all:List Oper) (hint:List Nat) (hv:List Obj):List Nat->Slots->List Obj->Option (Slots × List Obj)
 |[],s,h=>some (s,h)
 |i::l,s,h=>obind (zdV P G run all hint hv i s h) λp=>zmu all hint hv l p.1 p.2
def znO (all:List Oper) (hint:List Nat) (hv:List Obj): ∀ (zay:List Oper) (i:Nat) (s:Slots) (h:List Obj),(∀j,zay[j]? =all[i+j]?)->
 opsV P G run all hint hv i zay s h=zmu P G run all hint hv (List.range' i zay.length) s h
 |[],i,s,h,_=>by simp[opsV,zmu]
 |o::zay,i,s,h,hr=>by
  have h0:all[i]? =some o:=by have:=hr 0;simpa using this.symm
  have ih:=znO all hint hv zay (i+1);simp only[opsV,yaf,List.range'_succ,zmu,zdV,h0,zdE];have hr': ∀j,zay[j]? =all[i+1+j]? :=λj=>by
   have:=hr (j+1);rw[ybs]at this;rw[this];congr 1;omega
  cases hw:zbk all s o.guard with
  |none=>rfl
  |some b=>
   cases b with
   |false=>simp only[obind,yaD,ybd];exact ih _ _ hr'
   |true=>
    simp only[obind,ybk];cases (if hint.contains i then zca h (blindV P G run hv s o) else if hint.isEmpty || hv.isEmpty || znj G hv s o || za2 hint i o then opV P G run s h o else none) with
    |none=>rfl
    |some p=>simp only;exact ih _ _ hr'
end
section
variable {X:Nat->Nat->Prop} {ρ ρ':Places} {h h':List Obj} {w w':World} {P:Program} {G:Nat->Option (List D)}
structure Seen (hv h:List Obj):Prop where
 box: ∀ (id:Nat) (cs:List V),hv[id]? =some (.box cs)->h[id]? =some (.box cs)
 noarr: ∀ (id sz:Nat) (xs:List D) (wm:Nat),hv[id]? ≠some (.arr sz xs wm)
def zgM: ∀ (h:List Obj) (id:Nat) (o:Obj),(zqQ h)[id]? =some o->(∃cs,o= .box cs/\h[id]? =some (.box cs))\/o= .siter ⟨#[]⟩ 0
 |[],id,o,h=>by simp[zqQ]at h
 |.box cs::h,0,o,e=>by simp only[zqQ,yaF,yaa]at e;exact .inl ⟨cs,e.symm,rfl⟩
 |.arr _ _ _::h,0,o,e=>by simp only[zqQ,yaF,yaa]at e;exact .inr e.symm
 |.siter _ _::h,0,o,e=>by simp only[zqQ,yaF,yaa]at e;exact .inr e.symm
 |.box cs::h,id+1,o,e=>by simpa using zgM h id o (by simpa[zqQ]using e)
 |.arr _ _ _::h,id+1,o,e=>by simpa using zgM h id o (by simpa[zqQ]using e)
 |.siter _ _::h,id+1,o,e=>by simpa using zgM h id o (by simpa[zqQ]using e)
def zqX (h:List Obj):Seen [] h:=⟨λid cs e=>by simp at e,λid sz xs wm e=>by simp at e⟩
def zuw (h:List Obj):Seen (zqQ h) h where
 box:=λid cs e=>by
  rcases zgM h id _ e with ⟨cs',h1,h2⟩ | h1
  ·cases h1;exact h2
  ·cases h1
 noarr:=λid sz xs wm e=>by
  rcases zgM h id _ e with ⟨cs',h1,_⟩ | h1
  ·cases h1
  ·cases h1
def znP (s:Slots): ∀ (m:List Nat) {l h:List Obj},Seen l h->Seen (zns s m l) h
 |[],_,_,S=>S
 |m::r,l,h,S=>by
  have S2:=znP s r S;unfold zns;split
  ·split
   ·refine⟨λid cs e=> ?_,λid sz xs wm e=> ?_⟩
    ·rw[yb2]at e
     split at e
     ·split at e <;> cases e
     ·exact S2.box id cs e
    ·rw[yb2]at e
     split at e
     ·split at e <;> cases e
     ·exact S2.noarr id sz xs wm e
   ·exact S2
  ·exact S2
variable {hv:List Obj}
def zpH (S:Seen hv h) {t:TypeId} {A x:V} (hx:zhx P hv t A=some x):zhx P h t A=some x:=by
 cases A with
 |ptr id off=>
  simp only[zhx]at hx ⊢;cases e:hv[id]? with
  |none=>rw[e]at hx;cases hx
  |some o=>
   rw[e]at hx;cases o with
   |box cs=>rw[S.box id cs e];exact hx
   |arr _ _ _=>cases hx
   |siter _ _=>cases hx
 |eptr id n i off=>
  simp only[zhx]at hx;cases e:hv[id]? with
  |none=>rw[e]at hx;cases hx
  |some o=>
   rw[e]at hx;cases o with
   |arr _ _ _=>exact absurd e (S.noarr _ _ _ _)
   |_=>cases hx
 |_=>exact hx
def ziS (S:Seen hv h) {t:TypeId} {A I x:V} (hx:zcf P hv t A I=some x):zcf P h t A I=some x:=by
 unfold zcf at hx ⊢;split at hx
 ·split at hx
  ·rename_i hn
   rw[yag hn];split at hx
   ·exact hx
   ·split at hx
    ·rename_i e1 e2;first | exact absurd e1 (S.noarr _ _ _ _) | exact absurd e2 (S.noarr _ _ _ _)
    ·cases hx
   ·split at hx
    ·rename_i e1 e2;first | exact absurd e1 (S.noarr _ _ _ _) | exact absurd e2 (S.noarr _ _ _ _)
    ·cases hx
   ·split at hx
    ·rename_i e1 e2
     simp only[S.box _ _ e1,e2];exact hx
    ·cases hx
   ·cases hx
  ·cases hx
 ·exact hx
 ·cases hx
def zsq (S:Seen hv h) {c:V} {x:D} (hx:zuj hv c=some x):zuj h c=some x:=by
 unfold zuj at hx ⊢;split at hx
 ·exact hx
 ·split at hx
  ·rename_i e;exact absurd e (S.noarr _ _ _ _)
  ·cases hx
 ·cases hx
def zlq {α β:Type} {f g:α->Option β} (hfg: ∀a b,f a=some b->g a=some b): ∀ {l:List α} {r:List β},l.mapM f=some r->l.mapM g=some r
 |[],r,hr=>hr
 |x::l,r,hr=>by
  simp only[ya2,ybB,yaT,ybS,yaa]at hr ⊢;obtain⟨y,hy,ys,hys,e⟩:=hr;exact⟨y,hfg _ _ hy,ys,zlq hfg hys,e⟩
def zjC (S:Seen hv h) {A:V} {xs:List D} (hx:elems? hv A=some xs):elems? h A=some xs:=by
 unfold elems? at hx ⊢;split at hx
 ·exact hx
 ·exact hx
 ·exact hx
 ·split at hx
  ·rename_i e;exact absurd e (S.noarr _ _ _ _)
  ·cases hx
 ·split at hx
  ·rename_i e;exact absurd e (S.noarr _ _ _ _)
  ·cases hx
 ·split at hx
  ·rename_i e
   simp only[S.box _ _ e];exact zlq (λ_ _=>zsq S) hx
  ·cases hx
 ·cases hx
def zjD (S:Seen hv h) {src dst:TypeId} {A x:V} (hx:za1 P hv src dst A=some x):za1 P h src dst A=some x:=by
 unfold za1 at hx ⊢;split at hx
 ·exact hx
 ·exact hx
 ·split at hx
  ·rename_i he hxs
   rw[he,zjC S hxs];exact hx
  ·rename_i he hxs
   rw[he,zjC S hxs];exact hx
  ·cases hx
 ·cases hx
def zsr {src dst:TypeId} {A x:V} (hx:za1 P h src dst A=some x):zhw P h src dst A=some (x,h):=by
 unfold zhw;split
 ·rename_i e s hs hd
  simp[za1,hs,hd]at hx
 ·rename_i hs hd
  simp[za1,hs,hd]at hx
 ·rw[hx];rfl
def znQ (S:Seen hv h) {t:TypeId} {A x:V} {lo hi mx:Option V} (hx:zil P hv t A lo hi mx=some x):zil P h t A lo hi mx=some x:=by
 unfold zil at hx ⊢;split at hx
 ·exact hx
 ·exact hx
 ·exact hx
 ·split at hx
  ·rename_i e1 e2;first | exact absurd e1 (S.noarr _ _ _ _) | exact absurd e2 (S.noarr _ _ _ _)
  ·cases hx
 ·split at hx
  ·rename_i e1 e2;first | exact absurd e1 (S.noarr _ _ _ _) | exact absurd e2 (S.noarr _ _ _ _)
  ·cases hx
 ·exact hx
 ·cases hx
def zss (S:Seen hv h) {t:TypeId} {A:V} {n:Nat} (hx:zyT P hv t A=some n):zyT P h t A=some n:=by
 unfold zyT at hx ⊢;split at hx
 ·exact hx
 ·exact hx
 ·exact hx
 ·split at hx
  ·rename_i e;exact absurd e (S.noarr _ _ _ _)
  ·cases hx
 ·exact hx
 ·split at hx
  ·rename_i e;exact absurd e (S.noarr _ _ _ _)
  ·cases hx
 ·split at hx
  ·rename_i e
   simp only[S.box _ _ e];exact hx
  ·cases hx
 ·exact hx
 ·cases hx
def zhI {rf:Bool}: ∀ {args:List V},zxa args=true->zc8 rf h args=some (args,h)/\args.flatMap V.ids=[]/\ ∀f:Nat->Option Nat,args.mapM (V.ren f)=some args
 |[],_=>⟨rfl,rfl,λ_=>rfl⟩
 |.d x::r,ha=>by
  obtain⟨h1,h2,h3⟩:=zhI (rf:=rf) (args:=r) ha;have e:zim rf h (.d x)=some (.d x,h):=by simp[zim,zbE,za6]
  refine⟨by simp only[zc8,e,h1],by rw[ya5,h2];rfl,λf=> ?_⟩
  have e2:V.ren f (.d x)=some (.d x):=rfl;simp only[ya2,e2,h3 f];rfl
 |.nilS::_,ha | .arr _ _::_,ha | .sl _ _ _ _::_,ha | .emp::_,ha | .ptr _ _::_,ha | .eptr _ _ _ _::_,ha | .ro _::_,ha | .mp _::_,ha | .clo _ _::_,ha | .agg _::_,ha | .tup _::_,ha | .dead::_,ha=>by cases ha
def zpI {run:Run} {rf:Bool} {f:FuncId} {args:List V} {x:V} (hx:zfi run f args=some x):callWith rf run f args h=some (x,h):=by
 unfold zfi at hx;split at hx
 ·rename_i ha
  obtain⟨h1,h2,h3⟩:=zhI (h:=h) (rf:=rf) ha;cases hr:run f args [] with
  |none=>rw[hr]at hx;cases hx
  |some q=>
   obtain⟨rets,hout⟩:=q;rw[hr]at hx;simp only[obind]at hx;split at hx
   ·rename_i hq
    simp only[yaw,List.isEmpty_iff]at hq;obtain⟨rfl,hd⟩:=hq;simp only[yaa]at hx;subst hx;obtain⟨-,-,h6⟩:=zhI (h:=h) (rf:=rf) hd;have hids:zbi h (zaj [] (args.flatMap V.ids))=[]:=by
     rw[h2];simp[zaj,zbi,zf4]
    unfold callWith;rw[h1];simp only[hids];simp only[h3];have ht:zaG h (zas []) []=some []:=rfl;rw[ht];simp only[hr,h6];simp[zb0]
   ·cases hx
 ·cases hx
def zux (S:Seen hv h) {run:Run} {s:Slots} {o:Oper} {x:V} (hx:blindV P G run hv s o=some x):opV P G run s h o=some (x,h):=by
 unfold blindV at hx;unfold opV;split at hx
 ·rename_i t a ho;simp only[ho,zca,zpH S hx,yaM]
 ·rename_i t a lo hi mx ho;simp only[ho,zca,znQ S hx,yaM]
 ·rename_i t a i ho;simp only[ho,zca,ziS S hx,yaM]
 ·rename_i src dst a ho;simp only[ho,zsr (zjD S hx)]
 ·rename_i c ho
  split at hx
  ·rename_i t tr A Ar hc ht ha
   simp only[yab]at hx;obtain⟨n,hn,rfl⟩:=hx;simp only[ho,hc,ht,ha,zbz,zss S hn,yaM]
  ·rename_i f _ hc
   split at hx
   ·rename_i g hg
    split at hx
    ·cases hx
    ·rename_i hth
     simp only[ho,hc,calleeV,hg,hth];exact zpI hx
   ·cases hx
  ·cases hx
 ·cases hx
def Seen.append (S:Seen hv h) (l:List Obj):Seen hv (h++l):=⟨λid cs e=>by
 have:=S.box id cs e;rw[yar (lt_of_getElem? this)];exact this,S.noarr⟩
def Seen.setArr (S:Seen hv h) {i sz:Nat} {xs:List D} {wm:Nat} (ho:h[i]? =some (.arr sz xs wm)) (o:Obj):Seen hv (h.set i o):=⟨λid cs e=>by
 have:=S.box id cs e
 by_cases hi:i=id
 ·subst hi;rw[ho]at this;cases this
 ·rw[ybw hi];exact this,S.noarr⟩
def Seen.setIter (S:Seen hv h) {i:Nat} {t:ByteArray} {p:Nat} (ho:h[i]? =some (.siter t p)) (o:Obj):Seen hv (h.set i o):=⟨λid cs e=>by
 have:=S.box id cs e
 by_cases hi:i=id
 ·subst hi;rw[ho]at this;cases this
 ·rw[ybw hi];exact this,S.noarr⟩
def zbV: ∀ {h h':List Obj},zaB h h'-> ∀ (id:Nat) (cs:List V),h[id]? =some (.box cs)->h'[id]? =some (.box cs)
 |[],_,_,id,cs,e=>by simp at e
 |.box cs0::h,.box cs'::h',k,0,cs,e=>by
  simp only[zaB]at k;simp only[yaF,yaa,Obj.box.injEq]at e ⊢;rw[<- k.1,e]
 |.box cs0::h,.box cs'::h',k,id+1,cs,e=>by
  simp only[zaB]at k;simpa using zbV k.2 id cs (by simpa using e)
 |.box _::_,[],k,_,_,_=>by simp[zaB]at k
 |.box _::_,.arr _ _ _::_,k,_,_,_=>by simp[zaB]at k
 |.box _::_,.siter _ _::_,k,_,_,_=>by simp[zaB]at k
 |.arr _ _ _::h,o::h',k,0,cs,e=>by simp at e
 |.siter _ _::h,o::h',k,0,cs,e=>by simp at e
 |.arr _ _ _::h,o::h',k,id+1,cs,e=>by
  simp only[zaB]at k;simpa using zbV k id cs (by simpa using e)
 |.siter _ _::h,o::h',k,id+1,cs,e=>by
  simp only[zaB]at k;simpa using zbV k id cs (by simpa using e)
 |.arr _ _ _::h,[],k,0,cs,e=>by simp at e
 |.siter _ _::h,[],k,0,cs,e=>by simp at e
 |.arr _ _ _::h,[],k,id+1,cs,e=>by
  simp only[zaB]at k;have:=zbV k id cs (by simpa using e)
  simp at this
 |.siter _ _::h,[],k,id+1,cs,e=>by
  simp only[zaB]at k;have:=zbV k id cs (by simpa using e)
  simp at this
def zuy (k:zaB h h') (S:Seen hv h):Seen hv h':=⟨λid cs e=>zbV k id cs (S.box id cs e),S.noarr⟩
def zhJ {A:V} {x:D} (hp:za6 h A=some (x,h')) (S:Seen hv h):Seen hv h':=by
 cases A with
 |arr id n=>
  simp only[za6]at hp;split at hp
  ·rename_i ho
   split at hp
   ·simp only[yaa,yad]at hp
    obtain⟨_,rfl⟩:=hp;exact S.setArr ho _
   ·cases hp
  ·cases hp
 |d x=>simp only[za6,yaa,yad]at hp;obtain⟨_,rfl⟩:=hp;exact S
 |sl id tot off len=>
  simp only[za6]at hp;split at hp
  ·rename_i ho
   split at hp
   ·simp only[yaa,yad]at hp
    obtain⟨_,rfl⟩:=hp;exact S.setArr ho _
   ·cases hp
  ·cases hp
 |emp=>simp only[za6,yaa,yad]at hp;obtain⟨_,rfl⟩:=hp;exact S
 |nilS=>simp only[za6,yaa,yad]at hp;obtain⟨_,rfl⟩:=hp;exact S
 |_=>simp[za6]at hp
def zej: ∀ {cs:List V} {xs:List D} {h h':List Obj},za4 h cs=some (xs,h')->Seen hv h->Seen hv h'
 |[],xs,h,h',hp,S=>by simp only[za4,yaa,yad]at hp;obtain⟨_,rfl⟩:=hp;exact S
 |c::cs,xs,h,h',hp,S=>by
  simp only[za4]at hp;split at hp
  ·rename_i h1
   split at hp
   ·rename_i h2
    simp only[yaa,yad]at hp;obtain⟨_,rfl⟩:=hp;exact zej h2 (zhJ h1 S)
   ·cases hp
  ·cases hp
def zde {A:V} {x:D} (hp:zbE h A=some (x,h')) (S:Seen hv h):Seen hv h':=by
 unfold zbE at hp;split at hp
 ·simp only[yab,ycs,yad]at hp
  obtain⟨xs,h1,hl,_,rfl⟩:=hp;exact zej hl S
 ·exact zhJ hp S
def zga: ∀ {cs:List V} {xs:List D} {h h':List Obj},zeu h cs=some (xs,h')->Seen hv h->Seen hv h'
 |[],xs,h,h',hp,S=>by simp only[zeu,yaa,yad]at hp;obtain⟨_,rfl⟩:=hp;exact S
 |c::cs,xs,h,h',hp,S=>by
  simp only[zeu]at hp;split at hp
  ·rename_i h1
   split at hp
   ·rename_i h2
    simp only[yaa,yad]at hp;obtain⟨_,rfl⟩:=hp;exact zga h2 (zde h1 S)
   ·cases hp
  ·cases hp
def zlr: ∀ {cs as:List V} {h h':List Obj},cs.all zbj=true->zc8 false h cs=some (as,h')->Seen hv h->Seen hv h'/\as.flatMap V.ids=[]
 |[],as,h,h',_,hp,S=>by simp only[zc8,yaa,yad]at hp;obtain⟨rfl,rfl⟩:=hp;exact⟨S,rfl⟩
 |c::cs,as,h,h',hc,hp,S=>by
  simp only[ycB,yaw]at hc;simp only[zc8]at hp;split at hp
  ·rename_i y h1 e1
   split at hp
   ·rename_i h2
    simp only[yaa,yad]at hp;obtain⟨rfl,rfl⟩:=hp;have key:Seen hv h1/\y.ids=[]:=by
     unfold zim at e1;split at e1
     ·simp only[yaD,ybd,yab,ycs,yad]at e1
      obtain⟨x,h3,hl,rfl,rfl⟩:=e1;exact⟨zde hl S,rfl⟩
     ·simp only[yaD,ybd,yab,ycs,yad]at e1
      obtain⟨x,h3,hl,rfl,rfl⟩:=e1;exact⟨zde hl S,rfl⟩
     ·simp[zbj]at hc
     ·simp[zbj]at hc
     ·simp[zbj]at hc
     ·simp only[yaa,yad]at e1;obtain⟨rfl,rfl⟩:=e1;exact⟨S,rfl⟩
     ·simp only[yab,ycs,yad]at e1
      obtain⟨x,h3,hl,rfl,rfl⟩:=e1;exact⟨zde hl S,rfl⟩
    obtain⟨k1,k2⟩:=zlr hc.2 h2 key.1;exact⟨k1,by simp[key.2,k2]⟩
   ·cases hp
  ·cases hp
def zek {run:Run} {f:FuncId} {args:List V} {x:V} (ha:args.all zbj=true) (hx:callWith false run f args h=some (x,h')) (S:Seen hv h):Seen hv h':=by
 unfold callWith at hx;split at hx
 ·cases hx
 ·rename_i as h1 hargs
  obtain⟨S1,hids⟩:=zlr ha hargs S;simp only[hids,zaj]at hx;have hre:zbi h1 []=[]:=by simp[zbi,zf4]
  rw[hre]at hx;split at hx
  ·split at hx
   ·split at hx
    ·simp only[yaa,yad]at hx
     obtain⟨_,rfl⟩:=hx;simp only[zb0];exact S1.append _
    ·cases hx
   ·cases hx
  ·cases hx
def zpJ {A B:V} {h h':List Obj} (hc:zld h A=some (B,h')) (S:Seen hv h):Seen hv h':=by
 cases A with
 |tup vs=>
  obtain⟨p,hx,e⟩:=Option.map_eq_some_iff.1 hc;simp only[yad]at e;obtain⟨_,rfl⟩:=e;exact zga hx S
 |_=>
  rw[zlp λvs e=>by cases e]at hc
  obtain⟨p,hx,e⟩:=Option.map_eq_some_iff.1 hc;simp only[yad]at e;obtain⟨_,rfl⟩:=e;exact zde hx S
def zdF: ∀ (cs:List V) {h:List Obj},Seen hv h->Seen hv (zba h cs).2
 |[],_,S=>S
 |c::cs,h,S=>by
  unfold zba;split
  ·rename_i hx
   split at hx
   ·exact zdF cs (zhJ hx S)
   ·cases hx
  ·exact zdF cs S
def zpK {id:Nat} (S:Seen hv h) (hid: ∀cs,hv[id]? ≠some (.box cs)):Seen hv (zlc h id):=by
 unfold zlc;split
 ·have S2:=zdF (hv:=hv) ‹_› S
  exact⟨λi cs e=>by
   have hne:id≠i:=λe2=>hid cs (by rw[e2];exact e)
   rw[ybw hne];exact S2.box i cs e,S2.noarr⟩
 ·exact S
def zgN: ∀ (m n:Nat) {h:List Obj},Seen hv h->(∀ (id:Nat) (cs:List V),hv[id]? =some (.box cs)->id<n)->Seen hv (zgx m n h)
 |0,_,_,S,_=>S
 |m+1,n,h,S,hn=>zgN m (n+1) (zpK S λcs e=>absurd (hn n cs e) (ybx _)) λid cs e=>Nat.lt_succ_of_lt (hn id cs e)
def zmv {run:Run} {f:FuncId} {args:List V} {x:V} (hx:callThaw run f args h=some (x,h')) (S:Seen hv h):Seen hv h':=by
 unfold callThaw at hx;split at hx
 ·cases hx
 ·split at hx
  ·split at hx
   ·split at hx
    ·simp only[yaa,yad]at hx
     obtain⟨_,rfl⟩:=hx;exact S.append _
    ·cases hx
   ·cases hx
  ·cases hx
def ziT {t:TypeId} {n:Nat} {parts:List (Nat × V)} {x:V} (hx:zb9 P h t n parts=some (x,h')) (S:Seen hv h):Seen hv h':=by
 unfold zb9 at hx;split at hx
 ·split at hx
  ·split at hx
   ·split at hx
    ·rename_i hp
     split at hx
     ·simp only[yaa,yad]at hx
      obtain⟨_,rfl⟩:=hx;exact (zga hp S).append _
     ·cases hx
    ·cases hx
   ·cases hx
  ·cases hx
 ·cases hx
def znR {ts tx:TypeId} {A B x:V} (hx:zf3 P h ts tx A B=some (x,h')) (S:Seen hv h):Seen hv h':=by
 unfold zf3 at hx;split at hx
 ·split at hx
  ·split at hx
   ·split at hx
    ·split at hx
     ·simp only[yaa,yad]at hx
      obtain⟨_,rfl⟩:=hx;exact S.append _
     ·cases hx
    ·split at hx
     ·rename_i ho
      split at hx
      ·simp only[yaa,yad]at hx
       obtain⟨_,rfl⟩:=hx;exact S.setArr ho _
      ·cases hx
     ·cases hx
    ·cases hx
   ·cases hx
  ·cases hx
 ·cases hx
def zls {id tot off:Nat} {ys:List D} (hx:zpp h id tot off ys=some h') (S:Seen hv h):Seen hv h':=by
 unfold zpp at hx;split at hx
 ·rename_i ho
  split at hx
  ·simp only[yaa]at hx;subst hx
   exact S.setArr ho _
  ·cases hx
 ·cases hx
def zst {t:TypeId} {A B x:V} (hx:zsb P h t A B=some (x,h')) (S:Seen hv h):Seen hv h':=by
 unfold zsb at hx;split at hx
 ·split at hx
  ·split at hx
   ·split at hx
    ·simp only[yab,yad]at hx
     obtain⟨h1,ho,_,rfl⟩:=hx;exact zls ho S
    ·cases hx
   ·cases hx
  ·cases hx
 ·cases hx
def zpL {t:TypeId} {A x:V} (hx:zlb P h t A=some (x,h')) (S:Seen hv h):Seen hv h':=by
 unfold zlb at hx;split at hx
 ·split at hx
  ·split at hx
   ·split at hx
    ·simp only[yab,yad]at hx
     obtain⟨h1,ho,_,rfl⟩:=hx;exact zls ho S
    ·cases hx
   ·cases hx
  ·cases hx
 ·cases hx
def zxl {run:Run} {s:Slots} {o:Oper} {x:V} (hm:znj G hv s o=true) (hx:opV P G run s h o=some (x,h')) (S:Seen hv h):Seen hv h':=by
 have hw: ∀ {y:Option V},zca h y=some (x,h')->Seen hv h':=λ{y} e=>by
  cases y with
  |none=>cases e
  |some y=>simp only[zca,yaM,yaa,yad]at e;rw[<- e.2];exact S
 cases ho:o.op with
 |move a | assign a=>
  simp only[opV,ho,yaa,yad]at hx;rw[<- hx.2];exact S
 |pick _ _ _ | binOp _ _ _ _ _ | unOp _ _ _ | fieldAddr _ _ _ | extract _ _ | field _ _ _ | index _ _ _ | typeAssert _ _ _ _ | build _ _ | load _ _ | slice _ _ _ _ _ | indexAddr _ _ _=>
  simp only[opV,ho]at hx;exact hw hx
 |nilCheck a=>
  simp only[opV,ho]at hx;cases hv':ev G s a <;> simp only[hv',zdQ,yaa,yad,reduceCtorEq]at hx <;> (rw[<- hx.2];exact S)
 |alloc t=>
  simp only[opV,ho,zcv]at hx;split at hx
  ·split at hx
   ·simp only[yaa,yad]at hx;rw[<- hx.2];exact S.append _
   ·cases hx
  ·cases hx
 |box t a=>
  simp only[opV,ho]at hx;split at hx
  ·simp only[yaa,yad]at hx;rw[<- hx.2];exact S.append _
  ·cases hx
 |buildSlice _ _ _=>simp only[opV,ho]at hx;exact ziT hx S
 |convert src dst a=>
  simp only[opV,ho]at hx;unfold zhw at hx;split at hx
  ·split at hx
   ·split at hx
    ·simp only[yaa,yad]at hx;rw[<- hx.2];exact S.append _
    ·cases hx
   ·split at hx
    ·simp only[yaa,yad]at hx;rw[<- hx.2];exact S.append _
    ·cases hx
   ·cases hx
  ·split at hx
   ·split at hx
    ·simp only[yaa,yad]at hx;rw[<- hx.2];exact S
    ·cases hx
   ·cases hx
  ·simp only[yab,yad]at hx
   obtain⟨_,_,_,rfl⟩:=hx;exact S
 |makeInterface t a=>
  simp only[opV,ho,znq]at hx;split at hx
  ·cases hx
  ·simp only[yab,ycs,yad]at hx
   obtain⟨y,h1,hp,_,rfl⟩:=hx;exact zde hp S
  ·cases hx
 |makeFunc fn first cap=>
  cases fn <;> simp only[opV,ho]at hx
  ·split at hx
   ·simp only[yaa,yad]at hx;rw[<- hx.2];exact S
   ·cases hx
  all_goals cases hx
 |makeSlice t l c=>
  simp only[opV,ho]at hx;split at hx
  ·unfold zdO at hx
   split at hx
   ·split at hx
    ·split at hx
     ·simp only[yaa,yad]at hx;rw[<- hx.2];exact S.append _
     ·cases hx
    ·cases hx
   ·cases hx
  ·unfold zdd at hx
   split at hx
   ·split at hx
    ·split at hx
     ·simp only[yaa,yad]at hx;rw[<- hx.2];exact S.append _
     ·cases hx
    ·cases hx
   ·cases hx
 |range t a=>
  simp only[opV,ho,zgy]at hx;split at hx
  ·simp only[yaa,yad]at hx;rw[<- hx.2];exact S.append _
  ·cases hx
 |next a b=>
  cases b <;> simp only[opV,ho,reduceCtorEq]at hx;unfold zpt at hx;split at hx
  ·split at hx
   ·rename_i ho'
    simp only[yaa]at hx;unfold zgz at hx;split at hx
    ·simp only[yad]at hx;rw[<- hx.2];exact S.setIter ho' _
    ·simp only[yad]at hx;rw[<- hx.2];exact S
   ·cases hx
  ·cases hx
 |store t a y=>
  simp only[znj,ho]at hm;simp only[opV,ho,yab,yad]at hx;obtain⟨h2,hs,_,rfl⟩:=hx;revert hm hs;cases ev G s a <;> intro hm hs <;> simp only[zul,yaD]at hm;rename_i id off;have hn: ∀cs,hv[id]? ≠some (.box cs):=λcs e=>by rw[e]at hm;cases hm
  have hset: ∃o,h2=h.set id o:=by
   simp only[znn]at hs;split at hs
   ·split at hs
    ·split at hs
     ·exact⟨_,(yaN hs).symm⟩
     ·cases hs
    ·cases hs
   ·cases hs
  obtain⟨o2,rfl⟩:=hset;exact⟨λid' cs e=>by
   have hne:id≠id':=λe2=>hn cs (by rw[e2];exact e)
   rw[ybw hne];exact S.box id' cs e,S.noarr⟩
 |call c=>
  simp only[opV,ho]at hx;simp only[znj,ho]at hm;cases hc:c.callee with
  |invoke _ _=>rw[hc]at hx;cases hx
  |builtin b=>
   rw[hc]at hx;simp only at hx;unfold zbz at hx;split at hx
   ·simp only[yab,yad]at hx;obtain⟨_,_,_,rfl⟩:=hx;exact S
   ·refine znR hx ?_
    unfold zkP;split
    ·split
     ·split
      ·rename_i hp
       exact zej hp S
      ·exact S
     ·exact S
    ·exact S
   ·exact zst hx S
   ·exact zpL hx S
   ·simp only[yab,yad]at hx;obtain⟨_,_,_,rfl⟩:=hx;exact S
   ·simp only[yab,yad]at hx;obtain⟨_,_,_,rfl⟩:=hx;exact S
   ·cases hx
  |value f=>
   rw[hc]at hx hm;simp only at hx hm;split at hm
   ·rename_i g hg
    rw[hg]at hx;simp only[calleeV]at hx;split at hx
    ·split at hx
     ·exact zuy (zfT hx).2 S
     split at hx
     ·rename_i hk _
      obtain⟨q,hq,e⟩:=Option.map_eq_some_iff.1 hx;simp only[yad]at e;obtain⟨_,rfl⟩:=e;simp only[ybr,yaw]at hm;have hm':=hm.resolve_right λh=>hk h.2
      have hb:zab G g=false:=by simpa using hm'.1
      rw[hb]at hq;exact zgN _ _ (zek hm'.2 hq S) λid cs e=>lt_of_getElem? (S.box id cs e)
     split at hx
     ·rename_i hk _ _
      obtain⟨q,hq,e⟩:=Option.bind_eq_some_iff.1 hx;simp only[ybr,yaw]at hm;have hm':=hm.resolve_right λh=>hk h.2
      have hb:zab G g=false:=by simpa using hm'.1
      rw[hb]at hq;exact zpJ e (zek hm'.2 hq S)
     ·exact zmv hx S
    ·rename_i ht
     simp only[ybr,yaw]at hm;have hm':=hm.resolve_right λh=>ht h.1
     have hb:zab G g=false:=by simpa using hm'.1
     rw[hb]at hx;exact zek hm'.2 hx S
   ·simp at hm
 |_=>simp[opV,ho]at hx
def zqY {tmps:Array Value} {d t:Nat} {v:Value} (hd:d<tmps.size):(tmps.setIfInBounds d v).getD t undef=if d=t then v else tmps.getD t undef:=by
 simp only[yav,Array.getElem?_setIfInBounds]
 by_cases e:d=t
 ·subst e;simp[hd]
 ·simp[e]
def SRel.put {a:Act} {s:Slots} {dst:Option Tmp} {v:Value} {x:V} (hs:SRel X ρ h w a.tmps s) (hv:zat X ρ h w v x) (hd: ∀d,dst=some d->d<a.tmps.size):SRel X ρ h w (a.put dst v).tmps (zf5 s dst x):=by
 cases dst with
 |none=>exact hs
 |some d=>
  intro t;simp only[Act.put,zf5,zbF,zqY (hd d rfl)];split
  ·exact hv
  ·exact hs t
def zxm (a:Act) (dst:Option Tmp) (v:Value):(a.put dst v).tmps.size=a.tmps.size:=by
 cases dst <;> simp[Act.put]
def zsu (a:Act) (dst:Option Tmp) (v:Value):(a.put dst v).defers=a.defers:=by
 cases dst <;> rfl
def znS {all:List Oper} {s:Slots} {a:Act} {o:Oper} {b:Bool} (hw:zbk all s o.guard=some b) (hs:SRel X ρ h w a.tmps s):Region.wanted o (yielded all.toArray a.tmps)=b:=by
 unfold zbk at hw;unfold Region.wanted;cases hgu:o.guard with
 |none=>rw[hgu]at hw;simpa using hw
 |some p=>
  obtain⟨j,want⟩:=p;rw[hgu]at hw;simp only at hw ⊢;have hy: ∀d,(all[j]?).bind (·.dst)=some d->yielded all.toArray a.tmps j=(match a.tmps[d]? with | some (.bool b)=>some b | _=>none):=λd hd=>by
   have e:((all.toArray[j]?).bind (·.dst)).bind (a.tmps[·]?)=a.tmps[d]? :=by rw[yda,hd];rfl
   unfold yielded;rw[e];cases a.tmps[d]? with
   |none=>rfl
   |some v=>cases v <;> rfl
  split at hw
  ·rename_i hn
   simp only[yaa]at hw;subst hw;have:yielded all.toArray a.tmps j=none:=by simp[yielded,hn]
   rw[this];rfl
  ·rename_i d hd
   rw[hy d hd];have hr:=hs d;have hgd:a.tmps.getD d undef=(a.tmps[d]?).getD undef:=by simp[yav]
   rw[hgd]at hr;split at hw
   ·rename_i b' hb
    simp only[yaa]at hw;subst hw;rw[hb]at hr;cases ht:a.tmps[d]? with
    |none=>rw[ht]at hr;cases hr
    |some v=>
     rw[ht]at hr;simp only[ydO]at hr;cases hr;simp
   ·rename_i hb
    simp only[yaa]at hw;subst hw;rw[hb]at hr;obtain⟨us,hu,_⟩:=hr;cases ht:a.tmps[d]? with
    |none=>rfl
    |some v=>
     rw[ht]at hu;simp only[ydO]at hu;subst hu;rfl
   ·cases hw
structure St (X:Nat->Nat->Prop) (G:Nat->Option (List D)) (nt:Nat) (ρ:Places) (h:List Obj) (w:World) (a:Act) (s:Slots):Prop where
 rel:HRel X ρ h w
 glob:GRel X G ρ h w
 slots:SRel X ρ h w a.tmps s
 size:a.tmps.size=nt
def zjE {r:Option Nat} {n:Nat} {run:Run} {nt:Nat} {all:List Oper} {hint:List Nat} {Q:Exit->Act->World->Prop} (hrun:zdU P G run) (hhas:zc5 P run) (hdst: ∀o∈all, ∀d,o.dst=some d->d<nt)
 {i:Nat} {s s1:Slots} {h h1:List Obj} {a:Act} {K:Act->World->Prop} (hr:zdV P G run all hint hv i s h=some (s1,h1)) (S:St X G nt ρ h w a s) (hseen:hint.contains i=true->Seen hv h)
 (hk: ∀ρ1 a1 w1,Stp X ρ h w ρ1 h1 w1->St X G nt ρ1 h1 w1 a1 s1->a1.defers=a.defers->K a1 w1):wpOpIn (Fw r) n P all.toArray Q i K a w:=by
 unfold wpOpIn;simp only[zdV,zdE]at hr;have cont: ∀ (dst:Option Tmp) (x:V),(∀d,dst=some d->d<nt)->zf5 s dst x=s1-> ∀v ρ' w',Stp X ρ h w ρ' h1 w'->zat X ρ' h1 w' v x->K (a.put dst v) w':=λdst x hd e v ρ1 w1 st hv=>
  hk ρ1 _ w1 st ⟨st.rel,S.glob.mono st.fr,e ▸ SRel.put (S.slots.mono st) hv (λd e=>by rw[S.size];exact hd d e),(zxm _ _ _).trans S.size⟩ (zsu _ _ _)
 cases hi:all[i]? with
 |none=>
  rw[hi]at hr;have hi':all.toArray[i]? =none:=by simpa using hi
  rw[hi'];simp only[yaa,yad]at hr;obtain⟨rfl,rfl⟩:=hr;exact hk ρ a w (Stp.refl S.rel) S rfl
 |some o=>
  rw[hi]at hr;have hi':all.toArray[i]? =some o:=by simpa using hi
  rw[hi'];simp only at hr ⊢;have hd:=hdst o (yay hi);cases hw:zbk all s o.guard with
  |none=>rw[hw]at hr;cases hr
  |some b=>
   rw[hw]at hr;rw[znS hw S.slots];cases b with
   |false=>
    simp only[obind,yaD,ybd,yaa,yad]at hr ⊢;obtain⟨e,rfl⟩:=hr;exact⟨λ_ _=>trivial,cont o.dst (.tup []) hd e undef ρ w (Stp.refl S.rel) ⟨#[],rfl,rfl,λj c hj=>by simp at hj⟩⟩
   |true=>
    simp only[obind,ybk]at hr ⊢;have hop: ∀x,opV P G run s h o=some (x,h1)->zf5 s o.dst x=s1->o.wpIn (Fw r) n P a w K Q:=λx hx e=>
     zuv hrun hhas hx S.rel S.glob S.slots λv ρ1 w1 st hv=>cont o.dst x hd e v ρ1 w1 st hv
    cases hc:hint.contains i with
    |true=>
     rw[hc,yag rfl]at hr;cases hb:blindV P G run hv s o with
     |none=>rw[hb]at hr;cases hr
     |some x=>
      rw[hb]at hr;simp only[zca,yaM,yaa,yad]at hr;obtain⟨e,rfl⟩:=hr;exact hop x (zux (hseen hc) hb) e
    |false=>
     rw[hc,yac (by decide)]at hr
     cases hm:(hint.isEmpty || hv.isEmpty || znj G hv s o || za2 hint i o) with
     |false=>rw[hm,yac (by decide)]at hr;cases hr
     |true=>
     rw[hm,yag rfl]at hr;cases hx:opV P G run s h o with
     |none=>rw[hx]at hr;cases hr
     |some p=>
      obtain⟨x,h2⟩:=p;rw[hx]at hr;simp only[yaa,yad]at hr;obtain⟨e,rfl⟩:=hr;exact hop x hx e
def zsv {run:Run} {all:List Oper} {hint:List Nat} {i:Nat} {s s1:Slots} {h1:List Obj} (hr:zdV P G run all hint hv i s h=some (s1,h1)) (hne:hint≠[]) (S:Seen hv h) (hl:hv=[]\/ ∀o,all[i]? =some o->za2 hint i o=false):Seen hv h1:=by
 simp only[zdV,zdE]at hr;cases hi:all[i]? with
 |none=>rw[hi]at hr;simp only[yaa,yad]at hr;rw[<- hr.2];exact S
 |some o=>
  rw[hi]at hr;simp only at hr;cases hw:zbk all s o.guard with
  |none=>rw[hw]at hr;cases hr
  |some b=>
   rw[hw]at hr;cases b with
   |false=>simp only[obind,yaD,ybd,yaa,yad]at hr;rw[<- hr.2];exact S
   |true=>
    simp only[obind,ybk]at hr;cases hc:hint.contains i with
    |true=>
     rw[hc,yag rfl]at hr;cases hb:blindV P G run hv s o with
     |none=>rw[hb]at hr;cases hr
     |some x=>rw[hb]at hr;simp only[zca,yaM,yaa,yad]at hr;rw[<- hr.2];exact S
    |false=>
     rw[hc,yac (by decide)]at hr
     cases hm:(hint.isEmpty || hv.isEmpty || znj G hv s o || za2 hint i o) with
     |false=>rw[hm,yac (by decide)]at hr;cases hr
     |true=>
     rw[hm,yag rfl]at hr;have hemp:hint.isEmpty=false:=by cases hint with | nil=>exact absurd rfl hne | cons _ _=>rfl
     rw[hemp,yck]at hm;cases hv with
     |nil=>exact zqX _
     |cons o0 hv0=>
     rw[(hl.resolve_left (by simp)) o hi]at hm
     simp only[List.isEmpty_cons,yck,ydn]at hm;cases hx:opV P G run s h o with
     |none=>rw[hx]at hr;cases hr
     |some p=>
      obtain⟨x,h2⟩:=p;rw[hx]at hr;simp only[yaa,yad]at hr;rw[<- hr.2];exact zxl hm hx S
def zlt {r:Option Nat} {n:Nat} {run:Run} {nt:Nat} {all:List Oper} {Q:Exit->Act->World->Prop} (hrun:zdU P G run) (hhas:zc5 P run) (hdst: ∀o∈all, ∀d,o.dst=some d->d<nt):
 ∀ (l:List Nat) (ρ:Places) (s:Slots) (h:List Obj) (a:Act) (w:World) (s':Slots) (h':List Obj),zmu P G run all [] hv l s h=some (s',h')->St X G nt ρ h w a s->
  (∀ρ' a' w',Stp X ρ h w ρ' h' w'->St X G nt ρ' h' w' a' s'->a'.defers=a.defers->Q .normal a' w')->wpOpsIn (Fw r) n P all.toArray Q l a w
 |[],ρ,s,h,a,w,s',h',hr,S,hq=>by
  simp only[zmu,yaa,yad]at hr;obtain⟨rfl,rfl⟩:=hr;exact hq ρ a w (Stp.refl S.rel) S rfl
 |i::l,ρ,s,h,a,w,s',h',hr,S,hq=>by
  rw[wpOpsIn_cons];simp only[zmu]at hr;cases hs:zdV P G run all [] hv i s h with
  |none=>rw[hs]at hr;cases hr
  |some p=>
   obtain⟨s1,h1⟩:=p;rw[hs]at hr;exact zjE hrun hhas hdst hs S (λc=>by simp at c) fun ρ1 a1 w1 st S1 hd1=>
    zlt hrun hhas hdst l ρ1 s1 h1 a1 w1 s' h' hr S1 fun ρ2 a2 w2 st2 S2 hd2=>hq ρ2 a2 w2 (st.trans S.rel st2) S2 (hd2.trans hd1)
end
end Go.Am
namespace Go.Am
section
variable {P:Program} {G:Nat->Option (List D)} {run:Run}
def zuz {s s':Slots} (o:Oper) (h:List Obj) (he: ∀x∈o.op.operands,ev G s x=ev G s' x):opV P G run s h o=opV P G run s' h o:=by
 obtain⟨dst,op,type,pos,after,guard⟩:=o;have pairs: ∀ps:Array (Nat × Operand),(∀x∈ps.map (·.2),ev G s x=ev G s' x)->
  (ps.toList.map λp=>(p.1,ev G s p.2))=(ps.toList.map λp=>(p.1,ev G s' p.2)):=λps hp=>
  ya0 λp hm=>by
   obtain⟨i,x⟩:=p;simp only[hp x (Array.mem_map.2 ⟨(i,x),by simpa using hm,rfl⟩)]
 cases op <;> simp only[Op.operands]at he <;> simp only[opV]
 case build t ps=>rw[pairs ps λx hx=>he x (by simpa using hx)]
 case buildSlice t n ps=>rw[pairs ps λx hx=>he x (by simpa using hx)]
 case makeFunc fn first captured=>
  have:captured.toList.map (ev G s)=captured.toList.map (ev G s'):=ya0 λx hx=>he x (by simp only[Array.mem_append];exact .inr (by simpa using hx))
  cases fn <;> simp only[this]
 case call c=>
  have hargs:c.args.toList.map (ev G s)=c.args.toList.map (ev G s'):=ya0 λx hx=>he x (by simp only[Call.operands];simp;exact .inr (by simpa using hx))
  simp only[hargs];cases hc:c.callee with
  |value f=>have hf:ev G s f=ev G s' f:=he f (by simp[Call.operands,hc]);simp only[hf];rfl
  |invoke r m=>rfl
  |builtin b=>rfl
 case slice t x lo hi mx=>cases lo <;> cases hi <;> cases mx <;> simp_all
 case next it b=>
  have e:=he it (by simp)
  cases b
  ·rfl
  ·show zpt h (ev G s it)=zpt h (ev G s' it)
   rw[e]
 all_goals (first | rfl | (simp_all;done))
def znT {hv:List Obj} {s s':Slots} (o:Oper) (he: ∀x∈o.op.operands,ev G s x=ev G s' x):blindV P G run hv s o=blindV P G run hv s' o:=by
 obtain⟨dst,op,type,pos,after,guard⟩:=o;cases op <;> simp only[Op.operands]at he <;> simp only[blindV]
 case call c=>
  have hargs:c.args.toList.map (ev G s)=c.args.toList.map (ev G s'):=ya0 λx hx=>he x (by simp only[Call.operands];simp;exact .inr (by simpa using hx))
  cases hc:c.callee with
  |value f=>
   have hf:ev G s f=ev G s' f:=he f (by simp[Call.operands,hc])
   simp only[hargs,hf]
  |invoke r m=>simp only[hargs]
  |builtin b=>
   simp only[hargs];generalize List.map (ev G s') c.args.toList=l;generalize c.argTypes.toList=t;cases b <;> cases t <;> cases l <;> rfl
 case slice t x lo hi mx=>cases lo <;> cases hi <;> cases mx <;> simp_all
 all_goals (first | rfl | (simp_all;done))
def zsw {hv:List Obj} {s s':Slots} (o:Oper) (he: ∀x∈o.op.operands,ev G s x=ev G s' x):znj G hv s o=znj G hv s' o:=by
 unfold znj;cases ho:o.op with
 |call c=>
  rw[ho]at he;simp only[Op.operands]at he;cases hc:c.callee with
  |value f=>
   have hf:ev G s f=ev G s' f:=he f (by simp[Call.operands,hc])
   have hargs:c.args.toList.map (ev G s)=c.args.toList.map (ev G s'):=ya0 λx hx=>he x (by simp only[Call.operands];simp;exact .inr (by simpa using hx))
   simp only[hc,hf,hargs]
  |invoke _ _=>simp only[hc]
  |builtin _=>simp only[hc]
 |store t a v=>
  rw[ho]at he;simp only[Op.operands]at he;simp only[he a (by simp)]
 |_=>rfl
def zjF {hint:List Nat} {hv:List Obj} {i:Nat} {s s':Slots} (o:Oper) (h:List Obj) (he: ∀x∈o.op.operands,ev G s x=ev G s' x):
 zdE P G run hint hv i s h o=zdE P G run hint hv i s' h o:=by
 unfold zdE;rw[zuz o h he,znT o he,zsw o he]
def Free (P:Program) (G:Nat->Option (List D)) (run:Run) (hint:List Nat) (hv:List Obj) (i:Nat) (o:Oper):Prop:=
 ∀s h x h1,zdE P G run hint hv i s h o=some (x,h1)->h1=h/\ ∀h',zdE P G run hint hv i s h' o=some (x,h')
def Quiet (P:Program) (G:Nat->Option (List D)) (run:Run) (hint:List Nat) (hv:List Obj) (i:Nat) (o:Oper):Prop:=
 ∀s h x h1,zdE P G run hint hv i s h o=some (x,h1)->h1=h
def zci {hint:List Nat} {hv:List Obj} {i:Nat} {o:Oper} (hc:hint.contains i=true):Free P G run hint hv i o:=by
 intro s h x h1 hx;unfold zdE at*;rw[yag hc]at hx;cases hb:blindV P G run hv s o with
 |none=>rw[hb]at hx;cases hx
 |some y=>
  rw[hb]at hx;simp only[zca,yaM,yaa,yad]at hx;obtain⟨rfl,rfl⟩:=hx;exact⟨rfl,λh'=>by rw[yag hc];rfl⟩
def zlu {h h1:List Obj} {y:Option V} {x:V} (hx:zca h y=some (x,h1)):h1=h/\y=some x:=by
 cases y with
 |none=>cases hx
 |some y=>simp only[zca,yaM,yaa,yad]at hx;exact⟨hx.2.symm,by rw[hx.1]⟩
def zuA {src dst:TypeId} {k:IntKind} (hd:P.underlying dst=some (.int k)) {A:V} {h h1:List Obj} {x:V} (hx:zhw P h src dst A=some (x,h1)):
 h1=h/\ ∀h',zhw P h' src dst A=some (x,h'):=by
 have e: ∀h,zhw P h src dst A=(za1 P h src dst A).map λx=>(x,h):=λh=>by
  unfold zhw;split
  ·rename_i hd';rw[hd]at hd';cases hd'
  ·rename_i hd';rw[hd]at hd';cases hd'
  ·rfl
 have r: ∀h h',za1 P h src dst A=za1 P h' src dst A:=λh h'=>by
  unfold za1;rw[hd];split <;> simp_all
 rw[e h]at hx;simp only[yab,yad]at hx;obtain⟨y,hy,rfl,rfl⟩:=hx;exact⟨rfl,λh'=>by rw[e h',r h' h,hy];rfl⟩
def znU {src dst:TypeId} (hd:P.underlying dst=some .string) {A:V} {h h1:List Obj} {x:V} (hx:zhw P h src dst A=some (x,h1)):h1=h:=by
 unfold zhw at hx;split at hx
 ·rename_i hd';rw[hd]at hd';cases hd'
 ·rename_i hd';rw[hd]at hd';cases hd'
 ·simp only[yab,yad]at hx
  obtain⟨y,hy,rfl,rfl⟩:=hx;rfl
def zgO {b:Builtin} (hb:b= .min\/b= .max) {h h1:List Obj} {ts:List TypeId} {args:List V} {x:V} (hx:zbz P h b ts args=some (x,h1)):
 h1=h/\ ∀h',zbz P h' b ts args=some (x,h'):=by
 rcases hb with rfl | rfl <;> cases args with
 |nil=>simp[zbz]at hx
 |cons A Ar=>
  simp only[zbz,yab,yad]at hx ⊢;obtain⟨y,hy,rfl,rfl⟩:=hx;simp[hy]
def znV {h h1:List Obj} {ts:List TypeId} {args:List V} {x:V} (hx:zbz P h .len ts args=some (x,h1)):h1=h:=by
 cases ts with
 |nil=>simp[zbz]at hx
 |cons t ts=>
  cases args with
  |nil=>simp[zbz]at hx
  |cons A Ar=>
   simp only[zbz,yab,yad]at hx;obtain⟨y,hy,rfl,rfl⟩:=hx;rfl
def zlv {hint:List Nat} {hv:List Obj} {i:Nat} {o:Oper} (hc:zdB P o= .still):Free P G run hint hv i o:=by
 by_cases hh:hint.contains i=true
 ·exact zci hh
 intro s h x h1 hx;unfold zdE at*;rw[yac hh]at hx;have hm:(hint.isEmpty || hv.isEmpty || znj G hv s o || za2 hint i o)=true:=by
  by_cases hm:(hint.isEmpty || hv.isEmpty || znj G hv s o || za2 hint i o)=true
  ·exact hm
  ·rw[yac hm]at hx;cases hx
 rw[yag hm]at hx;simp only[yac hh,yag hm];cases ho:o.op with
 |move a | assign a=>
  simp only[opV,ho,yaa,yad]at hx ⊢;obtain⟨rfl,rfl⟩:=hx;simp
 |pick _ _ _ | binOp _ _ _ _ _ | unOp _ _ _ | fieldAddr _ _ _ | extract _ _ | field _ _ _ | index _ _ _ | typeAssert _ _ _ _ | build _ _=>
  simp only[opV,ho]at hx ⊢;obtain⟨rfl,hy⟩:=zlu hx;exact⟨rfl,λh'=>by rw[hy];rfl⟩
 |nilCheck a=>
  simp only[opV,ho]at hx ⊢;cases hv:ev G s a <;> simp only[hv,zdQ,yaa,yad,reduceCtorEq]at hx ⊢ <;> (obtain⟨rfl,rfl⟩:=hx;simp)
 |convert src dst a=>
  simp only[opV,ho]at hx ⊢;simp only[zdB,ho]at hc;split at hc
  ·rename_i k hk;exact zuA hk hx
  ·cases hc
  ·cases hc
 |call c=>
  simp only[zdB,ho]at hc;simp only[opV,ho]at hx ⊢;split at hc
  ·cases hc
  ·rename_i hcc
   simp only[hcc]at hx ⊢;exact zgO (.inl rfl) hx
  ·rename_i hcc
   simp only[hcc]at hx ⊢;exact zgO (.inr rfl) hx
  ·cases hc
 |_=>simp[zdB,ho]at hc
def zjG {hint:List Nat} {hv:List Obj} {i:Nat} {o:Oper} (hc:zdB P o= .reads):Quiet P G run hint hv i o:=by
 by_cases hh:hint.contains i=true
 ·exact λs h x h1 hx=>(zci hh s h x h1 hx).1
 intro s h x h1 hx;unfold zdE at*;rw[yac hh]at hx;have hm:(hint.isEmpty || hv.isEmpty || znj G hv s o || za2 hint i o)=true:=by
  by_cases hm:(hint.isEmpty || hv.isEmpty || znj G hv s o || za2 hint i o)=true
  ·exact hm
  ·rw[yac hm]at hx;cases hx
 rw[yag hm]at hx;cases ho:o.op with
 |load _ _ | indexAddr _ _ _ | slice _ _ _ _ _=>
  simp only[opV,ho]at hx;exact (zlu hx).1
 |convert src dst a=>
  simp only[opV,ho]at hx;simp only[zdB,ho]at hc;split at hc
  ·cases hc
  ·rename_i hk;exact znU hk hx
  ·cases hc
 |call c=>
  simp only[zdB,ho]at hc;simp only[opV,ho]at hx;split at hc
  ·rename_i hcc
   simp only[hcc]at hx;exact znV hx
  all_goals cases hc
 |_=>simp[zdB,ho]at hc
/-! ### two operations,one behind the other -/
def zeR (s:Slots) (dst:Option Tmp) (v:V) (t:Nat):zbF (zf5 s dst v) t=if dst=some t then v else zbF s t:=by
 cases dst with
 |none=>simp[zf5]
 |some d=>
  simp only[zf5,zbF,yaa]
def SEq (s s':Slots):Prop:= ∀t,zbF s t=zbF s' t
def SEq.ev {s s':Slots} (e:SEq s s') (x:Operand):ev G s x=ev G s' x:=by
 cases x <;> first | rfl | exact e _
def SEq.put {s s':Slots} (e:SEq s s') (dst:Option Tmp) (v:V):SEq (zf5 s dst v) (zf5 s' dst v):=λt=>by
 rw[zeR,zeR,e t]
def zB7 {ops:Array Oper} {o:Oper} {dst:Option Tmp} (hd: ∀d,dst=some d->d∉o.looksAt ops) (s:Slots) (v:V): ∀x∈o.op.operands,ev G (zf5 s dst v) x=ev G s x:=by
 intro x hx;cases x with
 |tmp t=>
  show zbF _ t=zbF _ t
  rw[zeR,yac];intro e;exact hd t e (ybZ _ (List.mem_filterMap.2 ⟨.tmp t,by simpa using hx,rfl⟩))
 |_=>rfl
def zmw {all:List Oper} {s s':Slots} (e:SEq s s') (g:Option (Nat × Bool)):zbk all s g=zbk all s' g:=by
 unfold zbk;cases g with
 |none=>rfl
 |some p=>simp only[e _]
def zpM {all:List Oper} {o:Oper} {dst:Option Tmp} (hd: ∀d,dst=some d->d∉o.looksAt all.toArray) (s:Slots) (v:V):
 zbk all (zf5 s dst v) o.guard=zbk all s o.guard:=by
 unfold zbk;cases hg:o.guard with
 |none=>rfl
 |some p=>
  obtain⟨j,want⟩:=p;simp only;cases ht:(all[j]?).bind (·.dst) with
  |none=>rfl
  |some d=>
   simp only;rw[zeR,yac];intro e;exact hd d e (by simp only[Oper.looksAt,hg,yda,ht];simp)
def zpN {all:List Oper} {hint:List Nat} {hv:List Obj} {i:Nat} {s s':Slots} {h:List Obj} (e:SEq s s') {s1:Slots} {h1:List Obj} (hr:zdV P G run all hint hv i s h=some (s1,h1)):
 ∃s1',zdV P G run all hint hv i s' h=some (s1',h1)/\SEq s1 s1':=by
 unfold zdV at*;cases hi:all[i]? with
 |none=>rw[hi]at hr;simp only[yaa,yad]at hr;obtain⟨rfl,rfl⟩:=hr;exact⟨s',rfl,e⟩
 |some o=>
  simp only[hi]at hr ⊢;rw[<- zmw e];cases hw:zbk all s o.guard with
  |none=>rw[hw]at hr;cases hr
  |some b=>
   rw[hw]at hr;cases b with
   |false=>
    simp only[obind,yaD,ybd,yaa,yad]at hr ⊢;obtain⟨rfl,rfl⟩:=hr;exact⟨_,⟨rfl,rfl⟩,e.put _ _⟩
   |true=>
    simp only[obind,ybk]at hr ⊢;rw[zjF o h (λx _=>e.ev x)]at hr
    cases hx:zdE P G run hint hv i s' h o with
    |none=>rw[hx]at hr;cases hr
    |some p=>
     rw[hx]at hr;simp only[yaa,yad]at hr ⊢;obtain⟨rfl,rfl⟩:=hr;exact⟨_,⟨rfl,rfl⟩,e.put _ _⟩
def zlw {all:List Oper} {hint:List Nat} {hv:List Obj}: ∀ (l:List Nat) {s s':Slots} {h:List Obj} (_:SEq s s') {s1:Slots} {h1:List Obj},zmu P G run all hint hv l s h=some (s1,h1)->
 ∃s1',zmu P G run all hint hv l s' h=some (s1',h1)/\SEq s1 s1'
 |[],s,s',h,e,s1,h1,hr=>by simp only[zmu,yaa,yad]at hr;obtain⟨rfl,rfl⟩:=hr;exact⟨s',rfl,e⟩
 |i::l,s,s',h,e,s1,h1,hr=>by
  simp only[zmu]at hr ⊢;cases hx:zdV P G run all hint hv i s h with
  |none=>rw[hx]at hr;cases hr
  |some p=>
   obtain⟨s2,h2⟩:=p;rw[hx]at hr;obtain⟨s2',hx',e'⟩:=zpN e hx;rw[hx'];exact zlw l e' hr
def zuB {ops:Array Oper} {hint:List Nat} {hv:List Obj} {i:Nat} {o:Oper} {dst:Option Tmp} (hd: ∀d,dst=some d->d∉o.looksAt ops) (s:Slots) (v:V) (h:List Obj):
 zdE P G run hint hv i (zf5 s dst v) h o=zdE P G run hint hv i s h o:=zjF o h (zB7 hd s v)
def SEq.swap (s:Slots) {x y:Option Tmp} (v u:V) (hd: ∀d,x=some d->y≠some d):SEq (zf5 (zf5 s x v) y u) (zf5 (zf5 s y u) x v):=λt=>by
 simp only[zeR]
 by_cases h1:y=some t <;> by_cases h2:x=some t <;> simp only[h1,h2,ybk,ybd]
 exact absurd h1 (hd t h2)
noncomputable def zgP (P:Program) (G:Nat->Option (List D)) (run:Run) (all:List Oper) (hint:List Nat) (hv:List Obj) (i:Nat) (s:Slots) (h:List Obj) (o:Oper):Option (V × List Obj):=
 obind (zbk all s o.guard) λw=>if w then zdE P G run hint hv i s h o else some (.tup [],h)
def zfl {all:List Oper} {hint:List Nat} {hv:List Obj} {i:Nat} {o:Oper} (hi:all[i]? =some o) (s:Slots) (h:List Obj):
 zdV P G run all hint hv i s h=obind (zgP P G run all hint hv i s h o) λp=>some (zf5 s o.dst p.1,p.2):=by
 unfold zdV zgP;simp only[hi];cases zbk all s o.guard with
 |none=>rfl
 |some b=>cases b <;> rfl
def znW {all:List Oper} {hint:List Nat} {hv:List Obj} {i:Nat} {o:Oper} {dst:Option Tmp} (hd: ∀d,dst=some d->d∉o.looksAt all.toArray) (s:Slots) (v:V) (h:List Obj):
 zgP P G run all hint hv i (zf5 s dst v) h o=zgP P G run all hint hv i s h o:=by
 unfold zgP;rw[zpM hd,zuB hd]
def Free.core {all:List Oper} {hint:List Nat} {hv:List Obj} {i:Nat} {o:Oper} (hf:Free P G run hint hv i o) {s:Slots} {h h1:List Obj} {x:V} (hx:zgP P G run all hint hv i s h o=some (x,h1)):
 h1=h/\ ∀h',zgP P G run all hint hv i s h' o=some (x,h'):=by
 unfold zgP at*;cases hw:zbk all s o.guard with
 |none=>rw[hw]at hx;cases hx
 |some b=>
  rw[hw]at hx;cases b with
  |false=>
   simp only[obind,yaD,ybd,yaa,yad]at hx ⊢;exact⟨hx.2.symm,λ_=>⟨hx.1,trivial⟩⟩
  |true=>exact hf s h x h1 hx
def Quiet.core {all:List Oper} {hint:List Nat} {hv:List Obj} {i:Nat} {o:Oper} (hf:Quiet P G run hint hv i o) {s:Slots} {h h1:List Obj} {x:V} (hx:zgP P G run all hint hv i s h o=some (x,h1)):h1=h:=by
 unfold zgP at*;cases hw:zbk all s o.guard with
 |none=>rw[hw]at hx;cases hx
 |some b=>
  rw[hw]at hx;cases b with
  |false=>
   simp only[obind,yaD,ybd,yaa,yad]at hx;exact hx.2.symm
  |true=>exact hf s h x h1 hx
structure Indep (P:Program) (G:Nat->Option (List D)) (run:Run) (all:List Oper) (hint:List Nat) (hv:List Obj) (i j:Nat):Prop where
 two: ∃x y,all[i]? =some x/\all[j]? =some y/\x.apart all.toArray y=true/\
  (Free P G run hint hv i x\/Free P G run hint hv j y\/(Quiet P G run hint hv i x/\Quiet P G run hint hv j y))
def zsx {all:List Oper} {hint:List Nat} {hv:List Obj} {i j:Nat} (hf:zfj P hint all i j=true):Indep P G run all hint hv i j:=by
 unfold zfj at hf;split at hf
 ·rename_i x y hx hy
  simp only[yaw]at hf;refine⟨x,y,hx,hy,hf.1.1, ?_⟩;have h2:=hf.1.2;split at h2
  ·rename_i h;exact .inl (zlv h)
  ·rename_i h _;exact .inr (.inl (zlv h))
  ·rename_i c1 c2;exact .inr (.inr ⟨zjG c1,zjG c2⟩)
  ·exact .inl (zci h2)
  ·exact .inr (.inl (zci h2))
  ·rw[ybr]at h2
   rcases h2 with h2 | h2
   ·exact .inl (zci h2)
   ·exact .inr (.inl (zci h2))
 ·cases hf
def swap {all:List Oper} {hint:List Nat} {hv:List Obj} {i j:Nat} (hf:Indep P G run all hint hv i j) {s s1 s2:Slots} {h h1 h2:List Obj}
 (hi:zdV P G run all hint hv i s h=some (s1,h1)) (hj:zdV P G run all hint hv j s1 h1=some (s2,h2)):
 ∃s1' h1' s2',zdV P G run all hint hv j s h=some (s1',h1')/\zdV P G run all hint hv i s1' h1'=some (s2',h2)/\SEq s2 s2':=by
 obtain⟨x,y,hx,hy,ha,hc⟩:=hf.two;obtain⟨a1,a2,a3⟩:=Oper.apart_spec ha;rw[zfl hx]at hi;rw[zfl hy]at hj;cases cx:zgP P G run all hint hv i s h x with
 |none=>rw[cx]at hi;cases hi
 |some p=>
  obtain⟨u,g1⟩:=p;rw[cx]at hi;simp only[obind,yaa,yad]at hi;obtain⟨rfl,rfl⟩:=hi;rw[znW a1]at hj;cases cy:zgP P G run all hint hv j s g1 y with
  |none=>rw[cy]at hj;cases hj
  |some q=>
   obtain⟨v,g2⟩:=q;rw[cy]at hj;simp only[obind,yaa,yad]at hj;obtain⟨rfl,rfl⟩:=hj;have key: ∃g,zgP P G run all hint hv j s h y=some (v,g)/\zgP P G run all hint hv i s g x=some (u,g2):=by
    rcases hc with hc | hc | ⟨hc,hd⟩
    ·obtain⟨rfl,hall⟩:=hc.core cx
     exact⟨g2,cy,hall g2⟩
    ·obtain⟨rfl,hall⟩:=hc.core cy
     exact⟨h,hall h,cx⟩
    ·have:=hc.core cx
     subst this;have:=hd.core cy;subst this;exact⟨g2,cy,cx⟩
   obtain⟨g,k1,k2⟩:=key;refine⟨zf5 s y.dst v,g,zf5 (zf5 s y.dst v) x.dst u, ?_, ?_,SEq.swap s u v a2⟩
   ·rw[zfl hy,k1];rfl
   ·rw[zfl hx,znW a3,k2];rfl
def zlx {all:List Oper} {hint:List Nat} {hv:List Obj} {j:Nat}: ∀ (l1 l2:List Nat),(∀i∈l1,Indep P G run all hint hv i j)-> ∀ {s s2:Slots} {h h2:List Obj},
 zmu P G run all hint hv (l1++j::l2) s h=some (s2,h2)-> ∃s2',zmu P G run all hint hv (j::(l1++l2)) s h=some (s2',h2)/\SEq s2 s2'
 |[],l2,_,s,s2,h,h2,hr=>⟨s2,hr,λ_=>rfl⟩
 |i::l1,l2,hf,s,s2,h,h2,hr=>by
  simp only[ya9,zmu]at hr;cases hi:zdV P G run all hint hv i s h with
  |none=>rw[hi]at hr;cases hr
  |some p=>
   obtain⟨sa,ha⟩:=p;rw[hi]at hr;obtain⟨sb,hb,e1⟩:=zlx l1 l2 (λk hk=>hf k (yaZ _ hk)) hr
   simp only[zmu]at hb;cases hj:zdV P G run all hint hv j sa ha with
   |none=>rw[hj]at hb;cases hb
   |some q=>
    obtain⟨sc,hc⟩:=q;rw[hj]at hb;obtain⟨t1,g1,t2,k1,k2,e2⟩:=swap (hf i (ybb ..)) hi hj;obtain⟨sd,hd,e3⟩:=zlw _ e2 hb;refine⟨sd, ?_,λt=>(e1 t).trans (e3 t)⟩
    simp only[ya9,zmu,k1,obind,k2];exact hd
/-! ### who must wait for whom -/
def zdG: ∀ (ops:List Oper) (acc:List (List Nat)), ∃l,zb2 ops acc=acc++l/\l.length=ops.length/\
 ∀ (j:Nat) (o:Oper),ops[j]? =some o->l.getD j []=o.after.toList.foldl (λs e=>if Region.binds .any e then zaj (zaj s [e.on]) ((acc++l.take j).getD e.on []) else s) []
 |[],acc=>⟨[],by simp[zb2],rfl,λj o hj=>by simp at hj⟩
 |o::r,acc=>by
  obtain⟨l,h1,h2,h3⟩:=zdG r (acc++[o.after.toList.foldl (λs e=>if Region.binds .any e then zaj (zaj s [e.on]) (acc.getD e.on []) else s) []])
  refine⟨_::l,by rw[zb2,h1,yan];rfl,by simp[h2],λj o' hj=> ?_⟩
  cases j with
  |zero=>simp only[yaF,yaa]at hj;subst hj;simp
  |succ j=>
   simp only[ybs]at hj;have:=h3 j o' hj;simp only[ydp,ydq];rw[this,yan];rfl
def zcj {i:Nat}: ∀ {l acc:List Nat},i∈zaj acc l↔i∈acc\/i∈l
 |[],acc=>by simp[zaj]
 |x::l,acc=>by
  simp only[zaj];split
  ·rename_i hc
   rw[zcj];simp only[ybI];have:x∈acc:=by simpa using hc
   constructor
   ·rintro (h | h);exact .inl h;exact .inr (.inr h)
   ·rintro (h | rfl | h);exact .inl h;exact .inl this;exact .inr h
  ·rw[zcj]
   simp only[ycU,ybI,ydf,or_false,or_assoc]
def zxn {after:List Edge} {f:Nat->List Nat} {i:Nat}: ∀ (s:List Nat),i∈after.foldl (λs e=>if Region.binds .any e then zaj (zaj s [e.on]) (f e.on) else s) s->
 i∈s\/ ∃e∈after,Region.binds .any e=true/\(i=e.on\/i∈f e.on):=by
 induction after with
 |nil=>intro s hi;exact .inl hi
 |cons e after ih=>
  intro s hi;simp only[ybc]at hi;rcases ih _ hi with h | ⟨e',he',h⟩
  ·by_cases hb:Region.binds .any e=true
   ·rw[yag hb]at h
    rcases zcj.1 h with h | h
    ·rcases zcj.1 h with h | h
     ·exact .inl h
     ·exact .inr ⟨e,ybb ..,hb,.inl (by simpa using h)⟩
    ·exact .inr ⟨e,ybb ..,hb,.inr h⟩
   ·rw[yac hb]at h;exact .inl h
  ·exact .inr ⟨e',yaZ _ he',h⟩
def zxo {after:List Edge} {f:Nat->List Nat} {e:Edge} (he:e∈after) (hb:Region.binds .any e=true): ∀ (s:List Nat),e.on∈after.foldl (λs e=>if Region.binds .any e then zaj (zaj s [e.on]) (f e.on) else s) s:=by
 have keep: ∀ (after:List Edge) (s:List Nat),e.on∈s->e.on∈after.foldl (λs e=>if Region.binds .any e then zaj (zaj s [e.on]) (f e.on) else s) s:=by
  intro after
  induction after with
  |nil=>intro s h;exact h
  |cons e' after ih=>
   intro s h;simp only[ybc];apply ih;split
   ·exact zcj.2 (.inl (zcj.2 (.inl h)))
   ·exact h
 induction after with
 |nil=>cases he
 |cons e' after ih=>
  intro s;simp only[ybc];rcases List.mem_cons.1 he with rfl | h
  ·apply keep
   rw[yag hb];exact zcj.2 (.inl (zcj.2 (.inr (List.mem_singleton.2 rfl))))
  ·exact ih h _
def zxp {ops:List Oper} {i j:Nat} {o:Oper} (hj:ops[j]? =some o) (hi:i∈(zb2 ops []).getD j []):
 ∃e∈o.after,Region.binds .any e=true/\(i=e.on\/(e.on<j/\i∈(zb2 ops []).getD e.on [])):=by
 obtain⟨l,h1,h2,h3⟩:=zdG ops [];rw[ybT]at h1;rw[h1]at hi ⊢;rw[h3 j o hj]at hi;rcases zxn (f:=λn=>([]++List.take j l).getD n []) _ hi with h | ⟨e,he,hb,h⟩
 ·cases h
 ·refine⟨e,by simpa using he,hb,h.imp id λh=> ?_⟩
  rw[ybT]at h
  by_cases hlt:e.on<j
  ·refine⟨hlt, ?_⟩
   simp only[yas,yaU,hlt,ybk]at h ⊢;exact h
  ·simp[yas,yaU,hlt]at h
def zxq {ops:List Oper} {j:Nat} {o:Oper} (hj:ops[j]? =some o) {e:Edge} (he:e∈o.after) (hb:Region.binds .any e=true):e.on∈(zb2 ops []).getD j []:=by
 obtain⟨l,h1,h2,h3⟩:=zdG ops [];rw[ybT]at h1;rw[h1,h3 j o hj];exact zxo (f:=λn=>([]++List.take j l).getD n []) (Array.mem_toList_iff.2 he) hb _
def zpO {hint:List Nat} {ops:List Oper} (hd:zfP P hint ops=true) {j:Nat} {o:Oper} (hj:ops[j]? =some o) {e:Edge} (he:e∈o.after) (hb:Region.binds .any e=true):e.on<j:=by
 unfold zfP at hd;simp only[ybD,ydY,yaw,yaB]at hd;exact (hd.2 j (List.getElem?_eq_some_iff.1 hj).1).1 _ (zxq hj he hb)
def zpP {hint:List Nat} {ops:List Oper} (hd:zfP P hint ops=true) {i j:Nat} (hj:j<ops.length) (hij:i<j):
 i∈(zb2 ops []).getD j []\/zfj P hint ops i j=true:=by
 unfold zfP at hd;simp only[ybD,ydY,yaw,ybr,yaB]at hd;exact ((hd.2 j hj).2 i hij).imp (by simp) id
def zpQ {hint:List Nat} {ops:List Oper} (hd:zfP P hint ops=true):ops.length<=1000:=by
 unfold zfP at hd;simp only[yaw,yaB]at hd;exact hd.1
def zsy {ops:List Oper} {listed:Array Bool} (hcl: ∀ (k:Nat) (o:Oper),ops[k]? =some o->listed.getD k true=true-> ∀e∈o.after,Region.binds .any e=true->listed.getD e.on false=true)
 (hsz:listed.size=ops.length): ∀ (j:Nat) (o:Oper),ops[j]? =some o->(∀e∈o.after,Region.binds .any e=true->listed.getD e.on false=true)-> ∀i∈(zb2 ops []).getD j [],listed.getD i false=true:=by
 intro j
 induction j using Nat.strongRecOn with
 |_ j ih=>
  intro o hj hall i hi;obtain⟨e,he,hb,h⟩:=zxp hj hi;rcases h with rfl | ⟨hlt,h⟩
  ·exact hall e he hb
  ·have hjl:j<ops.length:=(List.getElem?_eq_some_iff.1 hj).1
   have hel:e.on<ops.length:=by omega
   have ho:ops[e.on]? =some ops[e.on]:=yak hel;refine ih e.on hlt _ ho (hcl e.on _ ho ?_) i h;have:=hall e he hb;simp only[yav]at this ⊢;rw[ybe (by omega)]at this ⊢
   simpa using this
end
section
variable {X:Nat->Nat->Prop} {P:Program} {G:Nat->Option (List D)}
def Stp.draw {ρ:Places} {h:List Obj} {w:World} (H:HRel X ρ h w) (n:Nat):Stp X ρ h w ρ h { w with drawn:=n }:=by
 have f:Fr X ρ h w ρ h { w with drawn:=n }:=⟨rfl,rfl,rfl,yaj _,λ_ _ hb=>⟨rfl,hb⟩,λ_ _ _ hm hc=>⟨hc,hm⟩⟩
 refine⟨⟨H.len,λid o ho=> ?_,H.xlt,H.xown,H.inj⟩,f,Evo.refl _ _ _⟩
 obtain⟨r,hr,hrel⟩:=H.obj id o ho;exact⟨r,hr,hrel.kept f (Evo.refl _ _ _) λ_ _ _=>rfl⟩
def SRel.seq {ρ:Places} {h:List Obj} {w:World} {tmps:Array Value} {s s':Slots} (hs:SRel X ρ h w tmps s) (e:SEq s s'):SRel X ρ h w tmps s':=λt=>e t ▸ hs t
def zsz {rd:Option Nat} {n:Nat} {run:Run} {nt:Nat} {all:List Oper} {hint:List Nat} {hv:List Obj} {Q:Exit->Act->World->Prop} (hrun:zdU P G run) (hhas:zc5 P run) (hdst: ∀o∈all, ∀d,o.dst=some d->d<nt)
 (hd:zfP P hint all=true) (hvl:zbH all hint=false->hv=[]) {h':List Obj}:
 ∀ (s':Slots) (rem:List Nat) (listed:Array Bool) (ρ:Places) (s:Slots) (h:List Obj) (a:Act) (w:World),rem.Pairwise (·< ·)->(∀j,j∈rem↔j<all.length/\listed.getD j true=false)->listed.size=all.length->
  (∀ (k:Nat) (o:Oper),all[k]? =some o->listed.getD k true=true-> ∀e∈o.after,Region.binds .any e=true->listed.getD e.on false=true)->
  zmu P G run all hint hv rem s h=some (s',h')->St X G nt ρ h w a s->((∃k,k∈rem/\hint.contains k=true)->Seen hv h)->
  (∀ρ' a' w',Stp X ρ h w ρ' h' w'->St X G nt ρ' h' w' a' s'->a'.defers=a.defers->Q .normal a' w')-> ∀fuel,rem.length=fuel->wpAnyIn (Fw rd) n P .any all.toArray Q fuel listed a w:=by
 intro s' rem listed ρ s h a w hp hm hsz hcl hr S hseen hq fuel
 induction fuel generalizing s' rem listed ρ s h a w with
 |zero=>
  intro hl;have:rem=[]:=List.length_eq_zero_iff.1 hl;subst this;simp only[zmu,yaa,yad]at hr;obtain⟨rfl,rfl⟩:=hr;refine⟨?_,hq ρ a w (Stp.refl S.rel) S rfl⟩;apply List.eq_nil_iff_forall_not_mem.2;intro j hj;obtain⟨h0,o,ho,-⟩:=mem_ready.1 hj;have hjl:j<all.length:=by have:=(Array.getElem?_eq_some_iff.1 ho).1;simpa using this
  have:=(hm j).2 ⟨hjl,h0⟩;cases this
 |succ fuel ih=>
  intro hl;constructor
  ·intro hnone
   exfalso;cases rem with
   |nil=>cases hl
   |cons j r=>
    obtain⟨hjl,hjn⟩:=(hm j).1 (ybb ..);have ho:all[j]? =some all[j]:=yak hjl;have:j∈Region.ready .any all.toArray listed:=by
     refine mem_ready.2 ⟨hjn,all[j],by simp[ho],λe he hb=> ?_⟩
     have hlt:=zpO hd ho he hb
     by_cases hx:listed.getD e.on true=false
     ·have hmem:=(hm e.on).2 ⟨by omega,hx⟩
      rcases List.mem_cons.1 hmem with h1 | h1
      ·omega
      ·have:=(List.pairwise_cons.1 hp).1 _ h1
       omega
     ·simp only[yav]at hx ⊢
      rw[ybe (by omega)]at hx ⊢
      simpa using hx
    rw[hnone]at this;cases this
  ·intro j hj
   obtain⟨h0,o,ho,hall⟩:=mem_ready.1 hj;have ho':all[j]? =some o:=by simpa using ho
   have hjl:j<all.length:=(List.getElem?_eq_some_iff.1 ho').1;have hjm:j∈rem:=(hm j).2 ⟨hjl,h0⟩;obtain⟨l1,l2,rfl⟩:=List.append_of_mem hjm;have hp':=List.pairwise_append.1 hp;have hp2:=List.pairwise_cons.1 hp'.2.1;have hfit: ∀i∈l1,zfj P hint all i j=true:=λi hi=>by
    have hij:i<j:=hp'.2.2 i hi j (ybb ..);rcases zpP hd hjl hij with h1 | h1
    ·exfalso
     have h2:=zsy hcl hsz j o ho' hall i h1;have h3:=((hm i).1 (ybZ _ hi)).2;simp only[yav]at h2 h3;rw[ybe (by omega)]at h2 h3
     simp only[ydO]at h2 h3;rw[h2]at h3;cases h3
    ·exact h1
   have hind: ∀i∈l1,Indep P G run all hint hv i j:=λi hi=>zsx (hfit i hi)
   obtain⟨s2,hr2,he⟩:=zlx l1 l2 hind hr;simp only[zmu]at hr2;cases hs:zdV P G run all hint hv j s h with
   |none=>rw[hs]at hr2;cases hr2
   |some p=>
    obtain⟨s1,h1⟩:=p;rw[hs]at hr2;refine zjE hrun hhas hdst hs S (λc=>hseen ⟨j,hjm,c⟩) fun ρ1 a1 w1 st S1 hd1=> ?_
    have hne: ∀i∈l1++l2,i≠j:=λi hi e=>by
     subst e;rcases List.mem_append.1 hi with h | h
     ·exact ybx _ (hp'.2.2 i h i (ybb ..))
     ·exact ybx _ (hp2.1 i h)
    have hset: ∀i d,(listed.setIfInBounds j true).getD i d=if i=j then true else listed.getD i d:=λi d=>by
     by_cases e:i=j
     ·subst e
      simp[yav,hsz,hjl]
     ·rw[getD_set_ne d (Ne.symm e),yac e]
    refine ih s2 (l1++l2) (listed.setIfInBounds j true) ρ1 s1 h1 a1 w1 ?_ ?_ (by simpa using hsz) ?_ hr2 S1 ?_ ?_ ?_
    ·exact List.pairwise_append.2 ⟨hp'.1,hp2.2,λx hx y hy=>hp'.2.2 x hx y (yaZ _ hy)⟩
    ·intro i
     rw[hset];constructor
     ·intro hi
      rw[yac (hne i hi)];exact (hm i).1 (by
       rcases List.mem_append.1 hi with hi | hi
       ·exact ybZ _ hi
       ·exact ycv _ (yaZ _ hi))
     ·rintro ⟨hil,hi⟩
      split at hi
      ·cases hi
      ·rename_i hij
       have:=(hm i).2 ⟨hil,hi⟩;rcases List.mem_append.1 this with h | h
       ·exact ybZ _ h
       ·rcases List.mem_cons.1 h with h | h
        ·exact absurd h hij
        ·exact ycv _ h
    ·intro k o' hk hkl e hee hb
     apply getD_set_true;rw[hset]at hkl;split at hkl
     ·rename_i hkj
      subst hkj;rw[ho']at hk;cases hk;exact hall e hee hb
     ·exact hcl k o' hk hkl e hee hb
    ·rintro ⟨k,hk,hkh⟩
     have hkm:k∈l1++j::l2:=by
      rcases List.mem_append.1 hk with h | h
      ·exact ybZ _ h
      ·exact ycv _ (yaZ _ h)
     have hne':hint≠[]:=λe=>by rw[e]at hkh;simp at hkh
     refine zsv hs hne' (hseen ⟨k,hkm,hkh⟩) ?_
     by_cases hv0:hv=[]
     ·exact .inl hv0
     ·right
      intro o' ho2;cases hlt:za2 hint j o' with
      |false=>rfl
      |true=>
       exfalso;unfold za2 at hlt;simp only[yaw,ybr,ybD,yaB]at hlt;have hkj:k<j:=by
        have:=zpQ hd;have:=((hm k).1 hkm).1;rcases hlt.2 k (by simpa using hkh) with h | h <;> omega
       have hk1:k∈l1:=by
        rcases List.mem_append.1 hk with h | h
        ·exact h
        ·have:=hp2.1 k h;omega
       have hf:=hfit k hk1;have hhl:zbH all hint=true:=by
        cases e:zbH all hint with
        |true=>rfl
        |false=>exact absurd (hvl e) hv0
       unfold zfj at hf;rw[ho2]at hf;cases hx:all[k]? with
       |none=>rw[hx]at hf;simp at hf
       |some xk=>
        rw[hx]at hf;simp only[hhl,hlt.1,hkh,ydI,Bool.or_true,Bool.not_true,ycn,Bool.or_self,yaD]at hf
    ·intro ρ2 a2 w2 st2 S2 hd2
     exact hq ρ2 a2 w2 (st.trans S.rel st2) ⟨S2.rel,S2.glob,S2.slots.seq λt=>(he t).symm,S2.size⟩ (hd2.trans hd1)
    ·simp only[yae,yaf]at hl ⊢;omega
def znX {rd:Option Nat} {n:Nat} {run:Run} {nt:Nat} {ops:Array Oper} {hint:List Nat} {hv:List Obj} {id:Nat} {draw:Bool} {Q:Exit->Act->World->Prop} (hm:P.follows .mixedOrders=true) (hrun:zdU P G run) (hhas:zc5 P run)
 (hdst: ∀o∈ops.toList, ∀d,o.dst=some d->d<nt) (hd:draw=true->zfP P hint ops.toList=true) {ρ:Places} {s s':Slots} {h h':List Obj} {a:Act} {w:World}
 (hr:opsV P G run ops.toList (if draw then hint else []) hv 0 ops.toList s h=some (s',h')) (S:St X G nt ρ h w a s) (hseen:Seen hv h) (hvl:zbH ops.toList (if draw then hint else [])=false->hv=[])
 (hq: ∀ρ' a' w',Stp X ρ h w ρ' h' w'->St X G nt ρ' h' w' a' s'->a'.defers=a.defers->Q .normal a' w'):(Code.region id ops draw).wpIn (Fw rd) n P Q a w:=by
 rw[znO P G run _ _ _ _ 0 s h (λj=>by rw[yaX])]at hr
 have hops:ops.toList.toArray=ops:=Array.toArray_toList;cases draw with
 |false=>
  have:=zlt (r:=rd) (n:=n) hrun hhas hdst _ ρ s h a w s' h' hr S hq;rw[hops,<- List.range_eq_range',ybi]at this;exact wpIn_region this
 |true=>
  refine wpIn_region_any hm ?_;have hs:=Stp.draw S.rel (w.drawn+1);have hrep: ∀j,j<ops.size->(Array.replicate ops.size false).getD j true=false:=λj hj=>by simp[yav,hj]
  have:=zsz (rd:=rd) (n:=n) hrun hhas hdst (hd rfl) hvl s' _ (Array.replicate ops.size false) ρ s h a { w with drawn:=w.drawn+1 } (List.pairwise_lt_range' ..) (λj=>⟨λh=>⟨by simpa using h,hrep j (by simpa using h)⟩,λh=>by simpa using h.1⟩) (by simp) (λk o hk hl=>by rw[hrep k (by simpa using (List.getElem?_eq_some_iff.1 hk).1)]at hl;cases hl) hr
   ⟨hs.rel,S.glob.mono hs.fr,S.slots.mono hs,S.size⟩ (λ_=>hseen) (fun ρ' a' w' st=>hq ρ' a' w' (hs.trans S.rel st)) ops.size (by simp)
  rw[hops]at this;exact this
end
end Go.Am
namespace Go.Am
structure Stk (k:Nat) (X:Nat->Nat->Prop) (ρ:Places) (h:List Obj) (w:World) (ρ':Places) (h':List Obj) (w':World):Prop where
 rel:HRel X ρ' h' w'
 fr:Fr X ρ h w ρ' h' w'
 evo:Evo k ρ h ρ' h'
 le:k<=h'.length
section
variable {X:Nat->Nat->Prop} {ρ ρ' ρ'':Places} {h h' h'' h2:List Obj} {w w' w'':World} {k:Nat} {P:Program} {G:Nat->Option (List D)}
def Stk.refl (H:HRel X ρ h w) (hk:k<=h.length):Stk k X ρ h w ρ h w:=⟨H,Fr.refl _ _ _,Evo.refl _ _ _,hk⟩
def Stk.trans (a:Stk k X ρ h w ρ' h' w') (b:Stk k X ρ' h' w' ρ'' h'' w''):Stk k X ρ h w ρ'' h'' w'':=⟨b.rel,a.fr.trans b.fr,a.evo.trans b.evo,b.le⟩
def Stp.stk (a:Stp X ρ h w ρ' h' w') (H:HRel X ρ h w) (hk:k<=h.length):Stk k X ρ h w ρ' h' w':=⟨a.rel,a.fr,a.evo.mono hk,ya4 hk (a.evo.le H)⟩
def zxr {f:Nat->Option Nat} {o o1:Obj} (h1:Obj.ren f o=some o1) (r:zdi):zbl o o1 r r:=by
 cases o with
 |box cs=>
  simp only[Obj.ren,yab]at h1;obtain⟨cs1,hc1,rfl⟩:=h1;exact⟨(zaY hc1).1,rfl⟩
 |arr _ _ _=>simp only[Obj.ren,yaa]at h1;subst h1;exact zbl.refl _ _
 |siter _ _=>simp only[Obj.ren,yaa]at h1;subst h1;exact zbl.refl _ _
def zjH (H:HRel X ρ h w) {ids r:List Nat} (hn:ids.Nodup) (ht:zaG h (zas ids) ids=some h2) (hr:ids=List.range k++r):
 RenOk X X (zas ids) ρ h (zax ρ ids) h2/\Stk k X ρ h w (zax ρ ids) h2 w:=by
 obtain⟨R,H2⟩:=zms (Y:=X) H hn ht λb j hX=> .inl hX
 obtain⟨t1,t2⟩:=zeh ht;have hsub: ∀ (id:Nat) (r:zdi),(zax ρ ids)[id]? =some r-> ∃i,ρ[i]? =some r:=λid r hid=>by
  have hlt:id<h2.length:=by rw[t1];simpa[zax]using lt_of_getElem? hid
  obtain⟨i,o,hi,ho,_⟩:=t2 id h2[id] (by simp[hlt])
  rw[zei H hi ho]at hid;exact⟨i,hid⟩
 refine⟨R,H2,⟨rfl,rfl,rfl,yaj _,λb _ hno=>⟨rfl,λid c hid=> ?_⟩,λb j v hm hc=>⟨hc,λhm'=>hm (R.mu b j hm')⟩⟩,λid o r0 hid ho hr0=> ?_,by rw[t1,hr];simp⟩
 ·obtain⟨i,hi⟩:=hsub id _ hid
  exact hno i c hi
 ·have hget:ids[id]? =some id:=by rw[hr,yar (by simpa using hid),ybj hid]
  have hlt:id<h2.length:=by rw[t1];exact lt_of_getElem? hget
  obtain⟨i,o',hi,ho',hren⟩:=t2 id h2[id] (by simp[hlt])
  rw[hget]at hi;cases hi;rw[ho]at ho';cases ho';exact⟨h2[id],r0,by simp[hlt],by rw[zei H hget ho,hr0],zxr hren r0⟩
def zbm {tmps:Array Value} {s:Slots}: ∀ (keep:List (Nat × Nat)) (ρ:Places) (h:List Obj),HRel X ρ h w->SRel X ρ h w tmps s->
 ∃ρ',Stp X ρ h w ρ' (zad s h keep).2 w/\SRel X ρ' (zad s h keep).2 w tmps (zad s h keep).1
 |[],ρ,h,H,hs=>⟨ρ,Stp.refl H,λt=>trivial⟩
 |(t,sz)::r,ρ,h,H,hs=>by
  unfold zad;split
  ·split
   ·rename_i sz' hv
    obtain⟨n1,n2⟩:=zpA H (sz'+1);obtain⟨ρ',s1,r1⟩:=zbm r _ _ n1.rel (hs.mono n1);refine⟨ρ',n1.trans H s1,λt'=> ?_⟩
    simp only[zbF];split
    ·rename_i e
     subst e;have:=hs t;rw[hv]at this;have hv':tmps.getD t undef= .slice none 0 0:=this;rw[hv'];exact s1.vrel n2
    ·exact r1 t'
   ·obtain⟨ρ',s1,r1⟩:=zbm r _ _ H hs
    refine⟨ρ',s1,λt'=> ?_⟩
    simp only[zbF];split
    ·rename_i e
     subst e;exact s1.vrel (hs t)
    ·exact r1 t'
  ·split
   ·rename_i x h0 hp
    generalize t - 1000000=t0 at hp ⊢;obtain⟨p1,p2⟩:=zbJ hp H (hs t0);obtain⟨ρ',s1,r1⟩:=zbm r _ _ p1.rel (hs.mono p1);refine⟨ρ',p1.trans H s1,λt'=> ?_⟩
    simp only[zbF];split
    ·rename_i e
     subst e;exact s1.vrel (show zat X ρ h0 w (tmps.getD t0 undef) (.d x) from p2)
    ·exact r1 t'
   ·exact zbm r _ _ H hs
def zgQ {f:Nat->Option Nat}: ∀ {s s2:Slots} (_:zaH f s=some s2) (t:Nat),V.ren f (zbF s t)=some (zbF s2 t)
 |[],s2,hr,t=>by simp[zaH]at hr;subst hr;rfl
 |(i,v)::s,s2,hr,t=>by
  simp only[zaH,ya2,ybB,yaT,yab,ybS,yaa]at hr;obtain⟨p,⟨y,hy,rfl⟩,ys,hys,rfl⟩:=hr;simp only[zbF];split
  ·exact hy
  ·exact zgQ hys t
def SRel.ren {X':Nat->Nat->Prop} {f:Nat->Option Nat} {ρ2:Places} {tmps:Array Value} {s s2:Slots} (R:RenOk X X' f ρ h ρ2 h2) (hs:SRel X ρ h w tmps s) (hr:zaH f s=some s2):SRel X' ρ2 h2 w tmps s2:=
 λt=>(hs t).ren R (zgQ hr t)
def zly {keep:List (Nat × Nat)} {s s2:Slots} {tmps:Array Value} (hx:zfO k keep s h=some (s2,h2)) (H:HRel X ρ h w) (hs:SRel X ρ h w tmps s) (hk:k<=h.length):
 ∃ρ2,Stk k X ρ h w ρ2 h2 w/\SRel X ρ2 h2 w tmps s2:=by
 unfold zfO at hx;obtain⟨ρ1,s1,r1⟩:=zbm keep ρ h H hs;generalize zad s h keep=p at*;simp only at hx;obtain⟨r,hr⟩:=zf8 p.2 k (p.1.flatMap λq=>q.2.ids)
 have hn:(zbi p.2 (zaj (List.range k) (p.1.flatMap λq=>q.2.ids))).Nodup:=zef _ (zch _ _ ydg)
 generalize zbi p.2 (zaj (List.range k) (p.1.flatMap λq=>q.2.ids))=ids at*
 split at hx
 ·rename_i s3 h3 e1 e2
  simp only[yaa,yad]at hx;obtain⟨rfl,rfl⟩:=hx;obtain⟨R,st⟩:=zjH s1.rel hn e2 hr;exact⟨_,(s1.stk H hk).trans st,r1.ren R e1⟩
 ·cases hx
def zdm: ∀ (s:Slots) (h:List Obj),HRel X ρ h w->Stp X ρ h w ρ (zbG h s) w
 |[],h,H=>Stp.refl H
 |(i,v)::s,h,H=>by
  simp only[zbG];split
  ·rename_i x h1 hp
   have:Stp X ρ h w ρ h1 w:=by
    cases v with
    |arr id n=>
     simp only[za6]at hp;split at hp
     ·rename_i sz xs wm ho
      split at hp
      ·simp only[yaa,yad]at hp
       obtain⟨_,rfl⟩:=hp;obtain⟨f1,f2,f3⟩:=zed H ho;exact⟨f1,f2,f3⟩
      ·cases hp
     ·cases hp
    |sl id tot off len=>
     simp only[za6]at hp;split at hp
     ·rename_i sz xs wm ho
      split at hp
      ·simp only[yaa,yad]at hp
       obtain⟨_,rfl⟩:=hp;obtain⟨f1,f2,f3⟩:=zed H ho;exact⟨f1,f2,f3⟩
      ·cases hp
     ·cases hp
    |emp=>simp only[za6,yaa,yad]at hp;obtain⟨_,rfl⟩:=hp;exact Stp.refl H
    |d x=>simp only[za6,yaa,yad]at hp;obtain⟨_,rfl⟩:=hp;exact Stp.refl H
    |nilS=>simp only[za6,yaa,yad]at hp;obtain⟨_,rfl⟩:=hp;exact Stp.refl H
    |_=>simp[za6]at hp
   exact this.trans H (zdm s h1 this.rel)
  ·exact zdm s h H
def Out.exit':Out->Exit
 |.normal=> .normal
 |.exit i=> .exit i
 |.ret=> .ret
def St.stp {nt:Nat} {a:Act} {s:Slots} (S:St X G nt ρ h w a s) (st:Stp X ρ h w ρ' h' w'):St X G nt ρ' h' w' a s:=⟨st.rel,S.glob.mono st.fr,S.slots.mono st,S.size⟩
def zpR (ops:List Oper) (hint:List Nat) (s:Slots) (h:List Obj):Seen (zle ops hint s h) h:=by
 unfold zle;split
 ·exact znP s hint (zuw h)
 ·exact zqX h
def zmx {rd:Option Nat} {n:Nat} {run:Run} {rf:Bool} {nt:Nat} {ops:Array Oper} {hint:List Nat} {id:Nat} {draw:Bool} {Q:Exit->Act->World->Prop} (hm:P.follows .mixedOrders=true) (hrun:zdU P G run) (hhas:zc5 P run)
 (hdst: ∀o∈ops.toList, ∀d,o.dst=some d->d<nt) (hd:draw=true->zfP P hint ops.toList=true) {s s':Slots} {a:Act} {out:Out}
 (hr:zjl P G run rf hint ops.toList draw s h=some (out,s',h')) (S:St X G nt ρ h w a s)
 (hq: ∀ρ' a' w',Stp X ρ h w ρ' h' w'->St X G nt ρ' h' w' a' s'->a'.defers=a.defers->Q out.exit' a' w'):(Code.region id ops draw).wpIn (Fw rd) n P Q a w:=by
 unfold zjl at hr;generalize hh1:(if (zea ops.toList && !zeb ops.toList && !rf)=true then zbG h ((zjk ops.toList ops.toList).map λt=>(t,zbF s t)) else h)=h1 at hr
 have st:Stp X ρ h w ρ h1 w:=by
  rw[<- hh1];split
  ·exact zdm _ h S.rel
  ·exact Stp.refl S.rel
 have e0: ∀ (f:List Obj->Res),obind (some h1) f=f h1:=λ_=>rfl
 rw[e0]at hr;cases ho:opsV P G run ops.toList (if draw then hint else []) (zle ops.toList (if draw then hint else []) s h1) 0 ops.toList s h1 with
 |none=>rw[ho]at hr;cases hr
 |some p=>
  obtain⟨s2,h2⟩:=p;rw[ho]at hr;simp only[obind,yaa,yad]at hr;obtain⟨rfl,rfl,rfl⟩:=hr;exact znX hm hrun hhas hdst hd ho (S.stp st) (zpR _ _ s h1) (λe=>by unfold zle;rw[e];rfl) fun ρ' a' w' st'=>hq ρ' a' w' (st.trans S.rel st')
def zpi (ρ:Places) (L:Nat):Prop:= ∀id c:Nat,ρ[id]? ≠some (some (L,c))
def Fr.off (f:Fr X ρ h w ρ' h' w') {L:Nat} {o:Go.Obj} (hL:w.heap[L]? =some o) (hn:zpi ρ L):w'.heap[L]? =some o/\zpi ρ' L:=
 let ⟨h1,h2⟩:=f.block L (Array.getElem?_eq_some_iff.1 hL).1 hn
 ⟨h1.trans hL,h2⟩
def zsA {L:Nat} {o o':Go.Obj} (hL:w.heap[L]? =some o) (hc:o.isCells=false) (hc':o'.isCells=false) (b j:Nat):(w.putObj L o').cell? ⟨b,j,none⟩=w.cell? ⟨b,j,none⟩:=by
 unfold World.cell?
 by_cases e:b=L
 ·subst e
  rw[World.putObj_heap_same (Array.getElem?_eq_some_iff.1 hL).1,hL];cases o <;> simp_all [Go.Obj.isCells] <;> cases o' <;> simp_all [Go.Obj.isCells]
 ·rw[World.putObj_heap_other e]
def zxs {o:Go.Obj} (hc:o.isCells=false) (b j:Nat):(w.alloc o).cell? ⟨b,j,none⟩=w.cell? ⟨b,j,none⟩:=by
 unfold World.cell?
 by_cases e:b=w.heap.size
 ·subst e
  rw[World.alloc_heap_new,Array.getElem?_eq_none (yaj _)];cases o <;> simp_all [Go.Obj.isCells]
 ·show (match (w.heap.push o)[b]? with | some (Obj.cells c _ _)=>_ | _=>_)=_
  rw[Array.getElem?_push,yac e];rfl
structure Aside (ρ:Places) (B:Nat) (w w':World):Prop where
 os:w'.os=w.os
 tape:w'.tape=w.tape
 output:w'.output=w.output
 size:w.heap.size<=w'.heap.size
 cell: ∀b j,w'.cell? ⟨b,j,none⟩=w.cell? ⟨b,j,none⟩
 low: ∀b,b<B->w'.heap[b]? =w.heap[b]?
 at_: ∀id b c:Nat,ρ[id]? =some (some (b,c))->w'.heap[b]? =w.heap[b]?
def Aside.put {B L:Nat} {o o':Go.Obj} (hL:w.heap[L]? =some o) (hc:o.isCells=false) (hc':o'.isCells=false) (hn:zpi ρ L) (hB:B<=L):Aside ρ B w (w.putObj L o'):=
 ⟨rfl,rfl,rfl,by simp,zsA hL hc hc',λb hb=>World.putObj_heap_other (by omega),λid b c e=>World.putObj_heap_other λe'=>hn id c (e' ▸ e)⟩
def Aside.new {o:Go.Obj} (H:HRel X ρ h w) (hc:o.isCells=false) {B:Nat} (hB:B<=w.heap.size):Aside ρ B w (w.alloc o):=by
 have hb: ∀b,b<w.heap.size->(w.alloc o).heap[b]? =w.heap[b]? :=λb hb=>RowKit.Below.heap_alloc w o b hb
 exact⟨rfl,rfl,rfl,by simp,zxs hc,λb h=>hb b (by omega),λid b c e=>hb b (H.lt e)⟩
def Aside.draw (n B:Nat):Aside ρ B w { w with drawn:=n }:=⟨rfl,rfl,rfl,yaj _,λ_ _=>rfl,λ_ _=>rfl,λ_ _ _ _=>rfl⟩
def Aside.trans {B:Nat} (A:Aside ρ B w w') (A':Aside ρ B w' w''):Aside ρ B w w'':=
 ⟨A'.os.trans A.os,A'.tape.trans A.tape,A'.output.trans A.output,ya4 A.size A'.size,λb j=>(A'.cell b j).trans (A.cell b j),λb hb=>(A'.low b hb).trans (A.low b hb),λid b c e=>(A'.at_ id b c e).trans (A.at_ id b c e)⟩
def Aside.imm {B:Nat} (A:Aside ρ B w w'):Imm X ρ h w ρ h w':=λb j v hm hc=>⟨(A.cell b j).trans hc,hm⟩
def Aside.rel {B:Nat} (A:Aside ρ B w w') (H:HRel X ρ h w):HRel X ρ h w' where
 len:=H.len
 obj:=λid o ho=>let ⟨r,h1,h2⟩:=H.obj id o ho;⟨r,h1,h2.ikept A.imm (Evo.refl _ _ _) λb c e=>A.at_ id b c (e ▸ h1)⟩
 xlt:=λb j hx=>ybp (H.xlt b j hx) A.size
 xown:=H.xown
 inj:=H.inj
def Aside.stk {w0:World} {ρ0:Places} {h0:List Obj} (A:Aside ρ w0.heap.size w w') (S:Stk k X ρ0 h0 w0 ρ h w):Stk k X ρ0 h0 w0 ρ h w':=
 ⟨A.rel S.rel,⟨A.os.trans S.fr.os,A.tape.trans S.fr.tape,A.output.trans S.fr.output,ya4 S.fr.size A.size,
   λb hb hn=>let ⟨h1,h2⟩:=S.fr.block b hb hn;⟨(A.low b hb).trans h1,h2⟩,
   λb j v hm hc=>let ⟨h1,h2⟩:=S.fr.imm b j v hm hc;⟨(A.cell b j).trans h1,h2⟩⟩,S.evo,S.le⟩
def MarksOk (ρ:Places) (N:Nat) (w:World) (ds:List Deferred):Prop:=
 ∃Ds:List Nat,ds=Ds.map (λD=> { target:= .collected D,args:= #[] })/\Ds.Nodup/\ ∀D∈Ds,N<=D/\w.heap[D]? =some (.deferred (some []))/\zpi ρ D
def MarksOk.fr {N:Nat} {ds:List Deferred} (m:MarksOk ρ N w ds) (f:Fr X ρ h w ρ' h' w'):MarksOk ρ' N w' ds:=
 let ⟨Ds,h1,h2,h3⟩:=m
 ⟨Ds,h1,h2,λD hD=>let ⟨h4,h5,h6⟩:=h3 D hD;⟨h4,f.off h5 h6⟩⟩
structure StM (N:Nat) (X:Nat->Nat->Prop) (G:Nat->Option (List D)) (nt:Nat) (ρ:Places) (h:List Obj) (w:World) (a:Act) (s:Slots):Prop where
 st:St X G nt ρ h w a s
 marks:MarksOk ρ N w a.defers
 le:N<=w.heap.size
def GRel.aside {B:Nat} (A:Aside ρ B w w') (g:GRel X G ρ h w):GRel X G ρ h w':=λi cs e=>(g i cs e).mono A.imm
def SRel.aside {B:Nat} {tmps:Array Value} {s:Slots} (A:Aside ρ B w w') (g:SRel X ρ h w tmps s):SRel X ρ h w' tmps s:=λt=>(g t).imono A.imm (Evo.refl _ _ _)
def St.aside {B nt:Nat} {a:Act} {s:Slots} (A:Aside ρ B w w') (S:St X G nt ρ h w a s):St X G nt ρ h w' a s:=⟨A.rel S.rel,S.glob.aside A,S.slots.aside A,S.size⟩
def zEQ (k N:Nat) (X:Nat->Nat->Prop) (G:Nat->Option (List D)) (nt:Nat) (ρ:Places) (h:List Obj) (w:World) (r:Out × Slots × List Obj) (Q:Exit->Act->World->Prop):Prop:=
 ∀ρ' a' w',Stk k X ρ h w ρ' r.2.2 w'->StM N X G nt ρ' r.2.2 w' a' r.2.1->Q r.1.exit' a' w'
def zEQ.step {N nt:Nat} {w1:World} {ρ1:Places} {h1:List Obj} {r:Out × Slots × List Obj} {Q:Exit->Act->World->Prop} (hq:zEQ k N X G nt ρ h w r Q) (st:Stk k X ρ h w ρ1 h1 w1):
 zEQ k N X G nt ρ1 h1 w1 r Q:=fun ρ' a' w' st' S'=>hq ρ' a' w' (st.trans st') S'
def zqZ (k:Nat) (P:Program) (X:Nat->Nat->Prop) (G:Nat->Option (List D)) (nt:Nat) (rd:Option Nat) (c:Code) (f:Slots->List Obj->Res):Prop:=
 ∀ (n N:Nat) (ρ:Places) (s:Slots) (h:List Obj) (a:Act) (w:World) (r:Out × Slots × List Obj) (Q:Exit->Act->World->Prop),f s h=some r->StM N X G nt ρ h w a s->k<=h.length->
  zEQ k N X G nt ρ h w r Q->c.wpIn (Fw rd) n P Q a w
def zuC {nt:Nat} {rd:Option Nat} {c:Code} {f:Slots->List Obj->Res} (hc:zqZ k P X G nt rd c f): ∀m,zqZ k P X G nt rd (.loop c) (iter f m):=by
 intro m n N ρ s h a w r Q hr S hk hq;refine wpIn_loop_rounds m ?_
 induction m generalizing ρ s h a w r with
 |zero=>simp[iter]at hr
 |succ m ih=>
  show c.wpIn (Fw rd) n P _ a w
  simp only[iter]at hr;cases hf:f s h with
  |none=>rw[hf]at hr;cases hr
  |some q=>
   refine hc n N ρ s h a w q _ hf S hk fun ρ1 a1 w1 st S1=> ?_
   rw[hf]at hr;obtain⟨o,s1,h1⟩:=q;cases o with
   |normal=>exact ih ρ1 s1 h1 a1 w1 r hr S1 st.le (hq.step st)
   |exit i=>simp only[onNormal,yaa]at hr;subst hr;exact hq ρ1 a1 w1 st S1
   |ret=>simp only[onNormal,yaa]at hr;subst hr;exact hq ρ1 a1 w1 st S1
def zjI (n:Nat) (hn:0<n): ∀ (m:Nat) (xs:List D),xs.length<=m->
 xs.length<=(zcg n m xs).length*n/\(zcg n m xs).length*n<xs.length+n/\ ∀i,i<(zcg n m xs).length->(zcg n m xs)[i]? =some ((xs.drop (i*n)).take n)
 |0,xs,h=>by
  have:xs=[]:=yaE (by omega)
  subst this;exact⟨by simp,by simpa[zcg]using hn,λi hi=>by simp[zcg]at hi⟩
 |m+1,[],h=>⟨by simp,by simpa[zcg]using hn,λi hi=>by simp[zcg]at hi⟩
 |m+1,x::xs,h=>by
  obtain⟨h1,h2,h3⟩:=zjI n hn m ((x::xs).drop n) (by simp only[yax,yaf]at h ⊢;omega)
  rw[yax]at h1 h2;simp only[zcg];generalize zcg n m ((x::xs).drop n)=l at h1 h2 h3;simp only[yaf,ya8,ycw]at h1 h2 ⊢;refine⟨by omega, ?_,λi hi=> ?_⟩
  ·rcases ybL xs.length n with c | c
   ·have:l.length=0:=by
     rcases ybq l.length with e | e
     ·exact e
     ·have:=yaG n e
      omega
    rw[this];omega
   ·omega
  ·cases i with
   |zero=>simp
   |succ i=>
    rw[ybs,h3 i (by omega),ycI]
    have e:n+i*n=(i+1)*n:=by rw[ya8,ycw,yb4]
    rw[e]
def chunkVal (ad:Option Addr) (n len i:Nat):Value:=
 match ad with
 |some p=> .slice (some ⟨p.block,p.off+i*n,none⟩) (min n (len - i*n):Nat) (min n (len - i*n):Nat)
 |none=>undef
def zgb (P:Program) (g:FuncId):Prop:=
 (∀args w,(callFunc g args).run P w= .ok (.enter g args) w)/\
 ∀ (l b1 b2 n m len cap:Nat) (ad:Option Addr) (J:Nat->World->Prop) (Jx:World->Prop) (W:World),0<n->n<=65536->len<=65536->len<=m*n->m*n<len+n->len<=cap->
  (0<len-> ∃b off,ad=some ⟨b,off,none⟩)->
  (∀i W,J i W->W.cell? ⟨b1,0,none⟩=some (.slice ad len cap)/\W.cell? ⟨b2,0,none⟩=some (.int .i64 n))->(∀i W k,J i W->J i { W with drawn:=k })->
  (∀i W1,i<m->J i W1->YieldAt (Fw none) 7 P l #[chunkVal ad n len i] W1 λe W'=>(e= .returned (.bool true)/\J (i+1) W')\/(e= .returned (.bool false)/\Jx W'))->J 0 W->
  CallsIn (Fw none) 8 P g #[.func (.yield l) #[] #[],.pointer (some ⟨b1,0,none⟩),.pointer (some ⟨b2,0,none⟩)] W λe W'=>(∃v,e= .returned v)/\(J m W'\/Jx W')
def zuD {M:Nat->Nat->Prop} {v:Value} {xs:List D} (hr:Rep M w v (.list xs)) (h1:zam 1 xs=true):
 ∃ (ad:Option Addr) (cap:Nat),v= .slice ad xs.length cap/\(0<xs.length-> ∃b off,ad=some ⟨b,off,none⟩)/\xs.length<=cap/\
  ∀ (M':Nat->Nat->Prop) (w':World),(∀ (b j:Nat) (v:Value),¬ M b j->w.cell? ⟨b,j,none⟩=some v->w'.cell? ⟨b,j,none⟩=some v/\ ¬ M' b j)->
   ∀i n,0<n->i*n<xs.length->Rep M' w' (chunkVal ad n xs.length i) (.list ((xs.drop (i*n)).take n)):=by
 have hs:=zbL h1;cases hr with
 |nil a c hac=>exact⟨a,c,rfl,λh=>by simp at h,yai _,λM' w' _ i n _ h=>by simp at h⟩
 |list b off len cap sz _ vs e1 e2 e3 e4 e5=>
  subst e1;refine⟨_,cap,rfl,λ_=>⟨b,off,rfl⟩,e2,λM' w' hi i n hn hlt=> ?_⟩
  have hl:((xs.drop (i*n)).take n).length=min n (xs.length - i*n):=by simp
  have hc: ∀ (j:Nat) (c:D),(flat ((xs.drop (i*n)).take n))[j]? =some c->(flat xs)[i*n+j]? =some c:=λj c hj=>by
   obtain⟨-,g1⟩:=zgJ hs (Nat.le_of_lt hlt);rw[yb9]at g1;have g2:flat (xs.drop (i*n))=flat ((xs.drop (i*n)).take n)++flat ((xs.drop (i*n)).drop n):=by rw[<- zbI,ybf]
   rw[<- ya1,<- g1,g2,yar (lt_of_getElem? hj)];exact hj
  show Rep M' w' (.slice (some ⟨b,off+i*n,none⟩) (min n (xs.length - i*n):Nat) (min n (xs.length - i*n):Nat)) _
  refine .list b (off+i*n) _ _ 1 _ (λj=>vs (i*n+j)) hl.symm (yaj _) (λx hx=>hs x (ybF (yaH hx))) (λj c hj=> ?_) λj c hj=>(e5 _ c (hc j c hj)).mono hi
  obtain⟨k1,k2,k3⟩:=e4 _ c (hc j c hj);rw[yaY];exact⟨(hi _ _ _ k2 k1).1,(hi _ _ _ k2 k1).2,k3⟩
def zsB {keep:List (Nat × Nat)} {s s2:Slots} (hn:zfO k keep s h=some (s2,h2)) (H:HRel X ρ h w) {tmps:Array Value} (hs:SRel X ρ h w tmps s) (hk:k<=h.length):
 ∃ρ2,Stk k X ρ h w ρ2 h2 w/\SRel X ρ2 h2 w tmps s2/\ ∀ (i b c:Nat) (cs:List V),zf6 k keep s h i=true->h[i]? =some (.box cs)->ρ[i]? =some (some (b,c))->zpi ρ2 b:=by
 unfold zfO at hn;unfold zf6;obtain⟨ρ1,s1,r1⟩:=zbm keep ρ h H hs;generalize zad s h keep=p at*;simp only at hn ⊢;obtain⟨r,hr⟩:=zf8 p.2 k (p.1.flatMap λq=>q.2.ids)
 have hnd:(zbi p.2 (zaj (List.range k) (p.1.flatMap λq=>q.2.ids))).Nodup:=zef _ (zch _ _ ydg)
 generalize zbi p.2 (zaj (List.range k) (p.1.flatMap λq=>q.2.ids))=ids at*
 split at hn
 ·rename_i s3 h3 e1 e2
  simp only[yaa,yad]at hn;obtain⟨rfl,rfl⟩:=hn;obtain⟨R,st⟩:=zjH s1.rel hnd e2 hr;refine⟨_,(s1.stk H hk).trans st,r1.ren R e1,λi b c cs hl ho hi id c' e=> ?_⟩
  obtain⟨o',r',k1,k2,k3⟩:=s1.evo i _ _ (lt_of_getElem? ho) ho hi;have k4:r'=some (b,c):=by
   cases o' with
   |box cs'=>exact k3.2
   |_=>exact k3.elim
  subst k4;have e': ∃i',ids[id]? =some i'/\ρ1[i']? =some (some (b,c')):=by
   simp only[zax,yau,yab]at e;obtain⟨i',g1,g2⟩:=e;refine⟨i',g1, ?_⟩;cases g3:ρ1[i']? with
   |none=>rw[g3]at g2;cases g2
   |some r=>rw[g3]at g2;exact congrArg some g2
  obtain⟨i',g1,g2⟩:=e';have:=s1.rel.inj i' i b c' c g2 k2;subst this;simp only[yc2,List.contains_eq_mem,yaS]at hl;exact hl (yay g1)
 ·cases hn
def zsC {f:V} {it:Nat × Nat × List (List D)} (hi:zkQ G h f=some it): ∃ (g i j:Nat) (xs:List D) (n:Int),f= .clo g [.ptr i 0,.ptr j 0]/\zdR G g=true/\h[i]? =some (.box [.d (.list xs)])/\
 h[j]? =some (.box [.d (.int .i64 n)])/\0<n/\n<=65536/\xs.length<=65536/\zam 1 xs=true/\it=(i,j,zcg n.toNat xs.length xs):=by
 unfold zkQ at hi;split at hi
 ·rename_i g i j
  split at hi
  ·rename_i hc
   split at hi
   ·rename_i xs n h1 h2
    split at hi
    ·rename_i hcond
     simp only[yaa]at hi;exact⟨g,i,j,xs,n,rfl,hc,h1,h2,hcond.1,hcond.2.1,hcond.2.2.1,hcond.2.2.2,hi.symm⟩
    ·cases hi
   ·cases hi
  ·cases hi
 ·cases hi
def zq0 (H:HRel X ρ h w) {i b c:Nat} {x:V} (ho:h[i]? =some (.box [x])) (hp:ρ[i]? =some (some (b,c))): ∃v,w.cell? ⟨b,0,none⟩=some v/\V1 X ρ h w v x:=by
 obtain⟨r,k1,k2⟩:=H.obj i _ ho;rw[hp]at k1;cases k1;obtain⟨b',c',cur,e,fz,e1,e2,e3,-,e5⟩:=k2;cases e1;obtain⟨u,g1,g2,-⟩:=e5 0 x rfl;exact⟨u,by rw[zap e2];exact g1,g2⟩
def Out.code:Out->Code
 |.exit i=> .exit i
 |_=> .ret
def zsD {run:Run} {K:zhA} {Sh:zhz} {F:FuncId} {nt b0:Nat} {loopI:(Slots->List Obj->Res)->Slots->List Obj->Res} (hit: ∀g,zdR G g=true->zgb P g) {f:Operand} {ps:Array Tmp} {x y:Code} {keep:List (Nat × Nat)} {p:Nat}
 (hx: ∀l k,zqZ k P X G nt (some l) x (codeV P G K Sh run loopI F k b0 x)) (hy: ∀l k,zqZ k P X G nt (some l) y (codeV P G K Sh run loopI F k b0 y)) (hp:ps.toList=[p]) (hlt:p<nt):
 zqZ k P X G nt none (.rangeFunc f ps x y) λs h=>obind (zkQ G h (ev G s f)) λit=>if zf6 k keep s h it.1 && zf6 k keep s h it.2.1 then
  obind (zfO k keep s h) λq=>rangeV (λz s h=>
   match codeV P G K Sh run loopI F h.length b0 x ((p,.d (.list z))::s) h with
   |some (.normal,s1,h1)=>codeV P G K Sh run loopI F h.length b0 y s1 h1
   |_=>none) k keep it.2.2 q.1 q.2
  else none:=by
 obtain rfl:ps= #[p]:=ycO hp;intro n N ρ s h a w r Q hr S hk hq;replace hr:(obind (zkQ G h (ev G s f)) λit=>if zf6 k keep s h it.1 && zf6 k keep s h it.2.1 then
  obind (zfO k keep s h) λq=>rangeV (λz s h=>
   match codeV P G K Sh run loopI F h.length b0 x ((p,.d (.list z))::s) h with
   |some (.normal,s1,h1)=>codeV P G K Sh run loopI F h.length b0 y s1 h1
   |_=>none) k keep it.2.2 q.1 q.2
  else none)=some r:=hr
 obtain⟨round,hround⟩: ∃round:List D->Slots->List Obj->Res,round=λz s h=>
        match codeV P G K Sh run loopI F h.length b0 x ((p,.d (.list z))::s) h with
        |some (.normal,s1,h1)=>codeV P G K Sh run loopI F h.length b0 y s1 h1
        |_=>none:=⟨_,rfl⟩
 rw[<- hround]at hr;cases hi:zkQ G h (ev G s f) with
 |none=>rw[hi]at hr;cases hr
 |some it=>
  rw[hi]at hr;obtain⟨g,i,j,xs,nn,hf,hg,ho1,ho2,hn0,hn1,hlen,hsz,rfl⟩:=zsC hi;simp only[obind]at hr;split at hr
  ·rename_i hlo
   simp only[yaw]at hlo;cases hnm:zfO k keep s h with
   |none=>rw[hnm]at hr;cases hr
   |some q=>
    obtain⟨s0,h0⟩:=q;rw[hnm]at hr;simp only at hr;obtain⟨nk,rfl⟩: ∃nk:Nat,nn=nk:=⟨nn.toNat,by omega⟩
    rw[yat]at hr;obtain⟨ρ0,st0,sr0,np0⟩:=zsB hnm S.st.rel S.st.slots hk;have hv:=zlg S.st.glob S.st.slots f;rw[hf]at hv;obtain⟨us,hfv,hus,hc⟩:=hv;obtain⟨u1,hu1,o1,b1,c1,-,-,e3,rfl⟩:=hc 0 (.ptr i 0) rfl;obtain⟨u2,hu2,o2,b2,c2,-,-,e6,rfl⟩:=hc 1 (.ptr j 0) rfl;have hus':us= #[.pointer (some ⟨b1,0,none⟩),.pointer (some ⟨b2,0,none⟩)]:=by
     apply Array.ext
     ·simpa using hus
     ·intro t ht1 ht2
      have:t=0\/t=1:=by simp at ht2;omega
      rcases this with rfl | rfl
      ·rw[ybe ht1]at hu1;simpa using hu1
      ·rw[ybe ht1]at hu2;simpa using hu2
    subst hus';obtain⟨v1,hc1,r1⟩:=zq0 S.st.rel ho1 e3;obtain⟨v2,hc2,r2⟩:=zq0 S.st.rel ho2 e6;have r2':Rep (Mut X ρ h) w v2 (.int .i64 nk):=r2;cases r2';have r1':Rep (Mut X ρ h) w v1 (.list xs):=r1;obtain⟨ad,cap,rfl,had,hcap,hsub⟩:=zuD r1' hsz;have hnk:0<nk:=by omega
    obtain⟨sp1,sp2,sp3⟩:=zjI nk hnk xs.length xs (yaj _);have nb1:=np0 i b1 c1 _ hlo.1 ho1 e3;have nb2:=np0 j b2 c2 _ hlo.2 ho2 e6;obtain⟨eg,hco⟩:=hit g hg;refine wpIn_rangeFunc λfn _=> ?_
    show ∃ (l:Nat) (mark:List Deferred) (w₁:World) (d:Deferred) (w₁':World) (f':FuncId) (args:Array Value) (w₂:World),(Instr.enterLoop fn a.tmps #[p] x y none).run P w= .ok (l,mark) w₁/\_
    obtain⟨rec,hrec⟩: ∃rec:LoopState->Option Code->Loop,rec=λst pe=> { state:=st,pending:=pe,fn,tmps:=a.tmps,params:= #[p],assign:=x,body:=y,defers:=w.heap.size }:=⟨_,rfl⟩
    obtain⟨W1,hW1⟩: ∃W1,(w.alloc (.deferred (some []))).alloc (.loop (rec .ready none))=W1:=⟨_,rfl⟩;have hL1:W1.heap[w.heap.size+1]? =some (.loop (rec .ready none)):=by
     rw[<- hW1];have:=World.alloc_heap_new (w.alloc (.deferred (some []))) (.loop (rec .ready none));rwa [World.size_alloc]at this
    have hK1:W1.heap[w.heap.size]? =some (.deferred (some [])):=by
     rw[<- hW1];exact (RowKit.Below.heap_alloc _ _ _ (by simp)).trans (World.alloc_heap_new w _)
    have hbk1: ∃o,w.heap[b1]? =some o:=⟨_,ybe (S.st.rel.lt e3)⟩;have hbk2: ∃o,w.heap[b2]? =some o:=⟨_,ybe (S.st.rel.lt e6)⟩;obtain⟨ob1,hob1⟩:=hbk1;obtain⟨ob2,hob2⟩:=hbk2;have A1:Aside ρ0 w.heap.size w W1:=by
     rw[<- hW1];exact (Aside.new st0.rel rfl (yaj _)).trans (Aside.new ((Aside.new st0.rel (o:= .deferred (some [])) rfl (yaj _)).rel st0.rel) rfl (by simp))
    have hfresh: ∀B,w.heap.size<=B->zpi ρ0 B:=λB hB id c e=>by have:=st0.rel.lt e;omega
    obtain⟨Lr,hLr⟩: ∃Lr,Lr=w.heap.size+1:=⟨_,rfl⟩;obtain⟨Dm,hDm⟩: ∃Dm,Dm=w.heap.size:=⟨_,rfl⟩;rw[<- hLr]at hL1;rw[<- hDm]at hK1;generalize hcs:zcg nk xs.length xs=cs at hr sp1 sp2 sp3;obtain⟨J,hJ⟩: ∃J:Nat->World->Prop,J=λi W=> ∃ρ1 s1 h1,rangeV round k keep (cs.drop i) s1 h1=some r/\Stk k X ρ h w ρ1 h1 W/\St X G nt ρ1 h1 W a s1/\(zpi ρ1 b1/\W.heap[b1]? =some ob1)/\(zpi ρ1 b2/\W.heap[b2]? =some ob2)/\
     (zpi ρ1 Lr/\W.heap[Lr]? =some (.loop (rec .ready none)))/\(zpi ρ1 Dm/\W.heap[Dm]? =some (.deferred (some []))):=⟨_,rfl⟩
    obtain⟨Jx,hJx⟩: ∃Jx:World->Prop,Jx=λW=> ∃o s1 h1 ρ1,r=(o,s1,h1)/\o≠ .normal/\Stk k X ρ h w ρ1 h1 W/\St X G nt ρ1 h1 W a s1/\(zpi ρ1 Lr/\W.heap[Lr]? =some (.loop (rec .done (some o.code))))/\(zpi ρ1 Dm/\W.heap[Dm]? =some (.deferred (some []))):=⟨_,rfl⟩
    have hJ0:J 0 W1:=by
     rw[hJ];refine⟨ρ0,s0,h0,by simpa using hr,A1.stk st0,⟨A1.rel st0.rel,(S.st.glob.mono st0.fr).aside A1,sr0.aside A1,S.st.size⟩,⟨nb1, ?_⟩,⟨nb2, ?_⟩,⟨hfresh _ (by omega),hL1⟩,⟨hfresh _ (by omega),hK1⟩⟩
     ·rw[A1.low _ (S.st.rel.lt e3)];exact hob1
     ·rw[A1.low _ (S.st.rel.lt e6)];exact hob2
    have hcell: ∀i W,J i W->W.cell? ⟨b1,0,none⟩=some (.slice ad xs.length cap)/\W.cell? ⟨b2,0,none⟩=some (.int .i64 nk):=λi W hj=>by
     rw[hJ]at hj;obtain⟨ρ1,s1,h1,-,-,-,⟨-,g1⟩,⟨-,g2⟩,-⟩:=hj;exact⟨(World.cell?_of_block (a:=⟨b1,0,none⟩) (g1.trans hob1.symm)).trans hc1,(World.cell?_of_block (a:=⟨b2,0,none⟩) (g2.trans hob2.symm)).trans hc2⟩
    have hdraw: ∀i W n,J i W->J i { W with drawn:=n }:=λi W n hj=>by
     rw[hJ]at hj ⊢;obtain⟨ρ1,s1,h1,g1,g2,g3,g4,g5,g6,g7⟩:=hj;exact⟨ρ1,s1,h1,g1,(Aside.draw n _).stk g2,g3.aside (Aside.draw (ρ:=ρ1) n 0),g4,g5,g6,g7⟩
    have hcall:CallsIn (Fw none) 8 P g #[.func (.yield Lr) #[] #[],.pointer (some ⟨b1,0,none⟩),.pointer (some ⟨b2,0,none⟩)] W1 λe W'=>(∃v,e= .returned v)/\(J cs.length W'\/Jx W'):=by
     refine hco Lr b1 b2 nk cs.length xs.length cap ad J Jx W1 hnk (by omega) hlen sp1 sp2 hcap had hcell hdraw (λi W hlt' hj=> ?_) hJ0
     rw[hJ]at hj;obtain⟨ρ1,s1,h1,g1,g2,g3,⟨n1,k1⟩,⟨n2,k2⟩,⟨n3,k3⟩,⟨n4,k4⟩⟩:=hj;have hik:i*nk<xs.length:=by
      have:=yaG nk (show i+1<=cs.length from hlt')
      rw[ya8,ycw]at this;omega
     have hz:=sp3 i hlt';generalize hzz:(xs.drop (i*nk)).take nk=z at hz;have hdr:cs.drop i=z::cs.drop (i+1):=by
      rw[yak hlt',yaa]at hz;rw[yao hlt',hz]
     rw[hdr]at g1;have hrep:zat X ρ1 h1 W (chunkVal ad nk xs.length i) (.d (.list z)):=by
      have:=hsub (Mut X ρ1 h1) W g2.fr.imm i nk hnk hik;rw[hzz]at this;exact this
     have hy0:=run_yield (P:=P) (args:= #[chunkVal ad nk xs.length i]) k3 (by rw[hrec];rfl)
     rw[hrec]at hy0;refine⟨_,_,_,_,hy0,roundIn_of_wpIn trivial ?_⟩;have htm:((#[p]:Array Tmp).zip #[chunkVal ad nk xs.length i]).foldl (λtmps (t,a)=>tmps.setIfInBounds t a) a.tmps=a.tmps.setIfInBounds p (chunkVal ad nk xs.length i):=by simp
     have S1:StM 0 X G nt ρ1 h1 W { tmps:=((#[p]:Array Tmp).zip #[chunkVal ad nk xs.length i]).foldl (λtmps (t,a)=>tmps.setIfInBounds t a) a.tmps,defers:=[] } ((p,.d (.list z))::s1):=by
      rw[htm];refine⟨⟨g3.rel,g3.glob,λt=> ?_,by simpa using g3.size⟩,⟨[],rfl,ydX,λ_ h=>by cases h⟩,yai _⟩
      simp only[zbF];rw[zqY (by rw[g3.size];exact hlt)]
      split
      ·exact hrep
      ·exact g3.slots t
     simp only[rangeV]at g1;cases hrd:round z s1 h1 with
     |none=>rw[hrd]at g1;cases g1
     |some rr=>
      obtain⟨o,s3,h3⟩:=rr;rw[hrd]at g1;have hrd':=hrd;rw[hround]at hrd';simp only at hrd';cases hcx:codeV P G K Sh run loopI F h1.length b0 x ((p,.d (.list z))::s1) h1 with
      |none=>rw[hcx]at hrd';cases hrd'
      |some rx=>
       obtain⟨ox,s2,h2⟩:=rx;rw[hcx]at hrd';cases ox with
       |exit _=>cases hrd'
       |ret=>cases hrd'
       |normal=>
        simp only at hrd';refine hx Lr h1.length _ 0 ρ1 _ h1 _ W _ _ hcx S1 (yaj _) fun ρ2 a2 W2 stx S2=> ?_
        obtain⟨k3',n3'⟩:=stx.fr.off k3 n3;obtain⟨k4',n4'⟩:=stx.fr.off k4 n4;obtain⟨k1',n1'⟩:=stx.fr.off k1 n1;obtain⟨k2',n2'⟩:=stx.fr.off k2 n2;have stA:Stk k X ρ h w ρ2 h2 W2:=g2.trans ⟨stx.rel,stx.fr,stx.evo.mono g2.le,ya4 g2.le stx.le⟩;refine⟨_,run_beginRound k3' (by rw[hrec]), ?_⟩
        have hne: ∀D,w.heap.size≠D->D≠Dm:=λD e e'=>e (by omega)
        obtain⟨W2',hW2'⟩: ∃W2',W2.putObj Lr (.loop { rec .ready none with state:= .busy })=W2':=⟨_,rfl⟩
        have Ab:Aside ρ2 w.heap.size W2 W2':=by rw[<- hW2'];exact Aside.put k3' rfl rfl n3' (by omega)
        have hoth: ∀ (B:Nat) (o:Go.Obj),W2.heap[B]? =some o->B≠Lr->W2'.heap[B]? =some o:=λB o hB hne=>by rw[<- hW2',World.putObj_heap_other hne];exact hB
        have hLb:W2'.heap[Lr]? =some (.loop { rec .ready none with state:= .busy }):=by rw[<- hW2'];exact World.putObj_heap_same (Array.getElem?_eq_some_iff.1 k3').1
        rw[hW2'];have hltL: ∀ {b c id:Nat},ρ[id]? =some (some (b,c))->b≠Lr:=λe e'=>by have:=S.st.rel.lt e;omega
        have hmk:MarksOk ρ2 0 W2' a2.defers:=by
         obtain⟨Ds,d1,d2,d3⟩:=S2.marks;refine⟨Ds,d1,d2,λD hD=> ?_⟩
         obtain⟨d4,d5,d6⟩:=d3 D hD;refine⟨d4,hoth D _ d5 λe=> ?_,d6⟩
         rw[e,k3']at d5;cases d5
        refine hy Lr h1.length _ 0 ρ2 s2 h2 a2 W2' _ _ hrd' ⟨S2.st.aside Ab,hmk,yai _⟩ stx.le fun ρ3 a3 W3 sty S3=> ?_
        obtain⟨k3'',n3''⟩:=sty.fr.off hLb n3';obtain⟨k4'',n4''⟩:=sty.fr.off (hoth _ _ k4' (by omega)) n4'
        obtain⟨k1'',n1''⟩:=sty.fr.off (hoth _ _ k1' (hltL e3)) n1';obtain⟨k2'',n2''⟩:=sty.fr.off (hoth _ _ k2' (hltL e6)) n2';have stB:Stk k X ρ h w ρ3 h3 W3:=(Ab.stk stA).trans ⟨sty.rel,sty.fr,sty.evo.mono g2.le,ya4 g2.le sty.le⟩;have himm:Imm X ρ1 h1 W ρ3 h3 W3:=λb j v hm hc=>by
         obtain⟨i1,i2⟩:=stx.fr.imm b j v hm hc;obtain⟨i3,i4⟩:=Ab.imm b j v i2 i1;exact sty.fr.imm b j v i4 i3
        have hevo:Evo h1.length ρ1 h1 ρ3 h3:=stx.evo.trans sty.evo;have hsr:SRel X ρ3 h3 W3 a.tmps s1:=λt=>(g3.slots t).imono himm hevo
        have hgl:GRel X G ρ3 h3 W3:=λgi cs' e=>(g3.glob gi cs' e).mono himm
        have fin: ∀ (jump:Option Code) (ρ4:Places),zpi ρ4 Lr->
         (Instr.endRound Lr jump).run P W3= .ok (.bool jump.isNone) (W3.putObj Lr (.loop (rec (if jump.isNone then .ready else .done) jump)))/\
         Aside ρ4 w.heap.size W3 (W3.putObj Lr (.loop (rec (if jump.isNone then .ready else .done) jump))):=λjump ρ4 hno=>by
         have:=run_endRound (P:=P) jump k3'';rw[hrec]at this ⊢;rw[hrec]at k3'';exact⟨this,Aside.put k3'' rfl rfl hno (by omega)⟩
        have hsame: ∀ (o':Go.Obj),(W3.putObj Lr o').heap[Lr]? =some o':=λo'=>World.putObj_heap_same (Array.getElem?_eq_some_iff.1 k3'').1
        have hoth3: ∀ (B:Nat) (o o':Go.Obj),W3.heap[B]? =some o->B≠Lr->(W3.putObj Lr o').heap[B]? =some o:=λB o o' hB hne=>(World.putObj_heap_other hne).trans hB
        have left: ∀o',o'≠ .normal->o=o'->roundPost P Lr (λe W'=>(e= .returned (.bool true)/\J (i+1) W')\/(e= .returned (.bool false)/\Jx W')) o.exit' a3 W3:=λo' hno ho=>by
         have hr2:r=(o,s1,h3):=by
          subst ho;cases o with
          |normal=>exact absurd rfl hno
          |exit i=>simpa using g1.symm
          |ret=>simpa using g1.symm
         obtain⟨f1,f2⟩:=fin (some o.code) ρ3 n3'';have hx':Jx (W3.putObj Lr (.loop (rec .done (some o.code)))):=by
          rw[hJx];exact⟨o,s1,h3,ρ3,hr2,ho ▸ hno,f2.stk stB,⟨f2.rel sty.rel,hgl.aside f2,hsr.aside f2,g3.size⟩,⟨n3'',hsame _⟩,⟨n4'',hoth3 _ _ _ k4'' (by omega)⟩⟩
         subst ho;cases o with
         |normal=>exact absurd rfl hno
         |exit i=>exact⟨_,_,f1,.inr ⟨rfl,hx'⟩⟩
         |ret=>exact⟨_,_,f1,.inr ⟨rfl,hx'⟩⟩
        cases o with
        |exit i=>exact left _ (by simp) rfl
        |ret=>exact left _ (by simp) rfl
        |normal=>
         simp only at g1;cases hnn:zfO k keep s1 h3 with
         |none=>rw[hnn]at g1;cases g1
         |some q4=>
          obtain⟨s4,h4⟩:=q4;rw[hnn]at g1;obtain⟨ρ4,st4,sr4⟩:=zly hnn sty.rel hsr (ya4 g2.le sty.le);obtain⟨-,m3⟩:=st4.fr.off k3'' n3'';obtain⟨-,m4⟩:=st4.fr.off k4'' n4'';obtain⟨-,m1⟩:=st4.fr.off k1'' n1'';obtain⟨-,m2⟩:=st4.fr.off k2'' n2'';obtain⟨f1,f2⟩:=fin none ρ4 m3;refine⟨_,_,f1,.inl ⟨rfl, ?_⟩⟩;rw[hJ];exact⟨ρ4,s4,h4,g1,f2.stk (stB.trans st4),⟨f2.rel st4.rel,(hgl.mono st4.fr).aside f2,sr4.aside f2,g3.size⟩,⟨m1,hoth3 _ _ _ k1'' (hltL e3)⟩,⟨m2,hoth3 _ _ _ k2'' (hltL e6)⟩,⟨m3,hsame _⟩,⟨m4,hoth3 _ _ _ k4'' (by omega)⟩⟩
    refine⟨w.heap.size+1,[{ target:= .collected w.heap.size,args:= #[] }],W1, { target:= .fn (.func g) #[.pointer (some ⟨b1,0,none⟩),.pointer (some ⟨b2,0,none⟩)],args:= #[.func (.yield (w.heap.size+1)) #[] #[]] },W1,g,
     #[.func (.yield (w.heap.size+1)) #[] #[],.pointer (some ⟨b1,0,none⟩),.pointer (some ⟨b2,0,none⟩)],W1, ?_, ?_,λ_ _=>trivial, ?_,(λe=>by cases e), ?_⟩
    ·rw[<- hW1,hrec];exact run_enterLoop_outer _ _ _ _ _
    ·simp only[resolve,hfv]
     simp[go_sem]
    ·simp[invoke,go_sem,eg]
    ·rw[<- hLr]
     refine (callsIn_wide (n:=n - 1)).2 (Calls.mono ((callsIn_wide (n:=8)).1 hcall) ?_);have hmarks: ∀ (ρ1:Places) (h1:List Obj) (W W':World),Stk k X ρ h w ρ1 h1 W'->zpi ρ1 Dm->W'.heap[Dm]? =some (.deferred (some []))->MarksOk ρ1 N W' ([{ target:= .collected w.heap.size,args:= #[] }]++a.defers):=fun ρ1 h1 W W' st hno hd=>by
      obtain⟨Ds,d1,d2,d3⟩:=S.marks.fr st.fr;obtain⟨Ds',d1',d2',d3'⟩:=S.marks;have hDD:Ds'=Ds:=by
       have:=d1'.symm.trans d1;exact (List.map_inj_right (λx y e=>by simpa using e)).1 this
      subst hDD;refine⟨Dm::Ds',by rw[d1,hDm];rfl,List.nodup_cons.2 ⟨λhm=> ?_,d2⟩,λD hD=> ?_⟩
      ·have:=(Array.getElem?_eq_some_iff.1 (d3' Dm hm).2.1).1
       omega
      ·rcases List.mem_cons.1 hD with rfl | hD
       ·exact⟨by have:=S.le;omega,hd,hno⟩
       ·exact d3 D hD
     rintro e W' ⟨⟨v,rfl⟩,hj | hj⟩
     ·rw[hJ]at hj
      obtain⟨ρ1,s1,h1,g1,g2,g3,-,-,⟨n3,k3⟩,⟨n4,k4⟩⟩:=hj;rw[yca]at g1;simp only[rangeV,yaa]at g1;subst g1;have hel:=run_endLoop (P:=P) k3 (by rw[hrec];simp)
      refine⟨none,_,by rw[hrec]at hel;exact hel, ?_⟩
      have Ae:Aside ρ1 w.heap.size W' (W'.putObj Lr (.loop { rec .ready none with state:= .exhausted })):=Aside.put k3 rfl rfl n3 (by omega)
      have hk4:(W'.putObj Lr (.loop { rec .ready none with state:= .exhausted })).heap[Dm]? =some (.deferred (some [])):=(World.putObj_heap_other (by omega)).trans k4
      rw[hrec]at Ae hk4;exact hq ρ1 { a with defers:=[{ target:= .collected w.heap.size,args:= #[] }]++a.defers } _ (Ae.stk g2) ⟨⟨Ae.rel g3.rel,g3.glob.aside Ae,g3.slots.aside Ae,g3.size⟩,hmarks _ _ W' _ (Ae.stk g2) n4 hk4,ya4 S.le (Ae.stk g2).fr.size⟩
     ·rw[hJx]at hj
      obtain⟨o,s1,h1,ρ1,rfl,hno,g2,g3,⟨n3,k3⟩,⟨n4,k4⟩⟩:=hj;have hel:=run_endLoop (P:=P) k3 (by rw[hrec];simp)
      refine⟨some o.code,_,by rw[hrec]at hel;exact hel, ?_⟩
      have Ae:Aside ρ1 w.heap.size W' (W'.putObj Lr (.loop { rec .done (some o.code) with state:= .exhausted })):=Aside.put k3 rfl rfl n3 (by omega)
      have hk4:(W'.putObj Lr (.loop { rec .done (some o.code) with state:= .exhausted })).heap[Dm]? =some (.deferred (some [])):=(World.putObj_heap_other (by omega)).trans k4
      rw[hrec]at Ae hk4;have hqq:=hq ρ1 { a with defers:=[{ target:= .collected w.heap.size,args:= #[] }]++a.defers } _ (Ae.stk g2) ⟨⟨Ae.rel g3.rel,g3.glob.aside Ae,g3.slots.aside Ae,g3.size⟩,hmarks _ _ W' _ (Ae.stk g2) n4 hk4,ya4 S.le (Ae.stk g2).fr.size⟩
      cases o with
      |normal=>exact absurd rfl hno
      |exit i=>exact wpIn_exit hqq
      |ret=>exact wpIn_ret hqq
  ·cases hr
def zsE {rd:Option Nat} {run:Run} {nt:Nat} {K:zhA} {Sh:zhz} {F:FuncId} {loopI:(Slots->List Obj->Res)->Slots->List Obj->Res} (hm:P.follows .mixedOrders=true) (hrun:zdU P G run) (hhas:zc5 P run) (hit: ∀g,zdR G g=true->zgb P g)
 (zgd: ∀ (k:Nat) (rd:Option Nat) (c:Code) (f:Slots->List Obj->Res),zqZ k P X G nt rd c f->zqZ k P X G nt rd (.loop c) (loopI f)):
 ∀ (c:Code) (k b:Nat),codeOk P (Sh F) nt c=true->(rd=none\/ziO c=true)->zqZ k P X G nt rd c (codeV P G K Sh run loopI F k b c):=by
 intro c
 induction c generalizing rd with
 |skip=>
  intro k b hok hfl n N ρ s h a w r Q hr S hk hq;simp only[codeV,yaa]at hr;subst hr;exact wpIn_skip (hq ρ a w (Stk.refl S.st.rel hk) S)
 |region id ops draw=>
  intro k b hok hfl n N ρ s h a w r Q hr S hk hq;simp only[codeV]at hr;simp only[codeOk,yaw,ybD]at hok;obtain⟨o,s',h'⟩:=r;refine zmx hm hrun hhas (λo ho d hd=> ?_) (λhd=> ?_) hr S.st fun ρ' a' w' st S' hd=>hq ρ' a' w' (st.stk S.st.rel hk) ⟨S',hd ▸ S.marks.fr st.fr,ya4 S.le st.fr.size⟩
  ·have:=hok.1 o ho
   rw[hd]at this;simpa using this
  ·have:=hok.2
   rw[hd]at this;simpa using this
 |seq x y ihx ihy=>
  intro k b hok hfl n N ρ s h a w r Q hr S hk hq;simp only[codeV]at hr;simp only[codeOk,yaw]at hok;simp only[ziO,yaw]at hfl;refine wpIn_seq ?_;cases hf:codeV P G K Sh run loopI F k b x s h with
  |none=>rw[hf]at hr;cases hr
  |some q=>
   refine ihx k b hok.1 (hfl.imp id (·.1)) n N ρ s h a w q _ hf S hk fun ρ1 a1 w1 st S1=> ?_
   rw[hf]at hr;obtain⟨o,s1,h1⟩:=q;cases o with
   |normal=>exact ihy k b hok.2 (hfl.imp id (·.2)) n N ρ1 s1 h1 a1 w1 r Q hr S1 st.le (hq.step st)
   |exit i=>simp only[onNormal,yaa]at hr;subst hr;exact hq ρ1 a1 w1 st S1
   |ret=>simp only[onNormal,yaa]at hr;subst hr;exact hq ρ1 a1 w1 st S1
 |cond c x y ihx ihy=>
  intro k b hok hfl n N ρ s h a w r Q hr S hk hq;simp only[codeV]at hr;simp only[codeOk,yaw]at hok;simp only[ziO,yaw]at hfl;unfold branch at hr;split at hr
  ·rename_i t hc
   have hv:=zlg S.st.glob S.st.slots c;rw[hc]at hv;have hb:a.eval c= .bool t:=by
    generalize a.eval c=v at hv;cases hv;rfl
   refine wpIn_cond hb ?_;cases t with
   |true=>exact ihx k b hok.1 (hfl.imp id (·.1)) n N ρ s h a w r Q hr S hk hq
   |false=>exact ihy k b hok.2 (hfl.imp id (·.2)) n N ρ s h a w r Q hr S hk hq
  ·cases hr
 |block id c ih=>
  intro k b hok hfl n N ρ s h a w r Q hr S hk hq;simp only[codeV]at hr;simp only[codeOk]at hok;refine wpIn_block ?_;cases hf:codeV P G K Sh run loopI F k id c s h with
  |none=>rw[hf]at hr;cases hr
  |some q=>
   refine ih k id hok hfl n N ρ s h a w q _ hf S hk fun ρ1 a1 w1 st S1=> ?_
   rw[hf]at hr;obtain⟨o,s1,h1⟩:=q;cases o with
   |normal=>simp only[leave,yaa]at hr;subst hr;exact hq ρ1 a1 w1 st S1
   |exit i=>
    simp only[leave]at hr;simp only[Out.exit',Exit.inBlock];split at hr
    ·rename_i e
     rw[yag e];simp only[yaa]at hr;subst hr;exact hq ρ1 a1 w1 st S1
    ·rename_i e
     rw[yac e];simp only[yaa]at hr;subst hr;exact hq ρ1 a1 w1 st S1
   |ret=>simp only[leave,yaa]at hr;subst hr;exact hq ρ1 a1 w1 st S1
 |loop c ih=>
  intro k b hok hfl n N ρ s h a w r Q hr S hk hq;simp only[codeV]at hr;simp only[codeOk]at hok;split at hr
  ·rename_i keep hkeep
   refine zgd k rd c (λs h=>obind (zfO k keep s h) λp=>codeV P G K Sh run loopI F k b c p.1 p.2) ?_ n N ρ s h a w r Q hr S hk hq
   intro n N ρ s h a w r Q hr S hk hq;replace hr:(obind (zfO k keep s h) λp=>codeV P G K Sh run loopI F k b c p.1 p.2)=some r:=hr
   cases hn:zfO k keep s h with
   |none=>rw[hn]at hr;cases hr
   |some p=>
    obtain⟨s2,h2⟩:=p;rw[hn]at hr;obtain⟨ρ2,st,hs⟩:=zly hn S.st.rel S.st.slots hk;exact ih k b hok hfl n N ρ2 s2 h2 a w r Q hr ⟨⟨st.rel,S.st.glob.mono st.fr,hs,S.st.size⟩,S.marks.fr st.fr,ya4 S.le st.fr.size⟩ st.le (hq.step st)
  ·exact zgd k rd c _ (ih k b hok hfl) n N ρ s h a w r Q hr S hk hq
 |exit id=>
  intro k b hok hfl n N ρ s h a w r Q hr S hk hq;simp only[codeV,yaa]at hr;subst hr;exact wpIn_exit (hq ρ a w (Stk.refl S.st.rel hk) S)
 |ret=>
  intro k b hok hfl n N ρ s h a w r Q hr S hk hq;simp only[codeV,yaa]at hr;subst hr;exact wpIn_ret (hq ρ a w (Stk.refl S.st.rel hk) S)
 |rangeFunc f ps x y ihx ihy=>
  intro k b hok hfl n N ρ s h a w r Q hr S hk hq;obtain rfl:rd=none:=hfl.resolve_right (by simp[ziO])
  simp only[codeV]at hr;simp only[codeOk,yaw]at hok;obtain⟨⟨⟨⟨f1,f2⟩,hps⟩,ok1⟩,ok2⟩:=hok;split at hr
  ·rename_i keep p hkp hp
   exact zsD hit (λl k=>ihx k b ok1 (.inr f1)) (λl k=>ihy k b ok2 (.inr f2)) hp (by simpa[hp]using hps) n N ρ s h a w r Q hr S hk hq
  ·cases hr
 |_=>
  intro k b hok hfl n N ρ s h a w r Q hr S hk hq;simp[codeV]at hr
open Classical in
noncomputable def loops (body:Slots->List Obj->Res) (s:Slots) (h:List Obj):Res:=
 if e: ∃n r,iter body n s h=some r then some (Classical.choose (ybu e)) else none
def zjJ {body:Slots->List Obj->Res}: ∀ {n m:Nat},n<=m-> ∀ {s:Slots} {h:List Obj} {r:Out × Slots × List Obj},iter body n s h=some r->iter body m s h=some r
 |0,_,_,s,h,r,hr=>by simp[iter]at hr
 |n+1,0,hl,_,_,_,_=>by omega
 |n+1,m+1,hl,s,h,r,hr=>by
  simp only[iter]at hr ⊢;cases hb:body s h with
  |none=>rw[hb]at hr;cases hr
  |some q=>
   rw[hb]at hr;obtain⟨o,s1,h1⟩:=q;cases o with
   |normal=>exact zjJ (Nat.le_of_succ_le_succ hl) hr
   |exit i=>exact hr
   |ret=>exact hr
def zdf {body:Slots->List Obj->Res} {s:Slots} {h:List Obj} {r:Out × Slots × List Obj}:loops body s h=some r↔ ∃n,iter body n s h=some r:=by
 unfold loops;constructor
 ·intro hr
  split at hr
  ·rename_i e
   simp only[yaa]at hr;subst hr;exact⟨_,ybu (ybu e)⟩
  ·cases hr
 ·rintro ⟨n,hn⟩
  have e: ∃n r,iter body n s h=some r:=⟨n,r,hn⟩;rw[dif_pos e];have h2:=ybu (ybu e);have h3:=zjJ (Nat.le_max_left n (Classical.choose e)) hn;have h4:=zjJ (Nat.le_max_right n (Classical.choose e)) h2;rw[h3]at h4;simpa using h4.symm
def zxt (body:Slots->List Obj->Res) (s:Slots) (h:List Obj):loops body s h=onNormal (body s h) (loops body):=by
 apply Option.ext;intro r;rw[zdf];cases hb:body s h with
 |none=>
  simp only[onNormal,reduceCtorEq,iff_false,not_exists];intro n hn;cases n with
  |zero=>simp[iter]at hn
  |succ n=>simp[iter,hb,onNormal]at hn
 |some q=>
  obtain⟨o,s1,h1⟩:=q;cases o with
  |normal=>
   simp only[onNormal];rw[zdf];constructor
   ·rintro ⟨n,hn⟩
    cases n with
    |zero=>simp[iter]at hn
    |succ n=>exact⟨n,by simpa[iter,hb,onNormal]using hn⟩
   ·rintro ⟨n,hn⟩
    exact⟨n+1,by simpa[iter,hb,onNormal]using hn⟩
  |exit i=>
   simp only[onNormal];constructor
   ·rintro ⟨n,hn⟩
    cases n with
    |zero=>simp[iter]at hn
    |succ n=>simpa[iter,hb,onNormal]using hn
   ·intro hr
    exact⟨1,by simpa[iter,hb,onNormal]using hr⟩
  |ret=>
   simp only[onNormal];constructor
   ·rintro ⟨n,hn⟩
    cases n with
    |zero=>simp[iter]at hn
    |succ n=>simpa[iter,hb,onNormal]using hn
   ·intro hr
    exact⟨1,by simpa[iter,hb,onNormal]using hr⟩
def zsF {nt:Nat} {rd:Option Nat} {c:Code} {f:Slots->List Obj->Res} (hc:zqZ k P X G nt rd c f):zqZ k P X G nt rd (.loop c) (loops f):=λm N ρ s h a w r Q hr S hk hq=>
 let ⟨n,hn⟩:=zdf.1 hr
 zuC hc n m N ρ s h a w r Q hn S hk hq
end
end Go.Am
namespace Go.Am
section
variable {X:Nat->Nat->Prop} {ρ:Places} {w:World} {P:Program} {f:FuncId}
def zjK {α:Type} (le:α->α->Bool) (x:α): ∀l,(zum le x l).Perm (x::l)
 |[]=> .refl _
 |y::r=>by
  unfold zum;split
  ·exact .refl _
  ·exact (List.Perm.cons y (zjK le x r)).trans (.swap x y r)
def zfm {α:Type} (le:α->α->Bool): ∀l:List α,(zec le l).Perm l
 |[]=> .refl _
 |x::l=>(zjK le x _).trans ((zfm le l).cons x)
def zq1 {α:Type} {le:α->α->Bool} (ht: ∀a b c,le a b=true->le b c=true->le a c=true) (hl: ∀a b,(le a b || le b a)=true) (x:α): ∀l,l.Pairwise (λa b=>le a b=true)->(zum le x l).Pairwise λa b=>le a b=true
 |[],_=>by simp[zum]
 |y::r,h=>by
  obtain⟨h1,h2⟩:=List.pairwise_cons.1 h;unfold zum;split
  ·rename_i e
   refine List.pairwise_cons.2 ⟨λz hz=> ?_,h⟩
   rcases List.mem_cons.1 hz with rfl | hz
   ·exact e
   ·exact ht _ _ _ e (h1 z hz)
  ·rename_i e
   refine List.pairwise_cons.2 ⟨λz hz=> ?_,zq1 ht hl x r h2⟩
   rcases List.mem_cons.1 ((zjK le x r).mem_iff.1 hz) with rfl | hz
   ·have:=hl z y
    simp only[ybr]at this;exact this.resolve_left e
   ·exact h1 z hz
def zgR {α:Type} {le:α->α->Bool} (ht: ∀a b c,le a b=true->le b c=true->le a c=true) (hl: ∀a b,(le a b || le b a)=true): ∀l,(zec le l).Pairwise λa b=>le a b=true
 |[]=> .nil
 |x::l=>zq1 ht hl x _ (zgR ht hl l)
def zq2 {α:Type} {le:α->α->Bool} (ht: ∀a b c,le a b=true->le b c=true->le a c=true) (hl: ∀a b,(le a b || le b a)=true) (ha: ∀a b,le a b=true->le b a=true->a=b) (l:List α):l.mergeSort le=zec le l:=
 List.Perm.eq_of_pairwise (λa b _ _=>ha a b) (List.pairwise_mergeSort ht hl l) (zgR ht hl l) ((List.mergeSort_perm l le).trans (zfm le l).symm)
def znY {α β:Type} {le:α->α->Bool} {le':β->β->Bool} {f:β->α} (h: ∀a b,le (f a) (f b)=le' a b): ∀l:List β,zec le (l.map f)=(zec le' l).map f
 |[]=>rfl
 |x::l=>by
  have key: ∀r:List β,zum le (f x) (r.map f)=(zum le' x r).map f:=λr=>by
   induction r with
   |nil=>rfl
   |cons y r ih=>
    simp only[yaV,zum,h];split
    ·rfl
    ·rw[ih];rfl
  show zum le (f x) (zec le (l.map f))=_
  rw[znY h l,key];rfl
def zpS {a b:Int}:leI a b=true↔a<=b:=decide_eq_true_iff
def zhK {a b:List UInt8}:leS a b=true↔a<=b:=decide_eq_true_iff
def zB8 (l:List Int):l.mergeSort leI=zec leI l:=
 zq2 (le:=leI) (λa b c h1 h2=>by simp only[zpS]at *;omega) (λa b=>by simp only[ybr,zpS];omega) (λa b h1 h2=>by simp only[zpS]at *;omega) l
def zB9 (l:List (List UInt8)):l.mergeSort leS=zec leS l:=
 zq2 (le:=leS) (λa b c h1 h2=>zhK.2 (List.le_trans (zhK.1 h1) (zhK.1 h2))) (λa b=>by simp only[ybr,zhK];exact List.le_total a b) (λa b h1 h2=>List.le_antisymm (zhK.1 h1) (zhK.1 h2)) l
structure Sorter {α:Type} [Inhabited α] (P:Program) (f:FuncId) (enc:α->Value) (le:α->α->Bool):Prop where
 has : ∃ fn, P.funcs[f]? = some fn /\ (fn.name == "runtime.NumGoroutine") = false /\ fn.body.isNone = false
 some: ∀ (blk off cap:Nat) (zs:List α) (w:World),Sort.Holds enc w blk off zs.toArray->blk<w.heap.size->zs.length<4611686018427387904->
  Calls P f #[.slice (some ⟨blk,off,none⟩) zs.length cap] w λe w'=>e= .returned (.tuple #[])/\ ∃n os,w'=Sort.grow (Sort.putRow enc (Sort.ahead w n) blk off (zs.mergeSort le).toArray) os
 none: ∀ (p:Option Addr) (cap:Nat) (w:World),Calls P f #[.slice p 0 cap] w λe w'=>e= .returned (.tuple #[])/\w'=w
def zel {α:Type} {dec:α->D} (h1: ∀a,(dec a).isCell=true): ∀zs:List α,flat (zs.map dec)=zs.map dec
 |[]=>rfl
 |z::zs=>by
  have:=zel h1 zs;simp only[flat,yaV,ya5,D.cells_one (h1 z)]at this ⊢;rw[this];rfl
def znZ {α:Type} [Inhabited α] {enc:α->Value} {dec:α->D} {le:α->α->Bool} (h1: ∀a,(dec a).isCell=true) (h2: ∀M w a,Rep M w (enc a) (dec a)) (h3: ∀M w v a,Rep M w v (dec a)->v=enc a)
 (hs:Sorter P f enc le) {zs:List α} (hz:zs.length<=65536) {vs:List Value} (H:HRel X ρ [.arr 1 (zs.map dec) 0] w) (ha:zb5 X ρ [.arr 1 (zs.map dec) 0] w vs [.arr 0 zs.length]):
 Calls P f vs.toArray w λe w'=> ∃ρ' rv,e= .returned rv/\Stp X ρ [.arr 1 (zs.map dec) 0] w ρ' [.arr 1 ((zs.mergeSort le).map dec) 0] w'/\zlm X ρ' [.arr 1 ((zs.mergeSort le).map dec) 0] w' rv []:=by
 obtain⟨v,e,hv⟩:=ha.2 0 _ rfl;have hvs:vs=[v]:=by
  have:=ha.1
  match vs,this,e with
  |[u],_,e=>simpa using e
 subst hvs;obtain⟨-,sz,xs,wm,r,g1,g2,-,g4⟩:=hv;simp only[yaF,yaa,Obj.arr.injEq]at g1;obtain⟨rfl,rfl,rfl⟩:=g1;replace g4:=g4 (by simp)
 have hret: ∀ρ' h' w',zlm X ρ' h' w' (.tuple #[]) []:=λ_ _ _=>⟨[],rfl,λj R hj=>by simp at hj,rfl⟩
 rcases ybq zs.length with h0 | h0
 ·have:zs=[]:=yaE h0
  subst this;obtain⟨p,cap,rfl⟩: ∃p cap,v= .slice p 0 cap:=by
   cases r with
   |none=>obtain⟨-,a,rfl⟩:=g4;exact⟨a,0,rfl⟩
   |some q=>exact⟨_,_,g4⟩
  refine (hs.none p cap w).mono ?_
  rintro e w' ⟨rfl,rfl⟩
  exact⟨ρ,_,rfl,by simpa using Stp.refl H,hret _ _ _⟩
 ·obtain⟨r',q1,q2⟩:=H.obj 0 _ rfl
  rw[g2]at q1;cases q1;cases r with
  |none=>have:=q2.2;simp at this;subst this;simp at h0
  |some q=>
   obtain⟨b,cap⟩:=q;obtain⟨-,cur,et,fz,m1,m2,m3,m4,m5,m6,m7,m8⟩:=q2;have hv':v= .slice (some ⟨b,0,none⟩) zs.length cap:=g4;subst hv';rw[yah]at m3;rw[zel h1]at m8;have hlt:=H.lt g2;have hH:Sort.Holds enc w b 0 zs.toArray:=λj hj=>by
    simp only[ycg]at hj;obtain⟨u,f1,f2,f3⟩:=m8 j (dec zs[j]) (by simp[hj])
    have:=h3 _ _ _ _ f2;subst this;refine⟨?_, ?_⟩
    ·rw[yaX,zap m1,f1,getElem!_pos zs.toArray j (by simpa using hj)];simp
    ·rw[yaX];exact m7.get j (by omega)
   refine (hs.some b 0 cap zs w hH hlt (by omega)).mono ?_
   rintro e w' ⟨rfl,n,os,rfl⟩
   have hlen:(zs.mergeSort le).length=zs.length:=List.length_mergeSort ..;generalize zs.mergeSort le=zs' at hlen ⊢;have hold: ∀k,k<w.heap.size->(Sort.grow (Sort.putRow enc (Sort.ahead w n) b 0 zs'.toArray) os).heap[k]? =(w.heap.modify b (Sort.onCells (Sort.putCells enc 0 zs'.toArray)))[k]? :=λk hk=>by
    rw[Sort.heap_grow_old]
    ·rfl
    ·simpa[Sort.putRow,Sort.mapBlock,Sort.ahead]using hk
   have hb:(Sort.grow (Sort.putRow enc (Sort.ahead w n) b 0 zs'.toArray) os).heap[b]? =some (.cells (Sort.putCells enc 0 zs'.toArray cur) et fz):=by
    rw[hold b hlt,ybN,yag rfl,m1];rfl
   have hsz:(Sort.putCells enc 0 zs'.toArray cur).size=cur.size:=by simp[Sort.putCells]
   have st:=zcV (w':=Sort.grow (Sort.putRow enc (Sort.ahead w n) b 0 zs'.toArray) os) (r':=some (b,cap)) (o:= .arr 1 (zs.map dec) 0) (o':= .arr 1 (zs'.map dec) 0) H rfl g2 rfl rfl rfl
    (by simp[Sort.grow,Sort.putRow,Sort.mapBlock,Sort.ahead])
    (λk hk hk'=>by rw[hold k hk,ybN,yac λe=>hk' cap (by rw[e])]) (.inl rfl)
    (λj u b' c' _ hmu _=>absurd (yai j) (by simpa[Obj.mutAt]using hmu)) (λ_ j hj=>hj) ⟨rfl,by simp[hlen],λ_=>rfl⟩
    (λhf he=>⟨yai _,_,et,fz,hb,by rw[hsz,m2],by simpa[hlen]using m3,m4,m5,λx hx=>by
      simp only[ycd]at hx;obtain⟨a,_,rfl⟩:=hx;rw[D.cells_one (h1 a)];rfl,by
      rw[hsz];intro cs t fz' he';rw[hb]at he';cases he';exact m7 cur et fz m1,λj x hj=>by
      rw[zel h1,yau,yab]at hj;obtain⟨a,ha,rfl⟩:=hj;have hj:=lt_of_getElem? ha;refine⟨enc a, ?_,h2 _ _ a,h1 a⟩;rw[Sort.putCells,Array.getElem?_mapIdx,ybe (show j<cur.size by omega),yaM,yag (by simp;omega),ydQ,getElem!_pos zs'.toArray j (by simpa using hj)]
      simp[(List.getElem?_eq_some_iff.1 ha).2]⟩)
   rw[zbT g2]at st;exact⟨ρ,_,rfl,⟨st.1,st.2.1,st.2.2⟩,hret _ _ _⟩
def zhL: ∀ {xs:List D} {zs:List Int},znt xs=some zs->xs=zs.map λn=> .int .i64 n
 |[],zs,h=>by simp only[znt,yaa]at h;subst h;rfl
 |x::xs,zs,h=>by
  unfold znt at h;split at h
  ·simp only[yaa]at h;subst h;rename_i e;cases e
  ·rename_i n xs' e
   cases e;simp only[yab]at h;obtain⟨l,h1,rfl⟩:=h;rw[zhL h1];rfl
  ·cases h
def zhM: ∀ {xs:List D} {zs:List (List UInt8)},znu xs=some zs->xs=zs.map strD
 |[],zs,h=>by simp only[znu,yaa]at h;subst h;rfl
 |x::xs,zs,h=>by
  unfold znu at h;split at h
  ·rename_i e;cases e
  ·rename_i n xs' e
   cases e;simp only[yab]at h;obtain⟨l,h1,rfl⟩:=h;rw[zhM h1];rfl
  ·cases h
abbrev zJj (l:List UInt8):Value:= .string ⟨l.toArray⟩
def zn0 (P:Program) (G:Nat->Option (List D)) (f:FuncId):Prop:=
 (zcw G f=1->Sorter P f (Value.int .i64) leI)/\(zcw G f=2->Sorter P f zJj leS)
def zjL (G:Nat->Option (List D)) (f:FuncId):zcw G f=0\/zcw G f=1\/zcw G f=2:=by
 unfold zcw;split
 ·split
  ·simp
  ·split <;> simp
 ·simp
def zsG {k:Nat} {args:List V} {h:List Obj} {r:List V × List Obj} (hr:znv k args h=some r):
 ∃xs,args=[.arr 0 xs.length]/\h=[.arr 1 xs 0]/\xs.length<=65536/\(k=1-> ∃zs:List Int,znt xs=some zs/\r=([],[.arr 1 ((zec leI zs).map λn=> .int .i64 n) 0]))/\
  (k≠1-> ∃zs:List (List UInt8),znu xs=some zs/\r=([],[.arr 1 ((zec leS zs).map strD) 0])):=by
 unfold znv at hr;split at hr
 ·rename_i n xs
  split at hr
  ·rename_i hn
   obtain⟨rfl,hn⟩:=hn;refine⟨xs,rfl,rfl,hn,λhk=> ?_,λhk=> ?_⟩
   ·rw[yag hk,yab]at hr
    obtain⟨zs,h1,rfl⟩:=hr;exact⟨zs,h1,rfl⟩
   ·rw[yac hk,yab]at hr
    obtain⟨zs,h1,rfl⟩:=hr;exact⟨zs,h1,rfl⟩
  ·cases hr
 ·cases hr
def zzT {G:Nat->Option (List D)} (hs:zn0 P G f) (hk:zcw G f≠0) {args:List V} {h h':List Obj} {rets:List V} (hr:znv (zcw G f) args h=some (rets,h')):
 ∀ (X:Nat->Nat->Prop) (ρ:Places) (w:World) (vs:List Value),HRel X ρ h w->zb5 X ρ h w vs args->
  Calls P f vs.toArray w λe w'=> ∃ρ' rv,e= .returned rv/\Stp X ρ h w ρ' h' w'/\zlm X ρ' h' w' rv rets:=by
 intro X ρ w vs H ha;obtain⟨xs,rfl,rfl,hn,k1,k2⟩:=zsG hr;rcases zjL G f with e | e | e
 ·exact absurd e hk
 ·obtain⟨zs,e1,e2⟩:=k1 e
  cases e2;rw[zhL e1,yah]at ha hn;rw[zhL e1]at H ⊢;rw[<- zB8];exact znZ (λ_=>rfl) (λ_ _ a=> .int _ a) (λ_ _ v a h=>by cases h;rfl) (hs.1 e) hn H ha
 ·obtain⟨zs,e1,e2⟩:=k2 (by omega)
  cases e2;rw[zhM e1,yah]at ha hn;rw[zhM e1]at H ⊢;rw[<- zB9];exact znZ (λ_=>rfl) (λ_ _ a=> .str _) (λ_ _ v a h=>by cases h;rfl) (hs.2 e) hn H ha
end
end Go.Am
namespace Go.Am
section
variable {X:Nat->Nat->Prop} {ρ ρ' ρ'':Places} {h h' h'' h2:List Obj} {w w' w'':World} {k:Nat} {P:Program} {G:Nat->Option (List D)}
def zkX {t:TypeId} {v u:Value} (hr:(Instr.loadAt t v).run P w= .ok u w):(do loadVar t (<- asAddr v)).run P w= .ok u w:=by
 cases v with
 |pointer a=>
  cases a with
  |none=>simp[Instr.loadAt,Instr.sureAddr]at hr
  |some a=>simpa[Instr.loadAt,Instr.sureAddr,asAddr]using hr
 |_=>simp[Instr.loadAt,Instr.sureAddr]at hr
def zgS (tmps:Array Value):ResultVar->Sem Value
 |.tmp t=>pure (tmps.getD t undef)
 |.cell a t=>do loadVar t (<- asAddr (tmps.getD a undef))
def zhN {tmps:Array Value} {s:Slots} (H:HRel X ρ h w) (hs:SRel X ρ h w tmps s): ∀ (l:List ResultVar) (vs:List V),zsd P s h l=some vs->
 ∃us:List Value,(l.mapM (zgS tmps)).run P w= .ok us w/\zb5 X ρ h w us vs
 |[],vs,hr=>by
  simp only[zsd,yaa]at hr;subst hr;exact⟨[],by simp,rfl,λj A hj=>by simp at hj⟩
 |.tmp t::l,vs,hr=>by
  simp only[zsd,yab]at hr;obtain⟨vs',hr',rfl⟩:=hr;obtain⟨us,h1,h2,h3⟩:=zhN H hs l vs' hr';refine⟨tmps.getD t undef::us,by simp[zgS,h1],by simp[h2],λj A hj=> ?_⟩
  cases j with
  |zero=>simp only[yaF,yaa]at hj;subst hj;exact⟨_,rfl,hs t⟩
  |succ j=>simpa using h3 j A (by simpa using hj)
 |.cell a t::l,vs,hr=>by
  simp only[zsd]at hr;split at hr
  ·rename_i v vs' hl hr'
   simp only[yaa]at hr;subst hr;obtain⟨us,h1,h2,h3⟩:=zhN H hs l vs' hr';obtain⟨u,h4,h5⟩:=zjm hl H (hs a);have h6:=zkX h4;refine⟨u::us, ?_,by simp[h2],λj A hj=> ?_⟩
   ·simp only[ya2,zgS,Sem.run_bind]
    simp only[Sem.run_bind]at h6;rw[h6];simp[h1]
   ·cases j with
    |zero=>simp only[yaF,yaa]at hj;subst hj;exact⟨u,rfl,h5⟩
    |succ j=>simpa using h3 j A (by simpa using hj)
  ·cases hr
def zpT {fn:Func} {tmps:Array Value} {us:List Value} (hr:(fn.results.toList.mapM (zgS tmps)).run P w= .ok us w):(results fn tmps).run P w= .ok (zll us) w:=by
 have e:results fn tmps=(do let vs <- fn.results.mapM (zgS tmps);pure (if h:vs.size=1 then vs[0] else .tuple vs)):=by
  unfold results;congr 1
 rw[e,ydC];simp only[Sem.run_bind,Sem.run_map,hr]
 match us with
 |[]=>simp[zll]
 |[v]=>simp[zll]
 |v::u::us=>simp[zll]
def zgc: ∀ (vs:List V) (ts:List TypeId) (ρ:Places) (h:List Obj) (us:List Value),HRel X ρ h w->zb5 X ρ h w us vs->
 ∃ρ',Stp X ρ h w ρ' (zji P h vs ts).2 w/\zb5 X ρ' (zji P h vs ts).2 w us (zji P h vs ts).1
 |[],ts,ρ,h,us,H,ha=>⟨ρ,Stp.refl H,ha⟩
 |v::vs,ts,ρ,h,us,H,⟨hl,hg⟩=>by
  match us,hl,hg with
  |u::us,hl,hg=>
  obtain⟨u',e,hv⟩:=hg 0 v (by simp)
  simp only[yaF,yaa]at e;subst e;have tail:zb5 X ρ h w us vs:=⟨by simpa using hl,λj A hj=>by simpa using hg (j+1) A (by simpa using hj)⟩
  simp only[zji];split
  ·obtain⟨n1,n2⟩:=zpA H (za3 P (ts.headD 0))
   have hu:u= .slice none 0 0:=hv;subst hu;obtain⟨ρ',s1,l1,r1⟩:=zgc vs ts.tail _ _ us n1.rel ⟨tail.1,λj A hj=>let ⟨v,a,b⟩:=tail.2 j A hj;⟨v,a,n1.vrel b⟩⟩
   refine⟨ρ',n1.trans H s1,by simp[l1],λj A hj=> ?_⟩
   cases j with
   |zero=>simp only[yaF,yaa]at hj;subst hj;exact⟨_,rfl,s1.vrel n2⟩
   |succ j=>simpa using r1 j A (by simpa using hj)
  ·obtain⟨ρ',s1,l1,r1⟩:=zgc vs ts.tail _ _ us H tail
   refine⟨ρ',s1,by simp[l1],λj A hj=> ?_⟩
   cases j with
   |zero=>simp only[yaF,yaa]at hj;subst hj;exact⟨_,rfl,s1.vrel hv⟩
   |succ j=>simpa using r1 j A (by simpa using hj)
def zn1 {ts:List TypeId} {vs ws:List V} {us:List Value} (hx:zgw P k ts vs h=some (ws,h2)) (H:HRel X ρ h w) (ha:zb5 X ρ h w us vs) (hk:k<=h.length):
 ∃ρ2,Stk k X ρ h w ρ2 h2 w/\zlm X ρ2 h2 w (zll us) ws:=by
 unfold zgw at hx;obtain⟨ρ1,s1,r1⟩:=zgc (P:=P) vs ts ρ h us H ha;generalize zji P h vs ts=p at*;simp only at hx;obtain⟨r,hr⟩:=zf8 p.2 k (p.1.flatMap V.ids);have hn:(zbi p.2 (zaj (List.range k) (p.1.flatMap V.ids))).Nodup:=zef _ (zch _ _ ydg);generalize zbi p.2 (zaj (List.range k) (p.1.flatMap V.ids))=ids at*;split at hx
 ·rename_i s3 h3 e1 e2
  simp only[yaa,yad]at hx;obtain⟨rfl,rfl⟩:=hx;obtain⟨R,st⟩:=zjH s1.rel hn e2 hr;obtain⟨m1,m2⟩:=zaY e1;refine⟨_,(s1.stk H hk).trans st,us,by rw[r1.1,m1],λj B hj=> ?_,rfl⟩
  obtain⟨A,hA,hAr⟩:=m2 j B hj;obtain⟨u,hu,hv⟩:=r1.2 j A hA;refine⟨u,hu,V2.ren R ?_ hAr⟩;cases A with
  |tup vs=>simp[V.ren2,V.ren1,V.ren0]at hAr
  |_=>exact hv
 ·cases hx
def zfU: ∀ (args:List V) (i t:Nat),zbF (zao i args) t=if i<=t then args.getD (t - i) .dead else .dead
 |[],i,t=>by simp[zao,zbF]
 |v::vs,i,t=>by
  simp only[zao,zbF];rw[zfU vs (i+1) t]
  by_cases e:i=t
  ·subst e;simp
  ·rw[yac e]
   by_cases h1:i<=t
   ·rw[yag h1,yag (by omega),show t - i=t - (i+1)+1 by omega,ydp]
   ·rw[yac h1,yac (by omega)]
def ziy {n:Nat} {fn:Func} {tmps:Array Value} {R:Ending->World->Prop} {N:Nat} {Z:World->Prop} (hZ: ∀ (W:World) (D:Nat),Z W->N<=D->W.heap[D]? =some (.deferred (some []))->zpi ρ D->Z (W.putObj D (.deferred none)))
 (hR: ∀W,Z W-> ∃v,(results fn tmps).run P W= .ok v W/\R (.returned v) W):
 ∀ (Ds:List Nat) (W:World),Z W->Ds.Nodup->(∀D∈Ds,N<=D/\W.heap[D]? =some (.deferred (some []))/\zpi ρ D)->
  LeavesInM (Fw none) n P fn tmps R (Ds.map λD=> { target:= .collected D,args:= #[] }) .returning W
 |[],W,hz,_,_=>hR W hz
 |D::Ds,W,hz,hn,hd=>by
  obtain⟨h1,h2⟩:=List.nodup_cons.1 hn;obtain⟨d1,d2,d3⟩:=hd D (ybb ..);refine⟨by simp,.inl ⟨D,_,rfl,run_takeDeferred d2,ziy hZ hR Ds _ (hZ W D hz d1 d2 d3) h2 λD' hD'=> ?_⟩⟩
  obtain⟨e1,e2,e3⟩:=hd D' (yaZ _ hD');exact⟨e1,(World.putObj_heap_other (show D'≠D from λe=>h1 (by rw[<- e];exact hD'))).trans e2,e3⟩
def zxu {run:Run} {K:zhA} {Sh:zhz} (hit: ∀g,zdR G g=true->zgb P g) (hm:P.follows .mixedOrders=true) {loopI:(Slots->List Obj->Res)->Slots->List Obj->Res} (hrun:zdU P G run) (hhas:zc5 P run)
 (zgd: ∀ (k nt:Nat) (X:Nat->Nat->Prop) (rd:Option Nat) (c:Code) (f:Slots->List Obj->Res),zqZ k P X G nt rd c f->zqZ k P X G nt rd (.loop c) (loopI f)):
 zdU P G (bodyV P G K Sh run loopI)/\zc5 P (bodyV P G K Sh run loopI):=by
 have open' : ∀ f args h r, bodyV P G K Sh run loopI f args h = some r -> ∃ fn c, P.funcs[f]? = some fn /\ fn.body = some c /\ (fn.name == "runtime.NumGoroutine") = false /\ codeOk P (Sh f) fn.ntmps c = true /\
  args.length<=fn.ntmps/\zB4 P fn h.length (codeV P G K Sh run loopI f h.length 0 c (zao 0 args) h)=some r:=λf args h r hr=>by
  unfold bodyV at hr;split at hr
  ·cases hr
  ·rename_i fn hf
   split at hr
   ·cases hr
   ·rename_i c hb
    split at hr
    ·rename_i hc
     simp only[yaw,yaB,yc2]at hc;exact⟨fn,c,hf,hb,hc.2,hc.1.1,hc.1.2,hr⟩
    ·cases hr
 refine⟨λf args h rets h' hr X ρ w vs H hg ha=> ?_,λf args h r hr=> ?_⟩
 ·obtain⟨fn,c,hf,hb,_,hok,hle,he⟩:=open' _ _ _ _ hr
  refine (callsIn_wide (n:=9)).1 (callsIn_of_wp_marks (F:=Fw none) hf hb trivial ?_);have S:St X G fn.ntmps ρ h w { tmps:=vs.toArray++Array.replicate (fn.ntmps - vs.toArray.size) undef,defers:=[] } (zao 0 args):=by
   refine⟨H,hg,λt=> ?_, ?_⟩
   ·rw[zfU,yag (yai _),ydQ]
    rcases ybL t args.length with ht | ht
    ·obtain⟨v,h1,h2⟩:=ha.2 t args[t] (by simp[ht])
     have h3:args.getD t .dead=args[t]:=by simp[yas,ht]
     rw[h3,yav,yb1 (by simpa[ha.1]using ht),yda,h1]
     exact h2
    ·have h3:args.getD t .dead= .dead:=by simp[yas,yaL ht]
     rw[h3];trivial
   ·have:=ha.1
    simp only[ycD,ycg,ydm];omega
  cases hcv:codeV P G K Sh run loopI f h.length 0 c (zao 0 args) h with
  |none=>rw[hcv]at he;cases he
  |some q=>
   obtain⟨o,s1,h1⟩:=q;rw[hcv]at he;refine zsE hm hrun hhas hit (λk rd c f=>zgd k _ _ rd c f) c _ 0 hok (.inl rfl) 9 w.heap.size ρ _ h _ w _ _ hcv ⟨S,⟨[],rfl,ydX,λ_ h=>by cases h⟩,yaj _⟩ (yaj _) fun ρ1 a1 w1 st S1=> ?_
   have key:obind (zsd P s1 h1 fn.results.toList) (λvs=>zgw P h.length fn.resultTypes.toList vs h1)=some (rets,h')->
    LeavesInM (Fw none) 9 P fn a1.tmps (λe w'=> ∃ρ' rv,e= .returned rv/\Stp X ρ h w ρ' h' w'/\zlm X ρ' h' w' rv rets) a1.defers .returning w1:=λhe=>by
    obtain⟨Ds,d1,d2,d3⟩:=S1.marks;rw[d1];refine ziy (ρ:=ρ1) (N:=w.heap.size) (Z:=λW=>Stk h.length X ρ h w ρ1 h1 W/\SRel X ρ1 h1 W a1.tmps s1) (λW D hz hN hD hno=> ?_) (λW hz=> ?_) Ds w1 ⟨st,S1.st.slots⟩ d2 d3
    ·have A:Aside ρ1 w.heap.size W (W.putObj D (.deferred none)):=Aside.put hD rfl rfl hno hN
     exact⟨A.stk hz.1,hz.2.aside A⟩
    ·obtain⟨stW,srW⟩:=hz
     cases hres:zsd P s1 h1 fn.results.toList with
     |none=>rw[hres]at he;cases he
     |some rs=>
      rw[hres]at he;obtain⟨us,r1,r2⟩:=zhN stW.rel srW _ _ hres;obtain⟨ρ2,st2,rr⟩:=zn1 he stW.rel r2 stW.le;have st3:=stW.trans st2;exact⟨_,zpT r1,ρ2,_,rfl,⟨st3.rel,st3.fr,st3.evo⟩,rr⟩
   cases o with
   |normal=>exact key he
   |exit i=>simp[zB4]at he
   |ret=>exact key he
 ·obtain⟨fn,c,hf,hb,hname,_⟩:=open' _ _ _ _ hr
  exact⟨fn,hf,hname,by rw[hb];rfl⟩
def zlz {x y:Option (List V × List Obj)} {r:List V × List Obj} (hj:joinV x y=some r):x=some r/\y=some r:=by
 unfold joinV at hj;split at hj
 ·rename_i e
  exact⟨hj,e ▸ hj⟩
 ·cases hj
def zjM {run:Run} {K:zhA} {Sh:zhz} {loopI:(Slots->List Obj->Res)->Slots->List Obj->Res} {f:FuncId} {args:List V} {r:List V × List Obj} (hr:bodyS P G K Sh run loopI f args h=some r):
 (zcw G f≠0/\znv (zcw G f) args h=some r)\/bodyV P G K Sh run loopI f args h=some r\/ ∃zay,args= .d (.list [])::zay/\bodyV P G K Sh run loopI f (.nilS::zay) h=some r/\bodyV P G K Sh run loopI f (.emp::zay) h=some r:=by
 unfold bodyS at hr;split at hr
 ·exact .inl ⟨‹_›,hr⟩
 ·refine .inr ?_
  split at hr
  ·exact .inr ⟨_,rfl,zlz hr⟩
  ·exact .inl hr
def zxv {run:Run} {K:zhA} {Sh:zhz} (hso: ∀g,zn0 P G g) (hit: ∀g,zdR G g=true->zgb P g) (hm:P.follows .mixedOrders=true) {loopI:(Slots->List Obj->Res)->Slots->List Obj->Res} (hrun:zdU P G run) (hhas:zc5 P run)
 (zgd: ∀ (k nt:Nat) (X:Nat->Nat->Prop) (rd:Option Nat) (c:Code) (f:Slots->List Obj->Res),zqZ k P X G nt rd c f->zqZ k P X G nt rd (.loop c) (loopI f)):
 zdU P G (bodyS P G K Sh run loopI)/\zc5 P (bodyS P G K Sh run loopI):=by
 obtain⟨b1,b2⟩:=zxu (K:=K) (Sh:=Sh) hit hm hrun hhas zgd;refine⟨λf args h rets h' hr X ρ w vs H hg ha=> ?_,λf args h r hr=> ?_⟩
 ·rcases zjM hr with ⟨hk,hr⟩ | hr | ⟨zay,rfl,hr1,hr2⟩
  ·exact zzT (hso f) hk hr X ρ w vs H ha
  ·exact b1 f args h rets h' hr X ρ w vs H hg ha
  ·obtain⟨v,hv1,hv2⟩:=ha.2 0 _ rfl
   have rest': ∀A,zat X ρ h w v A->zb5 X ρ h w vs (A::zay):=λA hA=>⟨by simpa using ha.1,λj B hj=>by
    cases j with
    |zero=>simp only[yaF,yaa]at hj;subst hj;exact⟨v,hv1,hA⟩
    |succ j=>exact ha.2 (j+1) B (by simpa using hj)⟩
   have hrep:Rep (Mut X ρ h) w v (.list []):=hv2;cases hrep with
   |nil a c hac=>
    cases a with
    |none=>
     have:=hac rfl;subst this;exact b1 f _ h rets h' hr1 X ρ w vs H hg (rest' .nilS rfl)
    |some a=>exact b1 f _ h rets h' hr2 X ρ w vs H hg (rest' .emp ⟨a,c,rfl⟩)
   |list b off len cap sz _ vs' e1 e2 e3 e4 e5=>
    have:len=0:=by simpa using e1
    subst this;exact b1 f _ h rets h' hr2 X ρ w vs H hg (rest' .emp ⟨_,_,rfl⟩)
 ·rcases zjM hr with ⟨hk,hr⟩ | hr | ⟨zay,rfl,hr1,hr2⟩
  ·rcases zjL G f with e | e | e
   ·exact absurd e hk
   ·exact ((hso f).1 e).has
   ·exact ((hso f).2 e).has
  ·exact b2 f args h r hr
  ·exact b2 f _ h r hr1
end
end Go.Am
