/- The abstract machine: calls, regions, code. -/
import Derived.Orders
import Derived.LoopN
import Derived.Test.YtlgdomajdebbdaaGreatDoorMachB
set_option linter.all false
namespace Go.Am
def zjX:List Value->Value
 |[v]=>v
 |vs=> .tuple vs.toArray
def zrm (X:Nat->Nat->Prop) (ρ:Places) (h:List Obj) (w:World) (rv:Value) (rets:List V):Prop:=
 ∃us:List Value,us.length=rets.length/\(∀ (j:Nat) (R:V),rets[j]? =some R-> ∃u,us[j]? =some u/\V2 X ρ h w u R)/\rv=zjX us
def zcI (X:Nat->Nat->Prop) (ρ:Places) (h:List Obj) (w:World) (vs:List Value) (args:List V):Prop:=
 vs.length=args.length/\ ∀ (j:Nat) (A:V),args[j]? =some A-> ∃v,vs[j]? =some v/\zaM X ρ h w v A
def zeg (P:Program) (G:Nat->Option (List D)) (run:Run):Prop:=
 ∀ (f:FuncId) (args:List V) (h:List Obj) (rets:List V) (h':List Obj),run f args h=some (rets,h')->
  ∀ (X:Nat->Nat->Prop) (ρ:Places) (w:World) (vs:List Value),HRel X ρ h w->GRel X G ρ h w->zcI X ρ h w vs args->
   Calls P f vs.toArray w λe w'=> ∃ρ' rv,e= .returned rv/\Stp X ρ h w ρ' h' w'/\zrm X ρ' h' w' rv rets
def zdh (P:Program) (run:Run):Prop:=
 ∀ (f : FuncId) (args : List V) (h : List Obj) (r : List V × List Obj), run f args h = some r -> ∃ fn, P.funcs[f]? = some fn /\ (fn.name == "runtime.NumGoroutine") = false /\ fn.body.isNone = false
def zl0 {P:Program} {rf:Bool} {run:Run} {f:FuncId} {args:List V} {h:List Obj} {r:V × List Obj} (hh:zdh P run) (hx:callWith rf run f args h=some r):
 ∃ fn, P.funcs[f]? = some fn /\ (fn.name == "runtime.NumGoroutine") = false /\ fn.body.isNone = false := by
 unfold callWith at hx;split at hx
 ·cases hx
 ·simp only at hx
  split at hx
  ·split at hx
   ·rename_i hr
    exact hh _ _ _ _ hr
   ·cases hx
  ·cases hx
section
variable {X:Nat->Nat->Prop} {ρ ρ':Places} {h h':List Obj} {w w':World} {P:Program} {G:Nat->Option (List D)}
def zpP {v:Value} {A A':V} {rf:Bool} (ha:zhR rf h A=some (A',h')) (H:HRel X ρ h w) (hv:zaM X ρ h w v A):Stp X ρ h w ρ h' w/\zaM X ρ h' w v A':=by
 unfold zhR at ha;split at ha
 ·split at ha
  ·simp only[Option.some.injEq,Prod.mk.injEq]at ha;obtain⟨rfl,rfl⟩:=ha;exact⟨Stp.refl H,hv⟩
  ·simp only[Option.map_eq_some_iff,Prod.exists,Prod.mk.injEq]at ha
   obtain⟨x,h1,hp,rfl,rfl⟩:=ha;obtain⟨st,hr⟩:=zcq hp H hv;exact⟨st,hr⟩
 ·split at ha
  ·simp only[Option.some.injEq,Prod.mk.injEq]at ha;obtain⟨rfl,rfl⟩:=ha;exact⟨Stp.refl H,hv⟩
  ·simp only[Option.map_eq_some_iff,Prod.exists,Prod.mk.injEq]at ha
   obtain⟨x,h1,hp,rfl,rfl⟩:=ha;obtain⟨st,hr⟩:=zcq hp H hv;exact⟨st,hr⟩
 ·simp only[Option.some.injEq,Prod.mk.injEq]at ha;obtain⟨rfl,rfl⟩:=ha;exact⟨Stp.refl H,hv⟩
 ·simp only[Option.some.injEq,Prod.mk.injEq]at ha;obtain⟨rfl,rfl⟩:=ha;exact⟨Stp.refl H,hv⟩
 ·simp only[Option.some.injEq,Prod.mk.injEq]at ha;obtain⟨rfl,rfl⟩:=ha;exact⟨Stp.refl H,hv⟩
 ·simp only[Option.some.injEq,Prod.mk.injEq]at ha;obtain⟨rfl,rfl⟩:=ha;exact⟨Stp.refl H,hv⟩
 ·simp only[Option.map_eq_some_iff,Prod.exists,Prod.mk.injEq]at ha
  obtain⟨x,h1,hp,rfl,rfl⟩:=ha;obtain⟨st,hr⟩:=zcq hp H hv;exact⟨st,hr⟩
def zfF {rf:Bool}: ∀ (args:List V) (h:List Obj) (vs:List Value) (as:List V) (h':List Obj),zdC rf h args=some (as,h')->HRel X ρ h w->zcI X ρ h w vs args->
 Stp X ρ h w ρ h' w/\zcI X ρ h' w vs as
 |[],h,vs,as,h',ha,H,hv=>by
  simp only[zdC,Option.some.injEq,Prod.mk.injEq]at ha;obtain⟨rfl,rfl⟩:=ha;exact⟨Stp.refl H,hv⟩
 |A::args,h,vs,as,h',ha,H,hv=>by
  simp only[zdC]at ha;split at ha
  ·rename_i A' h1 h1e
   split at ha
   ·rename_i as' h2 h2e
    simp only[Option.some.injEq,Prod.mk.injEq]at ha;obtain⟨rfl,rfl⟩:=ha;obtain⟨hl,hg⟩:=hv;cases vs with
    |nil=>simp at hl
    |cons v vs=>
     obtain⟨v',hv1,hv2⟩:=hg 0 A (by simp)
     simp at hv1;subst hv1;obtain⟨s1,r1⟩:=zpP h1e H hv2;obtain⟨s2,l2,r2⟩:=zfF args h1 vs as' h2 h2e s1.rel ⟨by simpa using hl,λj B hj=>by
      obtain⟨u,hu1,hu2⟩:=hg (j+1) B (by simpa using hj)
      exact⟨u,by simpa using hu1,s1.vrel hu2⟩⟩
     refine⟨s1.trans H s2,by simp[l2],λj B hj=> ?_⟩
     cases j with
     |zero=>simp at hj;subst hj;exact⟨v,by simp,s2.vrel r1⟩
     |succ j=>simpa using r2 j B (by simpa using hj)
   ·cases ha
  ·cases ha
def zcI.ren {X':Nat->Nat->Prop} {f:Nat->Option Nat} {ρ2:Places} {h2:List Obj} (R:RenOk X X' f ρ h ρ2 h2) {vs:List Value} {as as2:List V} (ha:zcI X ρ h w vs as) (hm:as.mapM (V.ren f)=some as2):
 zcI X' ρ2 h2 w vs as2:=by
 obtain⟨e1,e2⟩:=zbj hm;refine⟨by rw[e1];exact ha.1,λj B hj=> ?_⟩
 obtain⟨A,hA,hr⟩:=e2 j B hj;obtain⟨v,h1,h2⟩:=ha.2 j A hA;exact⟨v,h1,h2.ren R hr⟩
def zoM {f:Nat->Option Nat} {x y:V} (hx: ∀vs,x≠ .tup vs) (hr:V.ren f x=some y):V.ren2 f x=some y:=by
 cases x with
 |tup vs=>exact absurd rfl (hx vs)
 |_=>exact hr
def zrn {ids:List Nat} {n j i:Nat} (hj:ids[j]? =some i):zjC ids n j=some i:=by simp[zjC,hj]
def zro {ids:List Nat} {n j:Nat} (hj:ids.length<=j):zjC ids n j=some (n+(j - ids.length)):=by simp[zjC,List.getElem?_eq_none hj]
def zjY (H:HRel X ρ h w) {ids:List Nat} (hn:ids.Nodup) {h2:List Obj} (ht:za3 h (zaW ids) ids=some h2) {ρ3:Places} {h3 h3':List Obj}
 (S:Stp (zdg X ρ h ids) (zaI ρ ids) h2 w ρ3 h3 w') (hm:h3.mapM (Obj.ren (zjC ids h.length))=some h3'):
 Stp X ρ h w (zcb ρ ids ρ3++ρ3.drop ids.length) (zcb h ids h3'++h3'.drop ids.length) w'/\
 RenOk (zdg X ρ h ids) X (zjC ids h.length) ρ3 h3 (zcb ρ ids ρ3++ρ3.drop ids.length) (zcb h ids h3'++h3'.drop ids.length):=by
 obtain⟨R2,H2⟩:=zkS (Y:=zdg X ρ h ids) H hn ht (λ_ _ h=>h)
 obtain⟨t1,t2⟩:=zee ht;obtain⟨m1,m2⟩:=zbj hm;obtain⟨_,m3⟩:=zf4 hm;have hle:ids.length<=h3.length:=by rw[<- t1];exact S.evo.le H2
 have hlen3:ρ3.length=h3.length:=S.rel.len;have hidlt: ∀i∈ids,i<h.length:=λi hi=>by
  obtain⟨j,hj⟩:=List.getElem?_of_mem hi;have hlt:j<h2.length:=by rw[t1];exact lt_of_getElem? hj
  obtain⟨i',o,hi',ho,_⟩:=t2 j h2[j] (by simp[hlt])
  rw[hj]at hi';cases hi';exact lt_of_getElem? ho
 obtain⟨a1,a2⟩:=zgL ids h3' h hn hidlt (by omega)
 obtain⟨b1,b2⟩:=zgL ids ρ3 ρ hn (λi hi=>by rw[H.len];exact hidlt i hi) (by omega)
 generalize hh4:zcb h ids h3'++h3'.drop ids.length=h4;generalize hρ4:zcb ρ ids ρ3++ρ3.drop ids.length=ρ4
 -- reading the two lists
 have getH: ∀i,h4[i]? =if i<h.length then (match zaW ids i with | some j=>h3'[j]? | none=>h[i]?) else h3'[ids.length+(i - h.length)]? :=λi=>by
  rw[<- hh4];split
  ·rename_i hi;rw[List.getElem?_append_left (by omega),a2];cases zaW ids i <;> rfl
  ·rename_i hi;rw[List.getElem?_append_right (by omega),a1,List.getElem?_drop]
 have getR: ∀i,ρ4[i]? =if i<h.length then (match zaW ids i with | some j=>ρ3[j]? | none=>ρ[i]?) else ρ3[ids.length+(i - h.length)]? :=λi=>by
  rw[<- hρ4];have:=H.len;split
  ·rename_i hi;rw[List.getElem?_append_left (by omega),b2];cases zaW ids i <;> rfl
  ·rename_i hi;rw[List.getElem?_append_right (by omega),b1,List.getElem?_drop,this]
 -- a callee's number
 have fwd: ∀j i,zjC ids h.length j=some i->j<h3.length->h4[i]? =h3'[j]? /\ρ4[i]? =ρ3[j]? :=λj i hb hj=>by
  rcases Nat.lt_or_ge j ids.length with h1 | h1
  ·have hij:ids[j]? =some ids[j]:=by simp[h1]
   rw[zrn hij,Option.some.injEq]at hb;subst hb;have hlt:=hidlt ids[j] (by simp)
   rw[getH,getR,if_pos hlt,if_pos hlt,zhT hn hij];exact⟨rfl,rfl⟩
  ·rw[zro h1,Option.some.injEq]at hb
   subst hb;rw[getH,getR,if_neg (by omega),if_neg (by omega),show ids.length+(h.length+(j - ids.length) - h.length)=j by omega]
   exact⟨rfl,rfl⟩
 -- every object of the result is a callee's,or one of the zdg
 have cases4: ∀i o,h4[i]? =some o->(∃j,zjC ids h.length j=some i/\j<h3.length/\h3'[j]? =some o/\ρ4[i]? =ρ3[j]?)\/(i∉ids/\i<h.length/\h[i]? =some o/\ρ4[i]? =ρ[i]?):=λi o ho=>by
  rw[getH]at ho;split at ho
  ·rename_i hi
   cases hp:zaW ids i with
   |some j=>
    rw[hp]at ho;have hij:=zeH hp;have hj3:j<h3.length:=by have:=lt_of_getElem? ho;omega
    exact .inl ⟨j,zrn hij,hj3,ho,by rw[getR,if_pos hi,hp]⟩
   |none=>
    rw[hp]at ho;exact .inr ⟨zjW hp,hi,ho,by rw[getR,if_pos hi,hp]⟩
  ·rename_i hi
   have hlt:=lt_of_getElem? ho;refine .inl ⟨ids.length+(i - h.length), ?_,by omega,ho,by rw[getR,if_neg hi]⟩
   rw[zro (by omega)]
   congr 1;omega
 have len4:ρ4.length=h4.length:=by
  rw[<- hh4,<- hρ4,List.length_append,List.length_append,a1,b1,List.length_drop,List.length_drop,m1,hlen3,H.len]
 have placeR: ∀i r,ρ4[i]? =some r->(∃j,zjC ids h.length j=some i/\j<h3.length/\ρ3[j]? =some r)\/(i∉ids/\i<h.length/\ρ[i]? =some r):=λi r hr=>by
  have hlt:i<h4.length:=by rw[<- len4];exact lt_of_getElem? hr
  rcases cases4 i h4[i] (by simp[hlt]) with ⟨j,c1,c2,_,c4⟩ | ⟨c1,c2,_,c4⟩
  ·exact .inl ⟨j,c1,c2,by rw[<- c4,hr]⟩
  ·exact .inr ⟨c1,c2,by rw[<- c4,hr]⟩
 -- the other objects' blocks
 have otherBlock: ∀i b c,i∉ids->ρ[i]? =some (some (b,c))->(∀ (k c':Nat),(zaI ρ ids)[k]? ≠some (some (b,c'))):=λi b c hi hr k c' hk=>by
  have hlt:k<h2.length:=by rw[t1];simpa[zaI]using lt_of_getElem? hk
  obtain⟨i',o,hi',ho,_⟩:=t2 k h2[k] (by simp[hlt])
  rw[zef H hi' ho]at hk;have:=H.inj _ _ b _ _ hr hk;subst this;exact hi (List.mem_of_getElem? hi')
 have hmu: ∀b j,Mut X ρ4 h4 b j->Mut (zdg X ρ h ids) ρ3 h3 b j:=by
  rintro b j (hX | ⟨id,c,o,k1,k2,k3⟩)
  ·exact .inl (.inl hX)
  ·rcases cases4 id o k2 with ⟨j',_,c2,c3,c4⟩ | ⟨c1,_,c3,c4⟩
   ·obtain⟨o3,ho3,hr3⟩:=m2 j' o c3
    exact .inr ⟨j',c,o3,by rw[<- c4,k1],ho3,(zlZ hr3 j).1 k3⟩
   ·exact .inl (.inr ⟨id,c,o,c1,by rw[<- c4,k1],c3,k3⟩)
 have R4:RenOk (zdg X ρ h ids) X (zjC ids h.length) ρ3 h3 ρ4 h4:=⟨λj i hb o ho=>by
  have hlt:=lt_of_getElem? ho;obtain⟨o',ho',hr'⟩:=m3 j o ho;obtain⟨e1,e2⟩:=fwd j i hb hlt;exact⟨o',by rw[e1,ho'],hr',e2⟩,hmu⟩
 have F4:Fr X ρ h w ρ4 h4 w':=by
  refine⟨S.fr.os,S.fr.tape,S.fr.output,S.fr.size,λb hb hno=> ?_,λb j v hnm hc=> ?_⟩
  ·obtain⟨e1,e2⟩:=S.fr.block b hb λk c hk=>by
    have hlt:k<h2.length:=by rw[t1];simpa[zaI]using lt_of_getElem? hk
    obtain⟨i',o,hi',ho,_⟩:=t2 k h2[k] (by simp[hlt])
    rw[zef H hi' ho]at hk;exact hno i' c hk
   refine⟨e1,λid c hid=> ?_⟩
   rcases placeR id _ hid with ⟨j,_,_,c3⟩ | ⟨_,_,c3⟩
   ·exact e2 j c c3
   ·exact hno id c c3
  ·obtain⟨e1,e2⟩:=S.fr.imm b j v (λhm'=>hnm (R2.mu b j hm')) hc
   exact⟨e1,λhm'=>e2 (hmu b j hm')⟩
 have E4:Evo h.length ρ h ρ4 h4:=λid o r hid ho hr=>by
  rw[getH,getR,if_pos hid,if_pos hid];cases hp:zaW ids id with
  |none=>exact⟨o,r,ho,hr,zbJ.refl _ _⟩
  |some j=>
   have hij:=zeH hp;have hj2:j<h2.length:=by rw[t1];exact lt_of_getElem? hij
   obtain⟨i',o',hi',ho',hren⟩:=t2 j h2[j] (by simp[hj2])
   rw[hij]at hi';cases hi';rw[ho]at ho';cases ho';have hrj:(zaI ρ ids)[j]? =some r:=by rw[zef H hij ho,hr]
   obtain⟨o3,r3,g1,g2,g3⟩:=S.evo j h2[j] r hj2 (by simp[hj2]) hrj
   obtain⟨o4,ho4,hr4⟩:=m3 j o3 g1;exact⟨o4,r3,ho4,g2,zvb hren g3 hr4⟩
 refine⟨⟨⟨len4,λid o ho=> ?_,λb j hX=>Nat.lt_of_lt_of_le (H.xlt b j hX) S.fr.size,λid b c j hid hX=> ?_,λi j b c c' hi hj=> ?_⟩,F4,E4⟩,R4⟩
 ·rcases cases4 id o ho with ⟨j,_,c2,c3,c4⟩ | ⟨c1,c2,c3,c4⟩
  ·obtain⟨o3,ho3,hr3⟩:=m2 j o c3
   obtain⟨r,g1,g2⟩:=S.rel.obj j o3 ho3;exact⟨r,by rw[c4,g1],g2.ren R4 hr3⟩
  ·obtain⟨r,g1,g2⟩:=H.obj id o c3
   refine⟨r,by rw[c4,g1],g2.kept F4 E4 λb c hbc=> ?_⟩
   subst hbc;exact (S.fr.block b (H.lt g1) (otherBlock id b c c1 g1)).1
 ·rcases placeR id _ hid with ⟨j',_,_,c3⟩ | ⟨_,_,c3⟩
  ·exact S.rel.xown j' b c j c3 (.inl hX)
  ·exact H.xown id b c j c3 hX
 ·have mixed: ∀i j b c c',i∉ids->ρ[i]? =some (some (b,c))->ρ3[j]? =some (some (b,c'))->False:=λi j b c c' hi h1 h3'=>
   (S.fr.block b (H.lt h1) (otherBlock i b c hi h1)).2 j c' h3'
  rcases placeR i _ hi with ⟨i',c1,c2,c3⟩ | ⟨c1,c2,c3⟩ <;> rcases placeR j _ hj with ⟨j',d1,d2,d3⟩ | ⟨d1,d2,d3⟩
  ·have:=S.rel.inj _ _ b _ _ c3 d3
   subst this;rw[c1]at d1;simpa using d1
  ·exact (mixed j i' b c' c d1 d3 c3).elim
  ·exact (mixed i j' b c c' c1 c3 d3).elim
  ·exact H.inj _ _ b _ _ c3 d3
def zjG {rf:Bool} {run:Run} {f:FuncId} {args:List V} {x:V} {vs:List Value} (hrun:zeg P G run) (hx:callWith rf run f args h=some (x,h')) (H:HRel X ρ h w) (hg:GRel X G ρ h w) (ha:zcI X ρ h w vs args):
 Calls P f vs.toArray w λe w'=> ∃ρ' rv,e= .returned rv/\Stp X ρ h w ρ' h' w'/\zaM X ρ' h' w' rv x:=by
 unfold callWith at hx;split at hx
 ·cases hx
 ·rename_i as h1 hargs
  obtain⟨s1,a1⟩:=zfF args h vs as h1 hargs H ha;have H1:=s1.rel;generalize hids:zco h1 (zay [] (as.flatMap V.ids))=ids at hx;have hn:ids.Nodup:=by rw[<- hids];exact zfE _ (zc4 _ _ (by simp))
  simp only at hx;split at hx
  ·rename_i as2 hin hm ht
   split at hx
   ·rename_i rets hout hr
    split at hx
    ·rename_i rets2 hout2 hmr hmo
     simp only[Option.some.injEq,Prod.mk.injEq]at hx;obtain⟨rfl,rfl⟩:=hx;obtain⟨R2,H2⟩:=zkS (Y:=zdg X ρ h1 ids) H1 hn ht (λ_ _ h=>h)
     have g2:GRel (zdg X ρ h1 ids) G (zaI ρ ids) hin w:=λg cs e=>zgG.mono (λb j _ hm hc=>⟨hc,λh'=>hm (R2.mu b j h')⟩) (hg.mono s1.fr g cs e)
     refine (hrun f as2 hin rets hout hr (zdg X ρ h1 ids) _ w vs H2 g2 (a1.ren R2 hm)).mono ?_
     rintro e w' ⟨ρ3,rv,rfl,S,us,l1,l2,l3⟩
     obtain⟨S4,R4⟩:=zjY H1 hn ht S hmo;refine⟨_,rv,rfl,s1.trans H S4, ?_⟩;obtain⟨e1,e2⟩:=zbj hmr;have hu: ∀ (j:Nat) (R:V),rets2[j]? =some R-> ∃u,us[j]? =some u/\V2 X (zcb ρ ids ρ3++ρ3.drop ids.length) (zcb h1 ids hout2++hout2.drop ids.length) w' u R:=λj R hj=>by
      obtain⟨A,hA,hAr⟩:=e2 j R hj;obtain⟨u,hu1,hu2⟩:=l2 j A hA;refine⟨u,hu1,V2.ren R4 hu2 (zoM (λvs e=> ?_) hAr)⟩
      subst e;exact hu2.elim
     have hl:us.length=rets2.length:=by omega
     subst l3
     match us,rets2,hl,hu with
     |[],[],_,_=>exact⟨_,rfl,by simp,λj c hj=>by simp at hj⟩
     |[u],[R],_,hu=>
      obtain⟨u',h1,h2⟩:=hu 0 R (by simp)
      simp at h1;subst h1;exact h2.vrel
     |u::u'::us,R::R'::rets2,hl,hu=>
      exact⟨_,rfl,by simpa using hl,λj c hj=>by simpa using hu j c hj⟩
    ·cases hx
   ·cases hx
  ·cases hx
def zfw {h h':List Obj} {x:Option (V × List Obj)} {v:V} (hx:zdT h x=some (v,h')):x=some (v,h')/\za0 h h':=by
 unfold zdT at hx;split at hx
 ·split at hx
  ·rename_i hk
   simp only[Option.some.injEq,Prod.mk.injEq]at hx;obtain⟨rfl,rfl⟩:=hx;exact⟨rfl,hk⟩
  ·cases hx
 ·cases hx
def zl1 {P:Program} {run:Run} {f:FuncId} {args:List V} {h:List Obj} {r:V × List Obj} (hh:zdh P run) (hx:callThaw run f args h=some r):
 ∃ fn, P.funcs[f]? = some fn /\ (fn.name == "runtime.NumGoroutine") = false /\ fn.body.isNone = false := by
 unfold callThaw at hx;split at hx
 ·cases hx
 ·split at hx
  ·rename_i hr
   exact hh _ _ _ _ hr
  ·cases hx
def zpQ {v x:V} {h1:List Obj} (hp:zbs v=true) (e:zhR false h v=some (x,h1)):x.ids=[]:=by
 have key: ∀ {y:Option (D × List Obj)},(y.map λ(p:D × List Obj)=>(V.d p.1,p.2))=some (x,h1)->x.ids=[]:=by
  intro y hy;cases y with
  |none=>cases hy
  |some p=>simp only[Option.map_some,Option.some.injEq,Prod.mk.injEq]at hy;rw[<- hy.1];rfl
 cases v with
 |ptr a b=>simp[zbs]at hp
 |mp a=>simp[zbs]at hp
 |clo f c=>simp[zbs]at hp
 |ro cs=>simp only[zhR,Option.some.injEq,Prod.mk.injEq]at e;rw[<- e.1];rfl
 |arr a b=>simp only[zhR,Bool.false_eq_true,if_false]at e;exact key e
 |sl a b c d=>simp only[zhR,Bool.false_eq_true,if_false]at e;exact key e
 |_=>simp only[zhR]at e;exact key e
def ziq: ∀ (args:List V) (h:List Obj) (as:List V) (h1:List Obj),args.all zbs=true->zdC false h args=some (as,h1)->as.flatMap V.ids=[]
 |[],h,as,h1,_,e=>by simp only[zdC,Option.some.injEq,Prod.mk.injEq]at e;rw[<- e.1];rfl
 |v::vs,h,as,h1,hp,e=>by
  simp only[List.all_cons,Bool.and_eq_true]at hp;simp only[zdC]at e;split at e
  ·rename_i x h2 e1
   split at e
   ·rename_i xs h3 e2
    simp only[Option.some.injEq,Prod.mk.injEq]at e;obtain⟨rfl,rfl⟩:=e;rw[List.flatMap_cons,zpQ hp.1 e1,ziq vs h2 xs h3 hp.2 e2];rfl
   ·cases e
  ·cases e
def ztt {v x:V} {h1:List Obj} {g:Nat->Option Nat} (hp:zbs v=true) (e:zhR false h v=some (x,h1)):V.ren g x=some x:=by
 have key: ∀ {y:Option (D × List Obj)},(y.map λ(p:D × List Obj)=>(V.d p.1,p.2))=some (x,h1)->V.ren g x=some x:=by
  intro y hy;cases y with
  |none=>cases hy
  |some p=>simp only[Option.map_some,Option.some.injEq,Prod.mk.injEq]at hy;rw[<- hy.1];rfl
 cases v with
 |ptr a b=>simp[zbs]at hp
 |mp a=>simp[zbs]at hp
 |clo f c=>simp[zbs]at hp
 |ro cs=>simp only[zhR,Option.some.injEq,Prod.mk.injEq]at e;rw[<- e.1];rfl
 |arr a b=>simp only[zhR,Bool.false_eq_true,if_false]at e;exact key e
 |sl a b c d=>simp only[zhR,Bool.false_eq_true,if_false]at e;exact key e
 |_=>simp only[zhR]at e;exact key e
def zl2 {g:Nat->Option Nat}: ∀ (args:List V) (h:List Obj) (as:List V) (h1:List Obj),args.all zbs=true->zdC false h args=some (as,h1)->as.mapM (V.ren g)=some as
 |[],h,as,h1,_,e=>by simp only[zdC,Option.some.injEq,Prod.mk.injEq]at e;rw[<- e.1];rfl
 |v::vs,h,as,h1,hp,e=>by
  simp only[List.all_cons,Bool.and_eq_true]at hp;simp only[zdC]at e;split at e
  ·rename_i x h2 e1
   split at e
   ·rename_i xs h3 e2
    simp only[Option.some.injEq,Prod.mk.injEq]at e;obtain⟨rfl,rfl⟩:=e;rw[List.mapM_cons,ztt hp.1 e1,zl2 vs h2 xs h3 hp.2 e2];rfl
   ·cases e
  ·cases e
def zjZ: ∀ {xs:List D},zdL xs=true->flat xs=xs/\ ∀x∈xs,x.flat=true
 |[],_=>⟨rfl,by simp⟩
 |x::xs,hf=>by
  simp only[zdL,Bool.and_eq_true]at hf;obtain⟨e,a⟩:=zjZ hf.2;refine⟨?_,λy hy=> ?_⟩
  ·have hc:x.cells=[x]:=by
    cases x <;> first | rfl | simp[D.flat]at hf
   simp only[flat]at e ⊢;rw[List.flatMap_cons,e,hc];rfl
  ·rcases List.mem_cons.1 hy with rfl | hy
   ·exact hf.1
   ·exact a y hy
def zkT {M M':Nat->Nat->Prop} {v:Value} {x:D} (hx:x.flat=true) (hr:Rep M w v x):Rep M' w v x:=by
 induction hr with
 |iface t v x _ ih=>exact .iface t v x (ih (by simpa[D.flat]using hx))
 |int k n=>exact .int k n
 |bool b=>exact .bool b
 |str s=>exact .str s
 |nilI=>exact .nilI
 |nilP=>exact .nilP
 |nilM=>exact .nilM
 |nilF=>exact .nilF
 |fn f=>simp[D.flat]at hx
 |nil a c hc=>simp[D.flat]at hx
 |list=>simp[D.flat]at hx
 |agg=>simp[D.flat]at hx
def zvc {Y:Nat->Nat->Prop} {v:Value} {x:V} (hx:x.flat=true) (hr:V1 X ρ h w v x):V1 Y ρ h w v x:=by
 cases x with
 |d x=>exact zkT (M:=Mut X ρ h) (M':=Mut Y ρ h) hx hr
 |nilS=>exact hr
 |emp=>exact hr
 |arr a b=>exact hr
 |sl a b c d=>exact hr
 |ptr a b=>exact hr
 |_=>simp[V.flat]at hx
def ztu {Y:Nat->Nat->Prop} {r:zdD} {o:Obj} (ho:o.flat=true) (hr:ObjRel X ρ h w r o):ObjRel Y ρ h w r o:=by
 cases o with
 |arr sz xs wm=>
  refine⟨hr.1, ?_⟩;cases r with
  |none=>exact hr.2
  |some p=>
   obtain⟨b,c⟩:=p;obtain⟨_,cur,e,fz,h1,h2,h3,h4,h5,h6,h7,h8⟩:=hr;obtain⟨fe,fa⟩:=zjZ ho;refine⟨cur,e,fz,h1,h2,h3,h4,h5,h6,h7,λj x hj=> ?_⟩
   obtain⟨u,g1,g2,g3⟩:=h8 j x hj;rw[fe]at hj;exact⟨u,g1,zkT (fa x (List.mem_of_getElem? hj)) g2,g3⟩
 |box cs=>
  obtain⟨b,c,cur,e,fz,h1,h2,h3,h4,h5⟩:=hr;refine⟨b,c,cur,e,fz,h1,h2,h3,h4,λj x hj=> ?_⟩
  obtain⟨u,g1,g2,g3⟩:=h5 j x hj;exact⟨u,g1,zvc (List.all_eq_true.1 ho x (List.mem_of_getElem? hj)) g2,g3⟩
 |_=>simp[Obj.flat]at ho
def zwY {Y:Nat->Nat->Prop} {v:Value} {x:V} (hx:x.flat=true) (hr:V2 X ρ h w v x):V2 Y ρ h w v x:=by
 cases x with
 |d x=>exact zkT (M:=Mut X ρ h) (M':=Mut Y ρ h) hx hr
 |nilS=>exact hr
 |emp=>exact hr
 |arr a b=>exact hr
 |sl a b c d=>exact hr
 |ptr a b=>exact hr
 |_=>simp[V.flat]at hx
def zjH {run:Run} {f:FuncId} {args:List V} {x:V} {vs:List Value} (hrun:zeg P G run) (hx:callThaw run f args h=some (x,h')) (H:HRel X ρ h w) (hg:GRel X G ρ h w) (ha:zcI X ρ h w vs args):
 Calls P f vs.toArray w λe w'=> ∃ρ' rv,e= .returned rv/\Stp X ρ h w ρ' h' w'/\zaM X ρ' h' w' rv x:=by
 unfold callThaw at hx;split at hx
 ·cases hx
 ·rename_i as h1 hargs
  split at hx
  ·rename_i rets hout hr
   split at hx
   ·rename_i hfl
    simp only[Bool.and_eq_true]at hfl;obtain⟨⟨hpure,hrf⟩,hof⟩:=hfl;split at hx
    ·rename_i rets2 hout2 hmr hmo
     simp only[Option.some.injEq,Prod.mk.injEq]at hx;obtain⟨rfl,rfl⟩:=hx;have hno:=ziq args h as h1 hpure hargs;obtain⟨s1,a1⟩:=zfF args h vs as h1 hargs H ha;have H1:=s1.rel;have hn:([]:List Nat).Nodup:=List.nodup_nil;have ht1:za3 h1 (zaW []) []=some []:=rfl;have ht:za3 h (zaW []) []=some []:=rfl;obtain⟨R2,H2⟩:=zkS (Y:=zdg X ρ h1 []) H1 hn ht1 (λ_ _ h=>h)
     have g2:GRel (zdg X ρ h1 []) G (zaI ρ []) [] w:=λg cs e=>zgG.mono (λb j _ hm hc=>⟨hc,λh'=>hm (R2.mu b j h')⟩) (hg.mono s1.fr g cs e)
     have hm:as.mapM (V.ren (zaW []))=some as:=zl2 args h as h1 hpure hargs;refine (hrun f as [] rets hout hr (zdg X ρ h1 []) _ w vs H2 g2 (a1.ren R2 hm)).mono ?_
     rintro e w' ⟨ρ3,rv,rfl,S,us,l1,l2,l3⟩
     -- what was frozen is own again
     have hlt: ∀b j,zdg X ρ h [] b j->b<w.heap.size:=by
      rintro b j (hX | ⟨id,c,o,_,k1,k2,k3⟩)
      ·exact H.xlt b j hX
      ·exact H.lt k1
     have S':Stp (zdg X ρ h []) (zaI ρ []) [] w ρ3 hout w':=by
      refine⟨⟨S.rel.len,λid o ho=> ?_,λb j hX=>Nat.lt_of_lt_of_le (hlt b j hX) S.fr.size,λid b c j hid hX=> ?_,S.rel.inj⟩,⟨S.fr.os,S.fr.tape,S.fr.output,S.fr.size,S.fr.block,λb j v hnm hc=> ?_⟩,λid o r hid=>by simp at hid⟩
      ·obtain⟨r,g1,g3⟩:=S.rel.obj id o ho
       exact⟨r,g1,ztu (List.all_eq_true.1 hof o (List.mem_of_getElem? ho)) g3⟩
      ·exact (S.fr.block b (hlt b j hX) (λk c' hk=>by simp[zaI]at hk)).2 id c hid
      ·have hnX: ¬ zdg X ρ h [] b j:=λhX=>hnm (.inl hX)
       have hnM: ¬ Mut X ρ h b j:=by
        rintro (hX | ⟨id,c,o,k1,k2,k3⟩)
        ·exact hnX (.inl hX)
        ·exact hnX (.inr ⟨id,c,o,by simp,k1,k2,k3⟩)
       have hnM1:=(s1.fr.imm b j v hnM hc).2;obtain⟨e1,e2⟩:=S.fr.imm b j v (by
        rintro ((hX | ⟨id,c,o,_,k1,k2,k3⟩) | ⟨id,c,o,k1,k2,k3⟩)
        ·exact hnM1 (.inl hX)
        ·exact hnM1 (.inr ⟨id,c,o,k1,k2,k3⟩)
        ·simp at k2) hc
       refine⟨e1, ?_⟩
       rintro (hX | hX)
       ·exact hnX hX
       ·exact e2 (.inr hX)
     obtain⟨S4,R4⟩:=zjY H hn ht S' hmo;have e4:zcb ρ [] ρ3++ρ3.drop ([]:List Nat).length=ρ++ρ3:=by simp[zcb]
     have e5:zcb h [] hout2++hout2.drop ([]:List Nat).length=h++hout2:=by simp[zcb]
     rw[e4,e5]at S4 R4;refine⟨_,rv,rfl,S4, ?_⟩;obtain⟨e1,e2⟩:=zbj hmr;have hu: ∀ (j:Nat) (R:V),rets2[j]? =some R-> ∃u,us[j]? =some u/\V2 X (ρ++ρ3) (h++hout2) w' u R:=λj R hj=>by
      obtain⟨A,hA,hAr⟩:=e2 j R hj;obtain⟨u,hu1,hu2⟩:=l2 j A hA;refine⟨u,hu1,V2.ren R4 (zwY (List.all_eq_true.1 hrf A (List.mem_of_getElem? hA)) hu2) (zoM (λvs e=> ?_) hAr)⟩
      subst e;exact hu2.elim
     have hl:us.length=rets2.length:=by omega
     subst l3
     match us,rets2,hl,hu with
     |[],[],_,_=>exact⟨_,rfl,by simp,λj c hj=>by simp at hj⟩
     |[u],[R],_,hu=>
      obtain⟨u',h1,h2⟩:=hu 0 R (by simp)
      simp at h1;subst h1;exact h2.vrel
     |u::u'::us,R::R'::rets2,hl,hu=>
      exact⟨_,rfl,by simpa using hl,λj c hj=>by simpa using hu j c hj⟩
    ·cases hx
   ·cases hx
  ·cases hx
end
end Go.Am
namespace Go.Am
section
variable {X:Nat->Nat->Prop} {ρ ρ':Places} {h h':List Obj} {w w':World} {P:Program} {G:Nat->Option (List D)}
def zho {f : FuncId} {fn : Func} (hf : P.funcs[f]? = some fn) (hname : (fn.name == "runtime.NumGoroutine") = false) (hb : fn.body.isNone = false) (args : Array Value) :
 (callFunc f args).run P w= .ok (.enter f args) w:=by
 simp only[callFunc,Sem.run_bind,run_program,Result.andThen_ok,hf,hname,hb,Bool.false_eq_true,if_false,Sem.run_pure]
def zz1 (X:Nat->Nat->Prop) (ρ:Places) (h:List Obj) (w:World) (a:Act) (dst:Option Tmp) (x:V) (h':List Obj) (K:Act->World->Prop):Prop:=
 ∀v ρ' w',Stp X ρ h w ρ' h' w'->zaM X ρ' h' w' v x->K (a.put dst v) w'
def zaS {o:Oper} {a:Act} {K:Act->World->Prop} {Q:Exit->Act->World->Prop} {x:V} {v:Value} (hr:(execOp a.eval o).run P w= .ok (.value v) w') (hs:Stp X ρ h w ρ' h' w') (hv:zaM X ρ' h' w' v x)
 (hk:zz1 X ρ h w a o.dst x h' K):o.wp P a w K Q:=by
 unfold Oper.wp;rw[hr];exact hk v ρ' w' hs hv
def zgM {a:Act} {s:Slots} (hg:GRel X G ρ h w) (hs:SRel X ρ h w a.tmps s) (xs:List Operand):zcI X ρ h w (xs.map a.eval) (xs.map (ev G s)):=
 ⟨by simp,λj A hj=>by
   simp only[List.getElem?_map,Option.map_eq_some_iff]at hj ⊢;obtain⟨x,hx,rfl⟩:=hj;exact⟨_,⟨x,hx,rfl⟩,zlM hg hs x⟩⟩
def zl3 {a:Act} {s:Slots} (hg:GRel X G ρ h w) (hs:SRel X ρ h w a.tmps s) (ps:List (Nat × Operand)) (j:Nat) (p:Nat × V) (hj:(ps.map λp=>(p.1,ev G s p.2))[j]? =some p):
 ∃u,(ps.map λp=>(p.1,a.eval p.2))[j]? =some (p.1,u)/\zaM X ρ h w u p.2:=by
 simp only[List.getElem?_map,Option.map_eq_some_iff]at hj ⊢;obtain⟨q,hq,rfl⟩:=hj;exact⟨_,⟨q,hq,rfl⟩,zlM hg hs q.2⟩
def zir {a:Act} {s:Slots} (hg:GRel X G ρ h w) (hs:SRel X ρ h w a.tmps s) (x:Option Operand):
 (∀A,x.map (ev G s)=some A-> ∃v,x.map a.eval=some v/\zaM X ρ h w v A)/\(x.map (ev G s)=none->x.map a.eval=none):=by
 cases x with
 |none=>exact⟨λA e=>(by cases e),λ_=>rfl⟩
 |some y=>exact⟨λA e=>(by simp only[Option.map_some,Option.some.injEq]at e;subst e;exact⟨_,rfl,zlM hg hs y⟩),λe=>(by cases e)⟩
def zjI {b:Builtin} {ts:Array TypeId} {ty:TypeId} {cs:Array Bool} {args:List V} {vs:List Value} {x:V} (hx:zbP P h b ts.toList args=some (x,h')) (H:HRel X ρ h w) (ha:zcI X ρ h w vs args):
 ∃v ρ' w',(builtin b ts ty cs vs.toArray).run P w= .ok (.value v) w'/\Stp X ρ h w ρ' h' w'/\zaM X ρ' h' w' v x:=by
 obtain⟨hl,hg⟩:=ha;unfold zbP at hx;split at hx
 ·rename_i t tr A Ar hts
  simp only[Option.map_eq_some_iff,Prod.mk.injEq]at hx;obtain⟨n,hn,rfl,rfl⟩:=hx;obtain⟨v,hv1,hv2⟩:=hg 0 A (by simp)
  have ht0:ts[0]? =some t:=by
   have:ts.toList[0]? =some t:=by rw[hts];rfl
   simpa using this
  have hr:=zpJ (ty:=ty) (ts:=ts) (vs:=vs.toArray) hn H hv2 ht0 (by simpa using hv1)
  exact⟨_,ρ,w,by simp[builtin,hr],Stp.refl H,.int _ _⟩
 ·rename_i t tx tr A B Ar hts
  obtain⟨s,hs1,hs2⟩:=hg 0 A (by simp)
  obtain⟨v,hv1,hv2⟩:=hg 1 B (by simp)
  obtain⟨u,ρ',w',hr,st,hu⟩:=zkR (ty:=ty) hx H hs2 hv2;refine⟨u,ρ',w', ?_,st,hu⟩;have h0:ts[0]? =some t:=by
   have:ts.toList[0]? =some t:=by rw[hts];rfl
   simpa using this
  have h1:ts[1]? =some tx:=by
   have:ts.toList[1]? =some tx:=by rw[hts];rfl
   simpa using this
  have hap:(Builtin.append_ ts ty vs.toArray)=Builtin.append_ #[t,tx] ty #[s,v]:=by
   have e0:vs.toArray[0]? =some s:=by simpa using hs1
   have e1:vs.toArray[1]? =some v:=by simpa using hv1
   simp[Builtin.append_,h0,h1,e0,e1]
  simp[builtin,hap,hr]
 ·rename_i td t2 tr A B Ar hts
  obtain⟨v,hv1,hv2⟩:=hg 0 A (by simp)
  obtain⟨u,hu1,hu2⟩:=hg 1 B (by simp)
  have h0:ts[0]? =some td:=by
   have:ts.toList[0]? =some td:=by rw[hts];rfl
   simpa using this
  obtain⟨z,w',hr,st,hz⟩:=zny (ts:=ts) (ty:=ty) (vs:=vs.toArray) hx H hv2 hu2 h0 (by simpa using hv1) (by simpa using hu1)
  exact⟨z,ρ,w',by simp[builtin,hr],st,hz⟩
 ·rename_i t tr A Ar hts
  obtain⟨v,hv1,hv2⟩:=hg 0 A (by simp)
  have h0:ts[0]? =some t:=by
   have:ts.toList[0]? =some t:=by rw[hts];rfl
   simpa using this
  obtain⟨z,w',hr,st,hz⟩:=zlY (ts:=ts) (ty:=ty) (vs:=vs.toArray) hx H hv2 h0 (by simpa using hv1)
  exact⟨z,ρ,w',by simp[builtin,hr],st,hz⟩
 ·rename_i A r
  simp only[Option.map_eq_some_iff,Prod.mk.injEq]at hx;obtain⟨z,hz,rfl,rfl⟩:=hx;obtain⟨v,hv1,hv2⟩:=hg 0 A (by simp)
  cases vs with
  |nil=>simp at hv1
  |cons v' vs=>
   simp at hv1;subst hv1;obtain⟨u,hu,hu2⟩:=zfD (P:=P) (g:=Builtin.min2) (λA B x v u h1 h2 h3=>zpK h1 h2 h3) r vs A z v' hz hv2 (by simpa using hl) λj c hj=>by simpa using hg (j+1) c (by simpa using hj)
   exact⟨u,ρ,w,by simp[builtin,Builtin.min_,hu],Stp.refl H,hu2⟩
 ·rename_i A r
  simp only[Option.map_eq_some_iff,Prod.mk.injEq]at hx;obtain⟨z,hz,rfl,rfl⟩:=hx;obtain⟨v,hv1,hv2⟩:=hg 0 A (by simp)
  cases vs with
  |nil=>simp at hv1
  |cons v' vs=>
   simp at hv1;subst hv1;obtain⟨u,hu,hu2⟩:=zfD (P:=P) (g:=Builtin.max2) (λA B x v u h1 h2 h3=>zpL h1 h2 h3) r vs A z v' hz hv2 (by simpa using hl) λj c hj=>by simpa using hg (j+1) c (by simpa using hj)
   exact⟨u,ρ,w,by simp[builtin,Builtin.max_,hu],Stp.refl H,hu2⟩
 ·cases hx
def zbm {x:Option V} {y:V} (hx:zcE h x=some (y,h')):x=some y/\h'=h:=by
 simp only[zcE,Option.map_eq_some_iff]at hx;obtain⟨v,hv,e⟩:=hx;cases e;exact⟨hv,rfl⟩
def zkU {o:Oper} {a:Act} {K:Act->World->Prop} {Q:Exit->Act->World->Prop} {rf:Bool} {run:Run} {f:FuncId} {args:List V} {vs:List Value} {x:V} (hrun:zeg P G run) (hhas:zdh P run)
 (hx:callWith rf run f args h=some (x,h')) (H:HRel X ρ h w) (hg:GRel X G ρ h w) (ha:zcI X ρ h w vs args) (hr:(execOp a.eval o).run P w=(callFunc f vs.toArray).run P w)
 (hk:zz1 X ρ h w a o.dst x h' K):o.wp P a w K Q:=by
 obtain⟨fn,h1,h2,h3⟩:=zl0 hhas hx;unfold Oper.wp;rw[hr,zho h1 h2 h3];refine (zjG hrun hx H hg ha).mono ?_
 rintro e w' ⟨ρ',rv,rfl,st,hv⟩
 exact hk rv ρ' w' st hv
def zvd {o:Oper} {a:Act} {K:Act->World->Prop} {Q:Exit->Act->World->Prop} {run:Run} {f:FuncId} {args:List V} {vs:List Value} {x:V} (hrun:zeg P G run) (hhas:zdh P run)
 (hx:callThaw run f args h=some (x,h')) (H:HRel X ρ h w) (hg:GRel X G ρ h w) (ha:zcI X ρ h w vs args) (hr:(execOp a.eval o).run P w=(callFunc f vs.toArray).run P w)
 (hk:zz1 X ρ h w a o.dst x h' K):o.wp P a w K Q:=by
 obtain⟨fn,h1,h2,h3⟩:=zl1 hhas hx;unfold Oper.wp;rw[hr,zho h1 h2 h3];refine (zjH hrun hx H hg ha).mono ?_
 rintro e w' ⟨ρ',rv,rfl,st,hv⟩
 exact hk rv ρ' w' st hv
def zrp {run:Run} {s:Slots} {o:Oper} {a:Act} {x:V} {K:Act->World->Prop} {Q:Exit->Act->World->Prop} (hrun:zeg P G run) (hhas:zdh P run) (hx:opV P G run s h o=some (x,h')) (H:HRel X ρ h w) (hg:GRel X G ρ h w)
 (hs:SRel X ρ h w a.tmps s) (hk:zz1 X ρ h w a o.dst x h' K):o.wp P a w K Q:=by
 have E:=λy=>zlM hg hs y
 unfold opV at hx;split at hx
 ·rename_i y ho
  simp only[Option.some.injEq,Prod.mk.injEq]at hx;obtain⟨rfl,rfl⟩:=hx;exact zaS (by simp[execOp,ho]) (Stp.refl H) (E y) hk
 ·rename_i y ho
  simp only[Option.some.injEq,Prod.mk.injEq]at hx;obtain⟨rfl,rfl⟩:=hx;exact zaS (by simp[execOp,ho]) (Stp.refl H) (E y) hk
 ·rename_i c y z ho
  obtain⟨hy,rfl⟩:=zbm hx;obtain⟨t,ht,hv⟩:=zns hy (E c) (E y) (E z);refine zaS (v:=if t then a.eval y else a.eval z) ?_ (Stp.refl H) hv hk
  cases t <;> simp[execOp,ho,ht,asBool]
 ·rename_i t ho
  obtain⟨v,ρ',w',hr,st,hv⟩:=zlW hx H;exact zaS (by simp[execOp,ho,hr]) st hv hk
 ·rename_i t y ho
  split at hx
  ·rename_i hst
   simp only[Option.some.injEq,Prod.mk.injEq]at hx;obtain⟨rfl,rfl⟩:=hx;obtain⟨v,ρ',w',hr,st,hv⟩:=zrj (P:=P) (t:=t) hst H (E y);exact zaS (by simp[execOp,ho,hr]) st hv hk
  ·cases hx
 ·rename_i t parts ho
  obtain⟨hy,rfl⟩:=zbm hx;obtain⟨v,hr,hv⟩:=zlV (rp:=parts.toList.map λp=>(p.1,a.eval p.2)) hy (by simp) (zl3 hg hs parts.toList)
  refine zaS ?_ (Stp.refl H) hv hk;have e:(parts.map λ(i,x)=>(i,a.eval x))=(parts.toList.map λp=>(p.1,a.eval p.2)).toArray:=by
   apply Array.ext';simp
  simp only[execOp,ho,e,Sem.run_bind,hr,Result.andThen_ok,Sem.run_pure]
 ·rename_i t len parts ho
  obtain⟨v,ρ',w',hr,st,hv⟩:=zgK (rp:=parts.toList.map λp=>(p.1,a.eval p.2)) hx H (by simp) (zl3 hg hs parts.toList)
  refine zaS ?_ st hv hk;have e:(parts.map λ(i,x)=>(i,a.eval x))=(parts.toList.map λp=>(p.1,a.eval p.2)).toArray:=by
   apply Array.ext';simp
  simp only[execOp,ho,e,Sem.run_bind,hr,Result.andThen_ok,Sem.run_pure]
 ·rename_i t y ho
  obtain⟨hy,rfl⟩:=zbm hx;obtain⟨v,hr,hv⟩:=zic hy H (E y);exact zaS (by simp[execOp,ho,hr]) (Stp.refl H) hv hk
 ·rename_i t y z ho
  simp only[Option.map_eq_some_iff,Prod.mk.injEq]at hx;obtain⟨h1,hx,rfl,rfl⟩:=hx;obtain⟨w',hr,st⟩:=zlX hx H (E y) (E z);unfold Oper.wp;have:(execOp a.eval o).run P w= .ok .skip w':=by simp[execOp,ho,hr]
  rw[this];exact hk undef ρ w' st ⟨#[],rfl,rfl,λj c hj=>by simp at hj⟩
 ·rename_i y ho
  obtain⟨rfl,⟨ad,hp⟩,hv⟩:=zif hx (E y);exact zaS (v:=a.eval y) (by simp[execOp,ho,hp]) (Stp.refl H) hv hk
 ·rename_i op t y z yT ho
  obtain⟨hy,rfl⟩:=zbm hx;simp only[Option.map_eq_some_iff]at hy;obtain⟨d,hd,rfl⟩:=hy;obtain⟨v,hr,hv⟩:=zpI (P:=P) (Xo:=y) (Yo:=z) hd (E y) (E z);refine zaS (x:= .d d) (v:=v) ?_ (Stp.refl H) hv hk;simp only[execOp,ho];rw[Sem.run_bind,hr];rfl
 ·rename_i op t y ho
  obtain⟨hy,rfl⟩:=zbm hx;simp only[Option.map_eq_some_iff]at hy;obtain⟨d,hd,rfl⟩:=hy;obtain⟨v,hr,hv⟩:=zrg (P:=P) hd (E y);exact zaS (x:= .d d) (v:=v) (by simp[execOp,ho,hr]) (Stp.refl H) hv hk
 ·rename_i src dst y ho
  obtain⟨v,ρ',w',hr,st,hv⟩:=znx hx H (E y);exact zaS (by simp[execOp,ho,hr]) st hv hk
 ·rename_i t y ho
  obtain⟨st,v,hr,hv⟩:=zlU hx H (E y);exact zaS (by simp[execOp,ho,hr]) st hv hk
 ·rename_i f first captured ho
  split at hx
  ·rename_i hf
   simp only[Option.some.injEq,Prod.mk.injEq]at hx;obtain⟨rfl,rfl⟩:=hx;simp only[Bool.and_eq_true,Array.isEmpty_iff]at hf;obtain⟨rfl,hpl⟩:=hf;have ha:=zgM hg hs captured.toList;have hv:zaM X ρ h w (.func (.func f) #[] (captured.map a.eval)) (.clo f (captured.toList.map (ev G s))):=by
    refine⟨captured.map a.eval,rfl,by simp,λj c hj=> ?_⟩
    obtain⟨u,h1,h2⟩:=ha.2 j c hj;refine⟨u,by simpa using h1, ?_⟩
    have hc:=List.all_eq_true.1 hpl c (List.mem_of_getElem? hj);cases c <;> first
     |exact h2
     |simp[V.plain]at hc
   exact zaS (by simp[execOp,ho,Instr.makeFunc]) (Stp.refl H) hv hk
  ·cases hx
 ·rename_i t y z ho
  obtain⟨v,ρ',w',hr,st,hv⟩:=zhL hx H (E y) (E z);exact zaS (by simp[execOp,ho,hr]) st hv hk
 ·rename_i t y lo hi mx ho
  obtain⟨hy,rfl⟩:=zbm hx;obtain⟨v,hr,hv⟩:=zlT (vlo:=lo.map a.eval) (vhi:=hi.map a.eval) (vmx:=mx.map a.eval) hy H (E y) (zir hg hs lo).1 (zir hg hs lo).2 (zir hg hs hi).1 (zir hg hs hi).2 (zir hg hs mx).2;exact zaS (by simp[execOp,ho,hr]) (Stp.refl H) hv hk
 ·rename_i t y f ho
  obtain⟨hy,rfl⟩:=zbm hx;obtain⟨v,hr,hv⟩:=zhJ hy (E y);exact zaS (by simp[execOp,ho,hr]) (Stp.refl H) hv hk
 ·rename_i t y f ho
  obtain⟨hy,rfl⟩:=zbm hx;obtain⟨v,hr,hv⟩:=zlR hy (E y);exact zaS (by simp[execOp,ho,hr]) (Stp.refl H) hv hk
 ·rename_i t y z ho
  obtain⟨hy,rfl⟩:=zbm hx;obtain⟨v,hr,hv⟩:=zhK hy H (E y) (E z);exact zaS (by simp[execOp,ho,hr]) (Stp.refl H) hv hk
 ·rename_i t y z ho
  obtain⟨hy,rfl⟩:=zbm hx;obtain⟨v,hr,hv⟩:=zlS hy (E y) (E z);exact zaS (by simp[execOp,ho,hr]) (Stp.refl H) hv hk
 ·rename_i y xT t ok ho
  obtain⟨hy,rfl⟩:=zbm hx;obtain⟨v,hr,hv⟩:=zkQ (xT:=xT) hy (E y);exact zaS (by simp[execOp,ho,hr]) (Stp.refl H) hv hk
 ·rename_i y i ho
  obtain⟨hy,rfl⟩:=zbm hx;obtain⟨v,hr,hv⟩:=zjF (P:=P) hy (E y);exact zaS (by simp[execOp,ho,hr]) (Stp.refl H) hv hk
 ·rename_i c ho
  have hargs:c.args.map a.eval=(c.args.toList.map a.eval).toArray:=by apply Array.ext';simp
  split at hx
  ·rename_i b hc
   obtain⟨v,ρ',w',hr,st,hv⟩:=zjI (ty:=o.type) (cs:=c.args.map fun | .const _=>true | _=>false) hx H (zgM hg hs c.args.toList)
   refine zaS ?_ st hv hk;simp only[execOp,ho,resolve,hc,hargs];rw[Sem.run_bind,Sem.run_pure,Result.andThen_ok];exact hr
  ·cases hx
  ·rename_i f hc
   unfold calleeV at hx;split at hx
   ·rename_i g hf
    have hv:=E f;rw[hf]at hv;have hfv:a.eval f= .func (.func g) #[] #[]:=by
     generalize a.eval f=vf at hv;cases hv;rfl
    have hex:(execOp a.eval o).run P w=(callFunc g (c.args.toList.map a.eval).toArray).run P w:=by
     simp only[execOp,ho,resolve,hc,hfv,Deferred.ofValue,Sem.run_bind,Sem.run_pure,Result.andThen_ok,invoke,hargs];simp
    split at hx
    ·split at hx
     ·exact zkU hrun hhas (zfw hx).1 H hg (zgM hg hs c.args.toList) hex hk
     ·exact zvd hrun hhas hx H hg (zgM hg hs c.args.toList) hex hk
    ·exact zkU hrun hhas hx H hg (zgM hg hs c.args.toList) hex hk
   ·rename_i g caps hf
    have hv:=E f;rw[hf]at hv;obtain⟨us,hfv,u1,u2⟩:=hv;have ha:=zgM hg hs c.args.toList;refine zkU (vs:=c.args.toList.map a.eval++us.toList) hrun hhas hx H hg ⟨by simp[u1],λj A hj=> ?_⟩ ?_ hk
    ·rcases Nat.lt_or_ge j (c.args.toList.map (ev G s)).length with hlt | hge
     ·rw[List.getElem?_append_left hlt]at hj
      rw[List.getElem?_append_left (by simpa using hlt)]
      exact ha.2 j A hj
     ·rw[List.getElem?_append_right hge]at hj
      rw[List.getElem?_append_right (by simpa using hge)]
      obtain⟨u,hu,hu2⟩:=u2 _ A hj;refine⟨u,by simpa using hu, ?_⟩
      have:V1 X ρ h w u A:=by
       cases A with
       |clo _ _=>exact hu2.elim
       |_=>exact hu2
      exact this.vrel
    ·simp only[execOp,ho,resolve,hc,hfv,Deferred.ofValue,Sem.run_bind,Sem.run_pure,Result.andThen_ok,invoke,hargs]
     congr 2;apply Array.ext';simp
   ·cases hx
 ·cases hx
end
end Go.Am
namespace Go.Am
section
variable (P:Program) (G:Nat->Option (List D)) (run:Run)
noncomputable def zdO (hint:List Nat) (hv:List Obj) (i:Nat) (s:Slots) (h:List Obj) (o:Oper):Option (V × List Obj):=
 if hint.contains i then zcE h (zdF P G hv s o) else if hint.isEmpty || hv.isEmpty || zlG G s o || zbh hint i o then opV P G run s h o else none
noncomputable def zdW (all:List Oper) (hint:List Nat) (hv:List Obj) (i:Nat) (s:Slots) (h:List Obj):Option (Slots × List Obj):=
 match all[i]? with
 |none=>some (s,h)
 |some o=>
  obind (zbt all s o.guard) λw=>
  if w then
   obind (zdO P G run hint hv i s h o) λp=>some (zfC s o.dst p.1,p.2)
  else some (zfC s o.dst (.tup []),h)
noncomputable def zkV (all:List Oper) (hint:List Nat) (hv:List Obj):List Nat->Slots->List Obj->Option (Slots × List Obj)
 |[],s,h=>some (s,h)
 |i::l,s,h=>obind (zdW P G run all hint hv i s h) λp=>zkV all hint hv l p.1 p.2
def zl4 (all:List Oper) (hint:List Nat) (hv:List Obj): ∀ (zaB:List Oper) (i:Nat) (s:Slots) (h:List Obj),(∀j,zaB[j]? =all[i+j]?)->
 opsV P G run all hint hv i zaB s h=zkV P G run all hint hv (List.range' i zaB.length) s h
 |[],i,s,h,_=>by simp[opsV,zkV]
 |o::zaB,i,s,h,hr=>by
  have h0:all[i]? =some o:=by have:=hr 0;simpa using this.symm
  have ih:=zl4 all hint hv zaB (i+1);simp only[opsV,List.length_cons,List.range'_succ,zkV,zdW,h0,zdO];have hr': ∀j,zaB[j]? =all[i+1+j]? :=λj=>by
   have:=hr (j+1);rw[List.getElem?_cons_succ]at this;rw[this];congr 1;omega
  cases hw:zbt all s o.guard with
  |none=>rfl
  |some b=>
   cases b with
   |false=>simp only[obind,Bool.false_eq_true,if_false];exact ih _ _ hr'
   |true=>
    simp only[obind,if_true];cases (if hint.contains i then zcE h (zdF P G hv s o) else if hint.isEmpty || hv.isEmpty || zlG G s o || zbh hint i o then opV P G run s h o else none) with
    |none=>rfl
    |some p=>simp only;exact ih _ _ hr'
end
section
variable {X:Nat->Nat->Prop} {ρ ρ':Places} {h h':List Obj} {w w':World} {P:Program} {G:Nat->Option (List D)}
structure Seen (hv h:List Obj):Prop where
 box: ∀ (id:Nat) (cs:List V),hv[id]? =some (.box cs)->h[id]? =some (.box cs)
 noarr: ∀ (id sz:Nat) (xs:List D) (wm:Nat),hv[id]? ≠some (.arr sz xs wm)
def zf5: ∀ (h:List Obj) (id:Nat) (o:Obj),(zoF h)[id]? =some o->(∃cs,o= .box cs/\h[id]? =some (.box cs))\/o= .siter ⟨#[]⟩ 0
 |[],id,o,h=>by simp[zoF]at h
 |.box cs::h,0,o,e=>by simp only[zoF,List.getElem?_cons_zero,Option.some.injEq]at e;exact .inl ⟨cs,e.symm,rfl⟩
 |.arr _ _ _::h,0,o,e=>by simp only[zoF,List.getElem?_cons_zero,Option.some.injEq]at e;exact .inr e.symm
 |.siter _ _::h,0,o,e=>by simp only[zoF,List.getElem?_cons_zero,Option.some.injEq]at e;exact .inr e.symm
 |.box cs::h,id+1,o,e=>by simpa using zf5 h id o (by simpa[zoF]using e)
 |.arr _ _ _::h,id+1,o,e=>by simpa using zf5 h id o (by simpa[zoF]using e)
 |.siter _ _::h,id+1,o,e=>by simpa using zf5 h id o (by simpa[zoF]using e)
def zoN (h:List Obj):Seen [] h:=⟨λid cs e=>by simp at e,λid sz xs wm e=>by simp at e⟩
def zrq (h:List Obj):Seen (zoF h) h where
 box:=λid cs e=>by
  rcases zf5 h id _ e with ⟨cs',h1,h2⟩ | h1
  ·cases h1;exact h2
  ·cases h1
 noarr:=λid sz xs wm e=>by
  rcases zf5 h id _ e with ⟨cs',h1,_⟩ | h1
  ·cases h1
  ·cases h1
variable {hv:List Obj}
def znA (S:Seen hv h) {t:TypeId} {A x:V} (hx:zgE P hv t A=some x):zgE P h t A=some x:=by
 cases A with
 |ptr id off=>
  simp only[zgE]at hx ⊢;cases e:hv[id]? with
  |none=>rw[e]at hx;cases hx
  |some o=>
   rw[e]at hx;cases o with
   |box cs=>rw[S.box id cs e];exact hx
   |arr _ _ _=>cases hx
   |siter _ _=>cases hx
 |eptr id n i off=>
  simp only[zgE]at hx;cases e:hv[id]? with
  |none=>rw[e]at hx;cases hx
  |some o=>
   rw[e]at hx;cases o with
   |arr _ _ _=>exact absurd e (S.noarr _ _ _ _)
   |_=>cases hx
 |_=>exact hx
def zhM (S:Seen hv h) {t:TypeId} {A I x:V} (hx:zct P hv t A I=some x):zct P h t A I=some x:=by
 unfold zct at hx ⊢;split at hx
 ·split at hx
  ·rename_i hn
   rw[if_pos hn];split at hx
   ·exact hx
   ·split at hx
    ·rename_i e1 e2;first | exact absurd e1 (S.noarr _ _ _ _) | exact absurd e2 (S.noarr _ _ _ _)
    ·cases hx
   ·split at hx
    ·rename_i e1 e2;first | exact absurd e1 (S.noarr _ _ _ _) | exact absurd e2 (S.noarr _ _ _ _)
    ·cases hx
   ·cases hx
  ·cases hx
 ·exact hx
 ·cases hx
def znB (S:Seen hv h) {A:V} {xs:List D} (hx:elems? hv A=some xs):elems? h A=some xs:=by
 unfold elems? at hx ⊢;split at hx
 ·exact hx
 ·exact hx
 ·exact hx
 ·split at hx
  ·rename_i e;exact absurd e (S.noarr _ _ _ _)
  ·cases hx
 ·split at hx
  ·rename_i e;exact absurd e (S.noarr _ _ _ _)
  ·cases hx
 ·cases hx
def zis (S:Seen hv h) {src dst:TypeId} {A x:V} (hx:zbg P hv src dst A=some x):zbg P h src dst A=some x:=by
 unfold zbg at hx ⊢;split at hx
 ·exact hx
 ·exact hx
 ·split at hx
  ·rename_i he hxs
   rw[he,znB S hxs];exact hx
  ·cases hx
 ·cases hx
def zpR {src dst:TypeId} {A x:V} (hx:zbg P h src dst A=some x):zgD P h src dst A=some (x,h):=by
 unfold zgD;split
 ·rename_i e s hs hd
  simp[zbg,hs,hd]at hx
 ·rename_i hs hd
  simp[zbg,hs,hd]at hx
 ·rw[hx];rfl
def zl5 (S:Seen hv h) {t:TypeId} {A x:V} {lo hi mx:Option V} (hx:zhe P hv t A lo hi mx=some x):zhe P h t A lo hi mx=some x:=by
 unfold zhe at hx ⊢;split at hx
 ·exact hx
 ·exact hx
 ·exact hx
 ·split at hx
  ·rename_i e1 e2;first | exact absurd e1 (S.noarr _ _ _ _) | exact absurd e2 (S.noarr _ _ _ _)
  ·cases hx
 ·split at hx
  ·rename_i e1 e2;first | exact absurd e1 (S.noarr _ _ _ _) | exact absurd e2 (S.noarr _ _ _ _)
  ·cases hx
 ·exact hx
 ·cases hx
def zpS (S:Seen hv h) {t:TypeId} {A:V} {n:Nat} (hx:zuB P hv t A=some n):zuB P h t A=some n:=by
 unfold zuB at hx ⊢;split at hx
 ·exact hx
 ·exact hx
 ·exact hx
 ·split at hx
  ·rename_i e;exact absurd e (S.noarr _ _ _ _)
  ·cases hx
 ·exact hx
 ·split at hx
  ·rename_i e;exact absurd e (S.noarr _ _ _ _)
  ·cases hx
 ·exact hx
 ·cases hx
def zrr (S:Seen hv h) {run:Run} {s:Slots} {o:Oper} {x:V} (hx:zdF P G hv s o=some x):opV P G run s h o=some (x,h):=by
 unfold zdF at hx;unfold opV;split at hx
 ·rename_i t a ho;simp only[ho,zcE,znA S hx,Option.map_some]
 ·rename_i t a lo hi mx ho;simp only[ho,zcE,zl5 S hx,Option.map_some]
 ·rename_i t a i ho;simp only[ho,zcE,zhM S hx,Option.map_some]
 ·rename_i src dst a ho;simp only[ho,zpR (zis S hx)]
 ·rename_i c ho
  split at hx
  ·rename_i t tr A Ar hc ht ha
   simp only[Option.map_eq_some_iff]at hx;obtain⟨n,hn,rfl⟩:=hx;simp only[ho,hc,ht,ha,zbP,zpS S hn,Option.map_some]
  ·cases hx
 ·cases hx
def Seen.append (S:Seen hv h) (l:List Obj):Seen hv (h++l):=⟨λid cs e=>by
 have:=S.box id cs e;rw[List.getElem?_append_left (lt_of_getElem? this)];exact this,S.noarr⟩
def Seen.setArr (S:Seen hv h) {i sz:Nat} {xs:List D} {wm:Nat} (ho:h[i]? =some (.arr sz xs wm)) (o:Obj):Seen hv (h.set i o):=⟨λid cs e=>by
 have:=S.box id cs e
 by_cases hi:i=id
 ·subst hi;rw[ho]at this;cases this
 ·rw[List.getElem?_set_ne hi];exact this,S.noarr⟩
def zb2: ∀ {h h':List Obj},za0 h h'-> ∀ (id:Nat) (cs:List V),h[id]? =some (.box cs)->h'[id]? =some (.box cs)
 |[],_,_,id,cs,e=>by simp at e
 |.box cs0::h,.box cs'::h',k,0,cs,e=>by
  simp only[za0]at k;simp only[List.getElem?_cons_zero,Option.some.injEq,Obj.box.injEq]at e ⊢;rw[<- k.1,e]
 |.box cs0::h,.box cs'::h',k,id+1,cs,e=>by
  simp only[za0]at k;simpa using zb2 k.2 id cs (by simpa using e)
 |.box _::_,[],k,_,_,_=>by simp[za0]at k
 |.box _::_,.arr _ _ _::_,k,_,_,_=>by simp[za0]at k
 |.box _::_,.siter _ _::_,k,_,_,_=>by simp[za0]at k
 |.arr _ _ _::h,o::h',k,0,cs,e=>by simp at e
 |.siter _ _::h,o::h',k,0,cs,e=>by simp at e
 |.arr _ _ _::h,o::h',k,id+1,cs,e=>by
  simp only[za0]at k;simpa using zb2 k id cs (by simpa using e)
 |.siter _ _::h,o::h',k,id+1,cs,e=>by
  simp only[za0]at k;simpa using zb2 k id cs (by simpa using e)
 |.arr _ _ _::h,[],k,0,cs,e=>by simp at e
 |.siter _ _::h,[],k,0,cs,e=>by simp at e
 |.arr _ _ _::h,[],k,id+1,cs,e=>by
  simp only[za0]at k;have:=zb2 k id cs (by simpa using e)
  simp at this
 |.siter _ _::h,[],k,id+1,cs,e=>by
  simp only[za0]at k;have:=zb2 k id cs (by simpa using e)
  simp at this
def zrs (k:za0 h h') (S:Seen hv h):Seen hv h':=⟨λid cs e=>zb2 k id cs (S.box id cs e),S.noarr⟩
def zj0 {A:V} {x:D} (hp:zbF h A=some (x,h')) (S:Seen hv h):Seen hv h':=by
 cases A with
 |arr id n=>
  simp only[zbF]at hp;split at hp
  ·rename_i ho
   split at hp
   ·simp only[Option.some.injEq,Prod.mk.injEq]at hp
    obtain⟨_,rfl⟩:=hp;exact S.setArr ho _
   ·cases hp
  ·cases hp
 |d x=>simp only[zbF,Option.some.injEq,Prod.mk.injEq]at hp;obtain⟨_,rfl⟩:=hp;exact S
 |sl id tot off len=>
  simp only[zbF]at hp;split at hp
  ·rename_i ho
   split at hp
   ·simp only[Option.some.injEq,Prod.mk.injEq]at hp
    obtain⟨_,rfl⟩:=hp;exact S.setArr ho _
   ·cases hp
  ·cases hp
 |emp=>simp only[zbF,Option.some.injEq,Prod.mk.injEq]at hp;obtain⟨_,rfl⟩:=hp;exact S
 |nilS=>simp only[zbF,Option.some.injEq,Prod.mk.injEq]at hp;obtain⟨_,rfl⟩:=hp;exact S
 |_=>simp[zbF]at hp
def zf6: ∀ {cs:List V} {xs:List D} {h h':List Obj},zck h cs=some (xs,h')->Seen hv h->Seen hv h'
 |[],xs,h,h',hp,S=>by simp only[zck,Option.some.injEq,Prod.mk.injEq]at hp;obtain⟨_,rfl⟩:=hp;exact S
 |c::cs,xs,h,h',hp,S=>by
  simp only[zck]at hp;split at hp
  ·rename_i h1
   split at hp
   ·rename_i h2
    simp only[Option.some.injEq,Prod.mk.injEq]at hp;obtain⟨_,rfl⟩:=hp;exact zf6 h2 (zj0 h1 S)
   ·cases hp
  ·cases hp
def zdX {A:V} {x:D} (hp:zcN h A=some (x,h')) (S:Seen hv h):Seen hv h':=by
 unfold zcN at hp;split at hp
 ·simp only[Option.map_eq_some_iff,Prod.exists,Prod.mk.injEq]at hp
  obtain⟨xs,h1,hl,_,rfl⟩:=hp;exact zf6 hl S
 ·exact zj0 hp S
def zit: ∀ {cs:List V} {xs:List D} {h h':List Obj},zft h cs=some (xs,h')->Seen hv h->Seen hv h'
 |[],xs,h,h',hp,S=>by simp only[zft,Option.some.injEq,Prod.mk.injEq]at hp;obtain⟨_,rfl⟩:=hp;exact S
 |c::cs,xs,h,h',hp,S=>by
  simp only[zft]at hp;split at hp
  ·rename_i h1
   split at hp
   ·rename_i h2
    simp only[Option.some.injEq,Prod.mk.injEq]at hp;obtain⟨_,rfl⟩:=hp;exact zit h2 (zdX h1 S)
   ·cases hp
  ·cases hp
def zj1: ∀ {cs as:List V} {h h':List Obj},cs.all zbs=true->zdC false h cs=some (as,h')->Seen hv h->Seen hv h'/\as.flatMap V.ids=[]
 |[],as,h,h',_,hp,S=>by simp only[zdC,Option.some.injEq,Prod.mk.injEq]at hp;obtain⟨rfl,rfl⟩:=hp;exact⟨S,rfl⟩
 |c::cs,as,h,h',hc,hp,S=>by
  simp only[List.all_cons,Bool.and_eq_true]at hc;simp only[zdC]at hp;split at hp
  ·rename_i y h1 e1
   split at hp
   ·rename_i h2
    simp only[Option.some.injEq,Prod.mk.injEq]at hp;obtain⟨rfl,rfl⟩:=hp;have key:Seen hv h1/\y.ids=[]:=by
     unfold zhR at e1;split at e1
     ·simp only[Bool.false_eq_true,if_false,Option.map_eq_some_iff,Prod.exists,Prod.mk.injEq]at e1
      obtain⟨x,h3,hl,rfl,rfl⟩:=e1;exact⟨zdX hl S,rfl⟩
     ·simp only[Bool.false_eq_true,if_false,Option.map_eq_some_iff,Prod.exists,Prod.mk.injEq]at e1
      obtain⟨x,h3,hl,rfl,rfl⟩:=e1;exact⟨zdX hl S,rfl⟩
     ·simp[zbs]at hc
     ·simp[zbs]at hc
     ·simp[zbs]at hc
     ·simp only[Option.some.injEq,Prod.mk.injEq]at e1;obtain⟨rfl,rfl⟩:=e1;exact⟨S,rfl⟩
     ·simp only[Option.map_eq_some_iff,Prod.exists,Prod.mk.injEq]at e1
      obtain⟨x,h3,hl,rfl,rfl⟩:=e1;exact⟨zdX hl S,rfl⟩
    obtain⟨k1,k2⟩:=zj1 hc.2 h2 key.1;exact⟨k1,by simp[key.2,k2]⟩
   ·cases hp
  ·cases hp
def zkW {run:Run} {f:FuncId} {args:List V} {x:V} (ha:args.all zbs=true) (hx:callWith false run f args h=some (x,h')) (S:Seen hv h):Seen hv h':=by
 unfold callWith at hx;split at hx
 ·cases hx
 ·rename_i as h1 hargs
  obtain⟨S1,hids⟩:=zj1 ha hargs S;simp only[hids,zay]at hx;have hre:zco h1 []=[]:=by simp[zco,zkO]
  rw[hre]at hx;split at hx
  ·split at hx
   ·split at hx
    ·simp only[Option.some.injEq,Prod.mk.injEq]at hx
     obtain⟨_,rfl⟩:=hx;simp only[zcb];exact S1.append _
    ·cases hx
   ·cases hx
  ·cases hx
def zkX {run:Run} {f:FuncId} {args:List V} {x:V} (hx:callThaw run f args h=some (x,h')) (S:Seen hv h):Seen hv h':=by
 unfold callThaw at hx;split at hx
 ·cases hx
 ·split at hx
  ·split at hx
   ·split at hx
    ·simp only[Option.some.injEq,Prod.mk.injEq]at hx
     obtain⟨_,rfl⟩:=hx;exact S.append _
    ·cases hx
   ·cases hx
  ·cases hx
def zhN {t:TypeId} {n:Nat} {parts:List (Nat × V)} {x:V} (hx:zcn P h t n parts=some (x,h')) (S:Seen hv h):Seen hv h':=by
 unfold zcn at hx;split at hx
 ·split at hx
  ·split at hx
   ·split at hx
    ·rename_i hp
     split at hx
     ·simp only[Option.some.injEq,Prod.mk.injEq]at hx
      obtain⟨_,rfl⟩:=hx;exact (zit hp S).append _
     ·cases hx
    ·cases hx
   ·cases hx
  ·cases hx
 ·cases hx
def zl6 {ts tx:TypeId} {A B x:V} (hx:zfB P h ts tx A B=some (x,h')) (S:Seen hv h):Seen hv h':=by
 unfold zfB at hx;split at hx
 ·split at hx
  ·split at hx
   ·split at hx
    ·split at hx
     ·simp only[Option.some.injEq,Prod.mk.injEq]at hx
      obtain⟨_,rfl⟩:=hx;exact S.append _
     ·cases hx
    ·split at hx
     ·rename_i ho
      split at hx
      ·simp only[Option.some.injEq,Prod.mk.injEq]at hx
       obtain⟨_,rfl⟩:=hx;exact S.setArr ho _
      ·cases hx
     ·cases hx
    ·cases hx
   ·cases hx
  ·cases hx
 ·cases hx
def zj2 {id tot off:Nat} {ys:List D} (hx:znm h id tot off ys=some h') (S:Seen hv h):Seen hv h':=by
 unfold znm at hx;split at hx
 ·rename_i ho
  split at hx
  ·simp only[Option.some.injEq]at hx;subst hx
   exact S.setArr ho _
  ·cases hx
 ·cases hx
def zpT {t:TypeId} {A B x:V} (hx:zpD P h t A B=some (x,h')) (S:Seen hv h):Seen hv h':=by
 unfold zpD at hx;split at hx
 ·split at hx
  ·split at hx
   ·split at hx
    ·simp only[Option.map_eq_some_iff,Prod.mk.injEq]at hx
     obtain⟨h1,ho,_,rfl⟩:=hx;exact zj2 ho S
    ·cases hx
   ·cases hx
  ·cases hx
 ·cases hx
def znC {t:TypeId} {A x:V} (hx:zjR P h t A=some (x,h')) (S:Seen hv h):Seen hv h':=by
 unfold zjR at hx;split at hx
 ·split at hx
  ·split at hx
   ·split at hx
    ·simp only[Option.map_eq_some_iff,Prod.mk.injEq]at hx
     obtain⟨h1,ho,_,rfl⟩:=hx;exact zj2 ho S
    ·cases hx
   ·cases hx
  ·cases hx
 ·cases hx
def ztv {run:Run} {s:Slots} {o:Oper} {x:V} (hm:zlG G s o=true) (hx:opV P G run s h o=some (x,h')) (S:Seen hv h):Seen hv h':=by
 have hw: ∀ {y:Option V},zcE h y=some (x,h')->Seen hv h':=λ{y} e=>by
  cases y with
  |none=>cases e
  |some y=>simp only[zcE,Option.map_some,Option.some.injEq,Prod.mk.injEq]at e;rw[<- e.2];exact S
 cases ho:o.op with
 |move a | assign a=>
  simp only[opV,ho,Option.some.injEq,Prod.mk.injEq]at hx;rw[<- hx.2];exact S
 |pick _ _ _ | binOp _ _ _ _ _ | unOp _ _ _ | fieldAddr _ _ _ | extract _ _ | field _ _ _ | index _ _ _ | typeAssert _ _ _ _ | build _ _ | load _ _ | slice _ _ _ _ _ | indexAddr _ _ _=>
  simp only[opV,ho]at hx;exact hw hx
 |nilCheck a=>
  simp only[opV,ho]at hx;cases hv':ev G s a <;> simp only[hv',zdU,Option.some.injEq,Prod.mk.injEq,reduceCtorEq]at hx <;> (rw[<- hx.2];exact S)
 |alloc t=>
  simp only[opV,ho,zew]at hx;split at hx
  ·split at hx
   ·simp only[Option.some.injEq,Prod.mk.injEq]at hx;rw[<- hx.2];exact S.append _
   ·cases hx
  ·cases hx
 |box t a=>
  simp only[opV,ho]at hx;split at hx
  ·simp only[Option.some.injEq,Prod.mk.injEq]at hx;rw[<- hx.2];exact S.append _
  ·cases hx
 |buildSlice _ _ _=>simp only[opV,ho]at hx;exact zhN hx S
 |convert src dst a=>
  simp only[opV,ho]at hx;unfold zgD at hx;split at hx
  ·split at hx
   ·split at hx
    ·simp only[Option.some.injEq,Prod.mk.injEq]at hx;rw[<- hx.2];exact S.append _
    ·cases hx
   ·cases hx
  ·split at hx
   ·split at hx
    ·simp only[Option.some.injEq,Prod.mk.injEq]at hx;rw[<- hx.2];exact S
    ·cases hx
   ·cases hx
  ·simp only[Option.map_eq_some_iff,Prod.mk.injEq]at hx
   obtain⟨_,_,_,rfl⟩:=hx;exact S
 |makeInterface t a=>
  simp only[opV,ho,zlK]at hx;split at hx
  ·cases hx
  ·simp only[Option.map_eq_some_iff,Prod.exists,Prod.mk.injEq]at hx
   obtain⟨y,h1,hp,_,rfl⟩:=hx;exact zdX hp S
  ·cases hx
 |makeFunc fn first cap=>
  cases fn <;> simp only[opV,ho]at hx
  ·split at hx
   ·simp only[Option.some.injEq,Prod.mk.injEq]at hx;rw[<- hx.2];exact S
   ·cases hx
  all_goals cases hx
 |makeSlice t l c=>
  simp only[opV,ho]at hx;unfold zdp at hx;split at hx
  ·split at hx
   ·split at hx
    ·simp only[Option.some.injEq,Prod.mk.injEq]at hx;rw[<- hx.2];exact S.append _
    ·cases hx
   ·cases hx
  ·cases hx
 |store _ _ _=>simp[zlG,ho]at hm
 |call c=>
  simp only[opV,ho]at hx;simp only[zlG,ho]at hm;cases hc:c.callee with
  |invoke _ _=>rw[hc]at hx;cases hx
  |builtin b=>
   rw[hc]at hx;simp only at hx;unfold zbP at hx;split at hx
   ·simp only[Option.map_eq_some_iff,Prod.mk.injEq]at hx;obtain⟨_,_,_,rfl⟩:=hx;exact S
   ·exact zl6 hx S
   ·exact zpT hx S
   ·exact znC hx S
   ·simp only[Option.map_eq_some_iff,Prod.mk.injEq]at hx;obtain⟨_,_,_,rfl⟩:=hx;exact S
   ·simp only[Option.map_eq_some_iff,Prod.mk.injEq]at hx;obtain⟨_,_,_,rfl⟩:=hx;exact S
   ·cases hx
  |value f=>
   rw[hc]at hx hm;simp only at hx hm;split at hm
   ·rename_i g hg
    rw[hg]at hx;simp only[calleeV]at hx;split at hx
    ·split at hx
     ·exact zrs (zfw hx).2 S
     ·exact zkX hx S
    ·rename_i ht
     simp only[Bool.or_eq_true,Bool.and_eq_true]at hm;have hm':=hm.resolve_right λh=>ht h.1
     have hb:zad G g=false:=by simpa using hm'.1
     rw[hb]at hx;exact zkW hm'.2 hx S
   ·simp at hm
 |_=>simp[opV,ho]at hx
def ztw {tmps:Array Value} {d t:Nat} {v:Value} (hd:d<tmps.size):(tmps.setIfInBounds d v).getD t undef=if d=t then v else tmps.getD t undef:=by
 simp only[Array.getD_eq_getD_getElem?,Array.getElem?_setIfInBounds]
 by_cases e:d=t
 ·subst e;simp[hd]
 ·simp[e]
def SRel.put {a:Act} {s:Slots} {dst:Option Tmp} {v:Value} {x:V} (hs:SRel X ρ h w a.tmps s) (hv:zaM X ρ h w v x) (hd: ∀d,dst=some d->d<a.tmps.size):SRel X ρ h w (a.put dst v).tmps (zfC s dst x):=by
 cases dst with
 |none=>exact hs
 |some d=>
  intro t;simp only[Act.put,zfC,zak,ztw (hd d rfl)];split
  ·exact hv
  ·exact hs t
def ztx (a:Act) (dst:Option Tmp) (v:Value):(a.put dst v).tmps.size=a.tmps.size:=by
 cases dst <;> simp[Act.put]
def zpU (a:Act) (dst:Option Tmp) (v:Value):(a.put dst v).defers=a.defers:=by
 cases dst <;> rfl
def zl7 {all:List Oper} {s:Slots} {a:Act} {o:Oper} {b:Bool} (hw:zbt all s o.guard=some b) (hs:SRel X ρ h w a.tmps s):Region.wanted o (yielded all.toArray a.tmps)=b:=by
 unfold zbt at hw;unfold Region.wanted;cases hgu:o.guard with
 |none=>rw[hgu]at hw;simpa using hw
 |some p=>
  obtain⟨j,want⟩:=p;rw[hgu]at hw;simp only at hw ⊢;have hy: ∀d,(all[j]?).bind (·.dst)=some d->yielded all.toArray a.tmps j=(match a.tmps[d]? with | some (.bool b)=>some b | _=>none):=λd hd=>by
   have e:((all.toArray[j]?).bind (·.dst)).bind (a.tmps[·]?)=a.tmps[d]? :=by rw[List.getElem?_toArray,hd];rfl
   unfold yielded;rw[e];cases a.tmps[d]? with
   |none=>rfl
   |some v=>cases v <;> rfl
  split at hw
  ·rename_i hn
   simp only[Option.some.injEq]at hw;subst hw;have:yielded all.toArray a.tmps j=none:=by simp[yielded,hn]
   rw[this];rfl
  ·rename_i d hd
   rw[hy d hd];have hr:=hs d;have hgd:a.tmps.getD d undef=(a.tmps[d]?).getD undef:=by simp[Array.getD_eq_getD_getElem?]
   rw[hgd]at hr;split at hw
   ·rename_i b' hb
    simp only[Option.some.injEq]at hw;subst hw;rw[hb]at hr;cases ht:a.tmps[d]? with
    |none=>rw[ht]at hr;cases hr
    |some v=>
     rw[ht]at hr;simp only[Option.getD_some]at hr;cases hr;simp
   ·rename_i hb
    simp only[Option.some.injEq]at hw;subst hw;rw[hb]at hr;obtain⟨us,hu,_⟩:=hr;cases ht:a.tmps[d]? with
    |none=>rfl
    |some v=>
     rw[ht]at hu;simp only[Option.getD_some]at hu;subst hu;rfl
   ·cases hw
structure St (X:Nat->Nat->Prop) (G:Nat->Option (List D)) (nt:Nat) (ρ:Places) (h:List Obj) (w:World) (a:Act) (s:Slots):Prop where
 rel:HRel X ρ h w
 glob:GRel X G ρ h w
 slots:SRel X ρ h w a.tmps s
 size:a.tmps.size=nt
def ziu {run:Run} {nt:Nat} {all:List Oper} {hint:List Nat} {Q:Exit->Act->World->Prop} (hrun:zeg P G run) (hhas:zdh P run) (hdst: ∀o∈all, ∀d,o.dst=some d->d<nt)
 {i:Nat} {s s1:Slots} {h h1:List Obj} {a:Act} {K:Act->World->Prop} (hr:zdW P G run all hint hv i s h=some (s1,h1)) (S:St X G nt ρ h w a s) (hseen:hint.contains i=true->Seen hv h)
 (hk: ∀ρ1 a1 w1,Stp X ρ h w ρ1 h1 w1->St X G nt ρ1 h1 w1 a1 s1->a1.defers=a.defers->K a1 w1):wpOp P all.toArray Q i K a w:=by
 unfold wpOp;simp only[zdW,zdO]at hr;have cont: ∀ (dst:Option Tmp) (x:V),(∀d,dst=some d->d<nt)->zfC s dst x=s1-> ∀v ρ' w',Stp X ρ h w ρ' h1 w'->zaM X ρ' h1 w' v x->K (a.put dst v) w':=λdst x hd e v ρ1 w1 st hv=>
  hk ρ1 _ w1 st ⟨st.rel,S.glob.mono st.fr,e ▸ SRel.put (S.slots.mono st) hv (λd e=>by rw[S.size];exact hd d e),(ztx _ _ _).trans S.size⟩ (zpU _ _ _)
 cases hi:all[i]? with
 |none=>
  rw[hi]at hr;have hi':all.toArray[i]? =none:=by simpa using hi
  rw[hi'];simp only[Option.some.injEq,Prod.mk.injEq]at hr;obtain⟨rfl,rfl⟩:=hr;exact hk ρ a w (Stp.refl S.rel) S rfl
 |some o=>
  rw[hi]at hr;have hi':all.toArray[i]? =some o:=by simpa using hi
  rw[hi'];simp only at hr ⊢;have hd:=hdst o (List.mem_of_getElem? hi);cases hw:zbt all s o.guard with
  |none=>rw[hw]at hr;cases hr
  |some b=>
   rw[hw]at hr;rw[zl7 hw S.slots];cases b with
   |false=>
    simp only[obind,Bool.false_eq_true,if_false,Option.some.injEq,Prod.mk.injEq]at hr ⊢;obtain⟨e,rfl⟩:=hr;exact cont o.dst (.tup []) hd e undef ρ w (Stp.refl S.rel) ⟨#[],rfl,rfl,λj c hj=>by simp at hj⟩
   |true=>
    simp only[obind,if_true]at hr ⊢;refine .inl ?_;have hop: ∀x,opV P G run s h o=some (x,h1)->zfC s o.dst x=s1->o.wp P a w K Q:=λx hx e=>
     zrp hrun hhas hx S.rel S.glob S.slots λv ρ1 w1 st hv=>cont o.dst x hd e v ρ1 w1 st hv
    cases hc:hint.contains i with
    |true=>
     rw[hc,if_pos rfl]at hr;cases hb:zdF P G hv s o with
     |none=>rw[hb]at hr;cases hr
     |some x=>
      rw[hb]at hr;simp only[zcE,Option.map_some,Option.some.injEq,Prod.mk.injEq]at hr;obtain⟨e,rfl⟩:=hr;exact hop x (zrr (hseen hc) hb) e
    |false=>
     rw[hc,if_neg (by decide)]at hr
     cases hm:(hint.isEmpty || hv.isEmpty || zlG G s o || zbh hint i o) with
     |false=>rw[hm,if_neg (by decide)]at hr;cases hr
     |true=>
     rw[hm,if_pos rfl]at hr;cases hx:opV P G run s h o with
     |none=>rw[hx]at hr;cases hr
     |some p=>
      obtain⟨x,h2⟩:=p;rw[hx]at hr;simp only[Option.some.injEq,Prod.mk.injEq]at hr;obtain⟨e,rfl⟩:=hr;exact hop x hx e
def zpV {run:Run} {all:List Oper} {hint:List Nat} {i:Nat} {s s1:Slots} {h1:List Obj} (hr:zdW P G run all hint hv i s h=some (s1,h1)) (hne:hint≠[]) (S:Seen hv h) (hl:hv=[]\/ ∀o,all[i]? =some o->zbh hint i o=false):Seen hv h1:=by
 simp only[zdW,zdO]at hr;cases hi:all[i]? with
 |none=>rw[hi]at hr;simp only[Option.some.injEq,Prod.mk.injEq]at hr;rw[<- hr.2];exact S
 |some o=>
  rw[hi]at hr;simp only at hr;cases hw:zbt all s o.guard with
  |none=>rw[hw]at hr;cases hr
  |some b=>
   rw[hw]at hr;cases b with
   |false=>simp only[obind,Bool.false_eq_true,if_false,Option.some.injEq,Prod.mk.injEq]at hr;rw[<- hr.2];exact S
   |true=>
    simp only[obind,if_true]at hr;cases hc:hint.contains i with
    |true=>
     rw[hc,if_pos rfl]at hr;cases hb:zdF P G hv s o with
     |none=>rw[hb]at hr;cases hr
     |some x=>rw[hb]at hr;simp only[zcE,Option.map_some,Option.some.injEq,Prod.mk.injEq]at hr;rw[<- hr.2];exact S
    |false=>
     rw[hc,if_neg (by decide)]at hr
     cases hm:(hint.isEmpty || hv.isEmpty || zlG G s o || zbh hint i o) with
     |false=>rw[hm,if_neg (by decide)]at hr;cases hr
     |true=>
     rw[hm,if_pos rfl]at hr;have hemp:hint.isEmpty=false:=by cases hint with | nil=>exact absurd rfl hne | cons _ _=>rfl
     rw[hemp,Bool.false_or]at hm;cases hv with
     |nil=>exact zoN _
     |cons o0 hv0=>
     rw[(hl.resolve_left (by simp)) o hi]at hm
     simp only[List.isEmpty_cons,Bool.false_or,Bool.or_false]at hm;cases hx:opV P G run s h o with
     |none=>rw[hx]at hr;cases hr
     |some p=>
      obtain⟨x,h2⟩:=p;rw[hx]at hr;simp only[Option.some.injEq,Prod.mk.injEq]at hr;rw[<- hr.2];exact ztv hm hx S
def zj3 {run:Run} {nt:Nat} {all:List Oper} {Q:Exit->Act->World->Prop} (hrun:zeg P G run) (hhas:zdh P run) (hdst: ∀o∈all, ∀d,o.dst=some d->d<nt):
 ∀ (l:List Nat) (ρ:Places) (s:Slots) (h:List Obj) (a:Act) (w:World) (s':Slots) (h':List Obj),zkV P G run all [] hv l s h=some (s',h')->St X G nt ρ h w a s->
  (∀ρ' a' w',Stp X ρ h w ρ' h' w'->St X G nt ρ' h' w' a' s'->a'.defers=a.defers->Q .normal a' w')->wpOps P all.toArray Q l a w
 |[],ρ,s,h,a,w,s',h',hr,S,hq=>by
  simp only[zkV,Option.some.injEq,Prod.mk.injEq]at hr;obtain⟨rfl,rfl⟩:=hr;exact hq ρ a w (Stp.refl S.rel) S rfl
 |i::l,ρ,s,h,a,w,s',h',hr,S,hq=>by
  rw[wpOps_cons];simp only[zkV]at hr;cases hs:zdW P G run all [] hv i s h with
  |none=>rw[hs]at hr;cases hr
  |some p=>
   obtain⟨s1,h1⟩:=p;rw[hs]at hr;exact ziu hrun hhas hdst hs S (λc=>by simp at c) fun ρ1 a1 w1 st S1 hd1=>
    zj3 hrun hhas hdst l ρ1 s1 h1 a1 w1 s' h' hr S1 fun ρ2 a2 w2 st2 S2 hd2=>hq ρ2 a2 w2 (st.trans S.rel st2) S2 (hd2.trans hd1)
end
end Go.Am
namespace Go.Am
section
variable {P:Program} {G:Nat->Option (List D)} {run:Run}
def zrt {s s':Slots} (o:Oper) (h:List Obj) (he: ∀x∈o.op.operands,ev G s x=ev G s' x):opV P G run s h o=opV P G run s' h o:=by
 obtain⟨dst,op,type,pos,after,guard⟩:=o;have pairs: ∀ps:Array (Nat × Operand),(∀x∈ps.map (·.2),ev G s x=ev G s' x)->
  (ps.toList.map λp=>(p.1,ev G s p.2))=(ps.toList.map λp=>(p.1,ev G s' p.2)):=λps hp=>
  List.map_congr_left λp hm=>by
   obtain⟨i,x⟩:=p;simp only[hp x (Array.mem_map.2 ⟨(i,x),by simpa using hm,rfl⟩)]
 cases op <;> simp only[Op.operands]at he <;> simp only[opV]
 case build t ps=>rw[pairs ps λx hx=>he x (by simpa using hx)]
 case buildSlice t n ps=>rw[pairs ps λx hx=>he x (by simpa using hx)]
 case makeFunc fn first captured=>
  have:captured.toList.map (ev G s)=captured.toList.map (ev G s'):=List.map_congr_left λx hx=>he x (by simp only[Array.mem_append];exact .inr (by simpa using hx))
  cases fn <;> simp only[this]
 case call c=>
  have hargs:c.args.toList.map (ev G s)=c.args.toList.map (ev G s'):=List.map_congr_left λx hx=>he x (by simp only[Call.operands];simp;exact .inr (by simpa using hx))
  simp only[hargs];cases hc:c.callee with
  |value f=>have hf:ev G s f=ev G s' f:=he f (by simp[Call.operands,hc]);simp only[hf];rfl
  |invoke r m=>rfl
  |builtin b=>rfl
 case slice t x lo hi mx=>cases lo <;> cases hi <;> cases mx <;> simp_all
 all_goals (first | rfl | (simp_all;done))
def zl8 {hv:List Obj} {s s':Slots} (o:Oper) (he: ∀x∈o.op.operands,ev G s x=ev G s' x):zdF P G hv s o=zdF P G hv s' o:=by
 obtain⟨dst,op,type,pos,after,guard⟩:=o;cases op <;> simp only[Op.operands]at he <;> simp only[zdF]
 case call c=>
  have hargs:c.args.toList.map (ev G s)=c.args.toList.map (ev G s'):=List.map_congr_left λx hx=>he x (by simp only[Call.operands];simp;exact .inr (by simpa using hx))
  simp only[hargs]
 case slice t x lo hi mx=>cases lo <;> cases hi <;> cases mx <;> simp_all
 all_goals (first | rfl | (simp_all;done))
def zpW {s s':Slots} (o:Oper) (he: ∀x∈o.op.operands,ev G s x=ev G s' x):zlG G s o=zlG G s' o:=by
 unfold zlG;cases ho:o.op with
 |call c=>
  rw[ho]at he;simp only[Op.operands]at he;cases hc:c.callee with
  |value f=>
   have hf:ev G s f=ev G s' f:=he f (by simp[Call.operands,hc])
   have hargs:c.args.toList.map (ev G s)=c.args.toList.map (ev G s'):=List.map_congr_left λx hx=>he x (by simp only[Call.operands];simp;exact .inr (by simpa using hx))
   simp only[hc,hf,hargs]
  |invoke _ _=>simp only[hc]
  |builtin _=>simp only[hc]
 |_=>rfl
def ziv {hint:List Nat} {hv:List Obj} {i:Nat} {s s':Slots} (o:Oper) (h:List Obj) (he: ∀x∈o.op.operands,ev G s x=ev G s' x):
 zdO P G run hint hv i s h o=zdO P G run hint hv i s' h o:=by
 unfold zdO;rw[zrt o h he,zl8 o he,zpW o he]
def Free (P:Program) (G:Nat->Option (List D)) (run:Run) (hint:List Nat) (hv:List Obj) (i:Nat) (o:Oper):Prop:=
 ∀s h x h1,zdO P G run hint hv i s h o=some (x,h1)->h1=h/\ ∀h',zdO P G run hint hv i s h' o=some (x,h')
def Quiet (P:Program) (G:Nat->Option (List D)) (run:Run) (hint:List Nat) (hv:List Obj) (i:Nat) (o:Oper):Prop:=
 ∀s h x h1,zdO P G run hint hv i s h o=some (x,h1)->h1=h
def zdG {hint:List Nat} {hv:List Obj} {i:Nat} {o:Oper} (hc:hint.contains i=true):Free P G run hint hv i o:=by
 intro s h x h1 hx;unfold zdO at*;rw[if_pos hc]at hx;cases hb:zdF P G hv s o with
 |none=>rw[hb]at hx;cases hx
 |some y=>
  rw[hb]at hx;simp only[zcE,Option.map_some,Option.some.injEq,Prod.mk.injEq]at hx;obtain⟨rfl,rfl⟩:=hx;exact⟨rfl,λh'=>by rw[if_pos hc];rfl⟩
def zj4 {h h1:List Obj} {y:Option V} {x:V} (hx:zcE h y=some (x,h1)):h1=h/\y=some x:=by
 cases y with
 |none=>cases hx
 |some y=>simp only[zcE,Option.map_some,Option.some.injEq,Prod.mk.injEq]at hx;exact⟨hx.2.symm,by rw[hx.1]⟩
def zru {src dst:TypeId} {k:IntKind} (hd:P.underlying dst=some (.int k)) {A:V} {h h1:List Obj} {x:V} (hx:zgD P h src dst A=some (x,h1)):
 h1=h/\ ∀h',zgD P h' src dst A=some (x,h'):=by
 have e: ∀h,zgD P h src dst A=(zbg P h src dst A).map λx=>(x,h):=λh=>by
  unfold zgD;split
  ·rename_i hd';rw[hd]at hd';cases hd'
  ·rename_i hd';rw[hd]at hd';cases hd'
  ·rfl
 have r: ∀h h',zbg P h src dst A=zbg P h' src dst A:=λh h'=>by
  unfold zbg;rw[hd];split <;> simp_all
 rw[e h]at hx;simp only[Option.map_eq_some_iff,Prod.mk.injEq]at hx;obtain⟨y,hy,rfl,rfl⟩:=hx;exact⟨rfl,λh'=>by rw[e h',r h' h,hy];rfl⟩
def zl9 {src dst:TypeId} (hd:P.underlying dst=some .string) {A:V} {h h1:List Obj} {x:V} (hx:zgD P h src dst A=some (x,h1)):h1=h:=by
 unfold zgD at hx;split at hx
 ·rename_i hd';rw[hd]at hd';cases hd'
 ·rename_i hd';rw[hd]at hd';cases hd'
 ·simp only[Option.map_eq_some_iff,Prod.mk.injEq]at hx
  obtain⟨y,hy,rfl,rfl⟩:=hx;rfl
def zf7 {b:Builtin} (hb:b= .min\/b= .max) {h h1:List Obj} {ts:List TypeId} {args:List V} {x:V} (hx:zbP P h b ts args=some (x,h1)):
 h1=h/\ ∀h',zbP P h' b ts args=some (x,h'):=by
 rcases hb with rfl | rfl <;> cases args with
 |nil=>simp[zbP]at hx
 |cons A Ar=>
  simp only[zbP,Option.map_eq_some_iff,Prod.mk.injEq]at hx ⊢;obtain⟨y,hy,rfl,rfl⟩:=hx;simp[hy]
def zma {h h1:List Obj} {ts:List TypeId} {args:List V} {x:V} (hx:zbP P h .len ts args=some (x,h1)):h1=h:=by
 cases ts with
 |nil=>simp[zbP]at hx
 |cons t ts=>
  cases args with
  |nil=>simp[zbP]at hx
  |cons A Ar=>
   simp only[zbP,Option.map_eq_some_iff,Prod.mk.injEq]at hx;obtain⟨y,hy,rfl,rfl⟩:=hx;rfl
def zj5 {hint:List Nat} {hv:List Obj} {i:Nat} {o:Oper} (hc:zdM P o= .still):Free P G run hint hv i o:=by
 by_cases hh:hint.contains i=true
 ·exact zdG hh
 intro s h x h1 hx;unfold zdO at*;rw[if_neg hh]at hx;have hm:(hint.isEmpty || hv.isEmpty || zlG G s o || zbh hint i o)=true:=by
  by_cases hm:(hint.isEmpty || hv.isEmpty || zlG G s o || zbh hint i o)=true
  ·exact hm
  ·rw[if_neg hm]at hx;cases hx
 rw[if_pos hm]at hx;simp only[if_neg hh,if_pos hm];cases ho:o.op with
 |move a | assign a=>
  simp only[opV,ho,Option.some.injEq,Prod.mk.injEq]at hx ⊢;obtain⟨rfl,rfl⟩:=hx;simp
 |pick _ _ _ | binOp _ _ _ _ _ | unOp _ _ _ | fieldAddr _ _ _ | extract _ _ | field _ _ _ | index _ _ _ | typeAssert _ _ _ _ | build _ _=>
  simp only[opV,ho]at hx ⊢;obtain⟨rfl,hy⟩:=zj4 hx;exact⟨rfl,λh'=>by rw[hy];rfl⟩
 |nilCheck a=>
  simp only[opV,ho]at hx ⊢;cases hv:ev G s a <;> simp only[hv,zdU,Option.some.injEq,Prod.mk.injEq,reduceCtorEq]at hx ⊢ <;> (obtain⟨rfl,rfl⟩:=hx;simp)
 |convert src dst a=>
  simp only[opV,ho]at hx ⊢;simp only[zdM,ho]at hc;split at hc
  ·rename_i k hk;exact zru hk hx
  ·cases hc
  ·cases hc
 |call c=>
  simp only[zdM,ho]at hc;simp only[opV,ho]at hx ⊢;split at hc
  ·cases hc
  ·rename_i hcc
   simp only[hcc]at hx ⊢;exact zf7 (.inl rfl) hx
  ·rename_i hcc
   simp only[hcc]at hx ⊢;exact zf7 (.inr rfl) hx
  ·cases hc
 |_=>simp[zdM,ho]at hc
def ziw {hint:List Nat} {hv:List Obj} {i:Nat} {o:Oper} (hc:zdM P o= .reads):Quiet P G run hint hv i o:=by
 by_cases hh:hint.contains i=true
 ·exact λs h x h1 hx=>(zdG hh s h x h1 hx).1
 intro s h x h1 hx;unfold zdO at*;rw[if_neg hh]at hx;have hm:(hint.isEmpty || hv.isEmpty || zlG G s o || zbh hint i o)=true:=by
  by_cases hm:(hint.isEmpty || hv.isEmpty || zlG G s o || zbh hint i o)=true
  ·exact hm
  ·rw[if_neg hm]at hx;cases hx
 rw[if_pos hm]at hx;cases ho:o.op with
 |load _ _ | indexAddr _ _ _ | slice _ _ _ _ _=>
  simp only[opV,ho]at hx;exact (zj4 hx).1
 |convert src dst a=>
  simp only[opV,ho]at hx;simp only[zdM,ho]at hc;split at hc
  ·cases hc
  ·rename_i hk;exact zl9 hk hx
  ·cases hc
 |call c=>
  simp only[zdM,ho]at hc;simp only[opV,ho]at hx;split at hc
  ·rename_i hcc
   simp only[hcc]at hx;exact zma hx
  all_goals cases hc
 |_=>simp[zdM,ho]at hc
/-! ### two operations,one behind the other -/
def zeI (s:Slots) (dst:Option Tmp) (v:V) (t:Nat):zak (zfC s dst v) t=if dst=some t then v else zak s t:=by
 cases dst with
 |none=>simp[zfC]
 |some d=>
  simp only[zfC,zak,Option.some.injEq]
def SEq (s s':Slots):Prop:= ∀t,zak s t=zak s' t
def SEq.ev {s s':Slots} (e:SEq s s') (x:Operand):ev G s x=ev G s' x:=by
 cases x <;> first | rfl | exact e _
def SEq.put {s s':Slots} (e:SEq s s') (dst:Option Tmp) (v:V):SEq (zfC s dst v) (zfC s' dst v):=λt=>by
 rw[zeI,zeI,e t]
def zwZ {ops:Array Oper} {o:Oper} {dst:Option Tmp} (hd: ∀d,dst=some d->d∉o.looksAt ops) (s:Slots) (v:V): ∀x∈o.op.operands,ev G (zfC s dst v) x=ev G s x:=by
 intro x hx;cases x with
 |tmp t=>
  show zak _ t=zak _ t
  rw[zeI,if_neg];intro e;exact hd t e (List.mem_append_left _ (List.mem_filterMap.2 ⟨.tmp t,by simpa using hx,rfl⟩))
 |_=>rfl
def zkY {all:List Oper} {s s':Slots} (e:SEq s s') (g:Option (Nat × Bool)):zbt all s g=zbt all s' g:=by
 unfold zbt;cases g with
 |none=>rfl
 |some p=>simp only[e _]
def znD {all:List Oper} {o:Oper} {dst:Option Tmp} (hd: ∀d,dst=some d->d∉o.looksAt all.toArray) (s:Slots) (v:V):
 zbt all (zfC s dst v) o.guard=zbt all s o.guard:=by
 unfold zbt;cases hg:o.guard with
 |none=>rfl
 |some p=>
  obtain⟨j,want⟩:=p;simp only;cases ht:(all[j]?).bind (·.dst) with
  |none=>rfl
  |some d=>
   simp only;rw[zeI,if_neg];intro e;exact hd d e (by simp only[Oper.looksAt,hg,List.getElem?_toArray,ht];simp)
def znE {all:List Oper} {hint:List Nat} {hv:List Obj} {i:Nat} {s s':Slots} {h:List Obj} (e:SEq s s') {s1:Slots} {h1:List Obj} (hr:zdW P G run all hint hv i s h=some (s1,h1)):
 ∃s1',zdW P G run all hint hv i s' h=some (s1',h1)/\SEq s1 s1':=by
 unfold zdW at*;cases hi:all[i]? with
 |none=>rw[hi]at hr;simp only[Option.some.injEq,Prod.mk.injEq]at hr;obtain⟨rfl,rfl⟩:=hr;exact⟨s',rfl,e⟩
 |some o=>
  simp only[hi]at hr ⊢;rw[<- zkY e];cases hw:zbt all s o.guard with
  |none=>rw[hw]at hr;cases hr
  |some b=>
   rw[hw]at hr;cases b with
   |false=>
    simp only[obind,Bool.false_eq_true,if_false,Option.some.injEq,Prod.mk.injEq]at hr ⊢;obtain⟨rfl,rfl⟩:=hr;exact⟨_,⟨rfl,rfl⟩,e.put _ _⟩
   |true=>
    simp only[obind,if_true]at hr ⊢;rw[ziv o h (λx _=>e.ev x)]at hr
    cases hx:zdO P G run hint hv i s' h o with
    |none=>rw[hx]at hr;cases hr
    |some p=>
     rw[hx]at hr;simp only[Option.some.injEq,Prod.mk.injEq]at hr ⊢;obtain⟨rfl,rfl⟩:=hr;exact⟨_,⟨rfl,rfl⟩,e.put _ _⟩
def zj6 {all:List Oper} {hint:List Nat} {hv:List Obj}: ∀ (l:List Nat) {s s':Slots} {h:List Obj} (_:SEq s s') {s1:Slots} {h1:List Obj},zkV P G run all hint hv l s h=some (s1,h1)->
 ∃s1',zkV P G run all hint hv l s' h=some (s1',h1)/\SEq s1 s1'
 |[],s,s',h,e,s1,h1,hr=>by simp only[zkV,Option.some.injEq,Prod.mk.injEq]at hr;obtain⟨rfl,rfl⟩:=hr;exact⟨s',rfl,e⟩
 |i::l,s,s',h,e,s1,h1,hr=>by
  simp only[zkV]at hr ⊢;cases hx:zdW P G run all hint hv i s h with
  |none=>rw[hx]at hr;cases hr
  |some p=>
   obtain⟨s2,h2⟩:=p;rw[hx]at hr;obtain⟨s2',hx',e'⟩:=znE e hx;rw[hx'];exact zj6 l e' hr
def zrv {ops:Array Oper} {hint:List Nat} {hv:List Obj} {i:Nat} {o:Oper} {dst:Option Tmp} (hd: ∀d,dst=some d->d∉o.looksAt ops) (s:Slots) (v:V) (h:List Obj):
 zdO P G run hint hv i (zfC s dst v) h o=zdO P G run hint hv i s h o:=ziv o h (zwZ hd s v)
def SEq.swap (s:Slots) {x y:Option Tmp} (v u:V) (hd: ∀d,x=some d->y≠some d):SEq (zfC (zfC s x v) y u) (zfC (zfC s y u) x v):=λt=>by
 simp only[zeI]
 by_cases h1:y=some t <;> by_cases h2:x=some t <;> simp only[h1,h2,if_true,if_false]
 exact absurd h1 (hd t h2)
noncomputable def zf8 (P:Program) (G:Nat->Option (List D)) (run:Run) (all:List Oper) (hint:List Nat) (hv:List Obj) (i:Nat) (s:Slots) (h:List Obj) (o:Oper):Option (V × List Obj):=
 obind (zbt all s o.guard) λw=>if w then zdO P G run hint hv i s h o else some (.tup [],h)
def ze7 {all:List Oper} {hint:List Nat} {hv:List Obj} {i:Nat} {o:Oper} (hi:all[i]? =some o) (s:Slots) (h:List Obj):
 zdW P G run all hint hv i s h=obind (zf8 P G run all hint hv i s h o) λp=>some (zfC s o.dst p.1,p.2):=by
 unfold zdW zf8;simp only[hi];cases zbt all s o.guard with
 |none=>rfl
 |some b=>cases b <;> rfl
def zmb {all:List Oper} {hint:List Nat} {hv:List Obj} {i:Nat} {o:Oper} {dst:Option Tmp} (hd: ∀d,dst=some d->d∉o.looksAt all.toArray) (s:Slots) (v:V) (h:List Obj):
 zf8 P G run all hint hv i (zfC s dst v) h o=zf8 P G run all hint hv i s h o:=by
 unfold zf8;rw[znD hd,zrv hd]
def Free.core {all:List Oper} {hint:List Nat} {hv:List Obj} {i:Nat} {o:Oper} (hf:Free P G run hint hv i o) {s:Slots} {h h1:List Obj} {x:V} (hx:zf8 P G run all hint hv i s h o=some (x,h1)):
 h1=h/\ ∀h',zf8 P G run all hint hv i s h' o=some (x,h'):=by
 unfold zf8 at*;cases hw:zbt all s o.guard with
 |none=>rw[hw]at hx;cases hx
 |some b=>
  rw[hw]at hx;cases b with
  |false=>
   simp only[obind,Bool.false_eq_true,if_false,Option.some.injEq,Prod.mk.injEq]at hx ⊢;exact⟨hx.2.symm,λ_=>⟨hx.1,trivial⟩⟩
  |true=>exact hf s h x h1 hx
def Quiet.core {all:List Oper} {hint:List Nat} {hv:List Obj} {i:Nat} {o:Oper} (hf:Quiet P G run hint hv i o) {s:Slots} {h h1:List Obj} {x:V} (hx:zf8 P G run all hint hv i s h o=some (x,h1)):h1=h:=by
 unfold zf8 at*;cases hw:zbt all s o.guard with
 |none=>rw[hw]at hx;cases hx
 |some b=>
  rw[hw]at hx;cases b with
  |false=>
   simp only[obind,Bool.false_eq_true,if_false,Option.some.injEq,Prod.mk.injEq]at hx;exact hx.2.symm
  |true=>exact hf s h x h1 hx
structure Indep (P:Program) (G:Nat->Option (List D)) (run:Run) (all:List Oper) (hint:List Nat) (hv:List Obj) (i j:Nat):Prop where
 two: ∃x y,all[i]? =some x/\all[j]? =some y/\x.apart all.toArray y=true/\
  (Free P G run hint hv i x\/Free P G run hint hv j y\/(Quiet P G run hint hv i x/\Quiet P G run hint hv j y))
def zpX {all:List Oper} {hint:List Nat} {hv:List Obj} {i j:Nat} (hf:ze5 P hint all i j=true):Indep P G run all hint hv i j:=by
 unfold ze5 at hf;split at hf
 ·rename_i x y hx hy
  simp only[Bool.and_eq_true]at hf;refine⟨x,y,hx,hy,hf.1.1, ?_⟩;have h2:=hf.1.2;split at h2
  ·rename_i h;exact .inl (zj5 h)
  ·rename_i h _;exact .inr (.inl (zj5 h))
  ·rename_i c1 c2;exact .inr (.inr ⟨ziw c1,ziw c2⟩)
  ·exact .inl (zdG h2)
  ·exact .inr (.inl (zdG h2))
  ·cases h2
 ·cases hf
def swap {all:List Oper} {hint:List Nat} {hv:List Obj} {i j:Nat} (hf:Indep P G run all hint hv i j) {s s1 s2:Slots} {h h1 h2:List Obj}
 (hi:zdW P G run all hint hv i s h=some (s1,h1)) (hj:zdW P G run all hint hv j s1 h1=some (s2,h2)):
 ∃s1' h1' s2',zdW P G run all hint hv j s h=some (s1',h1')/\zdW P G run all hint hv i s1' h1'=some (s2',h2)/\SEq s2 s2':=by
 obtain⟨x,y,hx,hy,ha,hc⟩:=hf.two;obtain⟨a1,a2,a3⟩:=Oper.apart_spec ha;rw[ze7 hx]at hi;rw[ze7 hy]at hj;cases cx:zf8 P G run all hint hv i s h x with
 |none=>rw[cx]at hi;cases hi
 |some p=>
  obtain⟨u,g1⟩:=p;rw[cx]at hi;simp only[obind,Option.some.injEq,Prod.mk.injEq]at hi;obtain⟨rfl,rfl⟩:=hi;rw[zmb a1]at hj;cases cy:zf8 P G run all hint hv j s g1 y with
  |none=>rw[cy]at hj;cases hj
  |some q=>
   obtain⟨v,g2⟩:=q;rw[cy]at hj;simp only[obind,Option.some.injEq,Prod.mk.injEq]at hj;obtain⟨rfl,rfl⟩:=hj;have key: ∃g,zf8 P G run all hint hv j s h y=some (v,g)/\zf8 P G run all hint hv i s g x=some (u,g2):=by
    rcases hc with hc | hc | ⟨hc,hd⟩
    ·obtain⟨rfl,hall⟩:=hc.core cx
     exact⟨g2,cy,hall g2⟩
    ·obtain⟨rfl,hall⟩:=hc.core cy
     exact⟨h,hall h,cx⟩
    ·have:=hc.core cx
     subst this;have:=hd.core cy;subst this;exact⟨g2,cy,cx⟩
   obtain⟨g,k1,k2⟩:=key;refine⟨zfC s y.dst v,g,zfC (zfC s y.dst v) x.dst u, ?_, ?_,SEq.swap s u v a2⟩
   ·rw[ze7 hy,k1];rfl
   ·rw[ze7 hx,zmb a3,k2];rfl
def zj7 {all:List Oper} {hint:List Nat} {hv:List Obj} {j:Nat}: ∀ (l1 l2:List Nat),(∀i∈l1,Indep P G run all hint hv i j)-> ∀ {s s2:Slots} {h h2:List Obj},
 zkV P G run all hint hv (l1++j::l2) s h=some (s2,h2)-> ∃s2',zkV P G run all hint hv (j::(l1++l2)) s h=some (s2',h2)/\SEq s2 s2'
 |[],l2,_,s,s2,h,h2,hr=>⟨s2,hr,λ_=>rfl⟩
 |i::l1,l2,hf,s,s2,h,h2,hr=>by
  simp only[List.cons_append,zkV]at hr;cases hi:zdW P G run all hint hv i s h with
  |none=>rw[hi]at hr;cases hr
  |some p=>
   obtain⟨sa,ha⟩:=p;rw[hi]at hr;obtain⟨sb,hb,e1⟩:=zj7 l1 l2 (λk hk=>hf k (List.mem_cons_of_mem _ hk)) hr
   simp only[zkV]at hb;cases hj:zdW P G run all hint hv j sa ha with
   |none=>rw[hj]at hb;cases hb
   |some q=>
    obtain⟨sc,hc⟩:=q;rw[hj]at hb;obtain⟨t1,g1,t2,k1,k2,e2⟩:=swap (hf i (List.mem_cons_self ..)) hi hj;obtain⟨sd,hd,e3⟩:=zj6 _ e2 hb;refine⟨sd, ?_,λt=>(e1 t).trans (e3 t)⟩
    simp only[List.cons_append,zkV,k1,obind,k2];exact hd
/-! ### who must wait for whom -/
def zdP: ∀ (ops:List Oper) (acc:List (List Nat)), ∃l,zcc ops acc=acc++l/\l.length=ops.length/\
 ∀ (j:Nat) (o:Oper),ops[j]? =some o->l.getD j []=o.after.toList.foldl (λs e=>if Region.binds .any e then zay (zay s [e.on]) ((acc++l.take j).getD e.on []) else s) []
 |[],acc=>⟨[],by simp[zcc],rfl,λj o hj=>by simp at hj⟩
 |o::r,acc=>by
  obtain⟨l,h1,h2,h3⟩:=zdP r (acc++[o.after.toList.foldl (λs e=>if Region.binds .any e then zay (zay s [e.on]) (acc.getD e.on []) else s) []])
  refine⟨_::l,by rw[zcc,h1,List.append_assoc];rfl,by simp[h2],λj o' hj=> ?_⟩
  cases j with
  |zero=>simp only[List.getElem?_cons_zero,Option.some.injEq]at hj;subst hj;simp
  |succ j=>
   simp only[List.getElem?_cons_succ]at hj;have:=h3 j o' hj;simp only[List.getD_cons_succ,List.take_succ_cons];rw[this,List.append_assoc];rfl
def zcv {i:Nat}: ∀ {l acc:List Nat},i∈zay acc l↔i∈acc\/i∈l
 |[],acc=>by simp[zay]
 |x::l,acc=>by
  simp only[zay];split
  ·rename_i hc
   rw[zcv];simp only[List.mem_cons];have:x∈acc:=by simpa using hc
   constructor
   ·rintro (h | h);exact .inl h;exact .inr (.inr h)
   ·rintro (h | rfl | h);exact .inl h;exact .inl this;exact .inr h
  ·rw[zcv]
   simp only[List.mem_append,List.mem_cons,List.not_mem_nil,or_false,or_assoc]
def zty {after:List Edge} {f:Nat->List Nat} {i:Nat}: ∀ (s:List Nat),i∈after.foldl (λs e=>if Region.binds .any e then zay (zay s [e.on]) (f e.on) else s) s->
 i∈s\/ ∃e∈after,Region.binds .any e=true/\(i=e.on\/i∈f e.on):=by
 induction after with
 |nil=>intro s hi;exact .inl hi
 |cons e after ih=>
  intro s hi;simp only[List.foldl_cons]at hi;rcases ih _ hi with h | ⟨e',he',h⟩
  ·by_cases hb:Region.binds .any e=true
   ·rw[if_pos hb]at h
    rcases zcv.1 h with h | h
    ·rcases zcv.1 h with h | h
     ·exact .inl h
     ·exact .inr ⟨e,List.mem_cons_self ..,hb,.inl (by simpa using h)⟩
    ·exact .inr ⟨e,List.mem_cons_self ..,hb,.inr h⟩
   ·rw[if_neg hb]at h;exact .inl h
  ·exact .inr ⟨e',List.mem_cons_of_mem _ he',h⟩
def ztz {after:List Edge} {f:Nat->List Nat} {e:Edge} (he:e∈after) (hb:Region.binds .any e=true): ∀ (s:List Nat),e.on∈after.foldl (λs e=>if Region.binds .any e then zay (zay s [e.on]) (f e.on) else s) s:=by
 have keep: ∀ (after:List Edge) (s:List Nat),e.on∈s->e.on∈after.foldl (λs e=>if Region.binds .any e then zay (zay s [e.on]) (f e.on) else s) s:=by
  intro after
  induction after with
  |nil=>intro s h;exact h
  |cons e' after ih=>
   intro s h;simp only[List.foldl_cons];apply ih;split
   ·exact zcv.2 (.inl (zcv.2 (.inl h)))
   ·exact h
 induction after with
 |nil=>cases he
 |cons e' after ih=>
  intro s;simp only[List.foldl_cons];rcases List.mem_cons.1 he with rfl | h
  ·apply keep
   rw[if_pos hb];exact zcv.2 (.inl (zcv.2 (.inr (List.mem_singleton.2 rfl))))
  ·exact ih h _
def ztA {ops:List Oper} {i j:Nat} {o:Oper} (hj:ops[j]? =some o) (hi:i∈(zcc ops []).getD j []):
 ∃e∈o.after,Region.binds .any e=true/\(i=e.on\/(e.on<j/\i∈(zcc ops []).getD e.on [])):=by
 obtain⟨l,h1,h2,h3⟩:=zdP ops [];rw[List.nil_append]at h1;rw[h1]at hi ⊢;rw[h3 j o hj]at hi;rcases zty (f:=λn=>([]++List.take j l).getD n []) _ hi with h | ⟨e,he,hb,h⟩
 ·cases h
 ·refine⟨e,by simpa using he,hb,h.imp id λh=> ?_⟩
  rw[List.nil_append]at h
  by_cases hlt:e.on<j
  ·refine⟨hlt, ?_⟩
   simp only[List.getD_eq_getElem?_getD,List.getElem?_take,hlt,if_true]at h ⊢;exact h
  ·simp[List.getD_eq_getElem?_getD,List.getElem?_take,hlt]at h
def ztB {ops:List Oper} {j:Nat} {o:Oper} (hj:ops[j]? =some o) {e:Edge} (he:e∈o.after) (hb:Region.binds .any e=true):e.on∈(zcc ops []).getD j []:=by
 obtain⟨l,h1,h2,h3⟩:=zdP ops [];rw[List.nil_append]at h1;rw[h1,h3 j o hj];exact ztz (f:=λn=>([]++List.take j l).getD n []) (Array.mem_toList_iff.2 he) hb _
def znF {hint:List Nat} {ops:List Oper} (hd:zhf P hint ops=true) {j:Nat} {o:Oper} (hj:ops[j]? =some o) {e:Edge} (he:e∈o.after) (hb:Region.binds .any e=true):e.on<j:=by
 unfold zhf at hd;simp only[List.all_eq_true,List.mem_range,Bool.and_eq_true,decide_eq_true_eq]at hd;exact (hd j (List.getElem?_eq_some_iff.1 hj).1).1 _ (ztB hj he hb)
def znG {hint:List Nat} {ops:List Oper} (hd:zhf P hint ops=true) {i j:Nat} (hj:j<ops.length) (hij:i<j):
 i∈(zcc ops []).getD j []\/ze5 P hint ops i j=true:=by
 unfold zhf at hd;simp only[List.all_eq_true,List.mem_range,Bool.and_eq_true,Bool.or_eq_true]at hd;exact ((hd j hj).2 i hij).imp (by simp) id
def zpY {ops:List Oper} {listed:Array Bool} (hcl: ∀ (k:Nat) (o:Oper),ops[k]? =some o->listed.getD k true=true-> ∀e∈o.after,Region.binds .any e=true->listed.getD e.on false=true)
 (hsz:listed.size=ops.length): ∀ (j:Nat) (o:Oper),ops[j]? =some o->(∀e∈o.after,Region.binds .any e=true->listed.getD e.on false=true)-> ∀i∈(zcc ops []).getD j [],listed.getD i false=true:=by
 intro j
 induction j using Nat.strongRecOn with
 |_ j ih=>
  intro o hj hall i hi;obtain⟨e,he,hb,h⟩:=ztA hj hi;rcases h with rfl | ⟨hlt,h⟩
  ·exact hall e he hb
  ·have hjl:j<ops.length:=(List.getElem?_eq_some_iff.1 hj).1
   have hel:e.on<ops.length:=by omega
   have ho:ops[e.on]? =some ops[e.on]:=List.getElem?_eq_getElem hel;refine ih e.on hlt _ ho (hcl e.on _ ho ?_) i h;have:=hall e he hb;simp only[Array.getD_eq_getD_getElem?]at this ⊢;rw[Array.getElem?_eq_getElem (by omega)]at this ⊢
   simpa using this
end
section
variable {X:Nat->Nat->Prop} {P:Program} {G:Nat->Option (List D)}
def Stp.draw {ρ:Places} {h:List Obj} {w:World} (H:HRel X ρ h w) (n:Nat):Stp X ρ h w ρ h { w with drawn:=n }:=by
 have f:Fr X ρ h w ρ h { w with drawn:=n }:=⟨rfl,rfl,rfl,Nat.le_refl _,λ_ _ hb=>⟨rfl,hb⟩,λ_ _ _ hm hc=>⟨hc,hm⟩⟩
 refine⟨⟨H.len,λid o ho=> ?_,H.xlt,H.xown,H.inj⟩,f,Evo.refl _ _ _⟩
 obtain⟨r,hr,hrel⟩:=H.obj id o ho;exact⟨r,hr,hrel.kept f (Evo.refl _ _ _) λ_ _ _=>rfl⟩
def SRel.seq {ρ:Places} {h:List Obj} {w:World} {tmps:Array Value} {s s':Slots} (hs:SRel X ρ h w tmps s) (e:SEq s s'):SRel X ρ h w tmps s':=λt=>e t ▸ hs t
def zpZ {run:Run} {nt:Nat} {all:List Oper} {hint:List Nat} {hv:List Obj} {Q:Exit->Act->World->Prop} (hrun:zeg P G run) (hhas:zdh P run) (hdst: ∀o∈all, ∀d,o.dst=some d->d<nt)
 (hd:zhf P hint all=true) (hvl:zbV all hint=false->hv=[]) {h':List Obj}:
 ∀ (s':Slots) (rem:List Nat) (listed:Array Bool) (ρ:Places) (s:Slots) (h:List Obj) (a:Act) (w:World),rem.Pairwise (·< ·)->(∀j,j∈rem↔j<all.length/\listed.getD j true=false)->listed.size=all.length->
  (∀ (k:Nat) (o:Oper),all[k]? =some o->listed.getD k true=true-> ∀e∈o.after,Region.binds .any e=true->listed.getD e.on false=true)->
  zkV P G run all hint hv rem s h=some (s',h')->St X G nt ρ h w a s->((∃k,k∈rem/\hint.contains k=true)->Seen hv h)->
  (∀ρ' a' w',Stp X ρ h w ρ' h' w'->St X G nt ρ' h' w' a' s'->a'.defers=a.defers->Q .normal a' w')-> ∀fuel,rem.length=fuel->wpAny P .any all.toArray Q fuel listed a w:=by
 intro s' rem listed ρ s h a w hp hm hsz hcl hr S hseen hq fuel
 induction fuel generalizing s' rem listed ρ s h a w with
 |zero=>
  intro hl;have:rem=[]:=List.length_eq_zero_iff.1 hl;subst this;simp only[zkV,Option.some.injEq,Prod.mk.injEq]at hr;obtain⟨rfl,rfl⟩:=hr;refine⟨?_,hq ρ a w (Stp.refl S.rel) S rfl⟩;apply List.eq_nil_iff_forall_not_mem.2;intro j hj;obtain⟨h0,o,ho,-⟩:=mem_ready.1 hj;have hjl:j<all.length:=by have:=(Array.getElem?_eq_some_iff.1 ho).1;simpa using this
  have:=(hm j).2 ⟨hjl,h0⟩;cases this
 |succ fuel ih=>
  intro hl;constructor
  ·intro hnone
   exfalso;cases rem with
   |nil=>cases hl
   |cons j r=>
    obtain⟨hjl,hjn⟩:=(hm j).1 (List.mem_cons_self ..);have ho:all[j]? =some all[j]:=List.getElem?_eq_getElem hjl;have:j∈Region.ready .any all.toArray listed:=by
     refine mem_ready.2 ⟨hjn,all[j],by simp[ho],λe he hb=> ?_⟩
     have hlt:=znF hd ho he hb
     by_cases hx:listed.getD e.on true=false
     ·have hmem:=(hm e.on).2 ⟨by omega,hx⟩
      rcases List.mem_cons.1 hmem with h1 | h1
      ·omega
      ·have:=(List.pairwise_cons.1 hp).1 _ h1
       omega
     ·simp only[Array.getD_eq_getD_getElem?]at hx ⊢
      rw[Array.getElem?_eq_getElem (by omega)]at hx ⊢
      simpa using hx
    rw[hnone]at this;cases this
  ·intro j hj
   obtain⟨h0,o,ho,hall⟩:=mem_ready.1 hj;have ho':all[j]? =some o:=by simpa using ho
   have hjl:j<all.length:=(List.getElem?_eq_some_iff.1 ho').1;have hjm:j∈rem:=(hm j).2 ⟨hjl,h0⟩;obtain⟨l1,l2,rfl⟩:=List.append_of_mem hjm;have hp':=List.pairwise_append.1 hp;have hp2:=List.pairwise_cons.1 hp'.2.1;have hfit: ∀i∈l1,ze5 P hint all i j=true:=λi hi=>by
    have hij:i<j:=hp'.2.2 i hi j (List.mem_cons_self ..);rcases znG hd hjl hij with h1 | h1
    ·exfalso
     have h2:=zpY hcl hsz j o ho' hall i h1;have h3:=((hm i).1 (List.mem_append_left _ hi)).2;simp only[Array.getD_eq_getD_getElem?]at h2 h3;rw[Array.getElem?_eq_getElem (by omega)]at h2 h3
     simp only[Option.getD_some]at h2 h3;rw[h2]at h3;cases h3
    ·exact h1
   have hind: ∀i∈l1,Indep P G run all hint hv i j:=λi hi=>zpX (hfit i hi)
   obtain⟨s2,hr2,he⟩:=zj7 l1 l2 hind hr;simp only[zkV]at hr2;cases hs:zdW P G run all hint hv j s h with
   |none=>rw[hs]at hr2;cases hr2
   |some p=>
    obtain⟨s1,h1⟩:=p;rw[hs]at hr2;refine ziu hrun hhas hdst hs S (λc=>hseen ⟨j,hjm,c⟩) fun ρ1 a1 w1 st S1 hd1=> ?_
    have hne: ∀i∈l1++l2,i≠j:=λi hi e=>by
     subst e;rcases List.mem_append.1 hi with h | h
     ·exact Nat.lt_irrefl _ (hp'.2.2 i h i (List.mem_cons_self ..))
     ·exact Nat.lt_irrefl _ (hp2.1 i h)
    have hset: ∀i d,(listed.setIfInBounds j true).getD i d=if i=j then true else listed.getD i d:=λi d=>by
     by_cases e:i=j
     ·subst e
      simp[Array.getD_eq_getD_getElem?,hsz,hjl]
     ·rw[getD_set_ne d (Ne.symm e),if_neg e]
    refine ih s2 (l1++l2) (listed.setIfInBounds j true) ρ1 s1 h1 a1 w1 ?_ ?_ (by simpa using hsz) ?_ hr2 S1 ?_ ?_ ?_
    ·exact List.pairwise_append.2 ⟨hp'.1,hp2.2,λx hx y hy=>hp'.2.2 x hx y (List.mem_cons_of_mem _ hy)⟩
    ·intro i
     rw[hset];constructor
     ·intro hi
      rw[if_neg (hne i hi)];exact (hm i).1 (by
       rcases List.mem_append.1 hi with hi | hi
       ·exact List.mem_append_left _ hi
       ·exact List.mem_append_right _ (List.mem_cons_of_mem _ hi))
     ·rintro ⟨hil,hi⟩
      split at hi
      ·cases hi
      ·rename_i hij
       have:=(hm i).2 ⟨hil,hi⟩;rcases List.mem_append.1 this with h | h
       ·exact List.mem_append_left _ h
       ·rcases List.mem_cons.1 h with h | h
        ·exact absurd h hij
        ·exact List.mem_append_right _ h
    ·intro k o' hk hkl e hee hb
     apply getD_set_true;rw[hset]at hkl;split at hkl
     ·rename_i hkj
      subst hkj;rw[ho']at hk;cases hk;exact hall e hee hb
     ·exact hcl k o' hk hkl e hee hb
    ·rintro ⟨k,hk,hkh⟩
     have hkm:k∈l1++j::l2:=by
      rcases List.mem_append.1 hk with h | h
      ·exact List.mem_append_left _ h
      ·exact List.mem_append_right _ (List.mem_cons_of_mem _ h)
     have hne':hint≠[]:=λe=>by rw[e]at hkh;simp at hkh
     refine zpV hs hne' (hseen ⟨k,hkm,hkh⟩) ?_
     by_cases hv0:hv=[]
     ·exact .inl hv0
     ·right
      intro o' ho2;cases hlt:zbh hint j o' with
      |false=>rfl
      |true=>
       exfalso;unfold zbh at hlt;simp only[Bool.and_eq_true,List.all_eq_true,decide_eq_true_eq]at hlt;have hkj:k<j:=hlt.2 k (by simpa using hkh)
       have hk1:k∈l1:=by
        rcases List.mem_append.1 hk with h | h
        ·exact h
        ·have:=hp2.1 k h;omega
       have hf:=hfit k hk1;have hhl:zbV all hint=true:=by
        cases e:zbV all hint with
        |true=>rfl
        |false=>exact absurd (hvl e) hv0
       unfold ze5 at hf;rw[ho2]at hf;cases hx:all[k]? with
       |none=>rw[hx]at hf;simp at hf
       |some xk=>
        rw[hx]at hf;simp only[hhl,hlt.1,hkh,Bool.and_self,Bool.or_true,Bool.not_true,Bool.and_false,Bool.or_self,Bool.false_eq_true]at hf
    ·intro ρ2 a2 w2 st2 S2 hd2
     exact hq ρ2 a2 w2 (st.trans S.rel st2) ⟨S2.rel,S2.glob,S2.slots.seq λt=>(he t).symm,S2.size⟩ (hd2.trans hd1)
    ·simp only[List.length_append,List.length_cons]at hl ⊢;omega
def zmc {run:Run} {nt:Nat} {ops:Array Oper} {hint:List Nat} {hv:List Obj} {id:Nat} {draw:Bool} {Q:Exit->Act->World->Prop} (hm:P.follows .mixedOrders=true) (hrun:zeg P G run) (hhas:zdh P run)
 (hdst: ∀o∈ops.toList, ∀d,o.dst=some d->d<nt) (hd:draw=true->zhf P hint ops.toList=true) {ρ:Places} {s s':Slots} {h h':List Obj} {a:Act} {w:World}
 (hr:opsV P G run ops.toList (if draw then hint else []) hv 0 ops.toList s h=some (s',h')) (S:St X G nt ρ h w a s) (hseen:Seen hv h) (hvl:zbV ops.toList (if draw then hint else [])=false->hv=[])
 (hq: ∀ρ' a' w',Stp X ρ h w ρ' h' w'->St X G nt ρ' h' w' a' s'->a'.defers=a.defers->Q .normal a' w'):(Code.region id ops draw).wp P Q a w:=by
 rw[zl4 P G run _ _ _ _ 0 s h (λj=>by rw[Nat.zero_add])]at hr
 have hops:ops.toList.toArray=ops:=Array.toArray_toList;cases draw with
 |false=>
  have:=zj3 hrun hhas hdst _ ρ s h a w s' h' hr S hq;rw[hops,<- List.range_eq_range',Array.length_toList]at this;exact wp_region this
 |true=>
  refine wp_region_any hm ?_;have hs:=Stp.draw S.rel (w.drawn+1);have hrep: ∀j,j<ops.size->(Array.replicate ops.size false).getD j true=false:=λj hj=>by simp[Array.getD_eq_getD_getElem?,hj]
  have:=zpZ hrun hhas hdst (hd rfl) hvl s' _ (Array.replicate ops.size false) ρ s h a { w with drawn:=w.drawn+1 } (List.pairwise_lt_range' ..) (λj=>⟨λh=>⟨by simpa using h,hrep j (by simpa using h)⟩,λh=>by simpa using h.1⟩) (by simp) (λk o hk hl=>by rw[hrep k (by simpa using (List.getElem?_eq_some_iff.1 hk).1)]at hl;cases hl) hr
   ⟨hs.rel,S.glob.mono hs.fr,S.slots.mono hs,S.size⟩ (λ_=>hseen) (fun ρ' a' w' st=>hq ρ' a' w' (hs.trans S.rel st)) ops.size (by simp)
  rw[hops]at this;exact this
end
end Go.Am
namespace Go.Am
structure Stk (k:Nat) (X:Nat->Nat->Prop) (ρ:Places) (h:List Obj) (w:World) (ρ':Places) (h':List Obj) (w':World):Prop where
 rel:HRel X ρ' h' w'
 fr:Fr X ρ h w ρ' h' w'
 evo:Evo k ρ h ρ' h'
 le:k<=h'.length
section
variable {X:Nat->Nat->Prop} {ρ ρ' ρ'':Places} {h h' h'' h2:List Obj} {w w' w'':World} {k:Nat} {P:Program} {G:Nat->Option (List D)}
def Stk.refl (H:HRel X ρ h w) (hk:k<=h.length):Stk k X ρ h w ρ h w:=⟨H,Fr.refl _ _ _,Evo.refl _ _ _,hk⟩
def Stk.trans (a:Stk k X ρ h w ρ' h' w') (b:Stk k X ρ' h' w' ρ'' h'' w''):Stk k X ρ h w ρ'' h'' w'':=⟨b.rel,a.fr.trans b.fr,a.evo.trans b.evo,b.le⟩
def Stp.stk (a:Stp X ρ h w ρ' h' w') (H:HRel X ρ h w) (hk:k<=h.length):Stk k X ρ h w ρ' h' w':=⟨a.rel,a.fr,a.evo.mono hk,Nat.le_trans hk (a.evo.le H)⟩
def ztC {f:Nat->Option Nat} {o o1:Obj} (h1:Obj.ren f o=some o1) (r:zdD):zbJ o o1 r r:=by
 cases o with
 |box cs=>
  simp only[Obj.ren,Option.map_eq_some_iff]at h1;obtain⟨cs1,hc1,rfl⟩:=h1;exact⟨(zbj hc1).1,rfl⟩
 |arr _ _ _=>simp only[Obj.ren,Option.some.injEq]at h1;subst h1;exact zbJ.refl _ _
 |siter _ _=>simp only[Obj.ren,Option.some.injEq]at h1;subst h1;exact zbJ.refl _ _
def zmd (H:HRel X ρ h w) {ids r:List Nat} (hn:ids.Nodup) (ht:za3 h (zaW ids) ids=some h2) (hr:ids=List.range k++r):
 RenOk X X (zaW ids) ρ h (zaI ρ ids) h2/\Stk k X ρ h w (zaI ρ ids) h2 w:=by
 obtain⟨R,H2⟩:=zkS (Y:=X) H hn ht λb j hX=> .inl hX
 obtain⟨t1,t2⟩:=zee ht;have hsub: ∀ (id:Nat) (r:zdD),(zaI ρ ids)[id]? =some r-> ∃i,ρ[i]? =some r:=λid r hid=>by
  have hlt:id<h2.length:=by rw[t1];simpa[zaI]using lt_of_getElem? hid
  obtain⟨i,o,hi,ho,_⟩:=t2 id h2[id] (by simp[hlt])
  rw[zef H hi ho]at hid;exact⟨i,hid⟩
 refine⟨R,H2,⟨rfl,rfl,rfl,Nat.le_refl _,λb _ hno=>⟨rfl,λid c hid=> ?_⟩,λb j v hm hc=>⟨hc,λhm'=>hm (R.mu b j hm')⟩⟩,λid o r0 hid ho hr0=> ?_,by rw[t1,hr];simp⟩
 ·obtain⟨i,hi⟩:=hsub id _ hid
  exact hno i c hi
 ·have hget:ids[id]? =some id:=by rw[hr,List.getElem?_append_left (by simpa using hid),List.getElem?_range hid]
  have hlt:id<h2.length:=by rw[t1];exact lt_of_getElem? hget
  obtain⟨i,o',hi,ho',hren⟩:=t2 id h2[id] (by simp[hlt])
  rw[hget]at hi;cases hi;rw[ho]at ho';cases ho';exact⟨h2[id],r0,by simp[hlt],by rw[zef H hget ho,hr0],ztC hren r0⟩
def zbX {tmps:Array Value} {s:Slots}: ∀ (keep:List (Nat × Nat)) (ρ:Places) (h:List Obj),HRel X ρ h w->SRel X ρ h w tmps s->
 ∃ρ',Stp X ρ h w ρ' (zaj s h keep).2 w/\SRel X ρ' (zaj s h keep).2 w tmps (zaj s h keep).1
 |[],ρ,h,H,hs=>⟨ρ,Stp.refl H,λt=>trivial⟩
 |(t,sz)::r,ρ,h,H,hs=>by
  unfold zaj;split
  ·split
   ·rename_i sz' hv
    obtain⟨n1,n2⟩:=znu H (sz'+1);obtain⟨ρ',s1,r1⟩:=zbX r _ _ n1.rel (hs.mono n1);refine⟨ρ',n1.trans H s1,λt'=> ?_⟩
    simp only[zak];split
    ·rename_i e
     subst e;have:=hs t;rw[hv]at this;have hv':tmps.getD t undef= .slice none 0 0:=this;rw[hv'];exact s1.vrel n2
    ·exact r1 t'
   ·obtain⟨ρ',s1,r1⟩:=zbX r _ _ H hs
    refine⟨ρ',s1,λt'=> ?_⟩
    simp only[zak];split
    ·rename_i e
     subst e;exact s1.vrel (hs t)
    ·exact r1 t'
  ·split
   ·rename_i x h0 hp
    generalize t - 1000000=t0 at hp ⊢;obtain⟨p1,p2⟩:=zcq hp H (hs t0);obtain⟨ρ',s1,r1⟩:=zbX r _ _ p1.rel (hs.mono p1);refine⟨ρ',p1.trans H s1,λt'=> ?_⟩
    simp only[zak];split
    ·rename_i e
     subst e;exact s1.vrel (show zaM X ρ h0 w (tmps.getD t0 undef) (.d x) from p2)
    ·exact r1 t'
   ·exact zbX r _ _ H hs
def zf9 {f:Nat->Option Nat}: ∀ {s s2:Slots} (_:zcD f s=some s2) (t:Nat),V.ren f (zak s t)=some (zak s2 t)
 |[],s2,hr,t=>by simp[zcD]at hr;subst hr;rfl
 |(i,v)::s,s2,hr,t=>by
  simp only[zcD,List.mapM_cons,Option.bind_eq_bind,Option.bind_eq_some_iff,Option.map_eq_some_iff,Option.pure_def,Option.some.injEq]at hr;obtain⟨p,⟨y,hy,rfl⟩,ys,hys,rfl⟩:=hr;simp only[zak];split
  ·exact hy
  ·exact zf9 hys t
def SRel.ren {X':Nat->Nat->Prop} {f:Nat->Option Nat} {ρ2:Places} {tmps:Array Value} {s s2:Slots} (R:RenOk X X' f ρ h ρ2 h2) (hs:SRel X ρ h w tmps s) (hr:zcD f s=some s2):SRel X' ρ2 h2 w tmps s2:=
 λt=>(hs t).ren R (zf9 hr t)
def zp0 {keep:List (Nat × Nat)} {s s2:Slots} {tmps:Array Value} (hx:zoE k keep s h=some (s2,h2)) (H:HRel X ρ h w) (hs:SRel X ρ h w tmps s) (hk:k<=h.length):
 ∃ρ2,Stk k X ρ h w ρ2 h2 w/\SRel X ρ2 h2 w tmps s2:=by
 unfold zoE at hx;obtain⟨ρ1,s1,r1⟩:=zbX keep ρ h H hs;generalize zaj s h keep=p at*;simp only at hx;obtain⟨r,hr⟩:=zio p.2 k (p.1.flatMap λq=>q.2.ids)
 have hn:(zco p.2 (zay (List.range k) (p.1.flatMap λq=>q.2.ids))).Nodup:=zfE _ (zc4 _ _ List.nodup_range)
 generalize zco p.2 (zay (List.range k) (p.1.flatMap λq=>q.2.ids))=ids at*
 split at hx
 ·rename_i s3 h3 e1 e2
  simp only[Option.some.injEq,Prod.mk.injEq]at hx;obtain⟨rfl,rfl⟩:=hx;obtain⟨R,st⟩:=zmd s1.rel hn e2 hr;exact⟨_,(s1.stk H hk).trans st,r1.ren R e1⟩
 ·cases hx
def zdt: ∀ (s:Slots) (h:List Obj),HRel X ρ h w->Stp X ρ h w ρ (zbU h s) w
 |[],h,H=>Stp.refl H
 |(i,v)::s,h,H=>by
  simp only[zbU];split
  ·rename_i x h1 hp
   have:Stp X ρ h w ρ h1 w:=by
    cases v with
    |arr id n=>
     simp only[zbF]at hp;split at hp
     ·rename_i sz xs wm ho
      split at hp
      ·simp only[Option.some.injEq,Prod.mk.injEq]at hp
       obtain⟨_,rfl⟩:=hp;obtain⟨f1,f2,f3⟩:=zeb H ho;exact⟨f1,f2,f3⟩
      ·cases hp
     ·cases hp
    |sl id tot off len=>
     simp only[zbF]at hp;split at hp
     ·rename_i sz xs wm ho
      split at hp
      ·simp only[Option.some.injEq,Prod.mk.injEq]at hp
       obtain⟨_,rfl⟩:=hp;obtain⟨f1,f2,f3⟩:=zeb H ho;exact⟨f1,f2,f3⟩
      ·cases hp
     ·cases hp
    |emp=>simp only[zbF,Option.some.injEq,Prod.mk.injEq]at hp;obtain⟨_,rfl⟩:=hp;exact Stp.refl H
    |d x=>simp only[zbF,Option.some.injEq,Prod.mk.injEq]at hp;obtain⟨_,rfl⟩:=hp;exact Stp.refl H
    |nilS=>simp only[zbF,Option.some.injEq,Prod.mk.injEq]at hp;obtain⟨_,rfl⟩:=hp;exact Stp.refl H
    |_=>simp[zbF]at hp
   exact this.trans H (zdt s h1 this.rel)
  ·exact zdt s h H
def Out.exit':Out->Exit
 |.normal=> .normal
 |.exit i=> .exit i
 |.ret=> .ret
def St.stp {nt:Nat} {a:Act} {s:Slots} (S:St X G nt ρ h w a s) (st:Stp X ρ h w ρ' h' w'):St X G nt ρ' h' w' a s:=⟨st.rel,S.glob.mono st.fr,S.slots.mono st,S.size⟩
def znH (ops:List Oper) (hint:List Nat) (h:List Obj):Seen (zjS ops hint h) h:=by
 unfold zjS;split
 ·exact zrq h
 ·exact zoN h
def zkZ {run:Run} {rf:Bool} {nt:Nat} {ops:Array Oper} {hint:List Nat} {id:Nat} {draw:Bool} {Q:Exit->Act->World->Prop} (hm:P.follows .mixedOrders=true) (hrun:zeg P G run) (hhas:zdh P run)
 (hdst: ∀o∈ops.toList, ∀d,o.dst=some d->d<nt) (hd:draw=true->zhf P hint ops.toList=true) {s s':Slots} {a:Act} {out:Out}
 (hr:zia P G run rf hint ops.toList draw s h=some (out,s',h')) (S:St X G nt ρ h w a s)
 (hq: ∀ρ' a' w',Stp X ρ h w ρ' h' w'->St X G nt ρ' h' w' a' s'->a'.defers=a.defers->Q out.exit' a' w'):(Code.region id ops draw).wp P Q a w:=by
 unfold zia at hr;generalize hh1:(if (zd8 ops.toList && !zd9 ops.toList && !rf)=true then zbU h ((zh9 ops.toList ops.toList).map λt=>(t,zak s t)) else h)=h1 at hr
 have st:Stp X ρ h w ρ h1 w:=by
  rw[<- hh1];split
  ·exact zdt _ h S.rel
  ·exact Stp.refl S.rel
 have e0: ∀ (f:List Obj->Res),obind (some h1) f=f h1:=λ_=>rfl
 rw[e0]at hr;cases ho:opsV P G run ops.toList (if draw then hint else []) (zjS ops.toList (if draw then hint else []) h1) 0 ops.toList s h1 with
 |none=>rw[ho]at hr;cases hr
 |some p=>
  obtain⟨s2,h2⟩:=p;rw[ho]at hr;simp only[obind,Option.some.injEq,Prod.mk.injEq]at hr;obtain⟨rfl,rfl,rfl⟩:=hr;exact zmc hm hrun hhas hdst hd ho (S.stp st) (znH _ _ h1) (λe=>by unfold zjS;rw[e];rfl) fun ρ' a' w' st'=>hq ρ' a' w' (st.trans S.rel st')
def zz2 (k:Nat) (X:Nat->Nat->Prop) (G:Nat->Option (List D)) (nt:Nat) (ρ:Places) (h:List Obj) (w:World) (a:Act) (r:Out × Slots × List Obj) (Q:Exit->Act->World->Prop):Prop:=
 ∀ρ' a' w',Stk k X ρ h w ρ' r.2.2 w'->St X G nt ρ' r.2.2 w' a' r.2.1->a'.defers=a.defers->Q r.1.exit' a' w'
def zz2.step {nt:Nat} {a a1:Act} {w1:World} {ρ1:Places} {h1:List Obj} {r:Out × Slots × List Obj} {Q:Exit->Act->World->Prop} (hq:zz2 k X G nt ρ h w a r Q) (st:Stk k X ρ h w ρ1 h1 w1) (hd:a1.defers=a.defers):
 zz2 k X G nt ρ1 h1 w1 a1 r Q:=fun ρ' a' w' st' S' hd'=>hq ρ' a' w' (st.trans st') S' (hd'.trans hd)
def zrw (k:Nat) (P:Program) (X:Nat->Nat->Prop) (G:Nat->Option (List D)) (nt:Nat) (c:Code) (f:Slots->List Obj->Res):Prop:=
 ∀ (ρ:Places) (s:Slots) (h:List Obj) (a:Act) (w:World) (r:Out × Slots × List Obj) (Q:Exit->Act->World->Prop),f s h=some r->St X G nt ρ h w a s->k<=h.length->
  zz2 k X G nt ρ h w a r Q->c.wp P Q a w
def zrx {nt:Nat} {c:Code} {f:Slots->List Obj->Res} (hc:zrw k P X G nt c f): ∀n,zrw k P X G nt (.loop c) (iter f n):=by
 intro n ρ s h a w r Q hr S hk hq;refine wp_loop_rounds n ?_
 induction n generalizing ρ s h a w r with
 |zero=>simp[iter]at hr
 |succ n ih=>
  rw[rounds_succ];simp only[iter]at hr;cases hf:f s h with
  |none=>rw[hf]at hr;cases hr
  |some q=>
   refine hc ρ s h a w q _ hf S hk fun ρ1 a1 w1 st S1 hd=> ?_
   rw[hf]at hr;obtain⟨o,s1,h1⟩:=q;cases o with
   |normal=>exact ih ρ1 s1 h1 a1 w1 r hr S1 st.le (hq.step st hd)
   |exit i=>simp only[onNormal,Option.some.injEq]at hr;subst hr;exact hq ρ1 a1 w1 st S1 hd
   |ret=>simp only[onNormal,Option.some.injEq]at hr;subst hr;exact hq ρ1 a1 w1 st S1 hd
def zp1 {run:Run} {nt:Nat} {K:zh8} {Sh:zh7} {F:FuncId} {loopI:(Slots->List Obj->Res)->Slots->List Obj->Res} (hm:P.follows .mixedOrders=true) (hrun:zeg P G run) (hhas:zdh P run)
 (zfH: ∀ (c:Code) (f:Slots->List Obj->Res),zrw k P X G nt c f->zrw k P X G nt (.loop c) (loopI f)):
 ∀ (c:Code) (b:Nat),codeOk P (Sh F) nt c=true->zrw k P X G nt c (codeV P G K Sh run loopI F k b c):=by
 intro c
 induction c with
 |skip=>
  intro b hok ρ s h a w r Q hr S hk hq;simp only[codeV,Option.some.injEq]at hr;subst hr;exact wp_skip (hq ρ a w (Stk.refl S.rel hk) S rfl)
 |region id ops draw=>
  intro b hok ρ s h a w r Q hr S hk hq;simp only[codeV]at hr;simp only[codeOk,Bool.and_eq_true,List.all_eq_true]at hok;obtain⟨o,s',h'⟩:=r;refine zkZ hm hrun hhas (λo ho d hd=> ?_) (λhd=> ?_) hr S fun ρ' a' w' st=>hq ρ' a' w' (st.stk S.rel hk)
  ·have:=hok.1 o ho
   rw[hd]at this;simpa using this
  ·have:=hok.2
   rw[hd]at this;simpa using this
 |seq x y ihx ihy=>
  intro b hok ρ s h a w r Q hr S hk hq;simp only[codeV]at hr;simp only[codeOk,Bool.and_eq_true]at hok;refine wp_seq ?_;cases hf:codeV P G K Sh run loopI F k b x s h with
  |none=>rw[hf]at hr;cases hr
  |some q=>
   refine ihx b hok.1 ρ s h a w q _ hf S hk fun ρ1 a1 w1 st S1 hd=> ?_
   rw[hf]at hr;obtain⟨o,s1,h1⟩:=q;cases o with
   |normal=>exact ihy b hok.2 ρ1 s1 h1 a1 w1 r Q hr S1 st.le (hq.step st hd)
   |exit i=>simp only[onNormal,Option.some.injEq]at hr;subst hr;exact hq ρ1 a1 w1 st S1 hd
   |ret=>simp only[onNormal,Option.some.injEq]at hr;subst hr;exact hq ρ1 a1 w1 st S1 hd
 |cond c x y ihx ihy=>
  intro b hok ρ s h a w r Q hr S hk hq;simp only[codeV]at hr;simp only[codeOk,Bool.and_eq_true]at hok;unfold branch at hr;split at hr
  ·rename_i t hc
   have hv:=zlM S.glob S.slots c;rw[hc]at hv;have hb:a.eval c= .bool t:=by
    generalize a.eval c=v at hv;cases hv;rfl
   refine wp_cond hb ?_;cases t with
   |true=>exact ihx b hok.1 ρ s h a w r Q hr S hk hq
   |false=>exact ihy b hok.2 ρ s h a w r Q hr S hk hq
  ·cases hr
 |block id c ih=>
  intro b hok ρ s h a w r Q hr S hk hq;simp only[codeV]at hr;simp only[codeOk]at hok;refine wp_block ?_;cases hf:codeV P G K Sh run loopI F k id c s h with
  |none=>rw[hf]at hr;cases hr
  |some q=>
   refine ih id hok ρ s h a w q _ hf S hk fun ρ1 a1 w1 st S1 hd=> ?_
   rw[hf]at hr;obtain⟨o,s1,h1⟩:=q;cases o with
   |normal=>simp only[leave,Option.some.injEq]at hr;subst hr;exact hq ρ1 a1 w1 st S1 hd
   |exit i=>
    simp only[leave]at hr;simp only[Out.exit',Exit.inBlock];split at hr
    ·rename_i e
     rw[if_pos e];simp only[Option.some.injEq]at hr;subst hr;exact hq ρ1 a1 w1 st S1 hd
    ·rename_i e
     rw[if_neg e];simp only[Option.some.injEq]at hr;subst hr;exact hq ρ1 a1 w1 st S1 hd
   |ret=>simp only[leave,Option.some.injEq]at hr;subst hr;exact hq ρ1 a1 w1 st S1 hd
 |loop c ih=>
  intro b hok ρ s h a w r Q hr S hk hq;simp only[codeV]at hr;simp only[codeOk]at hok;split at hr
  ·rename_i keep hkeep
   refine zfH c (λs h=>obind (zoE k keep s h) λp=>codeV P G K Sh run loopI F k b c p.1 p.2) ?_ ρ s h a w r Q hr S hk hq
   intro ρ s h a w r Q hr S hk hq;replace hr:(obind (zoE k keep s h) λp=>codeV P G K Sh run loopI F k b c p.1 p.2)=some r:=hr
   cases hn:zoE k keep s h with
   |none=>rw[hn]at hr;cases hr
   |some p=>
    obtain⟨s2,h2⟩:=p;rw[hn]at hr;obtain⟨ρ2,st,hs⟩:=zp0 hn S.rel S.slots hk;exact ih b hok ρ2 s2 h2 a w r Q hr ⟨st.rel,S.glob.mono st.fr,hs,S.size⟩ st.le (hq.step st rfl)
  ·exact zfH c _ (ih b hok) ρ s h a w r Q hr S hk hq
 |exit id=>
  intro b hok ρ s h a w r Q hr S hk hq;simp only[codeV,Option.some.injEq]at hr;subst hr;exact wp_exit (hq ρ a w (Stk.refl S.rel hk) S rfl)
 |ret=>
  intro b hok ρ s h a w r Q hr S hk hq;simp only[codeV,Option.some.injEq]at hr;subst hr;exact wp_ret (hq ρ a w (Stk.refl S.rel hk) S rfl)
 |_=>
  intro b hok ρ s h a w r Q hr S hk hq;simp[codeV]at hr
open Classical in
noncomputable def loops (body:Slots->List Obj->Res) (s:Slots) (h:List Obj):Res:=
 if e: ∃n r,iter body n s h=some r then some (Classical.choose (Classical.choose_spec e)) else none
def zix {body:Slots->List Obj->Res}: ∀ {n m:Nat},n<=m-> ∀ {s:Slots} {h:List Obj} {r:Out × Slots × List Obj},iter body n s h=some r->iter body m s h=some r
 |0,_,_,s,h,r,hr=>by simp[iter]at hr
 |n+1,0,hl,_,_,_,_=>by omega
 |n+1,m+1,hl,s,h,r,hr=>by
  simp only[iter]at hr ⊢;cases hb:body s h with
  |none=>rw[hb]at hr;cases hr
  |some q=>
   rw[hb]at hr;obtain⟨o,s1,h1⟩:=q;cases o with
   |normal=>exact zix (Nat.le_of_succ_le_succ hl) hr
   |exit i=>exact hr
   |ret=>exact hr
def zdY {body:Slots->List Obj->Res} {s:Slots} {h:List Obj} {r:Out × Slots × List Obj}:loops body s h=some r↔ ∃n,iter body n s h=some r:=by
 unfold loops;constructor
 ·intro hr
  split at hr
  ·rename_i e
   simp only[Option.some.injEq]at hr;subst hr;exact⟨_,Classical.choose_spec (Classical.choose_spec e)⟩
  ·cases hr
 ·rintro ⟨n,hn⟩
  have e: ∃n r,iter body n s h=some r:=⟨n,r,hn⟩;rw[dif_pos e];have h2:=Classical.choose_spec (Classical.choose_spec e);have h3:=zix (Nat.le_max_left n (Classical.choose e)) hn;have h4:=zix (Nat.le_max_right n (Classical.choose e)) h2;rw[h3]at h4;simpa using h4.symm
def ztD (body:Slots->List Obj->Res) (s:Slots) (h:List Obj):loops body s h=onNormal (body s h) (loops body):=by
 apply Option.ext;intro r;rw[zdY];cases hb:body s h with
 |none=>
  simp only[onNormal,reduceCtorEq,iff_false,not_exists];intro n hn;cases n with
  |zero=>simp[iter]at hn
  |succ n=>simp[iter,hb,onNormal]at hn
 |some q=>
  obtain⟨o,s1,h1⟩:=q;cases o with
  |normal=>
   simp only[onNormal];rw[zdY];constructor
   ·rintro ⟨n,hn⟩
    cases n with
    |zero=>simp[iter]at hn
    |succ n=>exact⟨n,by simpa[iter,hb,onNormal]using hn⟩
   ·rintro ⟨n,hn⟩
    exact⟨n+1,by simpa[iter,hb,onNormal]using hn⟩
  |exit i=>
   simp only[onNormal];constructor
   ·rintro ⟨n,hn⟩
    cases n with
    |zero=>simp[iter]at hn
    |succ n=>simpa[iter,hb,onNormal]using hn
   ·intro hr
    exact⟨1,by simpa[iter,hb,onNormal]using hr⟩
  |ret=>
   simp only[onNormal];constructor
   ·rintro ⟨n,hn⟩
    cases n with
    |zero=>simp[iter]at hn
    |succ n=>simpa[iter,hb,onNormal]using hn
   ·intro hr
    exact⟨1,by simpa[iter,hb,onNormal]using hr⟩
def zp2 {nt:Nat} {c:Code} {f:Slots->List Obj->Res} (hc:zrw k P X G nt c f):zrw k P X G nt (.loop c) (loops f):=fun ρ s h a w r Q hr S hk hq=>
 let ⟨n,hn⟩:=zdY.1 hr
 zrx hc n ρ s h a w r Q hn S hk hq
end
end Go.Am
namespace Go.Am
section
variable {X:Nat->Nat->Prop} {ρ ρ' ρ'':Places} {h h' h'' h2:List Obj} {w w' w'':World} {k:Nat} {P:Program} {G:Nat->Option (List D)}
def zjJ {t:TypeId} {v u:Value} (hr:(Instr.loadAt t v).run P w= .ok u w):(do loadVar t (<- asAddr v)).run P w= .ok u w:=by
 cases v with
 |pointer a=>
  cases a with
  |none=>simp[Instr.loadAt,Instr.sureAddr]at hr
  |some a=>simpa[Instr.loadAt,Instr.sureAddr,asAddr]using hr
 |_=>simp[Instr.loadAt,Instr.sureAddr]at hr
def zga (tmps:Array Value):ResultVar->Sem Value
 |.tmp t=>pure (tmps.getD t undef)
 |.cell a t=>do loadVar t (<- asAddr (tmps.getD a undef))
def zgN {tmps:Array Value} {s:Slots} (H:HRel X ρ h w) (hs:SRel X ρ h w tmps s): ∀ (l:List ResultVar) (vs:List V),zpE P s h l=some vs->
 ∃us:List Value,(l.mapM (zga tmps)).run P w= .ok us w/\zcI X ρ h w us vs
 |[],vs,hr=>by
  simp only[zpE,Option.some.injEq]at hr;subst hr;exact⟨[],by simp,rfl,λj A hj=>by simp at hj⟩
 |.tmp t::l,vs,hr=>by
  simp only[zpE,Option.map_eq_some_iff]at hr;obtain⟨vs',hr',rfl⟩:=hr;obtain⟨us,h1,h2,h3⟩:=zgN H hs l vs' hr';refine⟨tmps.getD t undef::us,by simp[zga,h1],by simp[h2],λj A hj=> ?_⟩
  cases j with
  |zero=>simp only[List.getElem?_cons_zero,Option.some.injEq]at hj;subst hj;exact⟨_,rfl,hs t⟩
  |succ j=>simpa using h3 j A (by simpa using hj)
 |.cell a t::l,vs,hr=>by
  simp only[zpE]at hr;split at hr
  ·rename_i v vs' hl hr'
   simp only[Option.some.injEq]at hr;subst hr;obtain⟨us,h1,h2,h3⟩:=zgN H hs l vs' hr';obtain⟨u,h4,h5⟩:=zic hl H (hs a);have h6:=zjJ h4;refine⟨u::us, ?_,by simp[h2],λj A hj=> ?_⟩
   ·simp only[List.mapM_cons,zga,Sem.run_bind]
    simp only[Sem.run_bind]at h6;rw[h6];simp[h1]
   ·cases j with
    |zero=>simp only[List.getElem?_cons_zero,Option.some.injEq]at hj;subst hj;exact⟨u,rfl,h5⟩
    |succ j=>simpa using h3 j A (by simpa using hj)
  ·cases hr
def znI {fn:Func} {tmps:Array Value} {us:List Value} (hr:(fn.results.toList.mapM (zga tmps)).run P w= .ok us w):(results fn tmps).run P w= .ok (zjX us) w:=by
 have e:results fn tmps=(do let vs <- fn.results.mapM (zga tmps);pure (if h:vs.size=1 then vs[0] else .tuple vs)):=by
  unfold results;congr 1
 rw[e,Array.mapM_eq_mapM_toList];simp only[Sem.run_bind,Sem.run_map,hr]
 match us with
 |[]=>simp[zjX]
 |[v]=>simp[zjX]
 |v::u::us=>simp[zjX]
def zfG: ∀ (vs:List V) (ts:List TypeId) (ρ:Places) (h:List Obj) (us:List Value),HRel X ρ h w->zcI X ρ h w us vs->
 ∃ρ',Stp X ρ h w ρ' (zh6 P h vs ts).2 w/\zcI X ρ' (zh6 P h vs ts).2 w us (zh6 P h vs ts).1
 |[],ts,ρ,h,us,H,ha=>⟨ρ,Stp.refl H,ha⟩
 |v::vs,ts,ρ,h,us,H,⟨hl,hg⟩=>by
  match us,hl,hg with
  |u::us,hl,hg=>
  obtain⟨u',e,hv⟩:=hg 0 v (by simp)
  simp only[List.getElem?_cons_zero,Option.some.injEq]at e;subst e;have tail:zcI X ρ h w us vs:=⟨by simpa using hl,λj A hj=>by simpa using hg (j+1) A (by simpa using hj)⟩
  simp only[zh6];split
  ·obtain⟨n1,n2⟩:=znu H (zbi P (ts.headD 0))
   have hu:u= .slice none 0 0:=hv;subst hu;obtain⟨ρ',s1,l1,r1⟩:=zfG vs ts.tail _ _ us n1.rel ⟨tail.1,λj A hj=>let ⟨v,a,b⟩:=tail.2 j A hj;⟨v,a,n1.vrel b⟩⟩
   refine⟨ρ',n1.trans H s1,by simp[l1],λj A hj=> ?_⟩
   cases j with
   |zero=>simp only[List.getElem?_cons_zero,Option.some.injEq]at hj;subst hj;exact⟨_,rfl,s1.vrel n2⟩
   |succ j=>simpa using r1 j A (by simpa using hj)
  ·obtain⟨ρ',s1,l1,r1⟩:=zfG vs ts.tail _ _ us H tail
   refine⟨ρ',s1,by simp[l1],λj A hj=> ?_⟩
   cases j with
   |zero=>simp only[List.getElem?_cons_zero,Option.some.injEq]at hj;subst hj;exact⟨_,rfl,s1.vrel hv⟩
   |succ j=>simpa using r1 j A (by simpa using hj)
def zme {ts:List TypeId} {vs ws:List V} {us:List Value} (hx:zfW P k ts vs h=some (ws,h2)) (H:HRel X ρ h w) (ha:zcI X ρ h w us vs) (hk:k<=h.length):
 ∃ρ2,Stk k X ρ h w ρ2 h2 w/\zrm X ρ2 h2 w (zjX us) ws:=by
 unfold zfW at hx;obtain⟨ρ1,s1,r1⟩:=zfG (P:=P) vs ts ρ h us H ha;generalize zh6 P h vs ts=p at*;simp only at hx;obtain⟨r,hr⟩:=zio p.2 k (p.1.flatMap V.ids);have hn:(zco p.2 (zay (List.range k) (p.1.flatMap V.ids))).Nodup:=zfE _ (zc4 _ _ List.nodup_range);generalize zco p.2 (zay (List.range k) (p.1.flatMap V.ids))=ids at*;split at hx
 ·rename_i s3 h3 e1 e2
  simp only[Option.some.injEq,Prod.mk.injEq]at hx;obtain⟨rfl,rfl⟩:=hx;obtain⟨R,st⟩:=zmd s1.rel hn e2 hr;obtain⟨m1,m2⟩:=zbj e1;refine⟨_,(s1.stk H hk).trans st,us,by rw[r1.1,m1],λj B hj=> ?_,rfl⟩
  obtain⟨A,hA,hAr⟩:=m2 j B hj;obtain⟨u,hu,hv⟩:=r1.2 j A hA;refine⟨u,hu,V2.ren R ?_ hAr⟩;cases A with
  |tup vs=>simp[V.ren2,V.ren1,V.ren0]at hAr
  |_=>exact hv
 ·cases hx
def zfx: ∀ (args:List V) (i t:Nat),zak (zas i args) t=if i<=t then args.getD (t - i) .dead else .dead
 |[],i,t=>by simp[zas,zak]
 |v::vs,i,t=>by
  simp only[zas,zak];rw[zfx vs (i+1) t]
  by_cases e:i=t
  ·subst e;simp
  ·rw[if_neg e]
   by_cases h1:i<=t
   ·rw[if_pos h1,if_pos (by omega),show t - i=t - (i+1)+1 by omega,List.getD_cons_succ]
   ·rw[if_neg h1,if_neg (by omega)]
def ztE {run:Run} {K:zh8} {Sh:zh7} (hm:P.follows .mixedOrders=true) {loopI:(Slots->List Obj->Res)->Slots->List Obj->Res} (hrun:zeg P G run) (hhas:zdh P run)
 (zfH: ∀ (k nt:Nat) (X:Nat->Nat->Prop) (c:Code) (f:Slots->List Obj->Res),zrw k P X G nt c f->zrw k P X G nt (.loop c) (loopI f)):
 zeg P G (bodyV P G K Sh run loopI)/\zdh P (bodyV P G K Sh run loopI):=by
 have open' : ∀ f args h r, bodyV P G K Sh run loopI f args h = some r -> ∃ fn c, P.funcs[f]? = some fn /\ fn.body = some c /\ (fn.name == "runtime.NumGoroutine") = false /\ codeOk P (Sh f) fn.ntmps c = true /\
  args.length<=fn.ntmps/\zwW P fn h.length (codeV P G K Sh run loopI f h.length 0 c (zas 0 args) h)=some r:=λf args h r hr=>by
  unfold bodyV at hr;split at hr
  ·cases hr
  ·rename_i fn hf
   split at hr
   ·cases hr
   ·rename_i c hb
    split at hr
    ·rename_i hc
     simp only[Bool.and_eq_true,decide_eq_true_eq,Bool.not_eq_true']at hc;exact⟨fn,c,hf,hb,hc.2,hc.1.1,hc.1.2,hr⟩
    ·cases hr
 refine⟨λf args h rets h' hr X ρ w vs H hg ha=> ?_,λf args h r hr=> ?_⟩
 ·obtain⟨fn,c,hf,hb,_,hok,hle,he⟩:=open' _ _ _ _ hr
  refine calls_of_wp hf hb ?_;have S:St X G fn.ntmps ρ h w { tmps:=vs.toArray++Array.replicate (fn.ntmps - vs.toArray.size) undef,defers:=[] } (zas 0 args):=by
   refine⟨H,hg,λt=> ?_, ?_⟩
   ·rw[zfx,if_pos (Nat.zero_le _),Nat.sub_zero]
    rcases Nat.lt_or_ge t args.length with ht | ht
    ·obtain⟨v,h1,h2⟩:=ha.2 t args[t] (by simp[ht])
     have h3:args.getD t .dead=args[t]:=by simp[List.getD_eq_getElem?_getD,ht]
     rw[h3,Array.getD_eq_getD_getElem?,Array.getElem?_append_left (by simpa[ha.1]using ht),List.getElem?_toArray,h1]
     exact h2
    ·have h3:args.getD t .dead= .dead:=by simp[List.getD_eq_getElem?_getD,List.getElem?_eq_none ht]
     rw[h3];trivial
   ·have:=ha.1
    simp only[Array.size_append,List.size_toArray,Array.size_replicate];omega
  cases hcv:codeV P G K Sh run loopI f h.length 0 c (zas 0 args) h with
  |none=>rw[hcv]at he;cases he
  |some q=>
   obtain⟨o,s1,h1⟩:=q;rw[hcv]at he;refine zp1 hm hrun hhas (zfH _ _ _) c 0 hok ρ _ h _ w _ _ hcv S (Nat.le_refl _) fun ρ1 a1 w1 st S1 hd=> ?_
   have key:obind (zpE P s1 h1 fn.results.toList) (λvs=>zfW P h.length fn.resultTypes.toList vs h1)=some (rets,h')->
    a1.defers=[]/\ ∃v,(results fn a1.tmps).run P w1= .ok v w1/\ ∃ρ' rv,Ending.returned v= .returned rv/\Stp X ρ h w ρ' h' w1/\zrm X ρ' h' w1 rv rets:=λhe=>by
    cases hres:zpE P s1 h1 fn.results.toList with
    |none=>rw[hres]at he;cases he
    |some rs=>
     rw[hres]at he;obtain⟨us,r1,r2⟩:=zgN S1.rel S1.slots _ _ hres;obtain⟨ρ2,st2,rr⟩:=zme he S1.rel r2 st.le;have st3:=st.trans st2;exact⟨hd,_,znI r1,ρ2,_,rfl,⟨st3.rel,st3.fr,st3.evo⟩,rr⟩
   cases o with
   |normal=>exact key he
   |exit i=>simp[zwW]at he
   |ret=>exact key he
 ·obtain⟨fn,c,hf,hb,hname,_⟩:=open' _ _ _ _ hr
  exact⟨fn,hf,hname,by rw[hb];rfl⟩
def zj8 {x y:Option (List V × List Obj)} {r:List V × List Obj} (hj:joinV x y=some r):x=some r/\y=some r:=by
 unfold joinV at hj;split at hj
 ·rename_i e
  exact⟨hj,e ▸ hj⟩
 ·cases hj
def ziy {run:Run} {K:zh8} {Sh:zh7} {loopI:(Slots->List Obj->Res)->Slots->List Obj->Res} {f:FuncId} {args:List V} {r:List V × List Obj} (hr:bodyS P G K Sh run loopI f args h=some r):
 bodyV P G K Sh run loopI f args h=some r\/ ∃zaB,args= .d (.list [])::zaB/\bodyV P G K Sh run loopI f (.nilS::zaB) h=some r/\bodyV P G K Sh run loopI f (.emp::zaB) h=some r:=by
 unfold bodyS at hr;split at hr
 ·exact .inr ⟨_,rfl,zj8 hr⟩
 ·exact .inl hr
def ztF {run:Run} {K:zh8} {Sh:zh7} (hm:P.follows .mixedOrders=true) {loopI:(Slots->List Obj->Res)->Slots->List Obj->Res} (hrun:zeg P G run) (hhas:zdh P run)
 (zfH: ∀ (k nt:Nat) (X:Nat->Nat->Prop) (c:Code) (f:Slots->List Obj->Res),zrw k P X G nt c f->zrw k P X G nt (.loop c) (loopI f)):
 zeg P G (bodyS P G K Sh run loopI)/\zdh P (bodyS P G K Sh run loopI):=by
 obtain⟨b1,b2⟩:=ztE (K:=K) (Sh:=Sh) hm hrun hhas zfH;refine⟨λf args h rets h' hr X ρ w vs H hg ha=> ?_,λf args h r hr=> ?_⟩
 ·rcases ziy hr with hr | ⟨zaB,rfl,hr1,hr2⟩
  ·exact b1 f args h rets h' hr X ρ w vs H hg ha
  ·obtain⟨v,hv1,hv2⟩:=ha.2 0 _ rfl
   have rest': ∀A,zaM X ρ h w v A->zcI X ρ h w vs (A::zaB):=λA hA=>⟨by simpa using ha.1,λj B hj=>by
    cases j with
    |zero=>simp only[List.getElem?_cons_zero,Option.some.injEq]at hj;subst hj;exact⟨v,hv1,hA⟩
    |succ j=>exact ha.2 (j+1) B (by simpa using hj)⟩
   have hrep:Rep (Mut X ρ h) w v (.list []):=hv2;cases hrep with
   |nil a c hac=>
    cases a with
    |none=>
     have:=hac rfl;subst this;exact b1 f _ h rets h' hr1 X ρ w vs H hg (rest' .nilS rfl)
    |some a=>exact b1 f _ h rets h' hr2 X ρ w vs H hg (rest' .emp ⟨a,c,rfl⟩)
   |list b off len cap sz _ vs' e1 e2 e3 e4 e5=>
    have:len=0:=by simpa using e1
    subst this;exact b1 f _ h rets h' hr2 X ρ w vs H hg (rest' .emp ⟨_,_,rfl⟩)
 ·rcases ziy hr with hr | ⟨zaB,rfl,hr1,hr2⟩
  ·exact b2 f args h r hr
  ·exact b2 f _ h r hr1
end
end Go.Am
