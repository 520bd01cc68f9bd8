/- Files of rows, opened. -/
import Derived.Test.YtibdiacpdmhmnaaGreatDoorFileC
import Derived.Test.YtibdiacpdmhmnaaGreatDoorOpenA
import Derived.Test.YtibdiacpdmhmnaaGreatDoorOpenB
set_option linter.all false
namespace Go.Am.Ab
open Go.Proofs
set_option maxHeartbeats 8000000
set_option maxRecDepth 4000
def zp4 (l:List Val) (hn:l.length<1000000000):R 65 [.d (.list (vs l))] []=some ([.arr 0 l.length],[.arr 1 (vs l) 0]):=by
 cases l with
 |nil=>
  refine zeM (rs:=[.tmp 2]) (ts:=[71]) Tryz.func65 rfl rfl rfl (by kernel_rfl) (by kernel_rfl) zBY (by simp[Tryz.f65]) ?_
  intro T hT a ha;rcases ha with rfl | rfl
  all_goals simp -dsimp -implicitDefEqProofs (disch:=first|omega|assumption)
  all_goals exact hT
 |cons x r=>
  simp only[yad]at hn;refine zfk (rs:=[.tmp 2]) (ts:=[71]) Tryz.func65 rfl rfl rfl (by kernel_rfl) (by kernel_rfl) (.inr ⟨(zBY).2,by intro zav h;simp at h⟩) (by simp[Tryz.f65]) ?_
  intro T hT;simp -dsimp -implicitDefEqProofs (disch:=first|omega|assumption)
  simpa -dsimp -implicitDefEqProofs (disch:=first|omega|assumption) using hT
@[simp] def zz6 (l:List Fld):zao 4 (l.map Fld.d)=true:=zaJ l λ_=>rfl
def zp5 (l:List Fld) (hn:l.length<1000000000):R 77 [.d (.list (l.map Fld.d))] []=some ([.arr 0 l.length],[.arr 4 (l.map Fld.d) 0]):=by
 cases l with
 |nil=>
  refine zeM (rs:=[.tmp 2]) (ts:=[23]) Tryz.func77 rfl rfl rfl (by kernel_rfl) (by kernel_rfl) zBZ (by simp[Tryz.f77]) ?_
  intro T hT a ha;rcases ha with rfl | rfl
  all_goals simp -dsimp -implicitDefEqProofs (disch:=first|omega|assumption)
  all_goals exact hT
 |cons x r=>
  simp only[yad]at hn;refine zfk (rs:=[.tmp 2]) (ts:=[23]) Tryz.func77 rfl rfl rfl (by kernel_rfl) (by kernel_rfl) (.inr ⟨(zBZ).2,by intro zav h;simp at h⟩) (by simp[Tryz.f77]) ?_
  intro T hT;simp -dsimp -implicitDefEqProofs (disch:=first|omega|assumption)
  simpa -dsimp -implicitDefEqProofs (disch:=first|omega|assumption) using hT
def zHC (r:List Val):D:= .list (vs r)
@[simp] def zA9 (r:List Val):(zHC r).cells=[zHC r]:=rfl
def zoE (s:Sch) (hs:s.fields.length<1000000) (x gg st:D):
 R 28 [.ptr 0 0] [.box [.d (.int .u32 s.id),.d (.list (s.fields.map Fld.d)),.d x,.d gg,.d st]]=some ([.agg [.d (.int .u32 s.id),.arr 1 s.fields.length]],[.box [.d (.int .u32 s.id),.d (.list (s.fields.map Fld.d)),.d x,.d gg,.d st],.arr 4 (s.fields.map Fld.d) 0]):=by
 have h:=zp5 s.fields (by omega)
 have hl:(s.fields.map Fld.d).length=s.fields.length:=yak _;obtain⟨sid,fs⟩:=s;simp only at h hl ⊢;generalize fs.map Fld.d=Y at*;refine rg b28 rfl ?_;intro T hT;simp -dsimp -implicitDefEqProofs (disch:=first|omega|assumption) [h,hl]
 simpa -dsimp -implicitDefEqProofs (disch:=first|omega|assumption) using hT
def zvK (X:List (List Val)) (hX:X.length<=1000000) (hr: ∀r∈X,r.length<=1000000):R 26 [.d (.list (za6 X))] []=some ([.arr 0 X.length],[.arr 1 (zdL (X.map (·.map zah))) 0]):=by
 have hend:zdL (X.map (·.map zah))=zey (λr=> .list (ce (r.map zah))) X X.length:=by
  rw[zbw (yag _)];exact ya3
 obtain⟨cD,hcD⟩: ∃cD:List Val->D,cD=λr=> .list (ce (r.map zah)):=⟨_,rfl⟩
 have hcc: ∀r,(cD r).cells=[cD r]:=λr=>by rw[hcD];rfl
 obtain⟨Y,hY⟩: ∃Y,Y=za6 X:=⟨_,rfl⟩;have hYl:Y.length=X.length:=by rw[hY,yak]
 rw[hend,<- hcD,<- hY];refine rg b26 rfl ?_;intro T hT;simp -dsimp -implicitDefEqProofs (disch:=first|omega|assumption)
 generalize hz:zak _ _ _ _ _ _=z;revert z;refine zaa (σ:=Nat) (λj=>[(0,.d (.list Y)),(3,.arr 0 j),(4,.d (.int .i64 j))]) (λj=>[.arr 1 (zey cD X j) 0]) (λj=>j<=X.length) (λj=>X.length - j) 0 ?_ ?_ ?_
 ·exact yaj _
 ·simp -dsimp -implicitDefEqProofs (disch:=first|omega|assumption) [zaR]
 intro T' f hT' j hj ih
 by_cases h1:j<X.length
 ·have h2:j<Y.length:=by omega
  obtain⟨r,hr1⟩: ∃r,X[j]=r:=⟨_,rfl⟩;have hYj:Y[j]= .list (vs r):=by simp only[hY,ybE,hr1]
  have hc:=zsr r (hr r (hr1 ▸ yar h1));have htk:=zaS (g:=cD) h1;have hlen:=zam (g:=cD) hj;rw[hr1,show cD r= .list (ce (r.map zah)) by rw[hcD]]at htk
  obtain⟨w,hw⟩: ∃w,w=vs r:=⟨_,rfl⟩;obtain⟨z,hz⟩: ∃z,z=ce (r.map zah):=⟨_,rfl⟩;have hzl:z.length=r.length:=by rw[hz,yak,yak]
  rw[<- hw]at hYj hc;rw[<- hz]at hc htk;simp -dsimp -implicitDefEqProofs (disch:=first|omega|assumption) [h1,h2,hYj,hc,hlen,hzl]
  refine ih (j+1) _ _ h1 (by omega) ?_
  rw[htk];simp -dsimp -implicitDefEqProofs (disch:=first|omega|assumption)
 ·have e:j=X.length:=by omega
  subst e;subst hT';have h2: ¬ X.length<Y.length:=by omega
  simp -dsimp -implicitDefEqProofs (disch:=first|omega|assumption) [h2]
  simpa -dsimp -implicitDefEqProofs (disch:=first|omega|assumption) using hT
end Go.Am.Ab
namespace Go.Am.Ab
open Go.Proofs
set_option maxHeartbeats 4000000
def okR (n:Nat) (r:List Val):Prop:=r.length<=n/\ ∀x,Val.whole x∈r->zaf x
def zz7 {n:Nat} {T:List (List Val)} {l:List Val} {k:Nat} (hT: ∀r∈T,okR n r) (hl:zgj k l): ∀r∈zp3 T l,okR (n+1) r:=by
 intro r hr;obtain⟨j,hj⟩:=ybe hr;unfold zp3 at hj;rw[List.getElem?_zipWith]at hj;cases e1:T[j]? with
 |none=>rw[e1]at hj;simp at hj
 |some a=>
  cases e2:l[j]? with
  |none=>rw[e1,e2]at hj;simp at hj
  |some v=>
   rw[e1,e2]at hj;simp only[yaa]at hj;subst hj;obtain⟨h1,h2⟩:=hT a (yao e1);refine⟨by simp only[yae,ya2];omega,λx hx=> ?_⟩
   rcases List.mem_append.1 hx with hx | hx
   ·exact h2 x hx
   ·have:=List.mem_singleton.1 hx
    rcases hl v (yao e2) with h | ⟨_,h,_⟩
    ·rw[h]at this;cases this
    ·exact h x this.symm
def zrw {many:Nat}: ∀ {ks:List Nat} {r:List UInt8 × Bool} {e:List UInt8} {T:List (List Val)} {n:Nat} {r':List UInt8 × Bool} {e':List UInt8} {T':List (List Val)},zgh many ks r e T=some (r',e',T')->T.length=many->(∀q∈T,okR n q)->T'.length=many/\ ∀q∈T',okR (n+ks.length) q
 |[],r,e,T,n,r',e',T',h,h1,h2=>by
  simp only[zgh,yaa,yab]at h;obtain⟨_,_,rfl⟩:=h;exact⟨h1,h2⟩
 |k::ks,r,e,T,n,r',e',T',h,h1,h2=>by
  rw[zfB]at h;split at h
  ·cases h
  ·split at h
   ·cases h
   ·rename_i h3
    obtain⟨g1,g2,_⟩:=zgg (Decidable.not_not.1 h3);obtain⟨a,b⟩:=zrw (n:=n+1) h (by rw[zgi,h1,g2,Nat.min_self]) (zz7 h2 g1)
    exact⟨a,λq hq=>by rw[yad,show n+(ks.length+1)=n+1+ks.length by omega];exact b q hq⟩
def zrx {ks:List Nat} {g:Nat}: ∀ {f n:Nat} {r:List UInt8 × Bool} {e:List UInt8} {acc X:List (List Val)},ziI ks g f n r e acc=some X->acc.length+n<=256->(∀q∈acc,okR ks.length q)->X.length<=256/\ ∀q∈X,okR ks.length q
 |0,n,r,e,acc,X,h,_,_=>by simp[ziI]at h
 |f+1,n,r,e,acc,X,h,h1,h2=>by
  unfold ziI at h;split at h
  ·obtain rfl:=yaV h
   exact⟨by omega,h2⟩
  ·split at h
   ·cases h
   ·rename_i r' e' T hc
    obtain⟨a,b⟩:=zrw (n:=0) hc (by simp) λq hq=>by
     rw[(List.mem_replicate.1 hq).2];exact⟨yag _,λx hx=>by simp at hx⟩
    refine zrx h (by rw[yae,a];omega) λq hq=> ?_
    rcases List.mem_append.1 hq with hq | hq
    ·exact h2 q hq
    ·have:=b q hq;rwa [yaO]at this
def zxQ {b:List UInt8} {s:Sch} {X:List (List Val)} {g:Nat} (h:zmP b=some (s,X,g)):SchOk s/\SchIs s/\1<=g/\g<=64/\X.length<=256/\ ∀q∈X,okR 8 q:=by
 unfold zmP at h;split at h
 ·cases h
 ·split at h
  ·cases h
  ·simp only at h
   split at h
   ·cases h
   ·rename_i h3
    obtain⟨h4,h5,_⟩:=zlY (Decidable.not_not.1 h3);split at h
    ·cases h
    ·rename_i h6
     split at h
     ·cases h
     ·rename_i Y hY
      simp only[yaa,yab]at h;obtain⟨rfl,rfl,rfl⟩:=h;have hs:=ze8 h4;have l1:=(zdM 256 ((zcH (List.drop ((List.take (b.length - 4) b).length - zz5 (List.drop (b.length - 4) b)) (List.take (b.length - 4) b))).2.1,false)).1;have l2:=(zdM 64 (zev 256 ((zcH (List.drop ((List.take (b.length - 4) b).length - zz5 (List.drop (b.length - 4) b)) (List.take (b.length - 4) b))).2.1,false)).2).1;obtain⟨a,c⟩:=zrx hY (by simp only[yav];omega) λq hq=>by simp at hq
      refine⟨h5,hs,by simp only[not_or]at h6;omega,l2,a,λq hq=> ?_⟩
      obtain⟨c1,c2⟩:=c q hq;have:=hs.len;rw[yak]at c1;exact⟨by omega,c2⟩
end Go.Am.Ab
namespace Go.Am.Ab
open Go.Proofs
set_option maxHeartbeats 16000000
set_option maxRecDepth 4000
def zhi (g:List (List Val)) (i:Nat):List D:=(List.range i).map λj=>(za3 (col g j)).d
def zdx (n:Nat) (g:List (List Val)):D:= .list (zhi g n)
def zkp (g:List (List Val)) (i:Nat):zhi g (i+1)=zhi g i++[(za3 (col g i)).d]:=by simp[zhi,ycW]
def zhj (g:List (List Val)) (i:Nat):(zhi g i).length=i:=by simp[zhi]
@[simp] def zyM (n:Nat) (g:List (List Val)):(zdx n g).cells=[zdx n g]:=rfl
def zvL {s:Sch} {X:List (List Val)} {n:Int} {c:List UInt8} (h:zd2 s X n=(c,0)):zoT s X=0/\zj7 s=0:=by
 unfold zd2 at h;split at h
 ·rename_i h1;simp only[yab]at h;exact absurd h.2 h1
 ·rename_i h1
  split at h
  ·simp at h
  ·split at h
   ·simp at h
   ·split at h
    ·rename_i h2;simp only[yab]at h;exact absurd h.2 h2
    ·rename_i h2;exact⟨Decidable.not_not.1 h2,Decidable.not_not.1 h1⟩
def zlZ (s:Sch) (X:List (List Val)) (n:Int):(zd2 s X n).1.length<=65536:=by
 unfold zd2;split
 ·exact yaj _
 ·split
  ·exact yaj _
  ·split
   ·exact yaj _
   ·split
    ·exact yaj _
    ·split
     ·exact yaj _
     ·simp only;omega
def zoF (id:Nat) (l:List D):V:=match l with | []=> .nilS | _=> .arr id l.length
def zoG (sz:Nat) (l:List D):List Obj:=match l with | []=>[] | _=>[.arr sz l 0]
def zvM (b:List UInt8):Nat ⊕ (Sch × List (List Val) × Nat):=
 match zmI b with
 |none=> .inl 101
 |some t=>if t.length<3\/t.take 3≠[67,70,49] then .inl 100 else
  match zmP (t.drop 3) with
  |none=> .inl 102
  |some (s,X,g)=>if (zd2 s X g).2=0/\(zd2 s X g).1=b then .inr (s,X,g) else .inl 102
def ziJ:Nat ⊕ (Sch × List (List Val) × Nat)->List V
 |.inl e=>[.d .nilP,E e]
 |.inr _=>[.ptr 0 0,E 0]
def zhk:Nat ⊕ (Sch × List (List Val) × Nat)->List Obj
 |.inl _=>[]
 |.inr (s,X,g)=>match X with
  |[]=>[.box [.d (.int .u32 s.id),.d (.list (s.fields.map Fld.d)),.nilS,.d (.int .i64 g),.nilS]]
  |_=>[.box [.d (.int .u32 s.id),.d (.list (s.fields.map Fld.d)),.arr 1 X.length,.d (.int .i64 g),.arr 2 (cks g X.length X).length],.arr 1 (za6 X) X.length,.arr 1 ((cks g X.length X).map (zdx s.fields.length)) 0]
def ztd (b:List UInt8) (hb:b.length<1000000):R 18 [B b] []=some (ziJ (zvM b),zhk (zvM b)):=by
 have ho:=zs2 b hb;unfold zvM;cases hp:zmI b with
 |none=>
  rw[hp]at ho;simp only[OpR]at ho;refine rg b18 rfl ?_;intro T hT;simp -dsimp -implicitDefEqProofs (disch:=first|omega|assumption) [ho]
  simpa -dsimp -implicitDefEqProofs (disch:=first|omega|assumption) [ziJ,zhk,E]using hT
 |some t=>
  rw[hp]at ho;have htl:t.length<=b.length:=by
   have:=zvi hp;rw[<- this,zbR];omega
  simp only[OpR]at ho ⊢
  by_cases h1:t.length<3
  ·rw[yai (.inl h1)]
   have h1':(t.length:Int)<3:=by omega
   refine rg b18 rfl ?_;intro T hT;simp -dsimp -implicitDefEqProofs (disch:=first|omega|assumption) [ho,h1']
   simpa -dsimp -implicitDefEqProofs (disch:=first|omega|assumption) [ziJ,zhk,E]using hT
  have h1': ¬ (t.length:Int)<3:=by omega
  have h1b:(3:Int)<=t.length:=by omega
  obtain⟨t3,ht3⟩: ∃t3,t3=t.take 3:=⟨_,rfl⟩;have ht3':List.take 3 (bytes t)=bytes t3:=by rw[ht3];exact List.map_take.symm
  have hM3:=zfx t3
  by_cases h2:t3=[67,70,49]
  case neg=>
   rw[<- ht3,yai (.inr h2)];have h2':(t3 == [67,70,49])=false:=by simpa using h2
   refine rg b18 rfl ?_;intro T hT;simp -dsimp -implicitDefEqProofs (disch:=first|omega|assumption) [ho,h1,h1',h1b,ht3',hM3,h2']
   simpa -dsimp -implicitDefEqProofs (disch:=first|omega|assumption) [ziJ,zhk,E]using hT
  have h2':(t3 == [67,70,49])=true:=by simpa using h2
  obtain⟨u,hu⟩: ∃u,u=t.drop 3:=⟨_,rfl⟩;have hu':List.drop 3 (bytes t)=bytes u:=by rw[hu];exact List.map_drop.symm
  have hul:u.length<1000000:=by rw[hu,yay];omega
  rw[<- ht3,yaf (by simp[h1,h2]),<- hu]
  have hrd:=ztc u hul;cases hq:zmP u with
  |none=>
   rw[hq]at hrd;simp only[rdV,rdH]at hrd;refine rg b18 rfl ?_;intro T hT;simp -dsimp -implicitDefEqProofs (disch:=first|omega|assumption) [ho,h1,h1',h1b,ht3',hM3,h2',hu',hrd]
   simpa -dsimp -implicitDefEqProofs (disch:=first|omega|assumption) [ziJ,zhk,E]using hT
  |some p=>
   obtain⟨s,X,g⟩:=p;obtain⟨hso,hsi,hg1,hg2,hXl,hXo⟩:=zxQ hq;rw[hq]at hrd;simp only;have hwl:=zlZ s X g;have hw:=zkl s X g hso (by omega) (λr hr=>by have:=(hXo r hr).1;omega) (λr hr=>(hXo r hr).2)
   generalize hwf:zd2 s X g=w at*;obtain⟨c,e⟩:=w;simp only[WrR]at hw hwl ⊢;have heq:=zfw c b (by omega)
   obtain⟨sid,fs⟩:=s;simp only[Sch.d]at hw;obtain⟨fl,hfl⟩: ∃fl,fl=fs.map Fld.d:=⟨_,rfl⟩;obtain⟨Y,hY⟩: ∃Y,Y=za6 X:=⟨_,rfl⟩;have hYl:Y.length=X.length:=by rw[hY,yak]
   rw[<- hfl,<- hY]at hw
   by_cases c1:e=0
   case neg=>
    rw[yaf (λh=>c1 h.1)]
    rcases X with _ | ⟨x0,X0⟩
    ·simp only[rdV,rdH,<- hfl]at hrd
     obtain rfl:Y=[]:=hY;refine rg b18 rfl ?_;intro T hT;simp -dsimp -implicitDefEqProofs (disch:=first|omega|assumption) [ho,h1,h1',h1b,ht3',hM3,h2',hu',hrd,hw,c1]
     simpa -dsimp -implicitDefEqProofs (disch:=first|omega|assumption) [ziJ,zhk,E]using hT
    ·simp only[rdV,rdH,<- hfl]at hrd
     rw[<- hY]at hrd;simp only[yad]at hYl;refine rg b18 rfl ?_;intro T hT;simp -dsimp -implicitDefEqProofs (disch:=first|omega|assumption) [ho,h1,h1',h1b,ht3',hM3,h2',hu',hrd,hw,c1,hYl]
     simpa -dsimp -implicitDefEqProofs (disch:=first|omega|assumption) [ziJ,zhk,E]using hT
   subst c1
   by_cases c2:c=b
   case neg=>
    rw[yaf (λh=>c2 h.2)]
    rw[yaW c2]at heq;rcases X with _ | ⟨x0,X0⟩
    ·simp only[rdV,rdH,<- hfl]at hrd
     obtain rfl:Y=[]:=hY;refine rg b18 rfl ?_;intro T hT;simp -dsimp -implicitDefEqProofs (disch:=first|omega|assumption) [ho,h1,h1',h1b,ht3',hM3,h2',hu',hrd,hw,heq]
     simpa -dsimp -implicitDefEqProofs (disch:=first|omega|assumption) [ziJ,zhk,E]using hT
    ·simp only[rdV,rdH,<- hfl]at hrd
     rw[<- hY]at hrd;simp only[yad]at hYl;refine rg b18 rfl ?_;intro T hT;simp -dsimp -implicitDefEqProofs (disch:=first|omega|assumption) [ho,h1,h1',h1b,ht3',hM3,h2',hu',hrd,hw,heq,hYl]
     simpa -dsimp -implicitDefEqProofs (disch:=first|omega|assumption) [ziJ,zhk,E]using hT
   rw[yai ⟨rfl,c2⟩];rw[yaQ c2]at heq;subst c2;have hch:=zlV X g hg1;rw[<- hY]at hch;have hYs:zao 1 Y=true:=by rw[hY];exact zes X
   obtain⟨hfa0,_⟩:=zvL hwf;have hfa:=zmL hsi hfa0 λr hr=>(hXo r hr).2
   have hG:=zpW hfa (n:=g) hg2;obtain⟨nf,hnf⟩: ∃n,n=fs.length:=⟨_,rfl⟩;have hnf8:nf<=8:=by rw[hnf];exact hsi.len
   have hfln:fl.length=nf:=by rw[hfl,hnf,yak]
   have hck:zcv g X.length Y=(cks g X.length X).map za6:=by rw[hY];exact zhZ _ _ _ _
   have hGl:=zfy (n:=g) X.length X;rcases X with _ | ⟨x0,X0⟩
   ·simp only[rdV,rdH,<- hfl]at hrd
    obtain rfl:Y=[]:=hY;refine rg b18 rfl ?_;intro T hT;simp -dsimp -implicitDefEqProofs (disch:=first|omega|assumption) [ho,h1,h1',h1b,ht3',hM3,h2',hu',hrd,hw,heq,hch]
    generalize hz:zeL _ _ _ _ _ _ _=z;revert z;refine zjG (σ:=Unit) (λ_=>[(2,.d .nilP),(3,.d (.int .i64 0)),(6,.ptr 0 0)]) (λ_=>[.box [.ptr 1 0],.box [.d (.int .u32 sid),.d (.list fl),.nilS,.d (.int .i64 g),.nilS]]) (λl _=>l=[]) () ?_ ?_ ?_ ?_
    ·rfl
    ·simp -dsimp -implicitDefEqProofs (disch:=first|omega|assumption)
    ·intro T' f hT' z l _ h;cases h
    ·intro _ _
     simp -dsimp -implicitDefEqProofs (disch:=first|omega|assumption)
     simpa -dsimp -implicitDefEqProofs (disch:=first|omega|assumption) [ziJ,zhk,E,hfl]using hT
   ·simp only[rdV,rdH,<- hfl]at hrd
    rw[<- hY]at hrd;simp only[yad]at hYl hck hGl hXl;refine rg b18 rfl ?_;intro T hT;simp -dsimp -implicitDefEqProofs (disch:=first|omega|assumption) [ho,h1,h1',h1b,ht3',hM3,h2',hu',hrd,hw,heq,hYl,hch,hYs]
    generalize hz:zeL _ _ _ _ _ _ _=z;revert z;generalize hGG:cks g (X0.length+1) (x0::X0)=GG at*;refine zjG (σ:=List D) (λ_=>[(2,.d .nilP),(3,.d (.int .i64 0)),(6,.ptr 0 0)]) (λS=> .box [.ptr 1 0]:: .box [.d (.int .u32 sid),.d (.list fl),.arr 2 (X0.length+1),.d (.int .i64 g),zoF 3 S]:: .arr 1 Y (X0.length+1)::zoG 1 S) (λl S=> ∃P Q,GG=P++Q/\l=Q.map za6/\S=P.map (zdx nf)) [] ?_ ?_ ?_ ?_
    ·exact⟨[],GG,rfl,hck,rfl⟩
    ·simp -dsimp -implicitDefEqProofs (disch:=first|omega|assumption) [zoF,zoG]
    ·intro T' f hT' z l S ⟨P,Q,q1,q2,q3⟩ ih
     cases Q with
     |nil=>simp at q2
     |cons g0 Q=>
     simp only[ya1,yct]at q2;obtain⟨rfl,rfl⟩:=q2;obtain⟨gl,gf⟩:=hG g0 (by rw[q1];simp)
     have hSl:S.length<=256:=by
      have:=congrArg List.length q1;rw[yae]at this;rw[q3,yak];omega
     have r3:List.range 3=[0,1,2]:=rfl;have r4:List.range 4=[0,1,2,3]:=rfl;have hend:zdx nf g0= .list (zhi g0 nf):=rfl;have hstep: ∀ (S:List D),S=P.map (zdx nf)->S++[zdx nf g0]=(P++[g0]).map (zdx nf):=λS h=>by rw[h,ybi];rfl
     rcases S with _ | ⟨s0,S⟩
     ·simp -dsimp -implicitDefEqProofs (disch:=first|omega|assumption) [zoF,zoG,r3]
      generalize hz:zak _ _ _ _ _ _=z;revert z;refine zaa (σ:=Nat × List D) (λx=>[(2,.d .nilP),(3,.d (.int .i64 0)),(6,.ptr 0 0),(9,.d (.list (za6 g0))),(10,zoF 3 x.2),(75,.d (.int .i64 nf)),(76,.d (.int .i64 x.1))]) (λx=> .box [.ptr 1 0]:: .box [.d (.int .u32 sid),.d (.list fl),.arr 2 (X0.length+1),.d (.int .i64 g),.nilS]:: .arr 1 Y (X0.length+1)::zoG 10 x.2) (λx=>x.1<=nf/\x.2=zhi g0 x.1) (λx=>nf - x.1) (0,[]) ?_ ?_ ?_
      ·exact⟨yaj _,rfl⟩
      ·simp -dsimp -implicitDefEqProofs (disch:=first|omega|assumption) [zoF,zoG,r3,hfln]
      intro T2 f2 hT2 ⟨i,L⟩ ⟨m1,m2⟩ ih2;simp only at m1 m2 ih2;have hLl:L.length=i:=by rw[m2,zhj]
      by_cases hi:i<nf
      ·have gd:=zfz gf (i:=i) (by rw[<- hnf];exact hi)
       have hcv:=ze7 g0 i (λr hr'=>by have:=(gf r hr').1;simp only at this;omega) (by omega) (by omega)
       have hcl:(col g0 i).length=g0.length:=by simp[col]
       have hps:=zgc (col g0 i) (by omega) (λs hs'=>by
        rcases gd _ hs' with h | ⟨_,_,h⟩
        ·cases h
        ·have:=h s rfl;omega)
       have hsuc:=zkp g0 i;have hsd:(za3 (col g0 i)).d.cells.length=10:=rfl;generalize (za3 (col g0 i)).d=sd at*;generalize col g0 i=cg at*;rw[<- m2]at hsuc;have hwi:IntKind.i64.wrap ((i:Int)+1)=(i:Int)+1:=wI (by omega) (by omega)
       rcases L with _ | ⟨l0,L⟩
       all_goals
        simp only[yav,yad]at hLl;simp -dsimp -implicitDefEqProofs (disch:=first|omega|assumption) [hi,hcv,hps,hcl,hsd,zoF,zoG,r3,hwi]
        refine ih2 (i+1,_) _ _ ⟨hi,hsuc.symm⟩ (by simp only;omega) ?_
        simp -dsimp -implicitDefEqProofs (disch:=first|omega|assumption) [zoF,zoG,r3]
      ·obtain rfl:i=nf:=by omega
       have hSt:zdx i g0= .list L:=by rw[m2];rfl
       have hst:=hstep (([]:List D)) q3;rw[hSt]at hst;subst hT2;rcases L with _ | ⟨l0,L⟩
       ·have:=hsi.one;simp only at this;simp only[yav]at hLl;omega
       simp only[yad]at hLl hSl;simp -dsimp -implicitDefEqProofs (disch:=first|omega|assumption) [hi,hfln,zoF,zoG,r3,hLl]
       refine ih ((([]:List D))++[.list (l0::L)]) _ ⟨P++[g0],Q,by simp[q1],rfl,hst⟩ ?_
       simp -dsimp -implicitDefEqProofs (disch:=first|omega|assumption) [zoF,zoG,r3]
     ·simp -dsimp -implicitDefEqProofs (disch:=first|omega|assumption) [zoF,zoG,r4]
      generalize hz:zak _ _ _ _ _ _=z;revert z;refine zaa (σ:=Nat × List D) (λx=>[(2,.d .nilP),(3,.d (.int .i64 0)),(6,.ptr 0 0),(9,.d (.list (za6 g0))),(10,zoF 4 x.2),(75,.d (.int .i64 nf)),(76,.d (.int .i64 x.1))]) (λx=> .box [.ptr 1 0]:: .box [.d (.int .u32 sid),.d (.list fl),.arr 2 (X0.length+1),.d (.int .i64 g),.arr 3 (S.length+1)]:: .arr 1 Y (X0.length+1):: .arr 1 (s0::S) 0::zoG 10 x.2) (λx=>x.1<=nf/\x.2=zhi g0 x.1) (λx=>nf - x.1) (0,[]) ?_ ?_ ?_
      ·exact⟨yaj _,rfl⟩
      ·simp -dsimp -implicitDefEqProofs (disch:=first|omega|assumption) [zoF,zoG,r4,hfln]
      intro T2 f2 hT2 ⟨i,L⟩ ⟨m1,m2⟩ ih2;simp only at m1 m2 ih2;have hLl:L.length=i:=by rw[m2,zhj]
      by_cases hi:i<nf
      ·have gd:=zfz gf (i:=i) (by rw[<- hnf];exact hi)
       have hcv:=ze7 g0 i (λr hr'=>by have:=(gf r hr').1;simp only at this;omega) (by omega) (by omega)
       have hcl:(col g0 i).length=g0.length:=by simp[col]
       have hps:=zgc (col g0 i) (by omega) (λs hs'=>by
        rcases gd _ hs' with h | ⟨_,_,h⟩
        ·cases h
        ·have:=h s rfl;omega)
       have hsuc:=zkp g0 i;have hsd:(za3 (col g0 i)).d.cells.length=10:=rfl;generalize (za3 (col g0 i)).d=sd at*;generalize col g0 i=cg at*;rw[<- m2]at hsuc;have hwi:IntKind.i64.wrap ((i:Int)+1)=(i:Int)+1:=wI (by omega) (by omega)
       rcases L with _ | ⟨l0,L⟩
       all_goals
        simp only[yav,yad]at hLl;simp -dsimp -implicitDefEqProofs (disch:=first|omega|assumption) [hi,hcv,hps,hcl,hsd,zoF,zoG,r4,hwi]
        refine ih2 (i+1,_) _ _ ⟨hi,hsuc.symm⟩ (by simp only;omega) ?_
        simp -dsimp -implicitDefEqProofs (disch:=first|omega|assumption) [zoF,zoG,r4]
      ·obtain rfl:i=nf:=by omega
       have hSt:zdx i g0= .list L:=by rw[m2];rfl
       have hst:=hstep (s0::S) q3;rw[hSt]at hst;subst hT2;rcases L with _ | ⟨l0,L⟩
       ·have:=hsi.one;simp only at this;simp only[yav]at hLl;omega
       simp only[yad]at hLl hSl;simp -dsimp -implicitDefEqProofs (disch:=first|omega|assumption) [hi,hfln,zoF,zoG,r4,hLl]
       refine ih ((s0::S)++[.list (l0::L)]) _ ⟨P++[g0],Q,by simp[q1],rfl,hst⟩ ?_
       simp -dsimp -implicitDefEqProofs (disch:=first|omega|assumption) [zoF,zoG,r4]
    ·intro S ⟨P,Q,q1,q2,q3⟩
     have hQ:Q=[]:=by
      cases Q with
      |nil=>rfl
      |cons _ _=>simp at q2
     subst hQ;rw[yaq]at q1;have hfile:zhk (.inr (⟨sid,fs⟩,x0::X0,g))=[.box [.d (.int .u32 sid),.d (.list fl),.arr 1 (X0.length+1),.d (.int .i64 g),.arr 2 S.length],.arr 1 Y (X0.length+1),.arr 1 S 0]:=by
      simp only[zhk,yad,hGG,q1,q3,yak];rw[hfl,hY,hnf]
     rw[hfile]at hT;simp only[ziJ,E]at hT;rcases S with _ | ⟨s0,S⟩
     ·exfalso
      have:GG=[]:=by rw[q1];exact List.map_eq_nil_iff.1 q3.symm
      obtain⟨m',_,e⟩:=zrj (n:=g) (m:=X0.length+1) (l:=x0::X0) (yag _) (by simp) (by omega)
      rw[hGG,this]at e;cases e
     ·simp -dsimp -implicitDefEqProofs (disch:=first|omega|assumption) [zoF,zoG]
      simpa -dsimp -implicitDefEqProofs (disch:=first|omega|assumption) using hT
end Go.Am.Ab
