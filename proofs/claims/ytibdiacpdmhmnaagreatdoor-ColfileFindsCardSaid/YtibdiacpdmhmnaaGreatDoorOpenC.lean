/- Files of rows, opened. -/
import Derived.Test.YtibdiacpdmhmnaaGreatDoorOpenA
import Derived.Test.YtibdiacpdmhmnaaGreatDoorFileC
import Derived.Test.YtibdiacpdmhmnaaGreatDoorOpenB
set_option linter.all false
namespace Go.Am.Ab
open Go.Proofs
set_option maxHeartbeats 4000000
def okR (n:Nat) (r:List Val):Prop:=r.length<=n/\ ∀x,Val.whole x∈r->zah x
def zAY {n:Nat} {T:List (List Val)} {l:List Val} {k:Nat} (hT: ∀r∈T,okR n r) (hl:zfL k l): ∀r∈zqF T l,okR (n+1) r:=by
 intro r hr;obtain⟨j,hj⟩:=ybo hr;unfold zqF at hj;rw[List.getElem?_zipWith]at hj;cases e1:T[j]? with
 |none=>rw[e1]at hj;simp at hj
 |some a=>
  cases e2:l[j]? with
  |none=>rw[e1,e2]at hj;simp at hj
  |some v=>
   rw[e1,e2]at hj;simp only[yaa]at hj;subst hj;obtain⟨h1,h2⟩:=hT a (yay e1);refine⟨by simp only[yae,ybg];omega,λx hx=> ?_⟩
   rcases List.mem_append.1 hx with hx | hx
   ·exact h2 x hx
   ·have:=List.mem_singleton.1 hx
    rcases hl v (yay e2) with h | ⟨_,h,_⟩
    ·rw[h]at this;cases this
    ·exact h x this.symm
def zr7 {many:Nat}: ∀ {ks:List Nat} {r:List UInt8 × Bool} {e:List UInt8} {T:List (List Val)} {n:Nat} {r':List UInt8 × Bool} {e':List UInt8} {T':List (List Val)},zgs many ks r e T=some (r',e',T')->T.length=many->(∀q∈T,okR n q)->T'.length=many/\ ∀q∈T',okR (n+ks.length) q
 |[],r,e,T,n,r',e',T',h,h1,h2=>by
  simp only[zgs,yaa,yad]at h;obtain⟨_,_,rfl⟩:=h;exact⟨h1,h2⟩
 |k::ks,r,e,T,n,r',e',T',h,h1,h2=>by
  rw[zfF]at h;split at h
  ·cases h
  ·split at h
   ·cases h
   ·rename_i h3
    obtain⟨g1,g2,_⟩:=zgr (Decidable.not_not.1 h3);obtain⟨a,b⟩:=zr7 (n:=n+1) h (by rw[zgt,h1,g2,Nat.min_self]) (zAY h2 g1)
    exact⟨a,λq hq=>by rw[yaf,show n+(ks.length+1)=n+1+ks.length by omega];exact b q hq⟩
def zr8 {ks:List Nat} {g:Nat}: ∀ {f n:Nat} {r:List UInt8 × Bool} {e:List UInt8} {acc X:List (List Val)},ziY ks g f n r e acc=some X->acc.length+n<=256->(∀q∈acc,okR ks.length q)->X.length<=256/\ ∀q∈X,okR ks.length q
 |0,n,r,e,acc,X,h,_,_=>by simp[ziY]at h
 |f+1,n,r,e,acc,X,h,h1,h2=>by
  unfold ziY at h;split at h
  ·obtain rfl:=yaN h
   exact⟨by omega,h2⟩
  ·split at h
   ·cases h
   ·rename_i r' e' T hc
    obtain⟨a,b⟩:=zr7 (n:=0) hc (by simp) λq hq=>by
     rw[(List.mem_replicate.1 hq).2];exact⟨yaj _,λx hx=>by simp at hx⟩
    refine zr8 h (by rw[yae,a];omega) λq hq=> ?_
    rcases List.mem_append.1 hq with hq | hq
    ·exact h2 q hq
    ·have:=b q hq;rwa [yaX]at this
def zyG {b:List UInt8} {s:Sch} {X:List (List Val)} {g:Nat} (h:zne b=some (s,X,g)):SchOk s/\SchIs s/\1<=g/\g<=64/\X.length<=256/\ ∀q∈X,okR 8 q:=by
 unfold zne at h;split at h
 ·cases h
 ·split at h
  ·cases h
  ·simp only at h
   split at h
   ·cases h
   ·rename_i h3
    obtain⟨h4,h5,_⟩:=zmd (Decidable.not_not.1 h3);split at h
    ·cases h
    ·rename_i h6
     split at h
     ·cases h
     ·rename_i Y hY
      simp only[yaa,yad]at h;obtain⟨rfl,rfl,rfl⟩:=h;have hs:=zfd h4;have l1:=(zdM 256 ((zcI (List.drop ((List.take (b.length - 4) b).length - zAS (List.drop (b.length - 4) b)) (List.take (b.length - 4) b))).2.1,false)).1;have l2:=(zdM 64 (zeB 256 ((zcI (List.drop ((List.take (b.length - 4) b).length - zAS (List.drop (b.length - 4) b)) (List.take (b.length - 4) b))).2.1,false)).2).1;obtain⟨a,c⟩:=zr8 hY (by simp only[yaz];omega) λq hq=>by simp at hq
      refine⟨h5,hs,by simp only[not_or]at h6;omega,l2,a,λq hq=> ?_⟩
      obtain⟨c1,c2⟩:=c q hq;have:=hs.len;rw[yah]at c1;exact⟨by omega,c2⟩
end Go.Am.Ab
namespace Go.Am.Ab
open Go.Proofs
set_option maxHeartbeats 8000000
set_option maxRecDepth 4000
def zqJ (l:List Val) (hn:l.length<1000000000):R 65 [.d (.list (vs l))] []=some ([.arr 0 l.length],[.arr 1 (vs l) 0]):=by
 cases l with
 |nil=>
  refine zgZ (rs:=[.tmp 2]) (ts:=[71]) Tryz.func65 rfl rfl rfl (by kernel_rfl) (by kernel_rfl) zCM (by simp[Tryz.f65]) ?_
  intro T hT a ha;rcases ha with rfl | rfl
  all_goals simp -dsimp -implicitDefEqProofs (disch:=omega)
  all_goals exact hT
 |cons x r=>
  simp only[yaf]at hn;refine zgY (rs:=[.tmp 2]) (ts:=[71]) Tryz.func65 rfl rfl rfl (by kernel_rfl) (by kernel_rfl) (.inr ⟨(zCM).2,by intro zay h;simp at h⟩) (by simp[Tryz.f65]) ?_
  intro T hT;simp -dsimp -implicitDefEqProofs (disch:=omega)
  simpa -dsimp -implicitDefEqProofs (disch:=omega) using hT
@[simp] def zAZ (l:List Fld):zam 4 (l.map Fld.d)=true:=zaJ l λ_=>rfl
def zJi (r:List Val):D:= .list (vs r)
@[simp] def zBZ (r:List Val):(zJi r).cells=[zJi r]:=rfl
def zwv (X:List (List Val)) (hX:X.length<=1000000) (hr: ∀r∈X,r.length<=1000000):R 26 [.d (.list (zaK X))] []=some ([.arr 0 X.length],[.arr 1 (zbD (X.map (·.map cellOf))) 0]):=by
 have hend:zbD (X.map (·.map cellOf))=zeo (λr=> .list (ce (r.map cellOf))) X X.length:=by
  rw[zbg (yaj _)];exact yaQ
 obtain⟨cD,hcD⟩: ∃cD:List Val->D,cD=λr=> .list (ce (r.map cellOf)):=⟨_,rfl⟩
 have hcc: ∀r,(cD r).cells=[cD r]:=λr=>by rw[hcD];rfl
 obtain⟨Y,hY⟩: ∃Y,Y=zaK X:=⟨_,rfl⟩;have hYl:Y.length=X.length:=by rw[hY,yah]
 rw[hend,<- hcD,<- hY];refine rg b26 rfl ?_;intro T hT;simp -dsimp -implicitDefEqProofs (disch:=omega)
 generalize hz:zaf _ _ _ _ _ _=z;revert z;refine zaa (σ:=Nat) (λj=>[(0,.d (.list Y)),(3,.arr 0 j),(4,.d (.int .i64 j))]) (λj=>[.arr 1 (zeo cD X j) 0]) (λj=>j<=X.length) (λj=>X.length - j) 0 ?_ ?_ ?_
 ·exact yai _
 ·simp -dsimp -implicitDefEqProofs (disch:=omega) [zaO]
 intro T' f hT' j hj ih
 by_cases h1:j<X.length
 ·have h2:j<Y.length:=by omega
  obtain⟨r,hr1⟩: ∃r,X[j]=r:=⟨_,rfl⟩;have hYj:Y[j]= .list (vs r):=by simp only[hY,ybP,hr1]
  have hc:=zs2 r (hr r (hr1 ▸ yam h1));have htk:=zaP (g:=cD) h1;have hlen:=zak (g:=cD) hj;rw[hr1,show cD r= .list (ce (r.map cellOf)) by rw[hcD]]at htk
  obtain⟨w,hw⟩: ∃w,w=vs r:=⟨_,rfl⟩;obtain⟨z,hz⟩: ∃z,z=ce (r.map cellOf):=⟨_,rfl⟩;have hzl:z.length=r.length:=by rw[hz,yah,yah]
  rw[<- hw]at hYj hc;rw[<- hz]at hc htk;simp -dsimp -implicitDefEqProofs (disch:=omega) [h1,h2,hYj,hc,hlen,hzl]
  refine ih (j+1) _ _ h1 (by omega) ?_
  rw[htk];simp -dsimp -implicitDefEqProofs (disch:=omega)
 ·have e:j=X.length:=by omega
  subst e;subst hT';have h2: ¬ X.length<Y.length:=by omega
  simp -dsimp -implicitDefEqProofs (disch:=omega) [h2]
  simpa -dsimp -implicitDefEqProofs (disch:=omega) using hT
end Go.Am.Ab
namespace Go.Am.Ab
open Go.Proofs
set_option maxHeartbeats 16000000
set_option maxRecDepth 4000
def zco (g:List (List Val)) (i:Nat):List D:=(List.range i).map λj=>(zaW (col g j)).d
def zcJ (n:Nat) (g:List (List Val)):D:= .list (zco g n)
def zgu (g:List (List Val)) (i:Nat):zco g (i+1)=zco g i++[(zaW (col g i)).d]:=by simp[zco,ycX]
def zdc (g:List (List Val)) (i:Nat):(zco g i).length=i:=by simp[zco]
@[simp] def zzI (n:Nat) (g:List (List Val)):(zcJ n g).cells=[zcJ n g]:=rfl
def zww {s:Sch} {X:List (List Val)} {n:Int} {c:List UInt8} (h:zd4 s X n=(c,0)):zpo s X=0/\zj6 s=0:=by
 unfold zd4 at h;split at h
 ·rename_i h1;simp only[yad]at h;exact absurd h.2 h1
 ·rename_i h1
  split at h
  ·simp at h
  ·split at h
   ·simp at h
   ·split at h
    ·rename_i h2;simp only[yad]at h;exact absurd h.2 h2
    ·rename_i h2;exact⟨Decidable.not_not.1 h2,Decidable.not_not.1 h1⟩
def zmf (s:Sch) (X:List (List Val)) (n:Int):(zd4 s X n).1.length<=65536:=by
 unfold zd4;split
 ·exact yai _
 ·split
  ·exact yai _
  ·split
   ·exact yai _
   ·split
    ·exact yai _
    ·split
     ·exact yai _
     ·simp only;omega
def zf1 (id:Nat) (l:List D):V:=match l with | []=> .nilS | _=> .arr id l.length
def zf2 (sz:Nat) (l:List D):List Obj:=match l with | []=>[] | _=>[.arr sz l 0]
def zwx (b:List UInt8):Nat ⊕ (Sch × List (List Val) × Nat):=
 match zm5 b with
 |none=> .inl 101
 |some t=>if t.length<3\/t.take 3≠[67,70,49] then .inl 100 else
  match zne (t.drop 3) with
  |none=> .inl 102
  |some (s,X,g)=>if (zd4 s X g).2=0/\(zd4 s X g).1=b then .inr (s,X,g) else .inl 102
def ziZ:Nat ⊕ (Sch × List (List Val) × Nat)->List V
 |.inl e=>[.d .nilP,E e]
 |.inr _=>[.ptr 0 0,E 0]
def zgv:Nat ⊕ (Sch × List (List Val) × Nat)->List Obj
 |.inl _=>[]
 |.inr (s,X,g)=>match X with
  |[]=>[.box [.d (.int .u32 s.id),.d (.list (s.fields.map Fld.d)),.nilS,.d (.int .i64 g),.nilS]]
  |_=>[.box [.d (.int .u32 s.id),.d (.list (s.fields.map Fld.d)),.arr 1 X.length,.d (.int .i64 g),.arr 2 (cks g X.length X).length],.arr 1 (zaK X) X.length,.arr 1 ((cks g X.length X).map (zcJ s.fields.length)) 0]
def ztW (b:List UInt8) (hb:b.length<1000000):R 18 [B b] []=some (ziZ (zwx b),zgv (zwx b)):=by
 have ho:=ztH b hb;unfold zwx;cases hp:zm5 b with
 |none=>
  rw[hp]at ho;simp only[OpR]at ho;refine rg b18 rfl ?_;intro T hT;simp -dsimp -implicitDefEqProofs (disch:=omega) [ho]
  simpa -dsimp -implicitDefEqProofs (disch:=omega) [ziZ,zgv,E]using hT
 |some t=>
  rw[hp]at ho;have htl:t.length<=b.length:=by
   have:=zv0 hp;rw[<- this,zbR];omega
  simp only[OpR]at ho ⊢
  by_cases h1:t.length<3
  ·rw[yag (.inl h1)]
   have h1':(t.length:Int)<3:=by omega
   refine rg b18 rfl ?_;intro T hT;simp -dsimp -implicitDefEqProofs (disch:=omega) [ho,h1']
   simpa -dsimp -implicitDefEqProofs (disch:=omega) [ziZ,zgv,E]using hT
  have h1': ¬ (t.length:Int)<3:=by omega
  have h1b:(3:Int)<=t.length:=by omega
  obtain⟨t3,ht3⟩: ∃t3,t3=t.take 3:=⟨_,rfl⟩;have ht3':List.take 3 (bytes t)=bytes t3:=by rw[ht3];exact List.map_take.symm
  have hM3:=zfC t3
  by_cases h2:t3=[67,70,49]
  case neg=>
   rw[<- ht3,yag (.inr h2)];have h2':(t3 == [67,70,49])=false:=by simpa using h2
   refine rg b18 rfl ?_;intro T hT;simp -dsimp -implicitDefEqProofs (disch:=omega) [ho,h1,h1',h1b,ht3',hM3,h2']
   simpa -dsimp -implicitDefEqProofs (disch:=omega) [ziZ,zgv,E]using hT
  have h2':(t3 == [67,70,49])=true:=by simpa using h2
  obtain⟨u,hu⟩: ∃u,u=t.drop 3:=⟨_,rfl⟩;have hu':List.drop 3 (bytes t)=bytes u:=by rw[hu];exact List.map_drop.symm
  have hul:u.length<1000000:=by rw[hu,yax];omega
  rw[<- ht3,yac (by simp[h1,h2]),<- hu]
  have hrd:=ztV u hul;cases hq:zne u with
  |none=>
   rw[hq]at hrd;simp only[rdV,rdH]at hrd;refine rg b18 rfl ?_;intro T hT;simp -dsimp -implicitDefEqProofs (disch:=omega) [ho,h1,h1',h1b,ht3',hM3,h2',hu',hrd]
   simpa -dsimp -implicitDefEqProofs (disch:=omega) [ziZ,zgv,E]using hT
  |some p=>
   obtain⟨s,X,g⟩:=p;obtain⟨hso,hsi,hg1,hg2,hXl,hXo⟩:=zyG hq;rw[hq]at hrd;simp only;have hwl:=zmf s X g;have hw:=zkA s X g hso (by omega) (λr hr=>by have:=(hXo r hr).1;omega) (λr hr=>(hXo r hr).2)
   generalize hwf:zd4 s X g=w at*;obtain⟨c,e⟩:=w;simp only[WrR]at hw hwl ⊢;have heq:=zfz c b (by omega)
   obtain⟨sid,fs⟩:=s;simp only[Sch.d]at hw;obtain⟨fl,hfl⟩: ∃fl,fl=fs.map Fld.d:=⟨_,rfl⟩;obtain⟨Y,hY⟩: ∃Y,Y=zaK X:=⟨_,rfl⟩;have hYl:Y.length=X.length:=by rw[hY,yah]
   rw[<- hfl,<- hY]at hw
   by_cases c1:e=0
   case neg=>
    rw[yac (λh=>c1 h.1)]
    rcases X with _ | ⟨x0,X0⟩
    ·simp only[rdV,rdH,<- hfl]at hrd
     obtain rfl:Y=[]:=hY;refine rg b18 rfl ?_;intro T hT;simp -dsimp -implicitDefEqProofs (disch:=omega) [ho,h1,h1',h1b,ht3',hM3,h2',hu',hrd,hw,c1]
     simpa -dsimp -implicitDefEqProofs (disch:=omega) [ziZ,zgv,E]using hT
    ·simp only[rdV,rdH,<- hfl]at hrd
     rw[<- hY]at hrd;simp only[yaf]at hYl;refine rg b18 rfl ?_;intro T hT;simp -dsimp -implicitDefEqProofs (disch:=omega) [ho,h1,h1',h1b,ht3',hM3,h2',hu',hrd,hw,c1,hYl]
     simpa -dsimp -implicitDefEqProofs (disch:=omega) [ziZ,zgv,E]using hT
   subst c1
   by_cases c2:c=b
   case neg=>
    rw[yac (λh=>c2 h.2)]
    rw[yaO c2]at heq;rcases X with _ | ⟨x0,X0⟩
    ·simp only[rdV,rdH,<- hfl]at hrd
     obtain rfl:Y=[]:=hY;refine rg b18 rfl ?_;intro T hT;simp -dsimp -implicitDefEqProofs (disch:=omega) [ho,h1,h1',h1b,ht3',hM3,h2',hu',hrd,hw,heq]
     simpa -dsimp -implicitDefEqProofs (disch:=omega) [ziZ,zgv,E]using hT
    ·simp only[rdV,rdH,<- hfl]at hrd
     rw[<- hY]at hrd;simp only[yaf]at hYl;refine rg b18 rfl ?_;intro T hT;simp -dsimp -implicitDefEqProofs (disch:=omega) [ho,h1,h1',h1b,ht3',hM3,h2',hu',hrd,hw,heq,hYl]
     simpa -dsimp -implicitDefEqProofs (disch:=omega) [ziZ,zgv,E]using hT
   rw[yag ⟨rfl,c2⟩];rw[yaI c2]at heq;subst c2;have hch:=zih X g hg1;rw[<- hY]at hch;have hYs:zam 1 Y=true:=by rw[hY];exact zda X
   obtain⟨hfa0,_⟩:=zww hwf;have hfa:=zm9 hsi hfa0 λr hr=>(hXo r hr).2
   have hG:=zqy hfa (n:=g) hg2;obtain⟨nf,hnf⟩: ∃n,n=fs.length:=⟨_,rfl⟩;have hnf8:nf<=8:=by rw[hnf];exact hsi.len
   have hfln:fl.length=nf:=by rw[hfl,hnf,yah]
   have hck:zcg g X.length Y=(cks g X.length X).map zaK:=by rw[hY];exact zfD _ _ _ _
   have hGl:=zdh (n:=g) X.length X;rcases X with _ | ⟨x0,X0⟩
   ·simp only[rdV,rdH,<- hfl]at hrd
    obtain rfl:Y=[]:=hY;refine rg b18 rfl ?_;intro T hT;simp -dsimp -implicitDefEqProofs (disch:=omega) [ho,h1,h1',h1b,ht3',hM3,h2',hu',hrd,hw,heq,hch]
    generalize hz:zex _ _ _ _ _ _ _=z;revert z;refine zgW (σ:=Unit) (λ_=>[(2,.d .nilP),(3,.d (.int .i64 0)),(6,.ptr 0 0)]) (λ_=>[.box [.ptr 1 0],.box [.d (.int .u32 sid),.d (.list fl),.nilS,.d (.int .i64 g),.nilS]]) (λl _=>l=[]) () ?_ ?_ ?_ ?_
    ·rfl
    ·simp -dsimp -implicitDefEqProofs (disch:=omega)
    ·intro T' f hT' z l _ h;cases h
    ·intro _ _
     simp -dsimp -implicitDefEqProofs (disch:=omega)
     simpa -dsimp -implicitDefEqProofs (disch:=omega) [ziZ,zgv,E,hfl]using hT
   ·simp only[rdV,rdH,<- hfl]at hrd
    rw[<- hY]at hrd;simp only[yaf]at hYl hck hGl hXl;refine rg b18 rfl ?_;intro T hT;simp -dsimp -implicitDefEqProofs (disch:=omega) [ho,h1,h1',h1b,ht3',hM3,h2',hu',hrd,hw,heq,hYl,hch,hYs]
    generalize hz:zex _ _ _ _ _ _ _=z;revert z;generalize hGG:cks g (X0.length+1) (x0::X0)=GG at*;refine zgW (σ:=List D) (λ_=>[(2,.d .nilP),(3,.d (.int .i64 0)),(6,.ptr 0 0)]) (λS=> .box [.ptr 1 0]:: .box [.d (.int .u32 sid),.d (.list fl),.arr 2 (X0.length+1),.d (.int .i64 g),zf1 3 S]:: .arr 1 Y (X0.length+1)::zf2 1 S) (λl S=> ∃P Q,GG=P++Q/\l=Q.map zaK/\S=P.map (zcJ nf)) [] ?_ ?_ ?_ ?_
    ·exact⟨[],GG,rfl,hck,rfl⟩
    ·simp -dsimp -implicitDefEqProofs (disch:=omega) [zf1,zf2]
    ·intro T' f hT' z l S ⟨P,Q,q1,q2,q3⟩ ih
     cases Q with
     |nil=>simp at q2
     |cons g0 Q=>
     simp only[yaV,ycp]at q2;obtain⟨rfl,rfl⟩:=q2;obtain⟨gl,gf⟩:=hG g0 (by rw[q1];simp)
     have hSl:S.length<=256:=by
      have:=congrArg List.length q1;rw[yae]at this;rw[q3,yah];omega
     have r3:List.range 3=[0,1,2]:=rfl;have r4:List.range 4=[0,1,2,3]:=rfl;have hend:zcJ nf g0= .list (zco g0 nf):=rfl;have hstep: ∀ (S:List D),S=P.map (zcJ nf)->S++[zcJ nf g0]=(P++[g0]).map (zcJ nf):=λS h=>by rw[h,ya7];rfl
     rcases S with _ | ⟨s0,S⟩
     ·simp -dsimp -implicitDefEqProofs (disch:=omega) [zf1,zf2,r3]
      generalize hz:zaf _ _ _ _ _ _=z;revert z;refine zaa (σ:=Nat × List D) (λx=>[(2,.d .nilP),(3,.d (.int .i64 0)),(6,.ptr 0 0),(9,.d (.list (zaK g0))),(10,zf1 3 x.2),(75,.d (.int .i64 nf)),(76,.d (.int .i64 x.1))]) (λx=> .box [.ptr 1 0]:: .box [.d (.int .u32 sid),.d (.list fl),.arr 2 (X0.length+1),.d (.int .i64 g),.nilS]:: .arr 1 Y (X0.length+1)::zf2 10 x.2) (λx=>x.1<=nf/\x.2=zco g0 x.1) (λx=>nf - x.1) (0,[]) ?_ ?_ ?_
      ·exact⟨yai _,rfl⟩
      ·simp -dsimp -implicitDefEqProofs (disch:=omega) [zf1,zf2,r3,hfln]
      intro T2 f2 hT2 ⟨i,L⟩ ⟨m1,m2⟩ ih2;simp only at m1 m2 ih2;have hLl:L.length=i:=by rw[m2,zdc]
      by_cases hi:i<nf
      ·have gd:=zdb gf (i:=i) (by rw[<- hnf];exact hi)
       have hcv:=zfc g0 i (λr hr'=>by have:=(gf r hr').1;simp only at this;omega) (by omega) (by omega)
       have hcl:(col g0 i).length=g0.length:=by simp[col]
       have hps:=zgm (col g0 i) (by omega) (λs hs'=>by
        rcases gd _ hs' with h | ⟨_,_,h⟩
        ·cases h
        ·have:=h s rfl;omega)
       have hsuc:=zgu g0 i;have hsd:(zaW (col g0 i)).d.cells.length=10:=rfl;generalize (zaW (col g0 i)).d=sd at*;generalize col g0 i=cg at*;rw[<- m2]at hsuc;have hwi:IntKind.i64.wrap ((i:Int)+1)=(i:Int)+1:=wI (by omega) (by omega)
       rcases L with _ | ⟨l0,L⟩
       all_goals
        simp only[yaz,yaf]at hLl;simp -dsimp -implicitDefEqProofs (disch:=omega) [hi,hcv,hps,hcl,hsd,zf1,zf2,r3,hwi]
        refine ih2 (i+1,_) _ _ ⟨hi,hsuc.symm⟩ (by simp only;omega) ?_
        simp -dsimp -implicitDefEqProofs (disch:=omega) [zf1,zf2,r3]
      ·obtain rfl:i=nf:=by omega
       have hSt:zcJ i g0= .list L:=by rw[m2];rfl
       have hst:=hstep (([]:List D)) q3;rw[hSt]at hst;subst hT2;rcases L with _ | ⟨l0,L⟩
       ·have:=hsi.one;simp only at this;simp only[yaz]at hLl;omega
       simp only[yaf]at hLl hSl;simp -dsimp -implicitDefEqProofs (disch:=omega) [hi,hfln,zf1,zf2,r3,hLl]
       refine ih ((([]:List D))++[.list (l0::L)]) _ ⟨P++[g0],Q,by simp[q1],rfl,hst⟩ ?_
       simp -dsimp -implicitDefEqProofs (disch:=omega) [zf1,zf2,r3]
     ·simp -dsimp -implicitDefEqProofs (disch:=omega) [zf1,zf2,r4]
      generalize hz:zaf _ _ _ _ _ _=z;revert z;refine zaa (σ:=Nat × List D) (λx=>[(2,.d .nilP),(3,.d (.int .i64 0)),(6,.ptr 0 0),(9,.d (.list (zaK g0))),(10,zf1 4 x.2),(75,.d (.int .i64 nf)),(76,.d (.int .i64 x.1))]) (λx=> .box [.ptr 1 0]:: .box [.d (.int .u32 sid),.d (.list fl),.arr 2 (X0.length+1),.d (.int .i64 g),.arr 3 (S.length+1)]:: .arr 1 Y (X0.length+1):: .arr 1 (s0::S) 0::zf2 10 x.2) (λx=>x.1<=nf/\x.2=zco g0 x.1) (λx=>nf - x.1) (0,[]) ?_ ?_ ?_
      ·exact⟨yai _,rfl⟩
      ·simp -dsimp -implicitDefEqProofs (disch:=omega) [zf1,zf2,r4,hfln]
      intro T2 f2 hT2 ⟨i,L⟩ ⟨m1,m2⟩ ih2;simp only at m1 m2 ih2;have hLl:L.length=i:=by rw[m2,zdc]
      by_cases hi:i<nf
      ·have gd:=zdb gf (i:=i) (by rw[<- hnf];exact hi)
       have hcv:=zfc g0 i (λr hr'=>by have:=(gf r hr').1;simp only at this;omega) (by omega) (by omega)
       have hcl:(col g0 i).length=g0.length:=by simp[col]
       have hps:=zgm (col g0 i) (by omega) (λs hs'=>by
        rcases gd _ hs' with h | ⟨_,_,h⟩
        ·cases h
        ·have:=h s rfl;omega)
       have hsuc:=zgu g0 i;have hsd:(zaW (col g0 i)).d.cells.length=10:=rfl;generalize (zaW (col g0 i)).d=sd at*;generalize col g0 i=cg at*;rw[<- m2]at hsuc;have hwi:IntKind.i64.wrap ((i:Int)+1)=(i:Int)+1:=wI (by omega) (by omega)
       rcases L with _ | ⟨l0,L⟩
       all_goals
        simp only[yaz,yaf]at hLl;simp -dsimp -implicitDefEqProofs (disch:=omega) [hi,hcv,hps,hcl,hsd,zf1,zf2,r4,hwi]
        refine ih2 (i+1,_) _ _ ⟨hi,hsuc.symm⟩ (by simp only;omega) ?_
        simp -dsimp -implicitDefEqProofs (disch:=omega) [zf1,zf2,r4]
      ·obtain rfl:i=nf:=by omega
       have hSt:zcJ i g0= .list L:=by rw[m2];rfl
       have hst:=hstep (s0::S) q3;rw[hSt]at hst;subst hT2;rcases L with _ | ⟨l0,L⟩
       ·have:=hsi.one;simp only at this;simp only[yaz]at hLl;omega
       simp only[yaf]at hLl hSl;simp -dsimp -implicitDefEqProofs (disch:=omega) [hi,hfln,zf1,zf2,r4,hLl]
       refine ih ((s0::S)++[.list (l0::L)]) _ ⟨P++[g0],Q,by simp[q1],rfl,hst⟩ ?_
       simp -dsimp -implicitDefEqProofs (disch:=omega) [zf1,zf2,r4]
    ·intro S ⟨P,Q,q1,q2,q3⟩
     have hQ:Q=[]:=by
      cases Q with
      |nil=>rfl
      |cons _ _=>simp at q2
     subst hQ;rw[yap]at q1;have hfile:zgv (.inr (⟨sid,fs⟩,x0::X0,g))=[.box [.d (.int .u32 sid),.d (.list fl),.arr 1 (X0.length+1),.d (.int .i64 g),.arr 2 S.length],.arr 1 Y (X0.length+1),.arr 1 S 0]:=by
      simp only[zgv,yaf,hGG,q1,q3,yah];rw[hfl,hY,hnf]
     rw[hfile]at hT;simp only[ziZ,E]at hT;rcases S with _ | ⟨s0,S⟩
     ·exfalso
      have:GG=[]:=by rw[q1];exact List.map_eq_nil_iff.1 q3.symm
      obtain⟨m',_,e⟩:=zm8 (n:=g) (m:=X0.length+1) (l:=x0::X0) (yaj _) (by simp) (by omega)
      rw[hGG,this]at e;cases e
     ·simp -dsimp -implicitDefEqProofs (disch:=omega) [zf1,zf2]
      simpa -dsimp -implicitDefEqProofs (disch:=omega) using hT
end Go.Am.Ab
