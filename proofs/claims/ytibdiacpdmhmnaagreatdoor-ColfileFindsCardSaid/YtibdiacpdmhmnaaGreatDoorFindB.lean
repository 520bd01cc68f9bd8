/- The statement on what is found. -/
import Derived.Test.YtibdiacpdmhmnaaGreatDoorFileC
import Derived.Test.YtibdiacpdmhmnaaGreatDoorBackA
import Derived.Test.YtibdiacpdmhmnaaGreatDoorSpoilA
import Derived.Test.YtibdiacpdmhmnaaGreatDoorFindA
set_option linter.all false
namespace Go.Am.Ab
open Go.Proofs
set_option maxHeartbeats 8000000
set_option maxRecDepth 4000
def zub (L:List (List Cel)) (hl:L.length<=1000000) (hr: ∀r∈L,r.length<=1000000):R 74 [.d (.list (zbD L)),.d (.list (zbD L))] []=some ([.d (.bool true)],[]):=by
 obtain⟨Y,hY⟩: ∃Y,Y=zbD L:=⟨_,rfl⟩;have hYl:Y.length=L.length:=by rw[hY,yah]
 rw[<- hY];refine rg b74 rfl ?_;intro T hT;simp -dsimp -implicitDefEqProofs (disch:=omega)
 generalize hz:zaf _ _ _ _ _ _=z;revert z;refine zaa (σ:=Nat) (λi=>[(0,.d (.list Y)),(1,.d (.list Y)),(5,.d (.int .i64 i))]) (λ_=>[]) (λi=>i<=L.length) (λi=>L.length - i) 0 ?_ ?_ ?_
 ·exact yai _
 ·simp -dsimp -implicitDefEqProofs (disch:=omega)
 intro T' f hT' i hi ih
 by_cases h1:i<L.length
 ·have h2:i<Y.length:=by omega
  obtain⟨r,hr1⟩: ∃r,L[i]=r:=⟨_,rfl⟩;have hYi:Y[i]= .list (ce r):=by simp only[hY,ybP,hr1]
  have hs:=zoi r r (hr r (hr1 ▸ yam h1));rw[yaI rfl]at hs;generalize ce r=z at*;simp -dsimp -implicitDefEqProofs (disch:=omega) [h1,h2,hYi,hs]
  refine ih (i+1) _ _ h1 (by omega) (by simp -dsimp -implicitDefEqProofs (disch:=omega))
 ·subst hT'
  have h2: ¬ i<Y.length:=by omega
  simp -dsimp -implicitDefEqProofs (disch:=omega) [h2]
  simpa -dsimp -implicitDefEqProofs (disch:=omega) using hT
def zyP (X:List (List Val)) (hX:X.length<=1000000) (hr: ∀r∈X,r.length<=1000000):R 23 [.d (.list (zaK X)),.d (.list (zbD (X.map (·.map cellOf))))] []=some ([.d (.bool true)],[]):=by
 have h1:=zwv X hX hr;have h2:=zub (X.map (·.map cellOf)) (by rw[yah];exact hX) λr hr'=>by
  obtain⟨q,hq,rfl⟩:=List.mem_map.1 hr';rw[yah];exact hr q hq
 have hl:(zbD (X.map (·.map cellOf))).length=X.length:=by rw[yah,yah]
 generalize zbD (X.map (·.map cellOf))=Z at*
 generalize zaK X=Y at*;refine rg b23 rfl ?_;intro T hT;simp -dsimp -implicitDefEqProofs (disch:=omega) [h1,h2,hl]
 simpa -dsimp -implicitDefEqProofs (disch:=omega) using hT
end Go.Am.Ab
namespace Go.Am.Ab
open Go.Proofs
set_option maxHeartbeats 16000000
set_option maxRecDepth 4000
attribute [local simp] zps zgx zlc zba V.isOwn
def zyQ (s:Sch) (p:Prd) (a2 a3 a4:D) (e:Nat) (he:e≠0) (hcp:R 62 [.d p.d,.d s.d] []=some ([.d (.int .i64 e)],[])):
 R 19 [.ptr 0 0,.d p.d] [.box [.d (.int .u32 s.id),.d (.list (s.fields.map Fld.d)),.d a2,.d a3,.d a4]]=some ([.arr 1 0,.d (.int .i64 0)],[.box [.d (.int .u32 s.id),.d (.list (s.fields.map Fld.d)),.d a2,.d a3,.d a4],.arr 1 [] 0]):=by
 obtain⟨sid,fs⟩:=s;obtain⟨op,f,v,ks⟩:=p;rw[zar]at hcp ⊢;simp only[Sch.d]at hcp ⊢;generalize fs.map Fld.d=fl at*;have he': ¬ (e:Int)=0:=by omega
 refine rg b19 rfl ?_;intro T hT;simp -dsimp -implicitDefEqProofs (disch:=omega) [hcp,he,he']
 simpa -dsimp -implicitDefEqProofs (disch:=omega) using hT
def zyR (s:Sch) (p:Prd) (Z:List D) (g:Int) (e:Nat) (he:e≠0) (hcp:R 21 [.d p.d,.d s.d] []=some ([.d (.int .i64 e)],[])):
 R 20 [.d s.d,.d (.list Z),.d (.int .i64 g),.d p.d] []=some ([.arr 0 0,.d (.int .i64 0)],[.arr 1 [] 0]):=by
 obtain⟨sid,fs⟩:=s;obtain⟨op,f,v,ks⟩:=p;rw[zar]at hcp ⊢;simp only[Sch.d]at hcp ⊢;have he': ¬ (e:Int)=0:=by omega
 refine rg b20 rfl ?_;intro T hT;simp -dsimp -implicitDefEqProofs (disch:=omega) [hcp,he,he']
 simpa -dsimp -implicitDefEqProofs (disch:=omega) using hT
def zik (s:Sch) (hs:s.wf) (l:List (List Cel)) (hl: ∀r∈l, ∀c∈r,c.kind<256/\zah c.n/\c.s.size<=9223372036854775807) (hn:l.length<=9223372036854775807) (hr: ∀r∈l,r.length<=9223372036854775807)
 (n:Int) (hni:zah n) (p:Prd) (hp:p.wf):
 R 4 [.d s.d,.d (.list (zbD l)),.d (.int .i64 n),.d p.d] []=some ([.d (.bool true)],[]):=by
 have al:=zKO;have hg:=ztS s hs.2.2.1;have hpg:=zoF p hp;have hpd: ∃op f v ks,p= .node op f v ks:=by obtain⟨op,f,v,ks⟩:=p;exact⟨op,f,v,ks,rfl⟩
 cases hg2:zqI s with
 |true=>
  rw[hg2]at hg;obtain⟨sid,fs⟩:=s;obtain⟨op,f,v,ks,rfl⟩:=hpd;rw[zar];simp only[Sch.d]at hg ⊢;refine rg b4 rfl ?_;intro T hT;simp -dsimp -implicitDefEqProofs (disch:=omega) [al,hg]
  simpa -dsimp -implicitDefEqProofs (disch:=omega) using hT
 |false=>
 rw[hg2]at hg;have h0:=zyE hs hg2;have hc:=zol s h0.id.1 (λf hf=>by have:=(h0.fld f hf);omega) (by have:=h0.len;omega)
 by_cases hck:zj6 s=0
 case neg=>
  generalize zj6 s=e at*;obtain⟨sid,fs⟩:=s;obtain⟨op,f,v,ks,rfl⟩:=hpd;rw[zar];simp only[Sch.d]at hg hc ⊢;refine rg b4 rfl ?_;intro T hT;simp -dsimp -implicitDefEqProofs (disch:=omega) [al,hg,hc,hck]
  simpa -dsimp -implicitDefEqProofs (disch:=omega) using hT
 rw[hck]at hc
 by_cases hpg2:(200:Int)<=ndR p 1
 case pos=>
  rw[yaI hpg2]at hpg;obtain⟨sid,fs⟩:=s;obtain⟨op,f,v,ks,rfl⟩:=hpd;rw[zar]at hpg ⊢;simp only[Sch.d]at hg hc ⊢;refine rg b4 rfl ?_;intro T hT;simp -dsimp -implicitDefEqProofs (disch:=omega) [al,hg,hc,hpg]
  simpa -dsimp -implicitDefEqProofs (disch:=omega) using hT
 rw[yaO hpg2]at hpg;have hsi:=zfd hck;obtain⟨w1,w2,w3,w4,w5⟩:=zA1 hsi hl 60;have hf:R 17 [.d s.d,.d (.list (zbD l)),.d (.int .i64 60)] []=_:=zwD s h0.len l (λr hr c hc=>⟨(hl r hr c hc).1,(hl r hr c hc).2.2⟩) hn hr 60 (by omega)
 generalize zt0 s (zme l) 60=W at*;have hv:=zwE (by omega) w5 w3
 have hN0:0<=IntKind.u64.wrap n:=by rw[zai];omega
 obtain⟨N,hN⟩:=yaC hN0;obtain⟨g,hg1⟩: ∃g,g=1+N % 64:=⟨_,rfl⟩;have hgi:(1:Int)+(N:Int) % 64=g:=by omega
 have hw:=zkA s W g h0 (by omega) (λr hr=>by have:=w3 r hr;omega) w4
 have hwf:=ztZ h0 hck (by omega) w2 w4 (n:=g) (by omega) (by omega)
 rw[hwf]at hw;simp only[WrR]at hw;have hfl:=zmj hsi h0 (by omega) w5 (n:=g) (by omega) (by omega)
 have ho:=ztW (zif s W g) (by omega)
 rw[zt3 h0 hck w5 (by omega) (by omega) (by omega) hwf]at ho
 generalize zif s W g=b at*;have hrl: ∀r∈W,r.length<=1000000:=λr hr=>by have:=w3 r hr;omega
 have hgw:IntKind.i64.wrap ((N:Int) % 64)=(N:Int) % 64:=wI (by omega) (by omega)
 have e0:zbD (W.map (·.map cellOf))=W.map zcK:=yaQ
 have hcA:=zqm s (by have:=hsi.len;omega) p hp
 have hcB:=zmX s (by have:=hsi.len;omega) p hp
 have hf0:ziZ (.inr (s,W,g))=[.ptr 0 0,E 0]:=rfl;rw[hf0]at ho;have ho2:(W=[]/\zgv (.inr (s,W,g))=[.box [.d (.int .u32 s.id),.d (.list (s.fields.map Fld.d)),.nilS,.d (.int .i64 g),.nilS]])\/
  zgv (.inr (s,W,g))=[.box [.d (.int .u32 s.id),.d (.list (s.fields.map Fld.d)),.arr 1 W.length,.d (.int .i64 g),.arr 2 ((cks g W.length W).map (zcJ s.fields.length)).length],.arr 1 (zaK W) W.length,.arr 1 ((cks g W.length W).map (zcJ s.fields.length)) 0]:=by
  rcases W with _ | ⟨w0,W0⟩
  ·exact .inl ⟨rfl,rfl⟩
  ·exact .inr (by rw[yah];rfl)
 obtain⟨F,m,hff,hrf,hF⟩: ∃ (F:List (List Val)) (m:Nat),
  R 19 [.ptr 0 0,.d p.d] [.box [.d (.int .u32 s.id),.d (.list (s.fields.map Fld.d)),.d (.list (zaK W)),.d (.int .i64 g),.d (.list ((cks g W.length W).map (zcJ s.fields.length)))]]=some ([.arr 1 F.length,.d (.int .i64 m)],[.box [.d (.int .u32 s.id),.d (.list (s.fields.map Fld.d)),.d (.list (zaK W)),.d (.int .i64 g),.d (.list ((cks g W.length W).map (zcJ s.fields.length)))],.arr 1 (zaK F) 0])/\
  R 20 [.d s.d,.d (.list (W.map zcK)),.d (.int .i64 g),.d p.d] []=some ([.arr 0 F.length,.d (.int .i64 m)],[.arr 1 (F.map zcK) 0])/\
  F=W.filter λr=>decide (ztx s.fields p=0) && decide (evP s.fields r p=2):=by
  by_cases hA:ztx s.fields p=0
  ·have hpc:ziU s.fields p=0:=by
    unfold ztx at hA;split at hA
    ·exact hA
    ·omega
   rw[hA]at hcA hcB;refine⟨(zbS s.fields p (cks g W.length W)).1,(zbS s.fields p (cks g W.length W)).2,zt9 s hsi W (by omega) w5 g (by omega) (by omega) p hp hA hcA hpc, ?_, ?_⟩
   ·have h:=zua s hsi W (by omega) w5 g (by omega) (by omega) p hp hcB hpc
    rw[show zet W=W.map zcK from e0,show ∀F,zet F=F.map zcK from λF=>yaQ]at h
    exact h
   ·rw[zpf hsi hp hpc (n:=g) (by omega) W.length W (yaj _) w5,yaI hA]
    rfl
  ·refine⟨[],0,zyQ s p _ _ _ _ hA hcA,zyR s p _ _ _ hA hcB, ?_⟩
   rw[yaO hA];simp
 have hev:ztx s.fields p=0-> ∀r,zfe s r->R 22 [.d p.d,.d s.d,.d (zcK r)] []=some ([.d (.int .i64 (evP s.fields r p))],[]):=λhA r hr=>zmb s (by have:=hsi.len;omega) r hr.1 (zni hr) p hp (by
  unfold ztx at hA;split at hA
  ·exact hA
  ·omega)
 have hFl:F.length<=60:=by
  have:=ycm (λr=>decide (ztx s.fields p=0) && decide (evP s.fields r p=2)) W
  rw[hF];omega
 have hFr: ∀r∈F,r.length<=1000000:=λr hr=>hrl r (by rw[hF]at hr;exact (List.mem_filter.1 hr).1)
 have his:=zyP F (by omega) hFr
 rw[show zbD (F.map (·.map cellOf))=F.map zcK from yaQ]at his
 obtain⟨ok,hok⟩: ∃ok:List Val->Bool,ok=λr=>decide (ztx s.fields p=0) && decide (evP s.fields r p=2):=⟨_,rfl⟩
 rw[<- hok]at hF;generalize he:ztx s.fields p=e at*;have e1:(W.map zcK).length=W.length:=yah _;have e2:(zaK W).length=W.length:=yah _;have e4:(F.map zcK).length=F.length:=yah _;have e5:(zaK F).length=F.length:=yah _;have hST:((cks g W.length W).map (zcJ s.fields.length)).length=(cks g W.length W).length:=yah _;have hall: ∀i (h:i<W.length),(W.map zcK)[i]? =some (zcK W[i]):=λi h=>by rw[yau,yak h];rfl
 obtain⟨op,f,v,ks,rfl⟩:=hpd;have hpb:=zar op f v ks;rw[zar]at hpg hff hrf hev hcB ⊢;obtain⟨sid,fs⟩:=s;simp only[Sch.d]at hg hc hf hw hff hrf hev hcB ho2 w5 hST hok ⊢;clear hN0 hg1 w2 w3 w4 hwf hl hr hrl hck hfl h0 hsi hcA hpb;have hFm:F.map zcK=(W.filter ok).map zcK:=by rw[hF]
 have hm1: ∀i (h:i<W.length),((W.take (i+1)).filter ok).map zcK=_:=λi h=>by
  rw[zkN ok h,ya7]
 have hm2: ∀i,(((W.take i).filter ok).map zcK).length<=60:=λi=>by
  have h1:=ycm ok (W.take i);rw[yaq]at h1;rw[yah];omega
 generalize hZ:W.map zcK=Z at*;generalize zaK W=U at*;generalize (cks g W.length W).map (zcJ fs.length)=ST at*;generalize hFV:zaK F=FV at*;generalize hFC:F.map zcK=FC at*;generalize fs.map Fld.d=fl at*;generalize ks.map Prd.d=kD at*;generalize zgv (.inr (⟨sid,fs⟩,W,g))=HH at*;rcases ho2 with ⟨hW,rfl⟩ | rfl
 ·subst hW
  obtain rfl:=yaE e1;obtain rfl:=yaE e2;obtain rfl:=yaE (hST.trans rfl);obtain rfl:F=[]:=hF;obtain rfl:[]=FV:=hFV;obtain rfl:[]=FC:=hFC;refine rg b4 rfl ?_;intro T hT;simp -dsimp -implicitDefEqProofs (disch:=omega) [al,hg,hc,hpg,hf,hv,hN,hgw,hgi,hw,ho,hff,hrf,E]
  generalize hz:zaf _ _ _ _ _ _=z;revert z;refine zaa (σ:=Nat) (λx=>[(4,.ptr 0 0),(7,.ptr 1 0),(9,.d (.list [])),(14,.arr 2 0),(15,.d (.int .i64 m)),(16,.arr 3 0),(17,.d (.int .i64 m)),(18,.arr 4 0),(19,.d (.int .i64 x))]) (λx=>[.box [.d (.int .u32 sid),.d (.list fl)],.box [.d (.int .u8 op),.d (.int .u32 f),.d (.int .u8 v.kind),.d (.int .i64 v.n),.d (.str v.s),.d (.list kD)],.arr 1 [] 0,.arr 1 [] 0,.arr 1 [] 0]) (λx=>x=0) (λx=>x) 0 ?_ ?_ ?_
  ·rfl
  ·simp -dsimp -implicitDefEqProofs (disch:=omega)
  intro T' f' hT' x hx ih;subst hx hT';simp -dsimp -implicitDefEqProofs (disch:=omega) [his]
  simpa -dsimp -implicitDefEqProofs (disch:=omega) using hT
 ·refine rg b4 rfl ?_
  intro T hT;simp -dsimp -implicitDefEqProofs (disch:=omega) [al,hg,hc,hpg,hf,hv,hN,hgw,hgi,hw,ho,hff,hrf,e1,e2,e4,e5,E]
  generalize hz:zaf _ _ _ _ _ _=z;revert z;refine zaa (σ:=Nat × List D) (λx=>[(4,.ptr 0 0),(7,.ptr 1 0),(9,.d (.list Z)),(14,.arr 2 F.length),(15,.d (.int .i64 m)),(16,.arr 3 F.length),(17,.d (.int .i64 m)),(18,.arr 4 x.2.length),(19,.d (.int .i64 x.1))]) (λx=>[.box [.d (.int .u32 sid),.d (.list fl)],.box [.d (.int .u8 op),.d (.int .u32 f),.d (.int .u8 v.kind),.d (.int .i64 v.n),.d (.str v.s),.d (.list kD)],.arr 1 FV 0,.arr 1 FC 0,.arr 1 x.2 0]) (λx=>x.1<=W.length/\x.2=((W.take x.1).filter ok).map zcK) (λx=>W.length - x.1) (0,[]) ?_ ?_ ?_
  ·exact⟨yai _,rfl⟩
  ·simp -dsimp -implicitDefEqProofs (disch:=omega) [e4,e5]
  intro T' f' hT' ⟨i,L⟩ ⟨hi,hL⟩ ih;simp only at hi hL ih;have hLl:=hm2 i;rw[<- hL]at hLl
  by_cases h1:i<W.length
  ·have h2:i<Z.length:=by omega
   have h3:=hm1 i h1;have h4:=hall i h1;obtain⟨r,hr⟩: ∃r,W[i]=r:=⟨_,rfl⟩;have hrf':=w5 r (hr ▸ yam h1);rw[hr,yak h2]at h4;have h5:Z[i]=zcK r:=yaN h4;have hev:=λh=>hev h r hrf'
   have hcd:zcK r= .list (ce (r.map cellOf)):=rfl;rw[hr,<- hL,hok]at h3;simp only[<- hok]at h3;rw[hcd]at h5 hev
   by_cases he0:e=0
   ·subst he0
    have hev:=hev rfl
    by_cases hb:evP fs r (.node op f v ks)=2
    ·rw[hb]at hev
     rw[yag (by simp[hb])]at h3
     simp only[yaV,ybX,hcd]at h3;generalize ce (r.map cellOf)=w at*;simp -dsimp -implicitDefEqProofs (disch:=omega) [h1,h2,h5,hcB,hev,e1]
     refine ih (i+1,_) _ _ ⟨h1,h3.symm⟩ (by simp only;omega) ?_
     simp -dsimp -implicitDefEqProofs (disch:=omega) [e4,e5]
    ·rw[yac (by simp[hb]),ybX,yap]at h3
     have hb': ¬ (evP fs r (.node op f v ks):Int)=2:=by omega
     generalize ce (r.map cellOf)=w at*;simp -dsimp -implicitDefEqProofs (disch:=omega) [h1,h2,h5,hcB,hev,hb',e1]
     refine ih (i+1,_) _ _ ⟨h1,h3.symm⟩ (by simp only;omega) ?_
     simp -dsimp -implicitDefEqProofs (disch:=omega) [e4,e5]
   ·have he': ¬ (e:Int)=0:=by omega
    rw[yac (by simp[he0]),ybX,yap]at h3
    simp -dsimp -implicitDefEqProofs (disch:=omega) [h1,h2,hcB,he0,he',e1]
    refine ih (i+1,_) _ _ ⟨h1,h3.symm⟩ (by simp only;omega) ?_
    simp -dsimp -implicitDefEqProofs (disch:=omega) [e4,e5]
  ·obtain rfl:i=W.length:=by omega
   rw[yaW,<- hFm]at hL;subst hL hT';simp -dsimp -implicitDefEqProofs (disch:=omega) [h1,e1,e4,e5,his]
   simpa -dsimp -implicitDefEqProofs (disch:=omega) using hT
end Go.Am.Ab
