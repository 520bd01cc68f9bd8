/- The rows that are found. -/
import Derived.Test.YtibdiacpdmhmnaaGreatDoorPredB
import Derived.Test.YtibdiacpdmhmnaaGreatDoorPredC
import Derived.Test.YtibdiacpdmhmnaaGreatDoorPredD
import Derived.Test.YtibdiacpdmhmnaaGreatDoorOpenD
set_option linter.all false
namespace Go.Am.Ab
open Go.Proofs
set_option maxHeartbeats 16000000
set_option maxRecDepth 4000
def zkL (fs:List Fld) (p:Prd): ∀P Q,zbS fs p (P++Q)=((zbS fs p P).1++(zbS fs p Q).1,(zbS fs p P).2+(zbS fs p Q).2)
 |[],Q=>by simp[zbS]
 |g::P,Q=>by
  rw[ya9,zbS,zbS,zkL fs p P Q];split
  ·simp only[yan]
   rw[Nat.add_right_comm]
  ·rfl
def zpg (fs:List Fld) (p:Prd) (g:List (List Val)):zbS fs p [g]=if (myP fs (zhs fs.length g) p).y=true then (g.filter (λr=>decide (evP fs r p=2)),1) else ([],0):=by
 rw[zbS];split <;> simp[zbS]
def zph (g:List (List Val)) (n:Nat):zco g n=(zhs n g).map λb=>(b.sta g.length).d:=by
 unfold zco zhs;rw[yaQ];refine ya0 λj _=> ?_
 show _=((znh (col g j)).sta g.length).d
 rw[<- zzK,show (col g j).length=g.length by simp[col]]
def zwR (g:List (List Val)) (n:Nat):(zhs n g).length=n:=by simp[zhs]
def zzL {s:Sch} {g:List (List Val)} (hg: ∀r∈g,zfe s r): ∀b∈zhs s.fields.length g,BdOk b:=λb hb=>by
 obtain⟨j,hj,rfl⟩:=List.mem_map.1 hb;exact zIm (zdb hg (List.mem_range.1 hj))
def zwS (s:Sch) (hs:SchIs s) {g:List (List Val)} (hg: ∀r∈g,zfe s r) (p:Prd) (hp:p.wf) (hc:ziU s.fields p=0):
 R 63 [.d p.d,.d s.d,.d (.list (zco g s.fields.length))] []=some ([.d (myP s.fields (zhs s.fields.length g) p).d],[]):=by
 have:=hs.len;rw[zph];exact zyJ s (by omega) _ (zwR _ _) (zzL hg) g.length p hp hc
def zni {s:Sch} {r:List Val} (h:zfe s r): ∀t,Val.text t∈r->t.size<1000000000:=λt ht=>by
 obtain⟨j,hj,e⟩:=List.getElem_of_mem ht;have:=h.2 j (by rw[<- h.1];exact hj)
 rw[<- zdL hj,e]at this;rcases this with h | ⟨_,_,h⟩
 ·cases h
 ·have:=h t rfl;omega
def zkM {fs:List Fld} {p:Prd} {n:Nat}: ∀ {gs:List (List (List Val))},(∀g∈gs,g.length<=n)->(zbS fs p gs).1.length<=gs.length*n
 |[],_=>yai _
 |g::gs,h=>by
  have ih:=zkM (fs:=fs) (p:=p) λq hq=>h q (yaZ _ hq)
  have h1:=h g (ybb ..);have h2:=ycm (λr=>decide (evP fs r p=2)) g
  rw[zbS,yaf,ya8,ycw];split
  ·rw[yae];omega
  ·omega
def zkN {α:Type} (ok:α->Bool) {l:List α} {i:Nat} (h:i<l.length):(l.take (i+1)).filter ok=(l.take i).filter ok++if ok l[i]=true then [l[i]] else []:=by
 rw[ya3 h,List.filter_append,ydk,List.filter_nil]
def zt9 (s:Sch) (hs:SchIs s) (X:List (List Val)) (hX:X.length<=256) (hXf: ∀r∈X,zfe s r) (g:Nat) (h1:1<=g) (h2:g<=64) (p:Prd) (hp:p.wf) (hck:ztx s.fields p=0) (hcp:R 62 [.d p.d,.d s.d] []=some ([.d (.int .i64 0)],[])) (hc:ziU s.fields p=0):
 R 19 [.ptr 0 0,.d p.d] [.box [.d (.int .u32 s.id),.d (.list (s.fields.map Fld.d)),.d (.list (zaK X)),.d (.int .i64 g),.d (.list ((cks g X.length X).map (zcJ s.fields.length)))]]=
  some ([.arr 1 (zbS s.fields p (cks g X.length X)).1.length,.d (.int .i64 (zbS s.fields p (cks g X.length X)).2)],.box [.d (.int .u32 s.id),.d (.list (s.fields.map Fld.d)),.d (.list (zaK X)),.d (.int .i64 g),.d (.list ((cks g X.length X).map (zcJ s.fields.length)))]::[.arr 1 (zaK (zbS s.fields p (cks g X.length X)).1) 0]):=by
 have hch:=zih X g h1;have hYs:zam 1 (zaK X)=true:=zda X;have hck':zcg g X.length (zaK X)=(cks g X.length X).map zaK:=zfD _ _ _ _;have hG: ∀q∈cks g X.length X,q.length<=g/\ ∀r∈q,zfe s r:=λq hq=>⟨(zia hq).1,λr hr=>hXf r ((zia hq).2 r hr)⟩
 have hGl:=zdh (n:=g) X.length X;have hYl:(zaK X).length=X.length:=yah _;have hmy:=λ(q:List (List Val)) (hq: ∀r∈q,zfe s r)=>zwS s hs hq p hp hc
 have hev:=λ(r:List Val) (hr:zfe s r)=>ztP s (by have:=hs.len;omega) r hr.1 (zni hr) p hp hc
 have hs8:=hs.len;have hfsi: ∀P:List (List (List Val)),(zbS s.fields p P).2<=P.length:=zfg _ _;obtain⟨sid,fs⟩:=s;simp only[Sch.d]at hcp hmy hev hs8 hfsi ⊢;generalize hGG:cks g X.length X=GG at*;generalize zaK X=Y at*;obtain⟨ST,hST⟩: ∃ST,ST=GG.map (zcJ fs.length):=⟨_,rfl⟩;have hSTl:ST.length=GG.length:=by rw[hST,yah]
 have hSTi: ∀i, ∀P q Q,GG=P++q::Q->P.length=i->ST[i]? =some (.list (zco q fs.length)):=λi P q Q h hi=>by
  rw[hST,h,ya7,yal (by rw[yah];omega),yah,hi,yba]
  rfl
 rw[<- hST];clear hST;obtain⟨op,fl,pv,ks⟩:=p;rw[zar]at hcp hmy hev ⊢;generalize hPP:Prd.node op fl pv ks=pp at*;generalize fs.map Fld.d=fD at*;generalize ks.map Prd.d=kD at*;refine rg b19 rfl ?_;intro T hT;simp -dsimp -implicitDefEqProofs (disch:=omega) [hcp,hch,hYs,hYl]
 generalize hz:zex _ _ _ _ _ _ _=z;revert z;refine zgW (σ:=List (List Val) × Nat × Nat) (λx=>[(2,.ptr 1 0),(3,.ptr 2 0),(4,.arr 3 0),(5,.d (.int .i64 0)),(6,.ptr 4 0),(7,.ptr 5 0),(8,.ptr 6 0)]) (λx=> .box [.d (.int .u32 sid),.d (.list fD),.d (.list Y),.d (.int .i64 g),.d (.list ST)]:: .box [.ptr 0 0]:: .box [.d (.int .u8 op),.d (.int .u32 fl),.d (.int .u8 pv.kind),.d (.int .i64 pv.n),.d (.str pv.s),.d (.list kD)]:: .arr 1 [] 0:: .box [zf1 7 (zaK x.1)]:: .box [.d (.int .i64 x.2.1)]:: .box [.d (.int .i64 x.2.2)]::zf2 1 (zaK x.1)) (λl x=> ∃P Q,GG=P++Q/\l=Q.map zaK/\(x.1,x.2.1)=zbS fs pp P/\x.2.2=P.length) ([],0,0) ?_ ?_ ?_ ?_
 ·exact⟨[],GG,rfl,hck',rfl,rfl⟩
 ·simp -dsimp -implicitDefEqProofs (disch:=omega) [zf1,zf2]
 ·intro T' f hT' z l ⟨out,cnt,idx⟩ ⟨P,Q,q1,q2,q3,q4⟩ ih
  cases Q with
  |nil=>simp at q2
  |cons g0 Q=>
  simp only[yaV,ycp]at q2;obtain⟨rfl,rfl⟩:=q2;simp only at q3 q4;subst q4;have hsi:=hSTi P.length P g0 Q q1 rfl;obtain⟨gl,gf⟩:=hG g0 (by rw[q1];simp)
  have hm:=hmy g0 gf;have hPl:P.length<GG.length:=by rw[q1];simp
  have hSl:P.length<ST.length:=by omega
  have hcn:=hfsi P;rw[<- q3]at hcn;simp only at hcn;have hstep:=zkL fs pp P [g0];rw[zpg,<- q3]at hstep;simp only at hstep;have hsg:ST[P.length]= .list (zco g0 fs.length):=by rw[yak hSl]at hsi;exact yaN hsi
  generalize zco g0 fs.length=sg at*;generalize myP fs (zhs fs.length g0) pp=M at*;obtain⟨m1,m2,m3⟩:=M;simp only[M3.d]at hm hstep;have hwi:IntKind.i64.wrap ((P.length:Int)+1)=(P.length:Int)+1:=wI (by omega) (by omega)
  have r7:List.range 7=[0,1,2,3,4,5,6]:=rfl;have r8:List.range 8=[0,1,2,3,4,5,6,7]:=rfl;cases m3 with
  |false=>
   rw[yac (by decide)]at hstep
   simp only[yap,ycu]at hstep;rcases out with _ | ⟨o0,out⟩
   all_goals
    simp -dsimp -implicitDefEqProofs (disch:=omega) [zf1,zf2,r7,r8,hsg,hSl,hm,hwi]
    refine ih (_,cnt,P.length+1) _ ⟨P++[g0],Q,by simp[q1],rfl,hstep.symm,by simp⟩ ?_
    simp -dsimp -implicitDefEqProofs (disch:=omega) [zf1,zf2,r7,r8]
  |true=>
   rw[yag rfl]at hstep;simp only at hstep;have hwc:IntKind.i64.wrap ((cnt:Int)+1)=(cnt:Int)+1:=wI (by omega) (by omega)
   have hgl:(zaK g0).length=g0.length:=yah _;have hgi: ∀i (h:i<g0.length),(zaK g0)[i]? =some (.list (vs g0[i])):=λi h=>by rw[yau,yak h];rfl
   have hol:out.length<=16384:=by
    have h:=zkM (fs:=fs) (p:=pp) (gs:=P) (n:=g) λq hq=>(hG q (by rw[q1];simp[hq])).1
    rw[<- q3]at h;exact ya4 h (ybA (show P.length<=256 by omega) h2)
   obtain⟨o,ho⟩: ∃o,o=out:=⟨_,rfl⟩;rw[<- ho]at hstep q3 hol;obtain⟨ok,hok⟩: ∃ok:List Val->Bool,ok=λr=>decide (evP fs r pp=2):=⟨_,rfl⟩
   rw[<- hok]at hstep;have htk:=λi (h:i<g0.length)=>zkN ok h
   rcases out with _ | ⟨o0,out⟩
   all_goals
    simp -dsimp -implicitDefEqProofs (disch:=omega) [zf1,zf2,r7,r8,hsg,hSl,hm,hwi,hwc,hgl]
    generalize hz:zaf _ _ _ _ _ _=z;revert z;refine zaa (σ:=Nat × List D) (λx=>[(2,.ptr 1 0),(3,.ptr 2 0),(4,.arr 3 0),(5,.d (.int .i64 0)),(6,.ptr 4 0),(7,.ptr 5 0),(8,.ptr 6 0),(50,.d (.list (zaK g0))),(51,.d (.int .i64 g0.length)),(52,.d (.int .i64 x.1))]) (λx=> .box [.d (.int .u32 sid),.d (.list fD),.d (.list Y),.d (.int .i64 g),.d (.list ST)]:: .box [.ptr 0 0]:: .box [.d (.int .u8 op),.d (.int .u32 fl),.d (.int .u8 pv.kind),.d (.int .i64 pv.n),.d (.str pv.s),.d (.list kD)]:: .arr 1 [] 0:: .box [zf1 7 x.2]:: .box [.d (.int .i64 (cnt+1))]:: .box [.d (.int .i64 (P.length+1))]::zf2 1 x.2) (λx=>x.1<=g0.length/\x.2=zaK (o++(g0.take x.1).filter ok)) (λx=>g0.length - x.1) (0,zaK o) ?_ ?_ ?_
    ·exact⟨yai _,by simp⟩
    ·simp -dsimp -implicitDefEqProofs (disch:=omega) [ho,zf1,zf2,r7,r8,hgl]
    intro T2 f2 hT2 ⟨i,S⟩ ⟨m4,m5⟩ ih2;simp only at m4 m5 ih2;have hSl2:S.length<=20000:=by
     have h:=ycm ok (g0.take i);rw[m5,yah,yae];rw[yaq]at h;omega
    by_cases hi:i<g0.length
    ·have htk:=htk i hi
     have hgi:=hgi i hi;obtain⟨r,hr⟩: ∃r,g0[i]=r:=⟨_,rfl⟩;have hrf:=gf r (hr ▸ yam hi);have her:=hev r hrf;have hcl:=zqJ r (by rw[hrf.1];simp only;omega)
     rw[hr]at hgi htk;have hsuc: ∀q,q=(if ok r=true then [r] else [])->zaK (o++(g0.take (i+1)).filter ok)=S++zaK q:=λq hq=>by
      rw[htk,<- hq,m5,<- yan];exact ya7
     have hwl:(vs r).length=r.length:=yah _;have hrw:zaK [r]=[.list (vs r)]:=rfl;generalize zaK g0=Y0 at*;generalize vs r=w at*;have hiY:i<Y0.length:=by omega
     have hgi2:Y0[i]= .list w:=by rw[yak hiY]at hgi;exact yaN hgi
     by_cases hb:evP fs r pp=2
     ·have h3:=hsuc [r] (by rw[hok];simp[hb])
      rw[hrw]at h3;rw[hb]at her;rcases S with _ | ⟨s0,S⟩
      all_goals try (exfalso;simp[ho]at m5;done)
      all_goals
       simp only[yaz,yaf]at hSl2;simp -dsimp -implicitDefEqProofs (disch:=omega) [hi,hiY,hgi2,her,hcl,hwl,zf1,zf2,r7,r8,hgl]
       refine ih2 (i+1,_) _ _ ⟨hi,h3.symm⟩ (by simp only;omega) ?_
       simp -dsimp -implicitDefEqProofs (disch:=omega) [zf1,zf2,r7,r8]
     ·have h3:=(hsuc [] (by rw[hok];simp[hb])).trans (yap S)
      have hb': ¬ (evP fs r pp:Int)=2:=by omega
      rcases S with _ | ⟨s0,S⟩
      all_goals try (exfalso;simp[ho]at m5;done)
      all_goals
       simp only[yaz,yaf]at hSl2;simp -dsimp -implicitDefEqProofs (disch:=omega) [hi,hiY,hgi2,her,hb',zf1,zf2,r7,r8,hgl]
       refine ih2 (i+1,_) _ _ ⟨hi,h3.symm⟩ (by simp only;omega) ?_
       simp -dsimp -implicitDefEqProofs (disch:=omega) [zf1,zf2,r7,r8]
    ·obtain rfl:i=g0.length:=by omega
     rw[yaW]at m5;subst hT2;rcases S with _ | ⟨s0,S⟩
     all_goals try (exfalso;simp[ho]at m5;done)
     all_goals
      simp -dsimp -implicitDefEqProofs (disch:=omega) [zf1,zf2,r7,r8,hgl]
      refine ih (o++g0.filter ok,cnt+1,P.length+1) _ ⟨P++[g0],Q,by simp[q1],rfl,hstep.symm,by simp⟩ ?_
      simp only;rw[<- m5];simp -dsimp -implicitDefEqProofs (disch:=omega) [zf1,zf2,r7,r8]
 ·intro ⟨out,cnt,idx⟩ ⟨P,Q,q1,q2,q3,q4⟩
  have hQ:Q=[]:=by
   cases Q with
   |nil=>rfl
   |cons a b=>cases q2
  subst hQ;rw[yap]at q1;subst q1;rw[<- q3]at hT;simp only at hT q3;rcases out with _ | ⟨o0,out⟩
  all_goals
   simp -dsimp -implicitDefEqProofs (disch:=omega) [zf1,zf2]
   simpa -dsimp -implicitDefEqProofs (disch:=omega) [zf1,zf2]using hT
end Go.Am.Ab
namespace Go.Am.Ab
open Go.Proofs
set_option maxHeartbeats 16000000
set_option maxRecDepth 4000
def zwT (s:Sch) (hs:SchIs s) {g:List (List Val)} (hg: ∀r∈g,zfe s r) (p:Prd) (hp:p.wf) (hc:ziU s.fields p=0):
 R 66 [.d p.d,.d s.d,.d (.list (zco g s.fields.length))] []=some ([.d (myP s.fields (zhs s.fields.length g) p).d],[]):=by
 have:=hs.len;rw[zph];exact zyK s (by omega) _ (zwR _ _) (zzL hg) g.length p hp hc
abbrev zet (L:List (List Val)):List D:=zbD (L.map (·.map cellOf))
def zua (s:Sch) (hs:SchIs s) (X:List (List Val)) (hX:X.length<=256) (hXf: ∀r∈X,zfe s r) (g:Nat) (h1:1<=g) (h2:g<=64) (p:Prd) (hp:p.wf) (hcp:R 21 [.d p.d,.d s.d] []=some ([.d (.int .i64 0)],[])) (hc:ziU s.fields p=0):
 R 20 [.d s.d,.d (.list (zet X)),.d (.int .i64 g),.d p.d] []=
  some ([.arr 0 (zbS s.fields p (cks g X.length X)).1.length,.d (.int .i64 (zbS s.fields p (cks g X.length X)).2)],[.arr 1 (zet (zbS s.fields p (cks g X.length X)).1) 0]):=by
 have hgr:R 53 [.d (.list (zet X)),.d (.int .i64 g)] []=_:=zqv (X.map (·.map cellOf)) g h1 h2 (by rw[yah];omega)
 rw[yah,zv5,yah,yaQ]at hgr;have hG: ∀q∈cks g X.length X,q.length<=g/\ ∀r∈q,zfe s r:=λq hq=>⟨(zia hq).1,λr hr=>hXf r ((zia hq).2 r hr)⟩
 have hGl:=zdh (n:=g) X.length X;have hmy:=λ(q:List (List Val)) (hq: ∀r∈q,zfe s r)=>zwT s hs hq p hp hc
 have hev:=λ(r:List Val) (hr:zfe s r)=>zmb s (by have:=hs.len;omega) r hr.1 (zni hr) p hp hc
 have hs8:=hs.len;have hfsi: ∀P:List (List (List Val)),(zbS s.fields p P).2<=P.length:=zfg _ _;obtain⟨sid,fs⟩:=s;simp only[Sch.d]at hcp hmy hev hs8 hfsi ⊢;generalize hGG:cks g X.length X=GG at*;obtain⟨GD,hGD⟩: ∃GD:List D,GD=GG.map ((λq=> .list (zbD q)) ∘ λq=>q.map (·.map cellOf)):=⟨_,rfl⟩
 have hGDl:GD.length=GG.length:=by rw[hGD,yah]
 have hGDi: ∀i (h:i<GG.length),GD[i]? =some (.list (zet GG[i])):=λi h=>by rw[hGD,yau,yak h];rfl
 rw[<- hGD]at hgr;clear hGD;generalize zet X=Y at*;obtain⟨op,fl,pv,ks⟩:=p;rw[zar]at hcp hmy hev ⊢;generalize hPP:Prd.node op fl pv ks=pp at*;obtain⟨fD,hfD⟩: ∃fD,fD=fs.map Fld.d:=⟨_,rfl⟩;have hfDl:fD.length=fs.length:=by rw[hfD,yah]
 rw[<- hfD]at hcp hmy hev ⊢;clear hfD;generalize ks.map Prd.d=kD at*;have hfl: ∀i,((zbS fs pp (GG.take i)).1).length<=16384:=λi=>by
  have h:=zkM (fs:=fs) (p:=pp) (gs:=GG.take i) (n:=g) λq hq=>(hG q (yaH hq)).1
  rw[yaq]at h;exact ya4 h (ybA (show min i GG.length<=256 by omega) h2)
 have hstep: ∀i (h:i<GG.length),zbS fs pp (GG.take (i+1))=_:=λi h=>by
  rw[ya3 h,zkL,zpg]
 refine rg b20 rfl ?_;intro T hT;simp -dsimp -implicitDefEqProofs (disch:=omega) [hcp,hgr]
 generalize hz:zaf _ _ _ _ _ _=z;revert z;refine zaa (σ:=Nat × List (List Val) × Nat) (λx=>[(4,.ptr 0 0),(7,.ptr 1 0),(10,.arr 2 x.2.1.length),(11,.d (.int .i64 x.2.2)),(12,.arr 3 GG.length),(13,.d (.int .i64 x.1))]) (λx=>[.box [.d (.int .u32 sid),.d (.list fD)],.box [.d (.int .u8 op),.d (.int .u32 fl),.d (.int .u8 pv.kind),.d (.int .i64 pv.n),.d (.str pv.s),.d (.list kD)],.arr 1 (zet x.2.1) 0,.arr 1 GD 0]) (λx=>x.1<=GG.length/\x.2=zbS fs pp (GG.take x.1)) (λx=>GG.length - x.1) (0,[],0) ?_ ?_ ?_
 ·exact⟨yai _,rfl⟩
 ·simp -dsimp -implicitDefEqProofs (disch:=omega)
 intro T' f hT' ⟨i,out,cnt⟩ ⟨hi,hx⟩ ih;simp only at hi hx ih;have hol:=hfl i;have hcn:=hfsi (GG.take i);rw[<- hx]at hol hcn;rw[yaq]at hcn;simp only at hol hcn;have hol2:(zet out).length=out.length:=by rw[yah,yah]
 by_cases h4:i<GG.length
 case neg=>
  obtain rfl:i=GG.length:=by omega
  rw[yaW]at hx;subst hT';rw[<- hx]at hT;simp only at hT;simp -dsimp -implicitDefEqProofs (disch:=omega) [h4,hol2]
  simpa -dsimp -implicitDefEqProofs (disch:=omega) using hT
 obtain⟨q,hq⟩: ∃q,GG[i]=q:=⟨_,rfl⟩;obtain⟨gl,gf⟩:=hG q (hq ▸ yam h4);have h5:i<GD.length:=by omega
 have hGi:GD[i]= .list (zet q):=by
  have h:=hGDi i h4;rw[hq,yak h5]at h;exact yaN h
 have hm:=hmy q gf;have hst:=hstep i h4;rw[hq,<- hx]at hst;simp only at hst;have hQl:(zet q).length=q.length:=by rw[yah,yah]
 have hgd: ∀j,j<fs.length->zfL (kd ⟨sid,fs⟩ j) (col q j):=λj hj=>zdb gf hj
 have hval: ∀j,j<fs.length->R 34 [.d (.list (zet q)),.d (.int .i64 j)] []=_:=λj hj=>zm7 q j (λr hr=>by rw[(gf r hr).1];exact hj) (by omega) (by omega)
 have hsta: ∀j,j<fs.length->R 33 [.d (.list (ce ((col q j).map cellOf)))] []=_:=λj hj=>zqj (col q j) (by simp[col];omega) λt ht=>by
  rcases hgd j hj _ ht with h | ⟨_,_,h⟩
  ·cases h
  ·have:=h t rfl;omega
 have hqi: ∀k (h:k<q.length),(zet q)[k]? =some (.list (ce (q[k].map cellOf))):=λk h=>by rw[yau,yau,yak h];rfl
 have hcl: ∀j,(ce ((col q j).map cellOf)).length=q.length:=λj=>by simp[col]
 obtain⟨Q,hQ⟩: ∃Q,Q=zet q:=⟨_,rfl⟩;rw[<- hQ]at hGi hQl hval hqi;obtain⟨O,hO⟩: ∃O,O=zet out:=⟨_,rfl⟩;rw[<- hO]at hol2;simp -dsimp -implicitDefEqProofs (disch:=omega) [h4,h5,hGi,hGDl,hfDl,<- hO]
 generalize hz:zaf _ _ _ _ _ _=z;revert z;refine zaa (σ:=Nat) (λj=>[(4,.ptr 0 0),(7,.ptr 1 0),(10,.arr 2 out.length),(11,.d (.int .i64 cnt)),(12,.arr 3 GG.length),(13,.d (.int .i64 i)),(14,.arr 4 j),(15,.d (.int .i64 j))]) (λj=>[.box [.d (.int .u32 sid),.d (.list fD)],.box [.d (.int .u8 op),.d (.int .u32 fl),.d (.int .u8 pv.kind),.d (.int .i64 pv.n),.d (.str pv.s),.d (.list kD)],.arr 1 O 0,.arr 1 GD 0,.arr 10 (zco q j) 0]) (λj=>j<=fs.length) (λj=>fs.length - j) 0 ?_ ?_ ?_
 ·exact yai _
 ·simp -dsimp -implicitDefEqProofs (disch:=omega) [hol2,hfDl,zco,hGDl]
 intro T2 f2 hT2 j hj ih2
 by_cases h6:j<fs.length
 ·have hv:=hval j h6
  have hs':=hsta j h6;have hcj:=hcl j;have hsuc:=zgu q j;have hsd:(zaW (col q j)).d.cells.length=10:=rfl;have hsl:=zdc q j;generalize (zaW (col q j)).d=sd at*;generalize ce ((col q j).map cellOf)=cc at*;generalize zco q j=sl at*;simp -dsimp -implicitDefEqProofs (disch:=omega) [h6,h5,hGi,hGDl,hfDl,hol2,hv,hs',hcj,hsd,hsl]
  refine ih2 (j+1) _ _ h6 (by omega) ?_
  rw[hsuc];simp -dsimp -implicitDefEqProofs (disch:=omega) [hol2,hfDl,hGDl]
 obtain rfl:j=fs.length:=by omega
 subst hT2;have hsl:=zdc q fs.length;generalize zco q fs.length=sl at*;generalize myP fs (zhs fs.length q) pp=M at*;obtain⟨m1,m2,m3⟩:=M;simp only[M3.d]at hm hst;cases m3 with
 |false=>
  rw[yac (by decide)]at hst
  simp only[yap,ycu]at hst;simp -dsimp -implicitDefEqProofs (disch:=omega) [h5,hGDl,hfDl,hol2,hm,hsl]
  refine ih (i+1,out,cnt) _ _ ⟨h4,hst.symm⟩ (by simp only;omega) ?_
  simp -dsimp -implicitDefEqProofs (disch:=omega) [<- hO]
 |true=>
  rw[yag rfl]at hst;simp only at hst;obtain⟨ok,hok⟩: ∃ok:List Val->Bool,ok=λr=>decide (evP fs r pp=2):=⟨_,rfl⟩
  rw[<- hok]at hst;simp -dsimp -implicitDefEqProofs (disch:=omega) [h5,hGi,hGDl,hfDl,hol2,hm,hsl,hQl]
  generalize hz:zaf _ _ _ _ _ _=z;revert z;refine zaa (σ:=Nat × List (List Val)) (λx=>[(4,.ptr 0 0),(7,.ptr 1 0),(10,.arr 2 x.2.length),(11,.d (.int .i64 (cnt+1))),(12,.arr 3 GG.length),(13,.d (.int .i64 i)),(16,.d (.int .i64 x.1))]) (λx=>[.box [.d (.int .u32 sid),.d (.list fD)],.box [.d (.int .u8 op),.d (.int .u32 fl),.d (.int .u8 pv.kind),.d (.int .i64 pv.n),.d (.str pv.s),.d (.list kD)],.arr 1 (zet x.2) 0,.arr 1 GD 0]) (λx=>x.1<=q.length/\x.2=out++(q.take x.1).filter ok) (λx=>q.length - x.1) (0,out) ?_ ?_ ?_
  ·exact⟨yai _,by simp⟩
  ·simp -dsimp -implicitDefEqProofs (disch:=omega) [hol2,<- hO,hGDl]
  intro T3 f3 hT3 ⟨k,L⟩ ⟨m4,m5⟩ ih3;simp only at m4 m5 ih3;have hLl:L.length<=20000:=by
   have h:=ycm ok (q.take k);rw[m5,yae];rw[yaq]at h;omega
  have hLx:(zet L).length=L.length:=by rw[yah,yah]
  by_cases h7:k<q.length
  ·have htk:=zkN ok h7
   have hqk:=hqi k h7;obtain⟨r,hr⟩: ∃r,q[k]=r:=⟨_,rfl⟩;have her:=hev r (gf r (hr ▸ yam h7));rw[hr]at htk hqk;have h8:k<Q.length:=by omega
   have hqk2:Q[k]= .list (ce (r.map cellOf)):=by rw[yak h8]at hqk;exact yaN hqk
   have hsn:zet (L++[r])=zet L++[.list (ce (r.map cellOf))]:=by
    show List.map _ (List.map _ _)=_
    rw[ya7,ya7];rfl
   generalize ce (r.map cellOf)=w at*
   by_cases hb:evP fs r pp=2
   ·rw[hb]at her
    rw[hok,yag (by simp[hb]),<- hok]at htk
    simp -dsimp -implicitDefEqProofs (disch:=omega) [h7,h5,h8,hGi,hGDl,hQl,hqk2,her,hLx]
    refine ih3 (k+1,L++[r]) _ _ ⟨h7,by rw[htk,<- yan,<- m5]⟩ (by simp only;omega) ?_
    simp only;rw[hsn];simp -dsimp -implicitDefEqProofs (disch:=omega)
   ·have hb': ¬ (evP fs r pp:Int)=2:=by omega
    rw[hok,yac (by simp[hb]),<- hok,yap]at htk
    simp -dsimp -implicitDefEqProofs (disch:=omega) [h7,h5,h8,hGi,hGDl,hQl,hqk2,her,hb',hLx]
    refine ih3 (k+1,L) _ _ ⟨h7,by rw[htk];exact m5⟩ (by simp only;omega) ?_
    simp -dsimp -implicitDefEqProofs (disch:=omega)
  ·obtain rfl:k=q.length:=by omega
   rw[yaW]at m5;subst hT3;simp -dsimp -implicitDefEqProofs (disch:=omega) [h7,h5,hGi,hGDl,hQl,hLx]
   refine ih (i+1,L,cnt+1) _ _ ⟨h4,by simp only;rw[hst,m5]⟩ (by simp only;omega) ?_
   simp -dsimp -implicitDefEqProofs (disch:=omega)
end Go.Am.Ab
