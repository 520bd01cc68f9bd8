/- Files of rows, read back: the walk. -/
import Derived.Test.YtibdiacpdmhmnaaGreatDoorFileC
import Derived.Test.YtibdiacpdmhmnaaGreatDoorSpoilA
import Derived.Test.YtibdiacpdmhmnaaGreatDoorBackA
set_option linter.all false
namespace Go.Am.Ab
open Go.Proofs
set_option maxHeartbeats 8000000
set_option maxRecDepth 4000
def zuv (L:List (List Cel)) (hl:L.length<=1000000) (hr: ∀r∈L,r.length<=1000000):R 74 [.d (.list (zbr L)),.d (.list (zbr L))] []=some ([.d (.bool true)],[]):=by
 obtain⟨Y,hY⟩: ∃Y,Y=zbr L:=⟨_,rfl⟩;have hYl:Y.length=L.length:=by rw[hY,yah]
 rw[<- hY];refine rg b74 rfl ?_;intro T hT;simp -dsimp -implicitDefEqProofs (disch:=first|omega|assumption)
 generalize hz:zaj _ _ _ _ _ _=z;revert z;refine zaa (σ:=Nat) (λi=>[(0,.d (.list Y)),(1,.d (.list Y)),(5,.d (.int .i64 i))]) (λ_=>[]) (λi=>i<=L.length) (λi=>L.length - i) 0 ?_ ?_ ?_
 ·exact yai _
 ·simp -dsimp -implicitDefEqProofs (disch:=first|omega|assumption)
 intro T' f hT' i hi ih
 by_cases h1:i<L.length
 ·have h2:i<Y.length:=by omega
  obtain⟨r,hr1⟩: ∃r,L[i]=r:=⟨_,rfl⟩;have hYi:Y[i]= .list (ce r):=by simp only[hY,ybo,hr1]
  have hs:=zo1 r r (hr r (hr1 ▸ yam h1));rw[yaK rfl]at hs;generalize ce r=z at*;simp -dsimp -implicitDefEqProofs (disch:=first|omega|assumption) [h1,h2,hYi,hs]
  refine ih (i+1) _ _ h1 (by omega) (by simp -dsimp -implicitDefEqProofs (disch:=first|omega|assumption))
 ·subst hT'
  have h2: ¬ i<Y.length:=by omega
  simp -dsimp -implicitDefEqProofs (disch:=first|omega|assumption) [h2]
  simpa -dsimp -implicitDefEqProofs (disch:=first|omega|assumption) using hT
def zyx (X:List (List Val)) (hX:X.length<=1000000) (hr: ∀r∈X,r.length<=1000000):R 23 [.d (.list (zaU X)),.d (.list (zbr (X.map (·.map zac))))] []=some ([.d (.bool true)],[]):=by
 have h1:=zpL X hX hr;have h2:=zuv (X.map (·.map zac)) (by rw[yah];exact hX) λr hr'=>by
  obtain⟨q,hq,rfl⟩:=List.mem_map.1 hr';rw[yah];exact hr q hq
 have hl:(zbr (X.map (·.map zac))).length=X.length:=by rw[yah,yah]
 generalize zbr (X.map (·.map zac))=Z at*
 generalize zaU X=Y at*;refine rg b23 rfl ?_;intro T hT;simp -dsimp -implicitDefEqProofs (disch:=first|omega|assumption) [h1,h2,hl]
 simpa -dsimp -implicitDefEqProofs (disch:=first|omega|assumption) using hT
def zuw (s:Sch) (hl:s.fields.length<=1000000):R 30 [.d s.d,.d s.d] []=some ([.d (.bool true)],[]):=by
 obtain⟨sid,fs⟩:=s;simp only[Sch.d]at hl ⊢;obtain⟨Y,hY⟩: ∃Y,Y=fs.map Fld.d:=⟨_,rfl⟩;have hYl:Y.length=fs.length:=by rw[hY,yah]
 rw[<- hY];refine rg b30 rfl ?_;intro T hT;simp -dsimp -implicitDefEqProofs (disch:=first|omega|assumption)
 generalize hz:zaj _ _ _ _ _ _=z;revert z;refine zaa (σ:=Nat) (λi=>[(2,.ptr 0 0),(3,.ptr 1 0),(5,.d (.int .i64 i))]) (λ_=>[.box [.d (.int .u32 sid),.d (.list Y)],.box [.d (.int .u32 sid),.d (.list Y)]]) (λi=>i<=fs.length) (λi=>fs.length - i) 0 ?_ ?_ ?_
 ·exact yai _
 ·simp -dsimp -implicitDefEqProofs (disch:=first|omega|assumption)
 intro T' f hT' i hi ih
 by_cases h1:i<fs.length
 ·have h2:i<Y.length:=by omega
  obtain⟨⟨a,b,c,d⟩,hr1⟩: ∃r,fs[i]=r:=⟨_,rfl⟩;have hYi:Y[i]=Fld.d ⟨a,b,c,d⟩:=by simp only[hY,ybo,hr1]
  simp only[Fld.d]at hYi;simp -dsimp -implicitDefEqProofs (disch:=first|omega|assumption) [h1,h2,hYi,zbQ]
  refine ih (i+1) _ _ h1 (by omega) (by simp -dsimp -implicitDefEqProofs (disch:=first|omega|assumption))
 ·subst hT'
  have h2: ¬ i<Y.length:=by omega
  simp -dsimp -implicitDefEqProofs (disch:=first|omega|assumption) [h2]
  simpa -dsimp -implicitDefEqProofs (disch:=first|omega|assumption) using hT
def zpV (a0 a1 x gg:D) (S:List D):
 R 31 [.ptr 0 0] [.box [.d a0,.d a1,.d x,.d gg,.d (.list S)]]=some ([.d (.int .i64 S.length)],[.box [.d a0,.d a1,.d x,.d gg,.d (.list S)]]):=by
 refine rg b31 rfl ?_;intro T hT;simp -dsimp -implicitDefEqProofs (disch:=first|omega|assumption)
 simpa -dsimp -implicitDefEqProofs (disch:=first|omega|assumption) using hT
def zst:D:= .agg [.int .i64 0,.int .i64 0,.bool false,.bool false,.int .u8 0,.int .i64 0,.str ⟨#[]⟩,.int .u8 0,.int .i64 0,.str ⟨#[]⟩]
def zyy (a0 x gg st:D) (fl:List D) (i:Int) (h:i<0\/(fl.length:Int)<=i):
 R 32 [.ptr 0 0,.d (.int .i64 i)] [.box [.d a0,.d (.list fl),.d x,.d gg,.d st]]=some ([.d zst,.d (.bool false)],[.box [.d a0,.d (.list fl),.d x,.d gg,.d st]]):=by
 by_cases h1:i<0
 ·refine rg b32 rfl ?_
  intro T hT;simp -dsimp -implicitDefEqProofs (disch:=first|omega|assumption) [h1]
  simpa -dsimp -implicitDefEqProofs (disch:=first|omega|assumption) [zst]using hT
 ·have h2:(fl.length:Int)<=i:=by omega
  refine rg b32 rfl ?_;intro T hT;simp -dsimp -implicitDefEqProofs (disch:=first|omega|assumption) [h1,h2]
  simpa -dsimp -implicitDefEqProofs (disch:=first|omega|assumption) [zst]using hT
def zyz (a0 gg st:D) (fl:List D) (X:List (List Val)) (i:Nat) (h:i<fl.length) (hf:fl.length<=100) (hX:X.length<=1000) (hr: ∀r∈X,i<r.length) (ht: ∀s,Val.text s∈col X i->s.size<1000000000):
 R 32 [.ptr 0 0,.d (.int .i64 i)] [.box [.d a0,.d (.list fl),.d (.list (zaU X)),.d gg,.d st]]=some ([.d (zaW (col X i)).d,.d (.bool true)],[.box [.d a0,.d (.list fl),.d (.list (zaU X)),.d gg,.d st]]):=by
 have hv:=zdH X i hr (by omega) (by omega)
 have hcl:(col X i).length=X.length:=by simp[col]
 have hp:=zeG (col X i) (by omega) ht
 have hd:(zaW (col X i)).d.cells.length=10:=rfl;generalize zaW (col X i)=q at*;obtain⟨sa,sb,sc,sd,⟨b0,b1,b2⟩,⟨c0,c1,c2⟩⟩:=q;simp only[Sta.d]at hp ⊢;generalize zaU X=Y at*;have hZl:(vs (col X i)).length=X.length:=by rw[yah,hcl]
 generalize vs (col X i)=Z at*;have h0: ¬ (i:Int)<0:=by omega
 have h1: ¬ (fl.length:Int)<=i:=by omega
 refine rg b32 rfl ?_;intro T hT;simp -dsimp -implicitDefEqProofs (disch:=first|omega|assumption) [hv,hp,h0,h1,hZl]
 simpa -dsimp -implicitDefEqProofs (disch:=first|omega|assumption) using hT
def zpW {α:Type} {n:Nat} (hn:1<=n): ∀ (m:Nat) (l:List α),l.length<=m->(cks n m l).length=(l.length+n - 1) / n
 |0,l,h=>by
  have:l=[]:=yaz (by omega)
  subst this;rw[yat,yaW,ycb (by omega)];rfl
 |m+1,[],_=>by rw[yat,yaW,ycb (by omega)];rfl
 |m+1,x::xs,h=>by
  show ((x::xs).take n::cks n m ((x::xs).drop n)).length=_
  rw[yad,zpW hn m _ (by rw[yaw];simp only[yad]at h ⊢;omega),yaw]
  simp only[yad];rcases ybr xs.length n with c | c
  ·rw[show xs.length+1 - n+n - 1=n - 1 by omega,ycb (by omega),show xs.length+1+n - 1=xs.length+n by omega]
   rw[Nat.add_div_right _ (by omega),ycb c]
  ·rw[show xs.length+1 - n+n - 1=xs.length by omega,show xs.length+1+n - 1=xs.length+n by omega,Nat.add_div_right _ (by omega)]
end Go.Am.Ab
namespace Go.Am.Ab
open Go.Proofs
set_option maxHeartbeats 16000000
set_option maxRecDepth 4000
attribute [local simp] zm0 zfr zjE zba V.isOwn
def zjd (s:Sch) (hs:s.wf) (l:List (List Cel)) (hl: ∀r∈l, ∀c∈r,c.kind<256/\zai c.n/\c.s.size<=9223372036854775807) (hn:l.length<=9223372036854775807) (hr: ∀r∈l,r.length<=9223372036854775807)
 (n:Int) (hni:zai n) (at0:Int) (hat:zai at0):
 R 8 [.d s.d,.d (.list (zbr l)),.d (.int .i64 n),.d (.int .i64 at0)] []=some ([.d (.bool true)],[]):=by
 have al:=zHE;have hg:=zmP s hs.2.2.1;cases hg2:zpK s with
 |true=>
  rw[hg2]at hg;obtain⟨sid,fs⟩:=s;simp only[Sch.d]at hg ⊢;refine rg b8 rfl ?_;intro T hT;simp -dsimp -implicitDefEqProofs (disch:=first|omega|assumption) [al,hg]
  simpa -dsimp -implicitDefEqProofs (disch:=first|omega|assumption) using hT
 |false=>
 rw[hg2]at hg;have h0:=zsK hs hg2;have hc:=zfa s h0.id.1 (λf hf=>by have:=(h0.fld f hf);omega) (by have:=h0.len;omega)
 by_cases hck:zib s=0
 case neg=>
  generalize zib s=e at*;obtain⟨sid,fs⟩:=s;simp only[Sch.d]at hg hc ⊢;refine rg b8 rfl ?_;intro T hT;simp -dsimp -implicitDefEqProofs (disch:=first|omega|assumption) [al,hg,hc,hck]
  simpa -dsimp -implicitDefEqProofs (disch:=first|omega|assumption) using hT
 rw[hck]at hc;have hsi:=zdU hck;obtain⟨w1,w2,w3,w4,w5⟩:=zwN hsi hl 60;have hf:R 17 [.d s.d,.d (.list (zbr l)),.d (.int .i64 60)] []=_:=zpQ s h0.len l (λr hr c hc=>⟨(hl r hr c hc).1,(hl r hr c hc).2.2⟩) hn hr 60 (by omega)
 generalize zsR s (zlu l) 60=W at*;have hv:=zpS (by omega) w5 w3
 have hN0:0<=IntKind.u64.wrap n:=by rw[zae];omega
 obtain⟨N,hN⟩:=yax hN0;obtain⟨g,hg1⟩: ∃g,g=1+N % 64:=⟨_,rfl⟩;have hgi:(1:Int)+(N:Int) % 64=g:=by omega
 have hw:=zgL s W g h0 (by omega) (λr hr=>by have:=w3 r hr;omega) w4
 have hwf:=zmW h0 hck (by omega) w2 w4 (n:=g) (by omega) (by omega)
 rw[hwf]at hw;simp only[WrR]at hw;have hfl:=ziw hsi h0 (by omega) w5 (n:=g) (by omega) (by omega)
 have ho:=zmS (zfn s W g) (by omega)
 rw[zuu h0 hck w5 (by omega) (by omega) (by omega) hwf]at ho
 generalize zfn s W g=b at*;have hrl: ∀r∈W,r.length<=1000000:=λr hr=>by have:=w3 r hr;omega
 have hall:=λst=>zsQ (.int .u32 s.id) (.list (s.fields.map Fld.d)) (.int .i64 g) st W (by omega) hrl
 have hrows:=λst=>zmQ (.int .u32 s.id) (.list (s.fields.map Fld.d)) (.int .i64 g) st W
 have hsch:=λx st=>zi1 s (by have:=hsi.len;omega) x (.int .i64 g) st
 have hgrp:=λx S=>zpV (.int .u32 s.id) (.list (s.fields.map Fld.d)) x (.int .i64 g) S
 have his:=zyx W (by omega) hrl
 have hsm:=zuw s (by have:=hsi.len;omega)
 have hct:=zpW (n:=g) (by omega) W.length W (yaf _)
 have hfl8:=hsi.len;have hgw:IntKind.i64.wrap ((N:Int) % 64)=(N:Int) % 64:=wI (by omega) (by omega)
 have hzst: ∀i:Int,(i<0\/(s.fields.length:Int)<=i)-> ∀x st,R 32 [.ptr 0 0,.d (.int .i64 i)] [.box [.d (.int .u32 s.id),.d (.list (s.fields.map Fld.d)),.d x,.d (.int .i64 g),.d st]]=some ([.d zst,.d (.bool false)],[.box [.d (.int .u32 s.id),.d (.list (s.fields.map Fld.d)),.d x,.d (.int .i64 g),.d st]]):=λi hi x st=>zyy _ x _ st _ i (by rw[yah];exact hi)
 have hist: ∀i:Nat,i<s.fields.length-> ∀st,R 32 [.ptr 0 0,.d (.int .i64 i)] [.box [.d (.int .u32 s.id),.d (.list (s.fields.map Fld.d)),.d (.list (zaU W)),.d (.int .i64 g),.d st]]=some ([.d (zaW (col W i)).d,.d (.bool true)],[.box [.d (.int .u32 s.id),.d (.list (s.fields.map Fld.d)),.d (.list (zaU W)),.d (.int .i64 g),.d st]]):=λi hi st=>zyz _ _ st _ W i (by rw[yah];exact hi) (by rw[yah];omega) (by omega) (λr hr=>by rw[(w5 r hr).1];exact hi) λt ht=>by
  rcases zdn w5 hi _ ht with h | ⟨_,_,h⟩
  ·cases h
  ·have:=h t rfl;omega
 have hval: ∀i:Nat,i<s.fields.length->R 34 [.d (.list (zbr (W.map (·.map zac)))),.d (.int .i64 i)] []=_:=λi hi=>zhu W i (λr hr=>by rw[(w5 r hr).1];exact hi) (by omega) (by omega)
 have hrst: ∀i:Nat,i<s.fields.length->R 33 [.d (.list (ce ((col W i).map zac)))] []=some ([.d (zaW (col W i)).d],[]):=λi hi=>zkP (col W i) (by simp[col];omega) λt ht=>by
  rcases zdn w5 hi _ ht with h | ⟨_,_,h⟩
  ·cases h
  ·have:=h t rfl;omega
 have e0:zbr (W.map (·.map zac))=W.map zf2:=yaL
 rw[e0]at his hval;have e1:(W.map zf2).length=W.length:=yah _;have e2:(zaU W).length=W.length:=yah _;have e3:(s.fields.map Fld.d).length=s.fields.length:=yah _;have hST:((cks g W.length W).map (zdi s.fields.length)).length=(W.length+g - 1) / g:=by rw[yah,hct]
 have hf0:zfp (.inr (s,W,g))=[.ptr 0 0,E 0]:=rfl;rw[hf0]at ho;have ho2:(W=[]/\zej (.inr (s,W,g))=[.box [.d (.int .u32 s.id),.d (.list (s.fields.map Fld.d)),.nilS,.d (.int .i64 g),.nilS]])\/
  zej (.inr (s,W,g))=[.box [.d (.int .u32 s.id),.d (.list (s.fields.map Fld.d)),.arr 1 W.length,.d (.int .i64 g),.arr 2 ((cks g W.length W).map (zdi s.fields.length)).length],.arr 1 (zaU W) W.length,.arr 1 ((cks g W.length W).map (zdi s.fields.length)) 0]:=by
  rcases W with _ | ⟨w0,W0⟩
  ·exact .inl ⟨rfl,rfl⟩
  ·exact .inr (by rw[yah];rfl)
 clear hni hN0 hg1 w2 w3 w4 hwf hl hr hrl hck hfl h0 hsi hct e0 hf0;have hqd:((W.length:Int)+g - 1) / g=((W.length+g - 1) / g:Nat):=by
  rw[show (W.length:Int)+g - 1=((W.length+g - 1:Nat):Int) by omega,<- ybZ]
 have hqw:IntKind.i64.wrap (((W.length+g - 1:Nat):Int) / (g:Int))=((W.length+g - 1:Nat):Int) / (g:Int):=by
  have a:=Int.ediv_nonneg (a:=((W.length+g - 1:Nat):Int)) (b:=g) (by omega) (by omega)
  have b:=Int.ediv_le_self (a:=((W.length+g - 1:Nat):Int)) (g:Int) (by omega)
  exact wI (by omega) (by omega)
 have hstd: ∀i:Nat,i<s.fields.length-> ∃a b c d e f g h k l,(zaW (col W i)).d= .agg [.int .i64 (a:Nat),.int .i64 (b:Nat),.bool c,.bool d,.int .u8 (e:Nat),.int .i64 f,.str g,.int .u8 (h:Nat),.int .i64 k,.str l]:=λi _=>⟨_,_,_,_,_,_,_,_,_,_,rfl⟩
 have hcl: ∀i,(ce ((col W i).map zac)).length=W.length:=λi=>by simp[col]
 obtain⟨sid,fs⟩:=s;simp only[Sch.d]at hg hc hf hw hsch hsm hall hrows hgrp hist hzst e3 hST ho2 hval hrst hstd w5 hfl8 ⊢;generalize fs.map Fld.d=fl at*;generalize fs.length=nf at*;generalize (cks g W.length W).map (zdi nf)=ST at*;generalize zej (.inr (⟨sid,fs⟩,W,g))=HH at*;have hq0:((g:Int) - 1) / g=0:=Int.ediv_eq_zero_of_lt (by omega) (by omega)
 have hat3:at0<0\/(nf:Int)<=at0\/ ∃i:Nat,at0=i/\i<nf:=by
  rcases Int.lt_or_le at0 0 with h | h
  ·exact .inl h
  ·rcases Int.lt_or_le at0 nf with h2 | h2
   ·exact .inr (.inr ⟨at0.toNat,by omega,by omega⟩)
   ·exact .inr (.inl h2)
 rcases hat3 with c1 | c1 | ⟨i,rfl,c1⟩
 ·have hst:=hzst at0 (.inl c1)
  clear hist hval hrst hstd hzst w5;generalize W.map zf2=Z at*;generalize zaU W=U at*;generalize hm:W.length=m at*;rcases ho2 with ⟨hW,rfl⟩ | rfl
  ·subst hW
   obtain rfl:m=0:=hm.symm;obtain rfl:=yaz e1;obtain rfl:=yaz e2;refine rg b8 rfl ?_;intro T hT;simp -dsimp -implicitDefEqProofs (disch:=first|omega|assumption) [al,hg,hc,hf,hv,hN,hgw,hgi,hw,ho,hall,hrows,hsch,hgrp,his,hsm,e3,c1,hst,hq0,zst,E,zbQ]
   simpa -dsimp -implicitDefEqProofs (disch:=first|omega|assumption) using hT
  ·refine rg b8 rfl ?_
   intro T hT;simp -dsimp -implicitDefEqProofs (disch:=first|omega|assumption) [al,hg,hc,hf,hv,hN,hgw,hgi,hw,ho,hall,hrows,hsch,hgrp,his,hsm,e1,e2,e3,c1,hst,hqd,hqw,hST,zst,E,zbQ]
   simpa -dsimp -implicitDefEqProofs (disch:=first|omega|assumption) using hT
 ·have hst:=hzst at0 (.inr c1)
  have c0: ¬ at0<0:=by omega
  clear hist hval hrst hstd hzst w5;generalize W.map zf2=Z at*;generalize zaU W=U at*;generalize hm:W.length=m at*;rcases ho2 with ⟨hW,rfl⟩ | rfl
  ·subst hW
   obtain rfl:m=0:=hm.symm;obtain rfl:=yaz e1;obtain rfl:=yaz e2;refine rg b8 rfl ?_;intro T hT;simp -dsimp -implicitDefEqProofs (disch:=first|omega|assumption) [al,hg,hc,hf,hv,hN,hgw,hgi,hw,ho,hall,hrows,hsch,hgrp,his,hsm,e3,c0,c1,hst,hq0,zst,E,zbQ]
   simpa -dsimp -implicitDefEqProofs (disch:=first|omega|assumption) using hT
  ·refine rg b8 rfl ?_
   intro T hT;simp -dsimp -implicitDefEqProofs (disch:=first|omega|assumption) [al,hg,hc,hf,hv,hN,hgw,hgi,hw,ho,hall,hrows,hsch,hgrp,his,hsm,e1,e2,e3,c0,c1,hst,hqd,hqw,hST,zst,E,zbQ]
   simpa -dsimp -implicitDefEqProofs (disch:=first|omega|assumption) using hT
 ·have hst:=hist i c1
  have hva:=hval i c1;have hrs:=hrst i c1;have hcli:=hcl i;have c0: ¬ (i:Int)<0:=by omega
  have c2: ¬ (nf:Int)<=i:=by omega
  obtain⟨a,b',c,d,e,f,g',h,k,l',hsd⟩:=hstd i c1;rw[hsd]at hst hrs;clear hist hval hrst hstd hzst w5 hsd hcl;have hcol:(col W i).length=W.length:=by simp[col]
  generalize ce ((col W i).map zac)=Q at*;generalize col W i=cw at*;generalize W.map zf2=Z at*;generalize zaU W=U at*;generalize hm:W.length=m at*;rcases ho2 with ⟨hW,rfl⟩ | rfl
  ·subst hW
   obtain rfl:m=0:=hm.symm;obtain rfl:=yaz e1;obtain rfl:=yaz e2;obtain rfl:=yaz hcli;refine rg b8 rfl ?_;intro T hT;simp -dsimp -implicitDefEqProofs (disch:=first|omega|assumption) [al,hg,hc,hf,hv,hN,hgw,hgi,hw,ho,hall,hrows,hsch,hgrp,his,hsm,e3,c0,c2,hst,hva,hrs,hq0,E,zbQ]
   simpa -dsimp -implicitDefEqProofs (disch:=first|omega|assumption) using hT
  ·refine rg b8 rfl ?_
   intro T hT;simp -dsimp -implicitDefEqProofs (disch:=first|omega|assumption) [al,hg,hc,hf,hv,hN,hgw,hgi,hw,ho,hall,hrows,hsch,hgrp,his,hsm,e1,e2,e3,c0,c2,hst,hva,hrs,hcli,hqd,hqw,hST,E,zbQ]
   simpa -dsimp -implicitDefEqProofs (disch:=first|omega|assumption) using hT
end Go.Am.Ab
