/- Columns of the document, written. -/
import Derived.Test.YtibdiacpdmhmnaaGreatDoorRColA
set_option linter.all false
namespace Go.Am.Ab
open Go.Proofs
set_option maxHeartbeats 8000000
set_option maxRecDepth 4000
def zre (l:List Cel) (hl: ∀c∈l,c.kind<256/\c.s.size<=9223372036854775807) (hn:l.length<=1000000):R 38 [.d (.list (ce l))] []=some ([.arr 0 l.length],[.arr 3 (ce (l.map fix)) 0]):=by
 have hend:ce (l.map fix)=zcY (λc=>(fix c).d) l l.length:=by
  rw[za2 (yaf _)]
  show (l.map fix).map Cel.d=_
  rw[yaL];rfl
 rw[hend];refine rg b38 rfl ?_;intro T hT;simp -dsimp -implicitDefEqProofs (disch:=first|omega|assumption)
 generalize hz:zaj _ _ _ _ _ _=z;revert z;refine zaa (σ:=Nat) (λi=>[(0,.d (.list (ce l))),(3,.arr 0 i),(4,.d (.int .i64 i))]) (λi=>[.arr 3 (zcY (λc=>(fix c).d) l i) 0]) (λi=>i<=l.length) (λi=>l.length - i) 0 ?_ ?_ ?_
 ·exact yai _
 ·simp -dsimp -implicitDefEqProofs (disch:=first|omega|assumption) [zav]
 intro T' f hT' i hi ih
 by_cases h1:i<l.length
 ·have hc:=hl l[i] (yam _)
  have h:=zo0 l[i] hc.1 hc.2;rw[zz5]at h;have hcc:=zks l[i];have hsz:(fix l[i]).d.cells.length=3:=rfl;have htk:=zaw (g:=λc=>(fix c).d) h1
  have hlen:=zah (g:=λc=>(fix c).d) hi
  simp -dsimp -implicitDefEqProofs (disch:=first|omega|assumption) [h1,h,hlen,hcc,hsz]
  refine ih (i+1) _ _ h1 (by omega) ?_
  rw[htk];simp -dsimp -implicitDefEqProofs (disch:=first|omega|assumption)
 ·have e:i=l.length:=by omega
  subst e;subst hT';simp -dsimp -implicitDefEqProofs (disch:=first|omega|assumption)
  simpa -dsimp -implicitDefEqProofs (disch:=first|omega|assumption) using hT
def zlt (c:Cel):D:= .int .u64 ((bit (decide (c.kind≠0)):Nat):Int)
def zeh (c:Cel):D:= .int .u64 (IntKind.u64.wrap c.n)
def znQ (c:Cel):D:= .int .i64 c.n
def strD (c:Cel):D:= .str c.s
end Go.Am.Ab
namespace Go.Am.Ab
open Go.Proofs
set_option maxHeartbeats 8000000
set_option maxRecDepth 4000
def zrf (k:Nat) (hk0:k=1) (l:List Cel) (hvl: ∀c∈l,chk c=0) (hi64: ∀c∈l,zai c.n) (hn:l.length<=256) (hok:l.any (zwb k)=false):R 54 [.d (.int .i64 k),.d (.list (ce l))] []=some ([.arr 0 (zdh k (l.map zat)).length,E 0],[.arr 1 (bytes (zdh k (l.map zat))) 0]):=by
 have h1': ¬ (k:Int)<1:=by omega
 have h2': ¬ (3:Int)<k:=by omega
 have hl: ∀c∈l,c.kind<256:=λc hc=>by have:=(zcn (hvl c hc)).1;omega
 have hth:=zkJ hvl;have htl:(zap (l.map zat)).length=l.length:=by rw[zaz];simp
 have hfl:=zeE (zap (l.map zat)) (by omega)
 have hfb:zkd ((zap (l.map zat)).map bit)= .list (zcY zlt l l.length):=by
  rw[za2 (yaf _),hth,zkd,yaL,yaL];rfl
 rw[hfb]at hfl;have hfll:=zbO (l:=zap (l.map zat)) (by omega)
 have hnul:decide (false∈zap (l.map zat))=l.any λc=>decide (c.kind=0):=by
  rw[hth];cases e:l.any λc=>decide (c.kind=0) with
  |true=>
   obtain⟨c,hc,h⟩:=List.any_eq_true.1 e;exact yaK (List.mem_map.2 ⟨c,hc,by simpa using h⟩)
  |false=>
   refine yaM λh=> ?_
   obtain⟨c,hc,h⟩:=List.mem_map.1 h;have:=List.any_eq_false.1 e c hc;simp at h this;exact this h
 obtain⟨fl,hfle⟩: ∃fl,fl=za5 (zap (l.map zat)):=⟨_,rfl⟩;have hH:zdl (l.map zat)=if (l.any λc=>decide (c.kind=0))=true then 1::fl else [0]:=by
  rw[zdl,<- hnul,<- hfle]
  by_cases e:false∈zap (l.map zat) <;> simp[e]
 rw[<- hfle]at hfl hfll;rw[hk0]at hok;have hkk: ∀c∈l,c.kind=0\/c.kind=1:=λc hc=>by
  have:=List.any_eq_false.1 hok c hc;simp[zwb]at this
  by_cases e:c.kind=0
  ·exact .inl e
  ·exact .inr (this e)
 rw[<- hk0]at hok;have hw1:=zsl hvl hkk;have hwi: ∀n∈zbD (l.map zat),zai n:=by
  rw[<- hw1];intro n hn;obtain⟨c,hc,rfl⟩:=List.mem_map.1 hn;exact hi64 c (List.mem_filter.1 hc).1
 have hkl:=zdb (l.map zat);rw[yah]at hkl;have hbody:=zkn (zbD (l.map zat)) hwi (by omega)
 have hbl:=zcO hwi (by omega)
 have hform:ints (zbD (l.map zat))= .list (zhr znQ l l.length):=by
  rw[znF,<- hw1,ints,yaL];rfl
 rw[hform]at hbody;have hC:zdh k (l.map zat)=zdl (l.map zat)++zbp (zbD (l.map zat)):=by rw[hk0];rfl
 rw[hC,hH];obtain⟨bd,hbd⟩: ∃bd,bd=zbp (zbD (l.map zat)):=⟨_,rfl⟩;rw[<- hbd]at hbody hbl ⊢;have hki:(k:Int)=1:=by omega
 refine rg b54 rfl ?_;intro T hT;simp -dsimp -implicitDefEqProofs (disch:=first|omega|assumption) [h1',h2']
 generalize hz:zaj _ _ _ _ _ _=z;revert z;refine zaa (σ:=Nat) (λi=>[(0,.d (.int .i64 k)),(1,.d (.list (ce l))),(6,.d (.int .i64 i))]) (λi=>[]) (λi=>i<=l.length) (λi=>l.length - i) 0 ?_ ?_ ?_
 ·exact yai _
 ·simp -dsimp -implicitDefEqProofs (disch:=first|omega|assumption)
 intro T' f hT' i hi ih
 by_cases h1:i<l.length
 ·have hc:=hl l[i] (yam _)
  have hok1:=List.any_eq_false.1 hok _ (yam h1);obtain⟨⟨ck,n,s⟩,hx⟩: ∃x,x=l[i]:=⟨_,rfl⟩;have gx:=hx.symm;rw[<- hx]at hc hok1;simp only at hc;have hw:IntKind.i64.wrap (ck:Int)=ck:=wI (by omega) (by omega)
  have zk: ¬ k=0:=by omega
  by_cases z:ck=0
  ·subst z
   simp -dsimp -implicitDefEqProofs (disch:=first|omega|assumption) [h1,gx,Cel.d]
   exact ih (i+1) _ _ h1 (by omega) (by simp -dsimp -implicitDefEqProofs (disch:=first|omega|assumption))
  ·have z': ¬ (ck:Int)=0:=by omega
   have e:ck=k:=by
    simp[zwb,z]at hok1;exact hok1
   have e':(ck:Int)=k:=by omega
   simp -dsimp -implicitDefEqProofs (disch:=first|omega|assumption) [h1,gx,Cel.d,z',z,zk,hw,e',e]
   exact ih (i+1) _ _ h1 (by omega) (by simp -dsimp -implicitDefEqProofs (disch:=first|omega|assumption))
 obtain rfl:i=l.length:=by omega
 subst hT';clear ih hi h1;have h256: ¬ (256:Int)<l.length:=by omega
 simp -dsimp -implicitDefEqProofs (disch:=first|omega|assumption) [h256]
 generalize hz:zaj _ _ _ _ _ _=z;revert z;refine zaa (σ:=Nat) (λi=>[(0,.d (.int .i64 k)),(1,.d (.list (ce l))),(8,.arr 0 i),(9,.arr 1 (zhr zeh l i).length),(10,.arr 2 (zhr znQ l i).length),(11,.arr 3 (zhr strD l i).length),(12,.d (.bool ((l.take i).any λc=>decide (c.kind=0)))),(13,.d (.int .i64 i))]) (λi=>[.arr 1 (zcY zlt l i) 0,.arr 1 (zhr zeh l i) 0,.arr 1 (zhr znQ l i) 0,.arr 1 (zhr strD l i) 0]) (λi=>i<=l.length) (λi=>l.length - i) 0 ?_ ?_ ?_
 ·exact yai _
 ·simp -dsimp -implicitDefEqProofs (disch:=first|omega|assumption) [zav,zkK]
 intro T2 f2 hT2 i hi ih
 by_cases h1:i<l.length
 ·have hv:=hvl l[i] (yam _)
  have hs64:=(zcn hv).2.2.2.2;have hbs:=zaw (g:=zlt) h1;have hws:=zcQ (g:=zeh) h1;have hns:=zcQ (g:=znQ) h1;have hss:=zcQ (g:=strD) h1;have hln:=zah (g:=zlt) hi;have l1:=zax zeh l i;have l2:=zax znQ l i;have l3:=zax strD l i;have hany:(l.take (i+1)).any (λc=>decide (c.kind=0))=((l.take i).any (λc=>decide (c.kind=0)) || decide (l[i].kind=0)):=by
   rw[zao h1,ydZ];simp
  obtain⟨⟨ck,n,s⟩,hx⟩: ∃x,x=l[i]:=⟨_,rfl⟩;have gx:=hx.symm;rw[<- hx]at hs64 hbs hws hns hss hany;simp only at hs64;have hs': ¬ (64:Int)<s.size:=by omega
  by_cases z:ck=0
  ·subst z
   simp only[ydh,yba,yaY,yaq,yda,ydf]at hws hns hss hany;simp -dsimp -implicitDefEqProofs (disch:=first|omega|assumption) [h1,gx,Cel.d,hs',hln]
   refine ih (i+1) _ _ h1 (by omega) ?_
   rw[hbs,hws,hns,hss,hany];simp -dsimp -implicitDefEqProofs (disch:=first|omega|assumption) [hln,zlt,bit]
  ·have z': ¬ (ck:Int)=0:=by omega
   simp only[ydh,z,ycj,ya6,ycC,yct]at hws hns hss hany;simp -dsimp -implicitDefEqProofs (disch:=first|omega|assumption) [h1,gx,Cel.d,hs',hln,z',z]
   refine ih (i+1) _ _ h1 (by omega) ?_
   rw[hbs,hws,hns,hss,hany];simp -dsimp -implicitDefEqProofs (disch:=first|omega|assumption) [hln,zlt,bit,zeh,znQ,strD,z]
 obtain rfl:i=l.length:=by omega
 have hln:=zah (g:=zlt) (yaf l.length);have l1:=zax zeh l l.length;have l2:=zax znQ l l.length;have l3:=zax strD l l.length;subst hT2;clear ih hi h1;rw[yaQ];cases hnl:l.any λc=>decide (c.kind=0) with
 |true=>
  rw[hnl,yaj rfl,show (1::fl++bd).length=1+fl.length+bd.length by simp only[yad,yab];omega]at hT
  simp -dsimp -implicitDefEqProofs (disch:=first|omega|assumption) [hki,hk0,hfl,hbody,hln]
  simpa -dsimp -implicitDefEqProofs (disch:=first|omega|assumption) [E]using hT
 |false=>
  rw[hnl,yag (by simp),show ([(0:UInt8)]++bd).length=1+bd.length by simp only[yab,ya5]]at hT
  simp -dsimp -implicitDefEqProofs (disch:=first|omega|assumption) [hki,hk0,hbody,hln]
  simpa -dsimp -implicitDefEqProofs (disch:=first|omega|assumption) [E]using hT
end Go.Am.Ab
namespace Go.Am.Ab
open Go.Proofs
set_option maxHeartbeats 8000000
set_option maxRecDepth 4000
def zrg (k:Nat) (hk0:k=2) (l:List Cel) (hvl: ∀c∈l,chk c=0) (hi64: ∀c∈l,zai c.n) (hn:l.length<=256) (hok:l.any (zwb k)=false):R 54 [.d (.int .i64 k),.d (.list (ce l))] []=some ([.arr 0 (zdh k (l.map zat)).length,E 0],[.arr 1 (bytes (zdh k (l.map zat))) 0]):=by
 have h1': ¬ (k:Int)<1:=by omega
 have h2': ¬ (3:Int)<k:=by omega
 have hl: ∀c∈l,c.kind<256:=λc hc=>by have:=(zcn (hvl c hc)).1;omega
 have hth:=zkJ hvl;have htl:(zap (l.map zat)).length=l.length:=by rw[zaz];simp
 have hfl:=zeE (zap (l.map zat)) (by omega)
 have hfb:zkd ((zap (l.map zat)).map bit)= .list (zcY zlt l l.length):=by
  rw[za2 (yaf _),hth,zkd,yaL,yaL];rfl
 rw[hfb]at hfl;have hfll:=zbO (l:=zap (l.map zat)) (by omega)
 have hnul:decide (false∈zap (l.map zat))=l.any λc=>decide (c.kind=0):=by
  rw[hth];cases e:l.any λc=>decide (c.kind=0) with
  |true=>
   obtain⟨c,hc,h⟩:=List.any_eq_true.1 e;exact yaK (List.mem_map.2 ⟨c,hc,by simpa using h⟩)
  |false=>
   refine yaM λh=> ?_
   obtain⟨c,hc,h⟩:=List.mem_map.1 h;have:=List.any_eq_false.1 e c hc;simp at h this;exact this h
 obtain⟨fl,hfle⟩: ∃fl,fl=za5 (zap (l.map zat)):=⟨_,rfl⟩;have hH:zdl (l.map zat)=if (l.any λc=>decide (c.kind=0))=true then 1::fl else [0]:=by
  rw[zdl,<- hnul,<- hfle]
  by_cases e:false∈zap (l.map zat) <;> simp[e]
 rw[<- hfle]at hfl hfll;rw[hk0]at hok;have hkk: ∀c∈l,c.kind=0\/c.kind=2:=λc hc=>by
  have:=List.any_eq_false.1 hok c hc;simp[zwb]at this
  by_cases e:c.kind=0
  ·exact .inl e
  ·exact .inr (this e)
 rw[<- hk0]at hok;have hw1:=zsm hvl hkk;have hkl:=zdb (l.map zat);rw[yah]at hkl;have hbody:=zeE (zbE (l.map zat)) (by omega)
 have hbl:=zbO (l:=zbE (l.map zat)) (by omega)
 have hform:zkd ((zbE (l.map zat)).map bit)= .list (zhr zeh l l.length):=by
  rw[znF,show (nnz l).map zeh=((nnz l).map (λc=>IntKind.u64.wrap c.n)).map (λn=>D.int .u64 n) by rw[yaL];rfl,hw1,zkd,yaL,yaL];rfl
 rw[hform]at hbody;have hC:zdh k (l.map zat)=zdl (l.map zat)++za5 (zbE (l.map zat)):=by rw[hk0];rfl
 rw[hC,hH];obtain⟨bd,hbd⟩: ∃bd,bd=za5 (zbE (l.map zat)):=⟨_,rfl⟩;rw[<- hbd]at hbody hbl ⊢;have hki:(k:Int)=2:=by omega
 refine rg b54 rfl ?_;intro T hT;simp -dsimp -implicitDefEqProofs (disch:=first|omega|assumption) [h1',h2']
 generalize hz:zaj _ _ _ _ _ _=z;revert z;refine zaa (σ:=Nat) (λi=>[(0,.d (.int .i64 k)),(1,.d (.list (ce l))),(6,.d (.int .i64 i))]) (λi=>[]) (λi=>i<=l.length) (λi=>l.length - i) 0 ?_ ?_ ?_
 ·exact yai _
 ·simp -dsimp -implicitDefEqProofs (disch:=first|omega|assumption)
 intro T' f hT' i hi ih
 by_cases h1:i<l.length
 ·have hc:=hl l[i] (yam _)
  have hok1:=List.any_eq_false.1 hok _ (yam h1);obtain⟨⟨ck,n,s⟩,hx⟩: ∃x,x=l[i]:=⟨_,rfl⟩;have gx:=hx.symm;rw[<- hx]at hc hok1;simp only at hc;have hw:IntKind.i64.wrap (ck:Int)=ck:=wI (by omega) (by omega)
  have zk: ¬ k=0:=by omega
  by_cases z:ck=0
  ·subst z
   simp -dsimp -implicitDefEqProofs (disch:=first|omega|assumption) [h1,gx,Cel.d]
   exact ih (i+1) _ _ h1 (by omega) (by simp -dsimp -implicitDefEqProofs (disch:=first|omega|assumption))
  ·have z': ¬ (ck:Int)=0:=by omega
   have e:ck=k:=by
    simp[zwb,z]at hok1;exact hok1
   have e':(ck:Int)=k:=by omega
   simp -dsimp -implicitDefEqProofs (disch:=first|omega|assumption) [h1,gx,Cel.d,z',z,zk,hw,e',e]
   exact ih (i+1) _ _ h1 (by omega) (by simp -dsimp -implicitDefEqProofs (disch:=first|omega|assumption))
 obtain rfl:i=l.length:=by omega
 subst hT';clear ih hi h1;have h256: ¬ (256:Int)<l.length:=by omega
 simp -dsimp -implicitDefEqProofs (disch:=first|omega|assumption) [h256]
 generalize hz:zaj _ _ _ _ _ _=z;revert z;refine zaa (σ:=Nat) (λi=>[(0,.d (.int .i64 k)),(1,.d (.list (ce l))),(8,.arr 0 i),(9,.arr 1 (zhr zeh l i).length),(10,.arr 2 (zhr znQ l i).length),(11,.arr 3 (zhr strD l i).length),(12,.d (.bool ((l.take i).any λc=>decide (c.kind=0)))),(13,.d (.int .i64 i))]) (λi=>[.arr 1 (zcY zlt l i) 0,.arr 1 (zhr zeh l i) 0,.arr 1 (zhr znQ l i) 0,.arr 1 (zhr strD l i) 0]) (λi=>i<=l.length) (λi=>l.length - i) 0 ?_ ?_ ?_
 ·exact yai _
 ·simp -dsimp -implicitDefEqProofs (disch:=first|omega|assumption) [zav,zkK]
 intro T2 f2 hT2 i hi ih
 by_cases h1:i<l.length
 ·have hv:=hvl l[i] (yam _)
  have hs64:=(zcn hv).2.2.2.2;have hbs:=zaw (g:=zlt) h1;have hws:=zcQ (g:=zeh) h1;have hns:=zcQ (g:=znQ) h1;have hss:=zcQ (g:=strD) h1;have hln:=zah (g:=zlt) hi;have l1:=zax zeh l i;have l2:=zax znQ l i;have l3:=zax strD l i;have hany:(l.take (i+1)).any (λc=>decide (c.kind=0))=((l.take i).any (λc=>decide (c.kind=0)) || decide (l[i].kind=0)):=by
   rw[zao h1,ydZ];simp
  obtain⟨⟨ck,n,s⟩,hx⟩: ∃x,x=l[i]:=⟨_,rfl⟩;have gx:=hx.symm;rw[<- hx]at hs64 hbs hws hns hss hany;simp only at hs64;have hs': ¬ (64:Int)<s.size:=by omega
  by_cases z:ck=0
  ·subst z
   simp only[ydh,yba,yaY,yaq,yda,ydf]at hws hns hss hany;simp -dsimp -implicitDefEqProofs (disch:=first|omega|assumption) [h1,gx,Cel.d,hs',hln]
   refine ih (i+1) _ _ h1 (by omega) ?_
   rw[hbs,hws,hns,hss,hany];simp -dsimp -implicitDefEqProofs (disch:=first|omega|assumption) [hln,zlt,bit]
  ·have z': ¬ (ck:Int)=0:=by omega
   simp only[ydh,z,ycj,ya6,ycC,yct]at hws hns hss hany;simp -dsimp -implicitDefEqProofs (disch:=first|omega|assumption) [h1,gx,Cel.d,hs',hln,z',z]
   refine ih (i+1) _ _ h1 (by omega) ?_
   rw[hbs,hws,hns,hss,hany];simp -dsimp -implicitDefEqProofs (disch:=first|omega|assumption) [hln,zlt,bit,zeh,znQ,strD,z]
 obtain rfl:i=l.length:=by omega
 have hln:=zah (g:=zlt) (yaf l.length);have l1:=zax zeh l l.length;have l2:=zax znQ l l.length;have l3:=zax strD l l.length;subst hT2;clear ih hi h1;rw[yaQ];cases hnl:l.any λc=>decide (c.kind=0) with
 |true=>
  rw[hnl,yaj rfl,show (1::fl++bd).length=1+fl.length+bd.length by simp only[yad,yab];omega]at hT
  simp -dsimp -implicitDefEqProofs (disch:=first|omega|assumption) [hki,hk0,hfl,hbody,hln]
  simpa -dsimp -implicitDefEqProofs (disch:=first|omega|assumption) [E]using hT
 |false=>
  rw[hnl,yag (by simp),show ([(0:UInt8)]++bd).length=1+bd.length by simp only[yab,ya5]]at hT
  simp -dsimp -implicitDefEqProofs (disch:=first|omega|assumption) [hki,hk0,hbody,hln]
  simpa -dsimp -implicitDefEqProofs (disch:=first|omega|assumption) [E]using hT
end Go.Am.Ab
namespace Go.Am.Ab
open Go.Proofs
set_option maxHeartbeats 8000000
set_option maxRecDepth 4000
@[simp] def zrh (n:Nat): ∀a b:List D,zaq n (a++b)=(zaq n a && zaq n b)
 |[],b=>by simp[zaq]
 |x::a,b=>by
  have:=zrh n a b;simp[zaq,this,yd0]
def ixD (u:List ByteArray) (s:ByteArray):D:= .int .i64 ((ixS u s:Nat):Int)
def zmN {u:List ByteArray} {s:ByteArray} {j:Nat} (h:j<ixS u s) (hj:j<u.length):u[j]≠s:=by
 have:=List.not_of_lt_findIdx (p:=λt=>decide (t=s)) (xs:=u) (i:=j) h
 simpa using this
def zri (k:Nat) (hk0:k=3) (l:List Cel) (hvl: ∀c∈l,chk c=0) (hn:l.length<=256) (hok:l.any (zwb k)=false):R 54 [.d (.int .i64 k),.d (.list (ce l))] []=some ([.arr 0 (zdh k (l.map zat)).length,E 0],[.arr 1 (bytes (zdh k (l.map zat))) 0]):=by
 have h1': ¬ (k:Int)<1:=by omega
 have h2': ¬ (3:Int)<k:=by omega
 have hl: ∀c∈l,c.kind<256:=λc hc=>by have:=(zcn (hvl c hc)).1;omega
 have hth:=zkJ hvl;have htl:(zap (l.map zat)).length=l.length:=by rw[zaz];simp
 have hfl:=zeE (zap (l.map zat)) (by omega)
 have hfb:zkd ((zap (l.map zat)).map bit)= .list (zcY zlt l l.length):=by
  rw[za2 (yaf _),hth,zkd,yaL,yaL];rfl
 rw[hfb]at hfl;have hfll:=zbO (l:=zap (l.map zat)) (by omega)
 have hnul:decide (false∈zap (l.map zat))=l.any λc=>decide (c.kind=0):=by
  rw[hth];cases e:l.any λc=>decide (c.kind=0) with
  |true=>
   obtain⟨c,hc,h⟩:=List.any_eq_true.1 e;exact yaK (List.mem_map.2 ⟨c,hc,by simpa using h⟩)
  |false=>
   refine yaM λh=> ?_
   obtain⟨c,hc,h⟩:=List.mem_map.1 h;have:=List.any_eq_false.1 e c hc;simp at h this;exact this h
 obtain⟨fl,hfle⟩: ∃fl,fl=za5 (zap (l.map zat)):=⟨_,rfl⟩;have hH:zdl (l.map zat)=if (l.any λc=>decide (c.kind=0))=true then 1::fl else [0]:=by
  rw[zdl,<- hnul,<- hfle]
  by_cases e:false∈zap (l.map zat) <;> simp[e]
 rw[<- hfle]at hfl hfll;rw[hk0]at hok;have hkk: ∀c∈l,c.kind=0\/c.kind=3:=λc hc=>by
  have:=List.any_eq_false.1 hok c hc;simp[zwb]at this
  by_cases e:c.kind=0
  ·exact .inl e
  ·exact .inr (this e)
 rw[<- hk0]at hok;have hw1:=zwc hvl hkk;have hkl:=zdb (l.map zat);rw[yah]at hkl;have hC:zdh k (l.map zat)=zdl (l.map zat)++zcV (zcZ (l.map zat)):=by rw[hk0];rfl
 rw[hC,hH];have hW64: ∀s∈zcZ (l.map zat),s.size<=64:=zfO (zAm hvl);have hSD:zhr strD l l.length=ss (zcZ (l.map zat)):=by
  rw[znF,<- hw1,ss,yaL];rfl
 obtain⟨W,hWe⟩: ∃W,W=zcZ (l.map zat):=⟨_,rfl⟩;rw[<- hWe]at hkl hW64 hSD ⊢;have hWl:W.length<=256:=by omega
 have hun:=znC W hWl;have hul:=zc4 W;have hum64: ∀s∈zeL W,s.size<=64:=λs h=>hW64 s (zdE.1 h)
 have humem: ∀s∈W,s∈zeL W:=λs h=>zdE.2 h
 have htW:=zkH W hW64 hWl;have htU:=zkH (zeL W) hum64 (by omega)
 have htwl:=zec hW64 hWl;have htul:=zec hum64 (by omega)
 have hput:=za3 (zeL W).length (by omega)
 have hputl:=zam (n:=(zeL W).length) (by omega)
 have hpi:=zij hWl;have hppl:(zbq W).length=W.length:=by simp[zbq]
 have hbest:=zkn (zbq W) hpi (by omega)
 have hbl:=zcO hpi (by omega)
 have hplD:ints (zbq W)= .list (zcY (ixD (zeL W)) W W.length):=by
  rw[za2 (yaf _),ints,zbq,yaL];rfl
 rw[hplD]at hbest;have hw:zcV W=if (znx W).length<(zeb W).length then znx W else zeb W:=rfl
 have hLT:znx W=(1::put (zeL W).length)++zbC (zeL W)++zbp (zbq W):=rfl;have hPT:zeb W=[0]++zbC W:=rfl;rw[hw,hLT,hPT];clear hw hLT hPT hC hH hWe hplD hw1 hkk;obtain⟨u,hue⟩: ∃u,u=zeL W:=⟨_,rfl⟩;rw[<- hue]at hun hul humem htU htul hput hputl hbest ⊢;obtain⟨tu,htue⟩: ∃tu,tu=zbC u:=⟨_,rfl⟩;obtain⟨tl,htle⟩: ∃tl,tl=zbC W:=⟨_,rfl⟩;obtain⟨bp,hbpe⟩: ∃bp,bp=zbp (zbq W):=⟨_,rfl⟩;obtain⟨pu,hpue⟩: ∃pu,pu=put u.length:=⟨_,rfl⟩;rw[<- htue]at htU htul ⊢;rw[<- htle]at htW htwl ⊢;rw[<- hbpe]at hbest hbl ⊢;rw[<- hpue]at hput hputl ⊢;have hw0:IntKind.u64.wrap (u.length:Int)=u.length:=zak (by omega) (by omega)
 clear hue htue htle hbpe hpue hum64 hW64 hpi hppl;have e3:(1::pu++tu++bp).length=1+pu.length+tu.length+bp.length:=by simp only[yad,yab];omega
 have e4:([0]++tl).length=1+tl.length:=by simp only[yab,yad,yat]
 rw[e3,e4];have hk3:(k:Int)=3:=by omega
 refine rg b54 rfl ?_;intro T hT;simp -dsimp -implicitDefEqProofs (disch:=first|omega|assumption) [h1',h2']
 generalize hz:zaj _ _ _ _ _ _=z;revert z;refine zaa (σ:=Nat) (λi=>[(0,.d (.int .i64 k)),(1,.d (.list (ce l))),(6,.d (.int .i64 i))]) (λi=>[]) (λi=>i<=l.length) (λi=>l.length - i) 0 ?_ ?_ ?_
 ·exact yai _
 ·simp -dsimp -implicitDefEqProofs (disch:=first|omega|assumption)
 intro T' f hT' i hi ih
 by_cases h1:i<l.length
 ·have hc:=hl l[i] (yam _)
  have hok1:=List.any_eq_false.1 hok _ (yam h1);obtain⟨⟨ck,n,s⟩,hx⟩: ∃x,x=l[i]:=⟨_,rfl⟩;have gx:=hx.symm;rw[<- hx]at hc hok1;simp only at hc;have hw:IntKind.i64.wrap (ck:Int)=ck:=wI (by omega) (by omega)
  have zk: ¬ k=0:=by omega
  by_cases z:ck=0
  ·subst z
   simp -dsimp -implicitDefEqProofs (disch:=first|omega|assumption) [h1,gx,Cel.d]
   exact ih (i+1) _ _ h1 (by omega) (by simp -dsimp -implicitDefEqProofs (disch:=first|omega|assumption))
  ·have z': ¬ (ck:Int)=0:=by omega
   have e:ck=k:=by
    simp[zwb,z]at hok1;exact hok1
   have e':(ck:Int)=k:=by omega
   simp -dsimp -implicitDefEqProofs (disch:=first|omega|assumption) [h1,gx,Cel.d,z',z,zk,hw,e',e]
   exact ih (i+1) _ _ h1 (by omega) (by simp -dsimp -implicitDefEqProofs (disch:=first|omega|assumption))
 obtain rfl:i=l.length:=by omega
 subst hT';clear ih hi h1;have h256: ¬ (256:Int)<l.length:=by omega
 simp -dsimp -implicitDefEqProofs (disch:=first|omega|assumption) [h256]
 generalize hz:zaj _ _ _ _ _ _=z;revert z;refine zaa (σ:=Nat) (λi=>[(0,.d (.int .i64 k)),(1,.d (.list (ce l))),(8,.arr 0 i),(9,.arr 1 (zhr zeh l i).length),(10,.arr 2 (zhr znQ l i).length),(11,.arr 3 (zhr strD l i).length),(12,.d (.bool ((l.take i).any λc=>decide (c.kind=0)))),(13,.d (.int .i64 i))]) (λi=>[.arr 1 (zcY zlt l i) 0,.arr 1 (zhr zeh l i) 0,.arr 1 (zhr znQ l i) 0,.arr 1 (zhr strD l i) 0]) (λi=>i<=l.length) (λi=>l.length - i) 0 ?_ ?_ ?_
 ·exact yai _
 ·simp -dsimp -implicitDefEqProofs (disch:=first|omega|assumption) [zav,zkK]
 intro T2 f2 hT2 i hi ih
 by_cases h1:i<l.length
 ·have hv:=hvl l[i] (yam _)
  have hs64:=(zcn hv).2.2.2.2;have hbs:=zaw (g:=zlt) h1;have hws:=zcQ (g:=zeh) h1;have hns:=zcQ (g:=znQ) h1;have hss:=zcQ (g:=strD) h1;have hln:=zah (g:=zlt) hi;have l1:=zax zeh l i;have l2:=zax znQ l i;have l3:=zax strD l i;have hany:(l.take (i+1)).any (λc=>decide (c.kind=0))=((l.take i).any (λc=>decide (c.kind=0)) || decide (l[i].kind=0)):=by
   rw[zao h1,ydZ];simp
  obtain⟨⟨ck,n,s⟩,hx⟩: ∃x,x=l[i]:=⟨_,rfl⟩;have gx:=hx.symm;rw[<- hx]at hs64 hbs hws hns hss hany;simp only at hs64;have hs': ¬ (64:Int)<s.size:=by omega
  by_cases z:ck=0
  ·subst z
   simp only[ydh,yba,yaY,yaq,yda,ydf]at hws hns hss hany;simp -dsimp -implicitDefEqProofs (disch:=first|omega|assumption) [h1,gx,Cel.d,hs',hln]
   refine ih (i+1) _ _ h1 (by omega) ?_
   rw[hbs,hws,hns,hss,hany];simp -dsimp -implicitDefEqProofs (disch:=first|omega|assumption) [hln,zlt,bit]
  ·have z': ¬ (ck:Int)=0:=by omega
   simp only[ydh,z,ycj,ya6,ycC,yct]at hws hns hss hany;simp -dsimp -implicitDefEqProofs (disch:=first|omega|assumption) [h1,gx,Cel.d,hs',hln,z',z]
   refine ih (i+1) _ _ h1 (by omega) ?_
   rw[hbs,hws,hns,hss,hany];simp -dsimp -implicitDefEqProofs (disch:=first|omega|assumption) [hln,zlt,bit,zeh,znQ,strD,z]
 obtain rfl:i=l.length:=by omega
 have hln:=zah (g:=zlt) (yaf l.length);have l1:=zax zeh l l.length;have l2:=zax znQ l l.length;have l3:=zax strD l l.length;subst hT2;clear ih hi h1;rw[yaQ];rw[hSD];have hsl:(ss W).length=W.length:=by simp
 cases hnl:l.any λc=>decide (c.kind=0) with
 |true=>
  rw[hnl,yaj rfl]at hT;simp -dsimp -implicitDefEqProofs (disch:=first|omega|assumption) [hk3,hk0,hun,hln,hfl,hsl]
  generalize hz:zaj _ _ _ _ _ _=z;revert z;refine zaa (σ:=Nat) (λi=>[(11,.arr 0 W.length),(15,.arr 1 (1+fl.length)),(18,.arr 2 u.length),(19,.arr 3 i),(20,.d (.int .i64 i))]) (λi=>[.arr 1 (ss W) W.length,.arr 1 (.int .u8 1::bytes fl) 0,.arr 1 (ss u) 0,.arr 1 (zcY (ixD u) W i) 0]) (λi=>i<=W.length) (λi=>W.length - i) 0 ?_ ?_ ?_
  ·exact yai _
  ·simp -dsimp -implicitDefEqProofs (disch:=first|omega|assumption) [zav,hfl,hsl]
  intro T3 f3 hT3 i hi ih
  by_cases h1:i<W.length
  ·have hpd:=zaw (g:=ixD u) h1
   have hpl:=zah (g:=ixD u) hi;obtain⟨w,hwe⟩: ∃w,w=W[i]:=⟨_,rfl⟩;have gw:=hwe.symm;have hwm:=humem w (hwe ▸ yam h1);have hix:=zmx hwm;rw[gw]at hpd;simp -dsimp -implicitDefEqProofs (disch:=first|omega|assumption) [h1,gw]
   generalize hz:zaj _ _ _ _ _ _=z;revert z;refine zaa (σ:=Nat) (λa=>[(11,.arr 0 W.length),(15,.arr 1 (1+fl.length)),(18,.arr 2 u.length),(19,.arr 3 i),(20,.d (.int .i64 i)),(21,.d (.int .i64 a))]) (λa=>[.arr 1 (ss W) W.length,.arr 1 (.int .u8 1::bytes fl) 0,.arr 1 (ss u) 0,.arr 1 (zcY (ixD u) W i) 0]) (λa=>a<=ixS u w) (λa=>ixS u w - a) 0 ?_ ?_ ?_
   ·exact yai _
   ·simp -dsimp -implicitDefEqProofs (disch:=first|omega|assumption) [hpl,hfl,hsl]
   intro T5 f5 hT5 a ha ih5;have hau:a<u.length:=by omega
   obtain⟨y,hye⟩: ∃y,y=u[a]:=⟨_,rfl⟩;have gy:=hye.symm
   by_cases h2:a<ixS u w
   ·have hne: ¬ y=w:=by rw[hye];exact zmN h2 hau
    simp -dsimp -implicitDefEqProofs (disch:=first|omega|assumption) [h1,gw,hau,gy,zbQ,hne]
    exact ih5 (a+1) _ _ h2 (by omega) (by simp -dsimp -implicitDefEqProofs (disch:=first|omega|assumption) [hpl,hfl,hsl])
   ·obtain rfl:a=ixS u w:=by omega
    have hyw:y=w:=by rw[hye];exact znw hau
    subst hT5;simp -dsimp -implicitDefEqProofs (disch:=first|omega|assumption) [h1,gw,hau,gy,hyw,hpl]
    refine ih (i+1) _ _ h1 (by omega) ?_
    rw[hpd];simp -dsimp -implicitDefEqProofs (disch:=first|omega|assumption) [hpl,ixD,hfl,hsl]
  ·obtain rfl:i=W.length:=by omega
   have hpl:=zah (g:=ixD u) hi;subst hT3
   by_cases hlt:1+pu.length+tu.length+bp.length<1+tl.length
   ·have hlt':(1+(pu.length:Int)+tu.length+bp.length)<1+tl.length:=by omega
    rw[yaj hlt]at hT;rw[show (((1:UInt8)::fl)++((1:UInt8)::pu++tu++bp)).length=1+fl.length+(pu.length+(tu.length+(bp.length+1))) by simp only[yad,yab];omega]at hT
    simp -dsimp -implicitDefEqProofs (disch:=first|omega|assumption) [hpl,htW,hput,hw0,htU,hbest,hlt']
    simpa -dsimp -implicitDefEqProofs (disch:=first|omega|assumption) [E,yal,yaH]using hT
   ·have hlt': ¬ (1+(pu.length:Int)+tu.length+bp.length)<1+tl.length:=by omega
    rw[yag hlt]at hT;rw[show (((1:UInt8)::fl)++([(0:UInt8)]++tl)).length=1+fl.length+(tl.length+1) by simp only[yad,yab,yat];omega]at hT
    simp -dsimp -implicitDefEqProofs (disch:=first|omega|assumption) [hpl,htW,hput,hw0,htU,hbest,hlt']
    simpa -dsimp -implicitDefEqProofs (disch:=first|omega|assumption) [E,yal,yaH]using hT
 |false=>
  rw[hnl,yag (by simp)]at hT
  simp -dsimp -implicitDefEqProofs (disch:=first|omega|assumption) [hk3,hk0,hun,hln,hsl]
  generalize hz:zaj _ _ _ _ _ _=z;revert z;refine zaa (σ:=Nat) (λi=>[(11,.arr 0 W.length),(15,.arr 1 1),(18,.arr 2 u.length),(19,.arr 3 i),(20,.d (.int .i64 i))]) (λi=>[.arr 1 (ss W) W.length,.arr 1 ([.int .u8 0]) 0,.arr 1 (ss u) 0,.arr 1 (zcY (ixD u) W i) 0]) (λi=>i<=W.length) (λi=>W.length - i) 0 ?_ ?_ ?_
  ·exact yai _
  ·simp -dsimp -implicitDefEqProofs (disch:=first|omega|assumption) [zav,hsl]
  intro T3 f3 hT3 i hi ih
  by_cases h1:i<W.length
  ·have hpd:=zaw (g:=ixD u) h1
   have hpl:=zah (g:=ixD u) hi;obtain⟨w,hwe⟩: ∃w,w=W[i]:=⟨_,rfl⟩;have gw:=hwe.symm;have hwm:=humem w (hwe ▸ yam h1);have hix:=zmx hwm;rw[gw]at hpd;simp -dsimp -implicitDefEqProofs (disch:=first|omega|assumption) [h1,gw]
   generalize hz:zaj _ _ _ _ _ _=z;revert z;refine zaa (σ:=Nat) (λa=>[(11,.arr 0 W.length),(15,.arr 1 1),(18,.arr 2 u.length),(19,.arr 3 i),(20,.d (.int .i64 i)),(21,.d (.int .i64 a))]) (λa=>[.arr 1 (ss W) W.length,.arr 1 ([.int .u8 0]) 0,.arr 1 (ss u) 0,.arr 1 (zcY (ixD u) W i) 0]) (λa=>a<=ixS u w) (λa=>ixS u w - a) 0 ?_ ?_ ?_
   ·exact yai _
   ·simp -dsimp -implicitDefEqProofs (disch:=first|omega|assumption) [hpl,hsl]
   intro T5 f5 hT5 a ha ih5;have hau:a<u.length:=by omega
   obtain⟨y,hye⟩: ∃y,y=u[a]:=⟨_,rfl⟩;have gy:=hye.symm
   by_cases h2:a<ixS u w
   ·have hne: ¬ y=w:=by rw[hye];exact zmN h2 hau
    simp -dsimp -implicitDefEqProofs (disch:=first|omega|assumption) [h1,gw,hau,gy,zbQ,hne]
    exact ih5 (a+1) _ _ h2 (by omega) (by simp -dsimp -implicitDefEqProofs (disch:=first|omega|assumption) [hpl,hsl])
   ·obtain rfl:a=ixS u w:=by omega
    have hyw:y=w:=by rw[hye];exact znw hau
    subst hT5;simp -dsimp -implicitDefEqProofs (disch:=first|omega|assumption) [h1,gw,hau,gy,hyw,hpl]
    refine ih (i+1) _ _ h1 (by omega) ?_
    rw[hpd];simp -dsimp -implicitDefEqProofs (disch:=first|omega|assumption) [hpl,ixD,hsl]
  ·obtain rfl:i=W.length:=by omega
   have hpl:=zah (g:=ixD u) hi;subst hT3
   by_cases hlt:1+pu.length+tu.length+bp.length<1+tl.length
   ·have hlt':(1+(pu.length:Int)+tu.length+bp.length)<1+tl.length:=by omega
    rw[yaj hlt]at hT;rw[show ([(0:UInt8)]++(1::pu++tu++bp)).length=1+(pu.length+(tu.length+(bp.length+1))) by simp only[yad,yab,yat];omega]at hT
    simp -dsimp -implicitDefEqProofs (disch:=first|omega|assumption) [hpl,htW,hput,hw0,htU,hbest,hlt']
    simpa -dsimp -implicitDefEqProofs (disch:=first|omega|assumption) [E,yal,yaH]using hT
   ·have hlt': ¬ (1+(pu.length:Int)+tu.length+bp.length)<1+tl.length:=by omega
    rw[yag hlt]at hT;rw[show ([(0:UInt8)]++([(0:UInt8)]++tl)).length=1+(tl.length+1) by simp only[yad,yab,yat];omega]at hT
    simp -dsimp -implicitDefEqProofs (disch:=first|omega|assumption) [hpl,htW,hput,hw0,htU,hbest,hlt']
    simpa -dsimp -implicitDefEqProofs (disch:=first|omega|assumption) [E,yal,yaH]using hT
end Go.Am.Ab
