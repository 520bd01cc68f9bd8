/- Columns of the document, written. -/
import Derived.Test.YtibdiacpdmhmnaaGreatDoorRColA
set_option linter.all false
namespace Go.Am.Ab
open Go.Proofs
set_option maxHeartbeats 8000000
set_option maxRecDepth 4000
def zj5 (c:Cel):D:= .int .u64 ((bit (decide (c.kind≠0)):Nat):Int)
def zdV (c:Cel):D:= .int .u64 (IntKind.u64.wrap c.n)
def zlR (c:Cel):D:= .int .i64 c.n
def zlS (c:Cel):D:= .str c.s
end Go.Am.Ab
namespace Go.Am.Ab
open Go.Proofs
set_option maxHeartbeats 8000000
set_option maxRecDepth 4000
def zoX (k:Nat) (hk0:k=1) (l:List Cel) (hvl: ∀c∈l,chk c=0) (hi64: ∀c∈l,zal c.n) (hn:l.length<=256) (hok:l.any (zty k)=false):R 54 [.d (.int .i64 k),.d (.list (ce l))] []=some ([.arr 0 (zeT k (l.map zay)).length,E 0],[.arr 1 (bytes (zeT k (l.map zay))) 0]):=by
 have h1': ¬ (k:Int)<1:=by omega
 have h2': ¬ (3:Int)<k:=by omega
 have hl: ∀c∈l,c.kind<256:=λc hc=>by have:=(zc2 (hvl c hc)).1;omega
 have hth:=zjo hvl;have htl:(zav (l.map zay)).length=l.length:=by rw[zaN];simp
 have hfl:=zeg (zav (l.map zay)) (by omega)
 have hfb:ziS ((zav (l.map zay)).map bit)= .list (zdg zj5 l l.length):=by
  rw[za8 (yab _),hth,ziS,ya0,ya0];rfl
 rw[hfb]at hfl;have hfll:=zbz (l:=zav (l.map zay)) (by omega)
 have hnul:decide (false∈zav (l.map zay))=l.any λc=>decide (c.kind=0):=by
  rw[hth];cases e:l.any λc=>decide (c.kind=0) with
  |true=>
   obtain⟨c,hc,h⟩:=List.any_eq_true.1 e;exact yaJ (List.mem_map.2 ⟨c,hc,by simpa using h⟩)
  |false=>
   refine yaL λh=> ?_
   obtain⟨c,hc,h⟩:=List.mem_map.1 h;have:=List.any_eq_false.1 e c hc;simp at h this;exact this h
 obtain⟨fl,hfle⟩: ∃fl,fl=zbl (zav (l.map zay)):=⟨_,rfl⟩;have hH:zdQ (l.map zay)=if (l.any λc=>decide (c.kind=0))=true then 1::fl else [0]:=by
  rw[zdQ,<- hnul,<- hfle]
  by_cases e:false∈zav (l.map zay) <;> simp[e]
 rw[<- hfle]at hfl hfll;rw[hk0]at hok;have hkk: ∀c∈l,c.kind=0\/c.kind=1:=λc hc=>by
  have:=List.any_eq_false.1 hok c hc;simp[zty]at this
  by_cases e:c.kind=0
  ·exact .inl e
  ·exact .inr (this e)
 rw[<- hk0]at hok;have hw1:=zpW hvl hkk;have hwi: ∀n∈zcD (l.map zay),zal n:=by
  rw[<- hw1];intro n hn;obtain⟨c,hc,rfl⟩:=List.mem_map.1 hn;exact hi64 c (List.mem_filter.1 hc).1
 have hkl:=zdh (l.map zay);rw[yam]at hkl;have hbody:=zi1 (zcD (l.map zay)) hwi (by omega)
 have hbl:=zcN hwi (by omega)
 have hform:ints (zcD (l.map zay))= .list (zgC zlR l l.length):=by
  rw[zlH,<- hw1,ints,ya0];rfl
 rw[hform]at hbody;have hC:zeT k (l.map zay)=zdQ (l.map zay)++zcs (zcD (l.map zay)):=by rw[hk0];rfl
 rw[hC,hH];obtain⟨bd,hbd⟩: ∃bd,bd=zcs (zcD (l.map zay)):=⟨_,rfl⟩;rw[<- hbd]at hbody hbl ⊢;have hki:(k:Int)=1:=by omega
 refine rg b54 rfl ?_;intro T hT;simp -dsimp -implicitDefEqProofs (disch:=first|omega|assumption) [h1',h2']
 generalize hz:zad _ _ _ _ _ _=z;revert z;refine zaa (σ:=Nat) (λi=>[(0,.d (.int .i64 k)),(1,.d (.list (ce l))),(6,.d (.int .i64 i))]) (λi=>[]) (λi=>i<=l.length) (λi=>l.length - i) 0 ?_ ?_ ?_
 ·exact yai _
 ·simp -dsimp -implicitDefEqProofs (disch:=first|omega|assumption)
 intro T' f hT' i hi ih
 by_cases h1:i<l.length
 ·have hc:=hl l[i] (yal _)
  have hok1:=List.any_eq_false.1 hok _ (yal h1);obtain⟨⟨ck,n,s⟩,hx⟩: ∃x,x=l[i]:=⟨_,rfl⟩;have gx:=hx.symm;rw[<- hx]at hc hok1;simp only at hc;have hw:IntKind.i64.wrap (ck:Int)=ck:=wI (by omega) (by omega)
  have zk: ¬ k=0:=by omega
  by_cases z:ck=0
  ·subst z
   simp -dsimp -implicitDefEqProofs (disch:=first|omega|assumption) [h1,gx,Cel.d]
   exact ih (i+1) _ _ h1 (by omega) (by simp -dsimp -implicitDefEqProofs (disch:=first|omega|assumption))
  ·have z': ¬ (ck:Int)=0:=by omega
   have e:ck=k:=by
    simp[zty,z]at hok1;exact hok1
   have e':(ck:Int)=k:=by omega
   simp -dsimp -implicitDefEqProofs (disch:=first|omega|assumption) [h1,gx,Cel.d,z',z,zk,hw,e',e]
   exact ih (i+1) _ _ h1 (by omega) (by simp -dsimp -implicitDefEqProofs (disch:=first|omega|assumption))
 obtain rfl:i=l.length:=by omega
 subst hT';clear ih hi h1;have h256: ¬ (256:Int)<l.length:=by omega
 simp -dsimp -implicitDefEqProofs (disch:=first|omega|assumption) [h256]
 generalize hz:zad _ _ _ _ _ _=z;revert z;refine zaa (σ:=Nat) (λi=>[(0,.d (.int .i64 k)),(1,.d (.list (ce l))),(8,.arr 0 i),(9,.arr 1 (zgC zdV l i).length),(10,.arr 2 (zgC zlR l i).length),(11,.arr 3 (zgC zlS l i).length),(12,.d (.bool ((l.take i).any λc=>decide (c.kind=0)))),(13,.d (.int .i64 i))]) (λi=>[.arr 1 (zdg zj5 l i) 0,.arr 1 (zgC zdV l i) 0,.arr 1 (zgC zlR l i) 0,.arr 1 (zgC zlS l i) 0]) (λi=>i<=l.length) (λi=>l.length - i) 0 ?_ ?_ ?_
 ·exact yai _
 ·simp -dsimp -implicitDefEqProofs (disch:=first|omega|assumption) [zaG,zjp]
 intro T2 f2 hT2 i hi ih
 by_cases h1:i<l.length
 ·have hv:=hvl l[i] (yal _)
  have hs64:=(zc2 hv).2.2.2.2;have hbs:=zaH (g:=zj5) h1;have hws:=zcE (g:=zdV) h1;have hns:=zcE (g:=zlR) h1;have hss:=zcE (g:=zlS) h1;have hln:=zak (g:=zj5) hi;have l1:=zaw zdV l i;have l2:=zaw zlR l i;have l3:=zaw zlS l i;have hany:(l.take (i+1)).any (λc=>decide (c.kind=0))=((l.take i).any (λc=>decide (c.kind=0)) || decide (l[i].kind=0)):=by
   rw[zap h1,ydQ];simp
  obtain⟨⟨ck,n,s⟩,hx⟩: ∃x,x=l[i]:=⟨_,rfl⟩;have gx:=hx.symm;rw[<- hx]at hs64 hbs hws hns hss hany;simp only at hs64;have hs': ¬ (64:Int)<s.size:=by omega
  by_cases z:ck=0
  ·subst z
   simp only[ydW,yb9,ya8,yau,yc3,ydq]at hws hns hss hany;simp -dsimp -implicitDefEqProofs (disch:=first|omega|assumption) [h1,gx,Cel.d,hs',hln]
   refine ih (i+1) _ _ h1 (by omega) ?_
   rw[hbs,hws,hns,hss,hany];simp -dsimp -implicitDefEqProofs (disch:=first|omega|assumption) [hln,zj5,bit]
  ·have z': ¬ (ck:Int)=0:=by omega
   simp only[ydW,z,yca,ybk,ycS,ycF]at hws hns hss hany;simp -dsimp -implicitDefEqProofs (disch:=first|omega|assumption) [h1,gx,Cel.d,hs',hln,z',z]
   refine ih (i+1) _ _ h1 (by omega) ?_
   rw[hbs,hws,hns,hss,hany];simp -dsimp -implicitDefEqProofs (disch:=first|omega|assumption) [hln,zj5,bit,zdV,zlR,zlS,z]
 obtain rfl:i=l.length:=by omega
 have hln:=zak (g:=zj5) (yab l.length);have l1:=zaw zdV l l.length;have l2:=zaw zlR l l.length;have l3:=zaw zlS l l.length;subst hT2;clear ih hi h1;rw[yaR];cases hnl:l.any λc=>decide (c.kind=0) with
 |true=>
  rw[hnl,yah rfl,show (1::fl++bd).length=1+fl.length+bd.length by simp only[yag,yaf];omega]at hT
  simp -dsimp -implicitDefEqProofs (disch:=first|omega|assumption) [hki,hk0,hfl,hbody,hln]
  simpa -dsimp -implicitDefEqProofs (disch:=first|omega|assumption) [E]using hT
 |false=>
  rw[hnl,yae (by simp),show ([(0:UInt8)]++bd).length=1+bd.length by simp only[yaf,ya3]]at hT
  simp -dsimp -implicitDefEqProofs (disch:=first|omega|assumption) [hki,hk0,hbody,hln]
  simpa -dsimp -implicitDefEqProofs (disch:=first|omega|assumption) [E]using hT
end Go.Am.Ab
namespace Go.Am.Ab
open Go.Proofs
set_option maxHeartbeats 8000000
set_option maxRecDepth 4000
def zoY (k:Nat) (hk0:k=2) (l:List Cel) (hvl: ∀c∈l,chk c=0) (hi64: ∀c∈l,zal c.n) (hn:l.length<=256) (hok:l.any (zty k)=false):R 54 [.d (.int .i64 k),.d (.list (ce l))] []=some ([.arr 0 (zeT k (l.map zay)).length,E 0],[.arr 1 (bytes (zeT k (l.map zay))) 0]):=by
 have h1': ¬ (k:Int)<1:=by omega
 have h2': ¬ (3:Int)<k:=by omega
 have hl: ∀c∈l,c.kind<256:=λc hc=>by have:=(zc2 (hvl c hc)).1;omega
 have hth:=zjo hvl;have htl:(zav (l.map zay)).length=l.length:=by rw[zaN];simp
 have hfl:=zeg (zav (l.map zay)) (by omega)
 have hfb:ziS ((zav (l.map zay)).map bit)= .list (zdg zj5 l l.length):=by
  rw[za8 (yab _),hth,ziS,ya0,ya0];rfl
 rw[hfb]at hfl;have hfll:=zbz (l:=zav (l.map zay)) (by omega)
 have hnul:decide (false∈zav (l.map zay))=l.any λc=>decide (c.kind=0):=by
  rw[hth];cases e:l.any λc=>decide (c.kind=0) with
  |true=>
   obtain⟨c,hc,h⟩:=List.any_eq_true.1 e;exact yaJ (List.mem_map.2 ⟨c,hc,by simpa using h⟩)
  |false=>
   refine yaL λh=> ?_
   obtain⟨c,hc,h⟩:=List.mem_map.1 h;have:=List.any_eq_false.1 e c hc;simp at h this;exact this h
 obtain⟨fl,hfle⟩: ∃fl,fl=zbl (zav (l.map zay)):=⟨_,rfl⟩;have hH:zdQ (l.map zay)=if (l.any λc=>decide (c.kind=0))=true then 1::fl else [0]:=by
  rw[zdQ,<- hnul,<- hfle]
  by_cases e:false∈zav (l.map zay) <;> simp[e]
 rw[<- hfle]at hfl hfll;rw[hk0]at hok;have hkk: ∀c∈l,c.kind=0\/c.kind=2:=λc hc=>by
  have:=List.any_eq_false.1 hok c hc;simp[zty]at this
  by_cases e:c.kind=0
  ·exact .inl e
  ·exact .inr (this e)
 rw[<- hk0]at hok;have hw1:=zpX hvl hkk;have hkl:=zdh (l.map zay);rw[yam]at hkl;have hbody:=zeg (zcn (l.map zay)) (by omega)
 have hbl:=zbz (l:=zcn (l.map zay)) (by omega)
 have hform:ziS ((zcn (l.map zay)).map bit)= .list (zgC zdV l l.length):=by
  rw[zlH,show (nnz l).map zdV=((nnz l).map (λc=>IntKind.u64.wrap c.n)).map (λn=>D.int .u64 n) by rw[ya0];rfl,hw1,ziS,ya0,ya0];rfl
 rw[hform]at hbody;have hC:zeT k (l.map zay)=zdQ (l.map zay)++zbl (zcn (l.map zay)):=by rw[hk0];rfl
 rw[hC,hH];obtain⟨bd,hbd⟩: ∃bd,bd=zbl (zcn (l.map zay)):=⟨_,rfl⟩;rw[<- hbd]at hbody hbl ⊢;have hki:(k:Int)=2:=by omega
 refine rg b54 rfl ?_;intro T hT;simp -dsimp -implicitDefEqProofs (disch:=first|omega|assumption) [h1',h2']
 generalize hz:zad _ _ _ _ _ _=z;revert z;refine zaa (σ:=Nat) (λi=>[(0,.d (.int .i64 k)),(1,.d (.list (ce l))),(6,.d (.int .i64 i))]) (λi=>[]) (λi=>i<=l.length) (λi=>l.length - i) 0 ?_ ?_ ?_
 ·exact yai _
 ·simp -dsimp -implicitDefEqProofs (disch:=first|omega|assumption)
 intro T' f hT' i hi ih
 by_cases h1:i<l.length
 ·have hc:=hl l[i] (yal _)
  have hok1:=List.any_eq_false.1 hok _ (yal h1);obtain⟨⟨ck,n,s⟩,hx⟩: ∃x,x=l[i]:=⟨_,rfl⟩;have gx:=hx.symm;rw[<- hx]at hc hok1;simp only at hc;have hw:IntKind.i64.wrap (ck:Int)=ck:=wI (by omega) (by omega)
  have zk: ¬ k=0:=by omega
  by_cases z:ck=0
  ·subst z
   simp -dsimp -implicitDefEqProofs (disch:=first|omega|assumption) [h1,gx,Cel.d]
   exact ih (i+1) _ _ h1 (by omega) (by simp -dsimp -implicitDefEqProofs (disch:=first|omega|assumption))
  ·have z': ¬ (ck:Int)=0:=by omega
   have e:ck=k:=by
    simp[zty,z]at hok1;exact hok1
   have e':(ck:Int)=k:=by omega
   simp -dsimp -implicitDefEqProofs (disch:=first|omega|assumption) [h1,gx,Cel.d,z',z,zk,hw,e',e]
   exact ih (i+1) _ _ h1 (by omega) (by simp -dsimp -implicitDefEqProofs (disch:=first|omega|assumption))
 obtain rfl:i=l.length:=by omega
 subst hT';clear ih hi h1;have h256: ¬ (256:Int)<l.length:=by omega
 simp -dsimp -implicitDefEqProofs (disch:=first|omega|assumption) [h256]
 generalize hz:zad _ _ _ _ _ _=z;revert z;refine zaa (σ:=Nat) (λi=>[(0,.d (.int .i64 k)),(1,.d (.list (ce l))),(8,.arr 0 i),(9,.arr 1 (zgC zdV l i).length),(10,.arr 2 (zgC zlR l i).length),(11,.arr 3 (zgC zlS l i).length),(12,.d (.bool ((l.take i).any λc=>decide (c.kind=0)))),(13,.d (.int .i64 i))]) (λi=>[.arr 1 (zdg zj5 l i) 0,.arr 1 (zgC zdV l i) 0,.arr 1 (zgC zlR l i) 0,.arr 1 (zgC zlS l i) 0]) (λi=>i<=l.length) (λi=>l.length - i) 0 ?_ ?_ ?_
 ·exact yai _
 ·simp -dsimp -implicitDefEqProofs (disch:=first|omega|assumption) [zaG,zjp]
 intro T2 f2 hT2 i hi ih
 by_cases h1:i<l.length
 ·have hv:=hvl l[i] (yal _)
  have hs64:=(zc2 hv).2.2.2.2;have hbs:=zaH (g:=zj5) h1;have hws:=zcE (g:=zdV) h1;have hns:=zcE (g:=zlR) h1;have hss:=zcE (g:=zlS) h1;have hln:=zak (g:=zj5) hi;have l1:=zaw zdV l i;have l2:=zaw zlR l i;have l3:=zaw zlS l i;have hany:(l.take (i+1)).any (λc=>decide (c.kind=0))=((l.take i).any (λc=>decide (c.kind=0)) || decide (l[i].kind=0)):=by
   rw[zap h1,ydQ];simp
  obtain⟨⟨ck,n,s⟩,hx⟩: ∃x,x=l[i]:=⟨_,rfl⟩;have gx:=hx.symm;rw[<- hx]at hs64 hbs hws hns hss hany;simp only at hs64;have hs': ¬ (64:Int)<s.size:=by omega
  by_cases z:ck=0
  ·subst z
   simp only[ydW,yb9,ya8,yau,yc3,ydq]at hws hns hss hany;simp -dsimp -implicitDefEqProofs (disch:=first|omega|assumption) [h1,gx,Cel.d,hs',hln]
   refine ih (i+1) _ _ h1 (by omega) ?_
   rw[hbs,hws,hns,hss,hany];simp -dsimp -implicitDefEqProofs (disch:=first|omega|assumption) [hln,zj5,bit]
  ·have z': ¬ (ck:Int)=0:=by omega
   simp only[ydW,z,yca,ybk,ycS,ycF]at hws hns hss hany;simp -dsimp -implicitDefEqProofs (disch:=first|omega|assumption) [h1,gx,Cel.d,hs',hln,z',z]
   refine ih (i+1) _ _ h1 (by omega) ?_
   rw[hbs,hws,hns,hss,hany];simp -dsimp -implicitDefEqProofs (disch:=first|omega|assumption) [hln,zj5,bit,zdV,zlR,zlS,z]
 obtain rfl:i=l.length:=by omega
 have hln:=zak (g:=zj5) (yab l.length);have l1:=zaw zdV l l.length;have l2:=zaw zlR l l.length;have l3:=zaw zlS l l.length;subst hT2;clear ih hi h1;rw[yaR];cases hnl:l.any λc=>decide (c.kind=0) with
 |true=>
  rw[hnl,yah rfl,show (1::fl++bd).length=1+fl.length+bd.length by simp only[yag,yaf];omega]at hT
  simp -dsimp -implicitDefEqProofs (disch:=first|omega|assumption) [hki,hk0,hfl,hbody,hln]
  simpa -dsimp -implicitDefEqProofs (disch:=first|omega|assumption) [E]using hT
 |false=>
  rw[hnl,yae (by simp),show ([(0:UInt8)]++bd).length=1+bd.length by simp only[yaf,ya3]]at hT
  simp -dsimp -implicitDefEqProofs (disch:=first|omega|assumption) [hki,hk0,hbody,hln]
  simpa -dsimp -implicitDefEqProofs (disch:=first|omega|assumption) [E]using hT
end Go.Am.Ab
namespace Go.Am.Ab
open Go.Proofs
set_option maxHeartbeats 8000000
set_option maxRecDepth 4000
@[simp] def zoZ (n:Nat): ∀a b:List D,zao n (a++b)=(zao n a && zao n b)
 |[],b=>by simp[zao]
 |x::a,b=>by
  have:=zoZ n a b;simp[zao,this,Bool.and_assoc]
def ixD (u:List ByteArray) (s:ByteArray):D:= .int .i64 ((ixS u s:Nat):Int)
def zkY {u:List ByteArray} {s:ByteArray} {j:Nat} (h:j<ixS u s) (hj:j<u.length):u[j]≠s:=by
 have:=List.not_of_lt_findIdx (p:=λt=>decide (t=s)) (xs:=u) (i:=j) h
 simpa using this
def zo0 (k:Nat) (hk0:k=3) (l:List Cel) (hvl: ∀c∈l,chk c=0) (hn:l.length<=256) (hok:l.any (zty k)=false):R 54 [.d (.int .i64 k),.d (.list (ce l))] []=some ([.arr 0 (zeT k (l.map zay)).length,E 0],[.arr 1 (bytes (zeT k (l.map zay))) 0]):=by
 have h1': ¬ (k:Int)<1:=by omega
 have h2': ¬ (3:Int)<k:=by omega
 have hl: ∀c∈l,c.kind<256:=λc hc=>by have:=(zc2 (hvl c hc)).1;omega
 have hth:=zjo hvl;have htl:(zav (l.map zay)).length=l.length:=by rw[zaN];simp
 have hfl:=zeg (zav (l.map zay)) (by omega)
 have hfb:ziS ((zav (l.map zay)).map bit)= .list (zdg zj5 l l.length):=by
  rw[za8 (yab _),hth,ziS,ya0,ya0];rfl
 rw[hfb]at hfl;have hfll:=zbz (l:=zav (l.map zay)) (by omega)
 have hnul:decide (false∈zav (l.map zay))=l.any λc=>decide (c.kind=0):=by
  rw[hth];cases e:l.any λc=>decide (c.kind=0) with
  |true=>
   obtain⟨c,hc,h⟩:=List.any_eq_true.1 e;exact yaJ (List.mem_map.2 ⟨c,hc,by simpa using h⟩)
  |false=>
   refine yaL λh=> ?_
   obtain⟨c,hc,h⟩:=List.mem_map.1 h;have:=List.any_eq_false.1 e c hc;simp at h this;exact this h
 obtain⟨fl,hfle⟩: ∃fl,fl=zbl (zav (l.map zay)):=⟨_,rfl⟩;have hH:zdQ (l.map zay)=if (l.any λc=>decide (c.kind=0))=true then 1::fl else [0]:=by
  rw[zdQ,<- hnul,<- hfle]
  by_cases e:false∈zav (l.map zay) <;> simp[e]
 rw[<- hfle]at hfl hfll;rw[hk0]at hok;have hkk: ∀c∈l,c.kind=0\/c.kind=3:=λc hc=>by
  have:=List.any_eq_false.1 hok c hc;simp[zty]at this
  by_cases e:c.kind=0
  ·exact .inl e
  ·exact .inr (this e)
 rw[<- hk0]at hok;have hw1:=ztz hvl hkk;have hkl:=zdh (l.map zay);rw[yam]at hkl;have hC:zeT k (l.map zay)=zdQ (l.map zay)++zel (zdm (l.map zay)):=by rw[hk0];rfl
 rw[hC,hH];have hW64: ∀s∈zdm (l.map zay),s.size<=64:=zh7 (zxd hvl);have hSD:zgC zlS l l.length=ss (zdm (l.map zay)):=by
  rw[zlH,<- hw1,ss,ya0];rfl
 obtain⟨W,hWe⟩: ∃W,W=zdm (l.map zay):=⟨_,rfl⟩;rw[<- hWe]at hkl hW64 hSD ⊢;have hWl:W.length<=256:=by omega
 have hun:=zlF W hWl;have hul:=zdA W;have hum64: ∀s∈zeM W,s.size<=64:=λs h=>hW64 s (zgx.1 h)
 have humem: ∀s∈W,s∈zeM W:=λs h=>zgx.2 h
 have htW:=zjn W hW64 hWl;have htU:=zjn (zeM W) hum64 (by omega)
 have htwl:=zdP hW64 hWl;have htul:=zdP hum64 (by omega)
 have hput:=zaV (zeM W).length (by omega)
 have hputl:=zan (n:=(zeM W).length) (by omega)
 have hpi:=zkO hWl;have hppl:(zb1 W).length=W.length:=by simp[zb1]
 have hbest:=zi1 (zb1 W) hpi (by omega)
 have hbl:=zcN hpi (by omega)
 have hplD:ints (zb1 W)= .list (zdg (ixD (zeM W)) W W.length):=by
  rw[za8 (yab _),ints,zb1,ya0];rfl
 rw[hplD]at hbest;have hw:zel W=if (zm7 W).length<(zfw W).length then zm7 W else zfw W:=rfl
 have hLT:zm7 W=(1::put (zeM W).length)++zbD (zeM W)++zcs (zb1 W):=rfl;have hPT:zfw W=[0]++zbD W:=rfl;rw[hw,hLT,hPT];clear hw hLT hPT hC hH hWe hplD hw1 hkk;obtain⟨u,hue⟩: ∃u,u=zeM W:=⟨_,rfl⟩;rw[<- hue]at hun hul humem htU htul hput hputl hbest ⊢;obtain⟨tu,htue⟩: ∃tu,tu=zbD u:=⟨_,rfl⟩;obtain⟨tl,htle⟩: ∃tl,tl=zbD W:=⟨_,rfl⟩;obtain⟨bp,hbpe⟩: ∃bp,bp=zcs (zb1 W):=⟨_,rfl⟩;obtain⟨pu,hpue⟩: ∃pu,pu=put u.length:=⟨_,rfl⟩;rw[<- htue]at htU htul ⊢;rw[<- htle]at htW htwl ⊢;rw[<- hbpe]at hbest hbl ⊢;rw[<- hpue]at hput hputl ⊢;have hw0:IntKind.u64.wrap (u.length:Int)=u.length:=zai (by omega) (by omega)
 clear hue htue htle hbpe hpue hum64 hW64 hpi hppl;have e3:(1::pu++tu++bp).length=1+pu.length+tu.length+bp.length:=by simp only[yag,yaf];omega
 have e4:([0]++tl).length=1+tl.length:=by simp only[yaf,yag,yat]
 rw[e3,e4];have hk3:(k:Int)=3:=by omega
 refine rg b54 rfl ?_;intro T hT;simp -dsimp -implicitDefEqProofs (disch:=first|omega|assumption) [h1',h2']
 generalize hz:zad _ _ _ _ _ _=z;revert z;refine zaa (σ:=Nat) (λi=>[(0,.d (.int .i64 k)),(1,.d (.list (ce l))),(6,.d (.int .i64 i))]) (λi=>[]) (λi=>i<=l.length) (λi=>l.length - i) 0 ?_ ?_ ?_
 ·exact yai _
 ·simp -dsimp -implicitDefEqProofs (disch:=first|omega|assumption)
 intro T' f hT' i hi ih
 by_cases h1:i<l.length
 ·have hc:=hl l[i] (yal _)
  have hok1:=List.any_eq_false.1 hok _ (yal h1);obtain⟨⟨ck,n,s⟩,hx⟩: ∃x,x=l[i]:=⟨_,rfl⟩;have gx:=hx.symm;rw[<- hx]at hc hok1;simp only at hc;have hw:IntKind.i64.wrap (ck:Int)=ck:=wI (by omega) (by omega)
  have zk: ¬ k=0:=by omega
  by_cases z:ck=0
  ·subst z
   simp -dsimp -implicitDefEqProofs (disch:=first|omega|assumption) [h1,gx,Cel.d]
   exact ih (i+1) _ _ h1 (by omega) (by simp -dsimp -implicitDefEqProofs (disch:=first|omega|assumption))
  ·have z': ¬ (ck:Int)=0:=by omega
   have e:ck=k:=by
    simp[zty,z]at hok1;exact hok1
   have e':(ck:Int)=k:=by omega
   simp -dsimp -implicitDefEqProofs (disch:=first|omega|assumption) [h1,gx,Cel.d,z',z,zk,hw,e',e]
   exact ih (i+1) _ _ h1 (by omega) (by simp -dsimp -implicitDefEqProofs (disch:=first|omega|assumption))
 obtain rfl:i=l.length:=by omega
 subst hT';clear ih hi h1;have h256: ¬ (256:Int)<l.length:=by omega
 simp -dsimp -implicitDefEqProofs (disch:=first|omega|assumption) [h256]
 generalize hz:zad _ _ _ _ _ _=z;revert z;refine zaa (σ:=Nat) (λi=>[(0,.d (.int .i64 k)),(1,.d (.list (ce l))),(8,.arr 0 i),(9,.arr 1 (zgC zdV l i).length),(10,.arr 2 (zgC zlR l i).length),(11,.arr 3 (zgC zlS l i).length),(12,.d (.bool ((l.take i).any λc=>decide (c.kind=0)))),(13,.d (.int .i64 i))]) (λi=>[.arr 1 (zdg zj5 l i) 0,.arr 1 (zgC zdV l i) 0,.arr 1 (zgC zlR l i) 0,.arr 1 (zgC zlS l i) 0]) (λi=>i<=l.length) (λi=>l.length - i) 0 ?_ ?_ ?_
 ·exact yai _
 ·simp -dsimp -implicitDefEqProofs (disch:=first|omega|assumption) [zaG,zjp]
 intro T2 f2 hT2 i hi ih
 by_cases h1:i<l.length
 ·have hv:=hvl l[i] (yal _)
  have hs64:=(zc2 hv).2.2.2.2;have hbs:=zaH (g:=zj5) h1;have hws:=zcE (g:=zdV) h1;have hns:=zcE (g:=zlR) h1;have hss:=zcE (g:=zlS) h1;have hln:=zak (g:=zj5) hi;have l1:=zaw zdV l i;have l2:=zaw zlR l i;have l3:=zaw zlS l i;have hany:(l.take (i+1)).any (λc=>decide (c.kind=0))=((l.take i).any (λc=>decide (c.kind=0)) || decide (l[i].kind=0)):=by
   rw[zap h1,ydQ];simp
  obtain⟨⟨ck,n,s⟩,hx⟩: ∃x,x=l[i]:=⟨_,rfl⟩;have gx:=hx.symm;rw[<- hx]at hs64 hbs hws hns hss hany;simp only at hs64;have hs': ¬ (64:Int)<s.size:=by omega
  by_cases z:ck=0
  ·subst z
   simp only[ydW,yb9,ya8,yau,yc3,ydq]at hws hns hss hany;simp -dsimp -implicitDefEqProofs (disch:=first|omega|assumption) [h1,gx,Cel.d,hs',hln]
   refine ih (i+1) _ _ h1 (by omega) ?_
   rw[hbs,hws,hns,hss,hany];simp -dsimp -implicitDefEqProofs (disch:=first|omega|assumption) [hln,zj5,bit]
  ·have z': ¬ (ck:Int)=0:=by omega
   simp only[ydW,z,yca,ybk,ycS,ycF]at hws hns hss hany;simp -dsimp -implicitDefEqProofs (disch:=first|omega|assumption) [h1,gx,Cel.d,hs',hln,z',z]
   refine ih (i+1) _ _ h1 (by omega) ?_
   rw[hbs,hws,hns,hss,hany];simp -dsimp -implicitDefEqProofs (disch:=first|omega|assumption) [hln,zj5,bit,zdV,zlR,zlS,z]
 obtain rfl:i=l.length:=by omega
 have hln:=zak (g:=zj5) (yab l.length);have l1:=zaw zdV l l.length;have l2:=zaw zlR l l.length;have l3:=zaw zlS l l.length;subst hT2;clear ih hi h1;rw[yaR];rw[hSD];have hsl:(ss W).length=W.length:=by simp
 cases hnl:l.any λc=>decide (c.kind=0) with
 |true=>
  rw[hnl,yah rfl]at hT;simp -dsimp -implicitDefEqProofs (disch:=first|omega|assumption) [hk3,hk0,hun,hln,hfl,hsl]
  generalize hz:zad _ _ _ _ _ _=z;revert z;refine zaa (σ:=Nat) (λi=>[(11,.arr 0 W.length),(15,.arr 1 (1+fl.length)),(18,.arr 2 u.length),(19,.arr 3 i),(20,.d (.int .i64 i))]) (λi=>[.arr 1 (ss W) W.length,.arr 1 (.int .u8 1::bytes fl) 0,.arr 1 (ss u) 0,.arr 1 (zdg (ixD u) W i) 0]) (λi=>i<=W.length) (λi=>W.length - i) 0 ?_ ?_ ?_
  ·exact yai _
  ·simp -dsimp -implicitDefEqProofs (disch:=first|omega|assumption) [zaG,hfl,hsl]
  intro T3 f3 hT3 i hi ih
  by_cases h1:i<W.length
  ·have hpd:=zaH (g:=ixD u) h1
   have hpl:=zak (g:=ixD u) hi;obtain⟨w,hwe⟩: ∃w,w=W[i]:=⟨_,rfl⟩;have gw:=hwe.symm;have hwm:=humem w (hwe ▸ yal h1);have hix:=zpL hwm;rw[gw]at hpd;simp -dsimp -implicitDefEqProofs (disch:=first|omega|assumption) [h1,gw]
   generalize hz:zad _ _ _ _ _ _=z;revert z;refine zaa (σ:=Nat) (λa=>[(11,.arr 0 W.length),(15,.arr 1 (1+fl.length)),(18,.arr 2 u.length),(19,.arr 3 i),(20,.d (.int .i64 i)),(21,.d (.int .i64 a))]) (λa=>[.arr 1 (ss W) W.length,.arr 1 (.int .u8 1::bytes fl) 0,.arr 1 (ss u) 0,.arr 1 (zdg (ixD u) W i) 0]) (λa=>a<=ixS u w) (λa=>ixS u w - a) 0 ?_ ?_ ?_
   ·exact yai _
   ·simp -dsimp -implicitDefEqProofs (disch:=first|omega|assumption) [hpl,hfl,hsl]
   intro T5 f5 hT5 a ha ih5;have hau:a<u.length:=by omega
   obtain⟨y,hye⟩: ∃y,y=u[a]:=⟨_,rfl⟩;have gy:=hye.symm
   by_cases h2:a<ixS u w
   ·have hne: ¬ y=w:=by rw[hye];exact zkY h2 hau
    simp -dsimp -implicitDefEqProofs (disch:=first|omega|assumption) [h1,gw,hau,gy,zfQ,hne]
    exact ih5 (a+1) _ _ h2 (by omega) (by simp -dsimp -implicitDefEqProofs (disch:=first|omega|assumption) [hpl,hfl,hsl])
   ·obtain rfl:a=ixS u w:=by omega
    have hyw:y=w:=by rw[hye];exact zoB hau
    subst hT5;simp -dsimp -implicitDefEqProofs (disch:=first|omega|assumption) [h1,gw,hau,gy,hyw,hpl]
    refine ih (i+1) _ _ h1 (by omega) ?_
    rw[hpd];simp -dsimp -implicitDefEqProofs (disch:=first|omega|assumption) [hpl,ixD,hfl,hsl]
  ·obtain rfl:i=W.length:=by omega
   have hpl:=zak (g:=ixD u) hi;subst hT3
   by_cases hlt:1+pu.length+tu.length+bp.length<1+tl.length
   ·have hlt':(1+(pu.length:Int)+tu.length+bp.length)<1+tl.length:=by omega
    rw[yah hlt]at hT;rw[show (((1:UInt8)::fl)++((1:UInt8)::pu++tu++bp)).length=1+fl.length+(pu.length+(tu.length+(bp.length+1))) by simp only[yag,yaf];omega]at hT
    simp -dsimp -implicitDefEqProofs (disch:=first|omega|assumption) [hpl,htW,hput,hw0,htU,hbest,hlt']
    simpa -dsimp -implicitDefEqProofs (disch:=first|omega|assumption) [E,yaq,yaC]using hT
   ·have hlt': ¬ (1+(pu.length:Int)+tu.length+bp.length)<1+tl.length:=by omega
    rw[yae hlt]at hT;rw[show (((1:UInt8)::fl)++([(0:UInt8)]++tl)).length=1+fl.length+(tl.length+1) by simp only[yag,yaf,yat];omega]at hT
    simp -dsimp -implicitDefEqProofs (disch:=first|omega|assumption) [hpl,htW,hput,hw0,htU,hbest,hlt']
    simpa -dsimp -implicitDefEqProofs (disch:=first|omega|assumption) [E,yaq,yaC]using hT
 |false=>
  rw[hnl,yae (by simp)]at hT
  simp -dsimp -implicitDefEqProofs (disch:=first|omega|assumption) [hk3,hk0,hun,hln,hsl]
  generalize hz:zad _ _ _ _ _ _=z;revert z;refine zaa (σ:=Nat) (λi=>[(11,.arr 0 W.length),(15,.arr 1 1),(18,.arr 2 u.length),(19,.arr 3 i),(20,.d (.int .i64 i))]) (λi=>[.arr 1 (ss W) W.length,.arr 1 ([.int .u8 0]) 0,.arr 1 (ss u) 0,.arr 1 (zdg (ixD u) W i) 0]) (λi=>i<=W.length) (λi=>W.length - i) 0 ?_ ?_ ?_
  ·exact yai _
  ·simp -dsimp -implicitDefEqProofs (disch:=first|omega|assumption) [zaG,hsl]
  intro T3 f3 hT3 i hi ih
  by_cases h1:i<W.length
  ·have hpd:=zaH (g:=ixD u) h1
   have hpl:=zak (g:=ixD u) hi;obtain⟨w,hwe⟩: ∃w,w=W[i]:=⟨_,rfl⟩;have gw:=hwe.symm;have hwm:=humem w (hwe ▸ yal h1);have hix:=zpL hwm;rw[gw]at hpd;simp -dsimp -implicitDefEqProofs (disch:=first|omega|assumption) [h1,gw]
   generalize hz:zad _ _ _ _ _ _=z;revert z;refine zaa (σ:=Nat) (λa=>[(11,.arr 0 W.length),(15,.arr 1 1),(18,.arr 2 u.length),(19,.arr 3 i),(20,.d (.int .i64 i)),(21,.d (.int .i64 a))]) (λa=>[.arr 1 (ss W) W.length,.arr 1 ([.int .u8 0]) 0,.arr 1 (ss u) 0,.arr 1 (zdg (ixD u) W i) 0]) (λa=>a<=ixS u w) (λa=>ixS u w - a) 0 ?_ ?_ ?_
   ·exact yai _
   ·simp -dsimp -implicitDefEqProofs (disch:=first|omega|assumption) [hpl,hsl]
   intro T5 f5 hT5 a ha ih5;have hau:a<u.length:=by omega
   obtain⟨y,hye⟩: ∃y,y=u[a]:=⟨_,rfl⟩;have gy:=hye.symm
   by_cases h2:a<ixS u w
   ·have hne: ¬ y=w:=by rw[hye];exact zkY h2 hau
    simp -dsimp -implicitDefEqProofs (disch:=first|omega|assumption) [h1,gw,hau,gy,zfQ,hne]
    exact ih5 (a+1) _ _ h2 (by omega) (by simp -dsimp -implicitDefEqProofs (disch:=first|omega|assumption) [hpl,hsl])
   ·obtain rfl:a=ixS u w:=by omega
    have hyw:y=w:=by rw[hye];exact zoB hau
    subst hT5;simp -dsimp -implicitDefEqProofs (disch:=first|omega|assumption) [h1,gw,hau,gy,hyw,hpl]
    refine ih (i+1) _ _ h1 (by omega) ?_
    rw[hpd];simp -dsimp -implicitDefEqProofs (disch:=first|omega|assumption) [hpl,ixD,hsl]
  ·obtain rfl:i=W.length:=by omega
   have hpl:=zak (g:=ixD u) hi;subst hT3
   by_cases hlt:1+pu.length+tu.length+bp.length<1+tl.length
   ·have hlt':(1+(pu.length:Int)+tu.length+bp.length)<1+tl.length:=by omega
    rw[yah hlt]at hT;rw[show ([(0:UInt8)]++(1::pu++tu++bp)).length=1+(pu.length+(tu.length+(bp.length+1))) by simp only[yag,yaf,yat];omega]at hT
    simp -dsimp -implicitDefEqProofs (disch:=first|omega|assumption) [hpl,htW,hput,hw0,htU,hbest,hlt']
    simpa -dsimp -implicitDefEqProofs (disch:=first|omega|assumption) [E,yaq,yaC]using hT
   ·have hlt': ¬ (1+(pu.length:Int)+tu.length+bp.length)<1+tl.length:=by omega
    rw[yae hlt]at hT;rw[show ([(0:UInt8)]++([(0:UInt8)]++tl)).length=1+(tl.length+1) by simp only[yag,yaf,yat];omega]at hT
    simp -dsimp -implicitDefEqProofs (disch:=first|omega|assumption) [hpl,htW,hput,hw0,htU,hbest,hlt']
    simpa -dsimp -implicitDefEqProofs (disch:=first|omega|assumption) [E,yaq,yaC]using hT
end Go.Am.Ab
