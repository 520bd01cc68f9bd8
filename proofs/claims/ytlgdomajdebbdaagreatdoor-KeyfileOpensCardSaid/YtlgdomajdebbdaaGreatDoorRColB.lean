/- Columns of the document, written. -/
import Derived.Test.YtlgdomajdebbdaaGreatDoorRColA
set_option linter.all false
namespace Go.Am.Ab
open Go.Proofs
set_option maxHeartbeats 8000000
set_option maxRecDepth 4000
def zhF (c:Cel):D:= .int .u64 ((bit (decide (c.kind≠0)):Nat):Int)
def zdf (c:Cel):D:= .int .u64 (IntKind.u64.wrap c.n)
def zh4 (c:Cel):D:= .int .i64 c.n
def zh5 (c:Cel):D:= .str c.s
def zoj (k:Nat) (hk:k<256) (h: ¬ (1<=k/\k<=3)) (l:List Cel):R 67 [.d (.int .i64 k),.d (.list (ce l))] []=zdA 10:=by
 unfold zdA
 by_cases h1:k<1
 ·have h1':(k:Int)<1:=by omega
  refine rg b67 rfl ?_;intro T hT;simp -dsimp -implicitDefEqProofs (disch:=first|omega|assumption) [h1']
  simpa -dsimp -implicitDefEqProofs (disch:=first|omega|assumption) [E]using hT
 ·have h1': ¬ (k:Int)<1:=by omega
  have h2':(3:Int)<k:=by omega
  refine rg b67 rfl ?_;intro T hT;simp -dsimp -implicitDefEqProofs (disch:=first|omega|assumption) [h1',h2']
  simpa -dsimp -implicitDefEqProofs (disch:=first|omega|assumption) [E]using hT
def zqP (k:Nat) (hk:1<=k/\k<=3) (l:List Cel) (hl: ∀c∈l,c.kind<256) (hn:l.length<=1000000) (h:l.any (zg4 k)=true):R 67 [.d (.int .i64 k),.d (.list (ce l))] []=zdA 10:=by
 unfold zdA;have h1': ¬ (k:Int)<1:=by omega
 have h2': ¬ (3:Int)<k:=by omega
 refine rg b67 rfl ?_;intro T hT;simp -dsimp -implicitDefEqProofs (disch:=first|omega|assumption) [h1',h2']
 generalize hz:zac _ _ _ _ _ _=z;revert z;refine zaa (σ:=Nat) (λi=>[(0,.d (.int .i64 k)),(1,.d (.list (ce l))),(6,.d (.int .i64 i))]) (λi=>[]) (λi=>i<=l.length/\ ∀j,(hj:j<i)->(hl:j<l.length)->zg4 k l[j]=false) (λi=>l.length - i) 0 ?_ ?_ ?_
 ·exact⟨Nat.zero_le _,λj hj=>by omega⟩
 ·simp -dsimp -implicitDefEqProofs (disch:=first|omega|assumption)
 intro T' f hT' i ⟨hi,hok⟩ ih
 by_cases h1:i<l.length
 ·have step:zg4 k l[i]=false-> ∀j,(hj:j<i+1)->(hl:j<l.length)->zg4 k l[j]=false:=λe j hj hl=>by
   by_cases c:j=i
   ·subst c;exact e
   ·exact hok j (by omega) hl
  have hc:=hl l[i] (List.getElem_mem _);obtain⟨⟨ck,n,s⟩,hx⟩: ∃x,x=l[i]:=⟨_,rfl⟩;have gx:=hx.symm;rw[<- hx]at hc step;simp only at hc;have hw:IntKind.i64.wrap (ck:Int)=ck:=wI (by omega) (by omega)
  have zk: ¬ k=0:=by omega
  by_cases z:ck=0
  ·subst z
   simp -dsimp -implicitDefEqProofs (disch:=first|omega|assumption) [h1,gx,Cel.d]
   exact ih (i+1) _ _ ⟨h1,step (by simp[zg4])⟩ (by omega) (by simp -dsimp -implicitDefEqProofs (disch:=first|omega|assumption))
  ·have z': ¬ (ck:Int)=0:=by omega
   by_cases e:ck=k
   ·have e':(ck:Int)=k:=by omega
    simp -dsimp -implicitDefEqProofs (disch:=first|omega|assumption) [h1,gx,Cel.d,z',z,zk,hw,e',e]
    exact ih (i+1) _ _ ⟨h1,step (by simp[zg4,e])⟩ (by omega) (by simp -dsimp -implicitDefEqProofs (disch:=first|omega|assumption))
   ·have e': ¬ (ck:Int)=k:=by omega
    subst hT';simp -dsimp -implicitDefEqProofs (disch:=first|omega|assumption) [h1,gx,Cel.d,z',z,zk,hw,e',e]
    simpa -dsimp -implicitDefEqProofs (disch:=first|omega|assumption) [E]using hT
 ·exfalso
  obtain⟨v,hv,e⟩:=List.any_eq_true.1 h;obtain⟨j,hj,rfl⟩:=List.mem_iff_getElem.1 hv;rw[hok j (by omega) hj]at e
  cases e
def zok (k:Nat) (hk:1<=k/\k<=3) (l:List Cel) (hl: ∀c∈l,c.kind<256) (hn:l.length<=1000000) (hm:256<l.length) (hok:l.any (zg4 k)=false):R 67 [.d (.int .i64 k),.d (.list (ce l))] []=zdA 5:=by
 unfold zdA;have h1': ¬ (k:Int)<1:=by omega
 have h2': ¬ (3:Int)<k:=by omega
 refine rg b67 rfl ?_;intro T hT;simp -dsimp -implicitDefEqProofs (disch:=first|omega|assumption) [h1',h2']
 generalize hz:zac _ _ _ _ _ _=z;revert z;refine zaa (σ:=Nat) (λi=>[(0,.d (.int .i64 k)),(1,.d (.list (ce l))),(6,.d (.int .i64 i))]) (λi=>[]) (λi=>i<=l.length) (λi=>l.length - i) 0 ?_ ?_ ?_
 ·exact Nat.zero_le _
 ·simp -dsimp -implicitDefEqProofs (disch:=first|omega|assumption)
 intro T' f hT' i hi ih
 by_cases h1:i<l.length
 ·have hc:=hl l[i] (List.getElem_mem _)
  have hok1:=List.any_eq_false.1 hok _ (List.getElem_mem h1);obtain⟨⟨ck,n,s⟩,hx⟩: ∃x,x=l[i]:=⟨_,rfl⟩;have gx:=hx.symm;rw[<- hx]at hc hok1;simp only at hc;have hw:IntKind.i64.wrap (ck:Int)=ck:=wI (by omega) (by omega)
  have zk: ¬ k=0:=by omega
  by_cases z:ck=0
  ·subst z
   simp -dsimp -implicitDefEqProofs (disch:=first|omega|assumption) [h1,gx,Cel.d]
   exact ih (i+1) _ _ h1 (by omega) (by simp -dsimp -implicitDefEqProofs (disch:=first|omega|assumption))
  ·have z': ¬ (ck:Int)=0:=by omega
   have e:ck=k:=by
    simp[zg4,z]at hok1;exact hok1
   have e':(ck:Int)=k:=by omega
   simp -dsimp -implicitDefEqProofs (disch:=first|omega|assumption) [h1,gx,Cel.d,z',z,zk,hw,e',e]
   exact ih (i+1) _ _ h1 (by omega) (by simp -dsimp -implicitDefEqProofs (disch:=first|omega|assumption))
 obtain rfl:i=l.length:=by omega
 subst hT';clear ih hi h1;have h256:(256:Int)<l.length:=by omega
 simp -dsimp -implicitDefEqProofs (disch:=first|omega|assumption) [h256]
 simpa -dsimp -implicitDefEqProofs (disch:=first|omega|assumption) [E]using hT
end Go.Am.Ab
namespace Go.Am.Ab
open Go.Proofs
set_option maxHeartbeats 8000000
set_option maxRecDepth 4000
def zjs (k:Nat) (hk0:k=1) (l:List Cel) (hvl: ∀c∈l,chk c=0) (hi64: ∀c∈l,zah c.n) (hn:l.length<=256) (hok:l.any (zg4 k)=false):R 67 [.d (.int .i64 k),.d (.list (ce l))] []=some ([.arr 0 (zdb k (l.map zaq)).length,E 0],[.arr 1 (bytes (zdb k (l.map zaq))) 0]):=by
 have h1': ¬ (k:Int)<1:=by omega
 have h2': ¬ (3:Int)<k:=by omega
 have hl: ∀c∈l,c.kind<256:=λc hc=>by have:=(zb3 (hvl c hc)).1;omega
 have hth:=zi7 hvl;have htl:(zao (l.map zaq)).length=l.length:=by rw[zaA];simp
 have hfl:=zep (zao (l.map zaq)) (by omega)
 have hfb:ziE ((zao (l.map zaq)).map bit)= .list (zdQ zhF l l.length):=by
  rw[zbk (Nat.le_refl _),hth,ziE,List.map_map,List.map_map];rfl
 rw[hfb]at hfl;have hfll:=zbn (l:=zao (l.map zaq)) (by omega)
 have hnul:decide (false∈zao (l.map zaq))=l.any λc=>decide (c.kind=0):=by
  rw[hth];cases e:l.any λc=>decide (c.kind=0) with
  |true=>
   obtain⟨c,hc,h⟩:=List.any_eq_true.1 e;exact decide_eq_true (List.mem_map.2 ⟨c,hc,by simpa using h⟩)
  |false=>
   refine decide_eq_false λh=> ?_
   obtain⟨c,hc,h⟩:=List.mem_map.1 h;have:=List.any_eq_false.1 e c hc;simp at h this;exact this h
 obtain⟨fl,hfle⟩: ∃fl,fl=za8 (zao (l.map zaq)):=⟨_,rfl⟩;have hH:zda (l.map zaq)=if (l.any λc=>decide (c.kind=0))=true then 1::fl else [0]:=by
  rw[zda,<- hnul,<- hfle]
  by_cases e:false∈zao (l.map zaq) <;> simp[e]
 rw[<- hfle]at hfl hfll;rw[hk0]at hok;have hkk: ∀c∈l,c.kind=0\/c.kind=1:=λc hc=>by
  have:=List.any_eq_false.1 hok c hc;simp[zg4]at this
  by_cases e:c.kind=0
  ·exact .inl e
  ·exact .inr (this e)
 rw[<- hk0]at hok;have hw1:=zll hvl hkk;have hwi: ∀n∈zby (l.map zaq),zah n:=by
  rw[<- hw1];intro n hn;obtain⟨c,hc,rfl⟩:=List.mem_map.1 hn;exact hi64 c (List.mem_filter.1 hc).1
 have hkl:=zci (l.map zaq);rw[List.length_map]at hkl;have hbody:=ziU (zby (l.map zaq)) hwi (by omega)
 have hbl:=zbY hwi (by omega)
 have hform:ints (zby (l.map zaq))= .list (zeY zh4 l l.length):=by
  rw[zlm,<- hw1,ints,List.map_map];rfl
 rw[hform]at hbody;have hC:zdb k (l.map zaq)=zda (l.map zaq)++zbx (zby (l.map zaq)):=by rw[hk0];rfl
 rw[hC,hH];obtain⟨bd,hbd⟩: ∃bd,bd=zbx (zby (l.map zaq)):=⟨_,rfl⟩;rw[<- hbd]at hbody hbl ⊢;have hki:(k:Int)=1:=by omega
 refine rg b67 rfl ?_;intro T hT;simp -dsimp -implicitDefEqProofs (disch:=first|omega|assumption) [h1',h2']
 generalize hz:zac _ _ _ _ _ _=z;revert z;refine zaa (σ:=Nat) (λi=>[(0,.d (.int .i64 k)),(1,.d (.list (ce l))),(6,.d (.int .i64 i))]) (λi=>[]) (λi=>i<=l.length) (λi=>l.length - i) 0 ?_ ?_ ?_
 ·exact Nat.zero_le _
 ·simp -dsimp -implicitDefEqProofs (disch:=first|omega|assumption)
 intro T' f hT' i hi ih
 by_cases h1:i<l.length
 ·have hc:=hl l[i] (List.getElem_mem _)
  have hok1:=List.any_eq_false.1 hok _ (List.getElem_mem h1);obtain⟨⟨ck,n,s⟩,hx⟩: ∃x,x=l[i]:=⟨_,rfl⟩;have gx:=hx.symm;rw[<- hx]at hc hok1;simp only at hc;have hw:IntKind.i64.wrap (ck:Int)=ck:=wI (by omega) (by omega)
  have zk: ¬ k=0:=by omega
  by_cases z:ck=0
  ·subst z
   simp -dsimp -implicitDefEqProofs (disch:=first|omega|assumption) [h1,gx,Cel.d]
   exact ih (i+1) _ _ h1 (by omega) (by simp -dsimp -implicitDefEqProofs (disch:=first|omega|assumption))
  ·have z': ¬ (ck:Int)=0:=by omega
   have e:ck=k:=by
    simp[zg4,z]at hok1;exact hok1
   have e':(ck:Int)=k:=by omega
   simp -dsimp -implicitDefEqProofs (disch:=first|omega|assumption) [h1,gx,Cel.d,z',z,zk,hw,e',e]
   exact ih (i+1) _ _ h1 (by omega) (by simp -dsimp -implicitDefEqProofs (disch:=first|omega|assumption))
 obtain rfl:i=l.length:=by omega
 subst hT';clear ih hi h1;have h256: ¬ (256:Int)<l.length:=by omega
 simp -dsimp -implicitDefEqProofs (disch:=first|omega|assumption) [h256]
 generalize hz:zac _ _ _ _ _ _=z;revert z;refine zaa (σ:=Nat) (λi=>[(0,.d (.int .i64 k)),(1,.d (.list (ce l))),(8,.arr 0 i),(9,.arr 1 (zeY zdf l i).length),(10,.arr 2 (zeY zh4 l i).length),(11,.arr 3 (zeY zh5 l i).length),(12,.d (.bool ((l.take i).any λc=>decide (c.kind=0)))),(13,.d (.int .i64 i))]) (λi=>[.arr 1 (zdQ zhF l i) 0,.arr 1 (zeY zdf l i) 0,.arr 1 (zeY zh4 l i) 0,.arr 1 (zeY zh5 l i) 0]) (λi=>i<=l.length) (λi=>l.length - i) 0 ?_ ?_ ?_
 ·exact Nat.zero_le _
 ·simp -dsimp -implicitDefEqProofs (disch:=first|omega|assumption) [zaF,zgp]
 intro T2 f2 hT2 i hi ih
 by_cases h1:i<l.length
 ·have hv:=hvl l[i] (List.getElem_mem _)
  have hs64:=(zb3 hv).2.2.2.2;have hbs:=zaG (g:=zhF) h1;have hws:=zbL (g:=zdf) h1;have hns:=zbL (g:=zh4) h1;have hss:=zbL (g:=zh5) h1;have hln:=zai (g:=zhF) hi;have l1:=zau zdf l i;have l2:=zau zh4 l i;have l3:=zau zh5 l i;have hany:(l.take (i+1)).any (λc=>decide (c.kind=0))=((l.take i).any (λc=>decide (c.kind=0)) || decide (l[i].kind=0)):=by
   rw[zam h1,List.any_append];simp
  obtain⟨⟨ck,n,s⟩,hx⟩: ∃x,x=l[i]:=⟨_,rfl⟩;have gx:=hx.symm;rw[<- hx]at hs64 hbs hws hns hss hany;simp only at hs64;have hs': ¬ (64:Int)<s.size:=by omega
  by_cases z:ck=0
  ·subst z
   simp only[ne_eq,not_true_eq_false,if_false,List.append_nil,decide_true,Bool.or_true]at hws hns hss hany;simp -dsimp -implicitDefEqProofs (disch:=first|omega|assumption) [h1,gx,Cel.d,hs',hln]
   refine ih (i+1) _ _ h1 (by omega) ?_
   rw[hbs,hws,hns,hss,hany];simp -dsimp -implicitDefEqProofs (disch:=first|omega|assumption) [hln,zhF,bit]
  ·have z': ¬ (ck:Int)=0:=by omega
   simp only[ne_eq,z,not_false_eq_true,if_true,decide_false,Bool.or_false]at hws hns hss hany;simp -dsimp -implicitDefEqProofs (disch:=first|omega|assumption) [h1,gx,Cel.d,hs',hln,z',z]
   refine ih (i+1) _ _ h1 (by omega) ?_
   rw[hbs,hws,hns,hss,hany];simp -dsimp -implicitDefEqProofs (disch:=first|omega|assumption) [hln,zhF,bit,zdf,zh4,zh5,z]
 obtain rfl:i=l.length:=by omega
 have hln:=zai (g:=zhF) (Nat.le_refl l.length);have l1:=zau zdf l l.length;have l2:=zau zh4 l l.length;have l3:=zau zh5 l l.length;subst hT2;clear ih hi h1;rw[List.take_length];cases hnl:l.any λc=>decide (c.kind=0) with
 |true=>
  rw[hnl,if_pos rfl,show (1::fl++bd).length=1+fl.length+bd.length by simp only[List.length_cons,List.length_append];omega]at hT
  simp -dsimp -implicitDefEqProofs (disch:=first|omega|assumption) [hki,hk0,hfl,hbody,hln]
  simpa -dsimp -implicitDefEqProofs (disch:=first|omega|assumption) [E]using hT
 |false=>
  rw[hnl,if_neg (by simp),show ([(0:UInt8)]++bd).length=1+bd.length by simp only[List.length_append,List.length_singleton]]at hT
  simp -dsimp -implicitDefEqProofs (disch:=first|omega|assumption) [hki,hk0,hbody,hln]
  simpa -dsimp -implicitDefEqProofs (disch:=first|omega|assumption) [E]using hT
end Go.Am.Ab
namespace Go.Am.Ab
open Go.Proofs
set_option maxHeartbeats 8000000
set_option maxRecDepth 4000
def zjt (k:Nat) (hk0:k=2) (l:List Cel) (hvl: ∀c∈l,chk c=0) (hi64: ∀c∈l,zah c.n) (hn:l.length<=256) (hok:l.any (zg4 k)=false):R 67 [.d (.int .i64 k),.d (.list (ce l))] []=some ([.arr 0 (zdb k (l.map zaq)).length,E 0],[.arr 1 (bytes (zdb k (l.map zaq))) 0]):=by
 have h1': ¬ (k:Int)<1:=by omega
 have h2': ¬ (3:Int)<k:=by omega
 have hl: ∀c∈l,c.kind<256:=λc hc=>by have:=(zb3 (hvl c hc)).1;omega
 have hth:=zi7 hvl;have htl:(zao (l.map zaq)).length=l.length:=by rw[zaA];simp
 have hfl:=zep (zao (l.map zaq)) (by omega)
 have hfb:ziE ((zao (l.map zaq)).map bit)= .list (zdQ zhF l l.length):=by
  rw[zbk (Nat.le_refl _),hth,ziE,List.map_map,List.map_map];rfl
 rw[hfb]at hfl;have hfll:=zbn (l:=zao (l.map zaq)) (by omega)
 have hnul:decide (false∈zao (l.map zaq))=l.any λc=>decide (c.kind=0):=by
  rw[hth];cases e:l.any λc=>decide (c.kind=0) with
  |true=>
   obtain⟨c,hc,h⟩:=List.any_eq_true.1 e;exact decide_eq_true (List.mem_map.2 ⟨c,hc,by simpa using h⟩)
  |false=>
   refine decide_eq_false λh=> ?_
   obtain⟨c,hc,h⟩:=List.mem_map.1 h;have:=List.any_eq_false.1 e c hc;simp at h this;exact this h
 obtain⟨fl,hfle⟩: ∃fl,fl=za8 (zao (l.map zaq)):=⟨_,rfl⟩;have hH:zda (l.map zaq)=if (l.any λc=>decide (c.kind=0))=true then 1::fl else [0]:=by
  rw[zda,<- hnul,<- hfle]
  by_cases e:false∈zao (l.map zaq) <;> simp[e]
 rw[<- hfle]at hfl hfll;rw[hk0]at hok;have hkk: ∀c∈l,c.kind=0\/c.kind=2:=λc hc=>by
  have:=List.any_eq_false.1 hok c hc;simp[zg4]at this
  by_cases e:c.kind=0
  ·exact .inl e
  ·exact .inr (this e)
 rw[<- hk0]at hok;have hw1:=zph hvl hkk;have hkl:=zci (l.map zaq);rw[List.length_map]at hkl;have hbody:=zep (zbD (l.map zaq)) (by omega)
 have hbl:=zbn (l:=zbD (l.map zaq)) (by omega)
 have hform:ziE ((zbD (l.map zaq)).map bit)= .list (zeY zdf l l.length):=by
  rw[zlm,show (nnz l).map zdf=((nnz l).map (λc=>IntKind.u64.wrap c.n)).map (λn=>D.int .u64 n) by rw[List.map_map];rfl,hw1,ziE,List.map_map,List.map_map];rfl
 rw[hform]at hbody;have hC:zdb k (l.map zaq)=zda (l.map zaq)++za8 (zbD (l.map zaq)):=by rw[hk0];rfl
 rw[hC,hH];obtain⟨bd,hbd⟩: ∃bd,bd=za8 (zbD (l.map zaq)):=⟨_,rfl⟩;rw[<- hbd]at hbody hbl ⊢;have hki:(k:Int)=2:=by omega
 refine rg b67 rfl ?_;intro T hT;simp -dsimp -implicitDefEqProofs (disch:=first|omega|assumption) [h1',h2']
 generalize hz:zac _ _ _ _ _ _=z;revert z;refine zaa (σ:=Nat) (λi=>[(0,.d (.int .i64 k)),(1,.d (.list (ce l))),(6,.d (.int .i64 i))]) (λi=>[]) (λi=>i<=l.length) (λi=>l.length - i) 0 ?_ ?_ ?_
 ·exact Nat.zero_le _
 ·simp -dsimp -implicitDefEqProofs (disch:=first|omega|assumption)
 intro T' f hT' i hi ih
 by_cases h1:i<l.length
 ·have hc:=hl l[i] (List.getElem_mem _)
  have hok1:=List.any_eq_false.1 hok _ (List.getElem_mem h1);obtain⟨⟨ck,n,s⟩,hx⟩: ∃x,x=l[i]:=⟨_,rfl⟩;have gx:=hx.symm;rw[<- hx]at hc hok1;simp only at hc;have hw:IntKind.i64.wrap (ck:Int)=ck:=wI (by omega) (by omega)
  have zk: ¬ k=0:=by omega
  by_cases z:ck=0
  ·subst z
   simp -dsimp -implicitDefEqProofs (disch:=first|omega|assumption) [h1,gx,Cel.d]
   exact ih (i+1) _ _ h1 (by omega) (by simp -dsimp -implicitDefEqProofs (disch:=first|omega|assumption))
  ·have z': ¬ (ck:Int)=0:=by omega
   have e:ck=k:=by
    simp[zg4,z]at hok1;exact hok1
   have e':(ck:Int)=k:=by omega
   simp -dsimp -implicitDefEqProofs (disch:=first|omega|assumption) [h1,gx,Cel.d,z',z,zk,hw,e',e]
   exact ih (i+1) _ _ h1 (by omega) (by simp -dsimp -implicitDefEqProofs (disch:=first|omega|assumption))
 obtain rfl:i=l.length:=by omega
 subst hT';clear ih hi h1;have h256: ¬ (256:Int)<l.length:=by omega
 simp -dsimp -implicitDefEqProofs (disch:=first|omega|assumption) [h256]
 generalize hz:zac _ _ _ _ _ _=z;revert z;refine zaa (σ:=Nat) (λi=>[(0,.d (.int .i64 k)),(1,.d (.list (ce l))),(8,.arr 0 i),(9,.arr 1 (zeY zdf l i).length),(10,.arr 2 (zeY zh4 l i).length),(11,.arr 3 (zeY zh5 l i).length),(12,.d (.bool ((l.take i).any λc=>decide (c.kind=0)))),(13,.d (.int .i64 i))]) (λi=>[.arr 1 (zdQ zhF l i) 0,.arr 1 (zeY zdf l i) 0,.arr 1 (zeY zh4 l i) 0,.arr 1 (zeY zh5 l i) 0]) (λi=>i<=l.length) (λi=>l.length - i) 0 ?_ ?_ ?_
 ·exact Nat.zero_le _
 ·simp -dsimp -implicitDefEqProofs (disch:=first|omega|assumption) [zaF,zgp]
 intro T2 f2 hT2 i hi ih
 by_cases h1:i<l.length
 ·have hv:=hvl l[i] (List.getElem_mem _)
  have hs64:=(zb3 hv).2.2.2.2;have hbs:=zaG (g:=zhF) h1;have hws:=zbL (g:=zdf) h1;have hns:=zbL (g:=zh4) h1;have hss:=zbL (g:=zh5) h1;have hln:=zai (g:=zhF) hi;have l1:=zau zdf l i;have l2:=zau zh4 l i;have l3:=zau zh5 l i;have hany:(l.take (i+1)).any (λc=>decide (c.kind=0))=((l.take i).any (λc=>decide (c.kind=0)) || decide (l[i].kind=0)):=by
   rw[zam h1,List.any_append];simp
  obtain⟨⟨ck,n,s⟩,hx⟩: ∃x,x=l[i]:=⟨_,rfl⟩;have gx:=hx.symm;rw[<- hx]at hs64 hbs hws hns hss hany;simp only at hs64;have hs': ¬ (64:Int)<s.size:=by omega
  by_cases z:ck=0
  ·subst z
   simp only[ne_eq,not_true_eq_false,if_false,List.append_nil,decide_true,Bool.or_true]at hws hns hss hany;simp -dsimp -implicitDefEqProofs (disch:=first|omega|assumption) [h1,gx,Cel.d,hs',hln]
   refine ih (i+1) _ _ h1 (by omega) ?_
   rw[hbs,hws,hns,hss,hany];simp -dsimp -implicitDefEqProofs (disch:=first|omega|assumption) [hln,zhF,bit]
  ·have z': ¬ (ck:Int)=0:=by omega
   simp only[ne_eq,z,not_false_eq_true,if_true,decide_false,Bool.or_false]at hws hns hss hany;simp -dsimp -implicitDefEqProofs (disch:=first|omega|assumption) [h1,gx,Cel.d,hs',hln,z',z]
   refine ih (i+1) _ _ h1 (by omega) ?_
   rw[hbs,hws,hns,hss,hany];simp -dsimp -implicitDefEqProofs (disch:=first|omega|assumption) [hln,zhF,bit,zdf,zh4,zh5,z]
 obtain rfl:i=l.length:=by omega
 have hln:=zai (g:=zhF) (Nat.le_refl l.length);have l1:=zau zdf l l.length;have l2:=zau zh4 l l.length;have l3:=zau zh5 l l.length;subst hT2;clear ih hi h1;rw[List.take_length];cases hnl:l.any λc=>decide (c.kind=0) with
 |true=>
  rw[hnl,if_pos rfl,show (1::fl++bd).length=1+fl.length+bd.length by simp only[List.length_cons,List.length_append];omega]at hT
  simp -dsimp -implicitDefEqProofs (disch:=first|omega|assumption) [hki,hk0,hfl,hbody,hln]
  simpa -dsimp -implicitDefEqProofs (disch:=first|omega|assumption) [E]using hT
 |false=>
  rw[hnl,if_neg (by simp),show ([(0:UInt8)]++bd).length=1+bd.length by simp only[List.length_append,List.length_singleton]]at hT
  simp -dsimp -implicitDefEqProofs (disch:=first|omega|assumption) [hki,hk0,hbody,hln]
  simpa -dsimp -implicitDefEqProofs (disch:=first|omega|assumption) [E]using hT
end Go.Am.Ab
namespace Go.Am.Ab
open Go.Proofs
set_option maxHeartbeats 8000000
set_option maxRecDepth 4000
@[simp] def zol (n:Nat): ∀a b:List D,zaw n (a++b)=(zaw n a && zaw n b)
 |[],b=>by simp[zaw]
 |x::a,b=>by
  have:=zol n a b;simp[zaw,this,Bool.and_assoc]
def ixD (u:List ByteArray) (s:ByteArray):D:= .int .i64 ((ixS u s:Nat):Int)
def zkG {u:List ByteArray} {s:ByteArray} {j:Nat} (h:j<ixS u s) (hj:j<u.length):u[j]≠s:=by
 have:=List.not_of_lt_findIdx (p:=λt=>decide (t=s)) (xs:=u) (i:=j) h
 simpa using this
def zju (k:Nat) (hk0:k=3) (l:List Cel) (hvl: ∀c∈l,chk c=0) (hn:l.length<=256) (hok:l.any (zg4 k)=false):R 67 [.d (.int .i64 k),.d (.list (ce l))] []=some ([.arr 0 (zdb k (l.map zaq)).length,E 0],[.arr 1 (bytes (zdb k (l.map zaq))) 0]):=by
 have h1': ¬ (k:Int)<1:=by omega
 have h2': ¬ (3:Int)<k:=by omega
 have hl: ∀c∈l,c.kind<256:=λc hc=>by have:=(zb3 (hvl c hc)).1;omega
 have hth:=zi7 hvl;have htl:(zao (l.map zaq)).length=l.length:=by rw[zaA];simp
 have hfl:=zep (zao (l.map zaq)) (by omega)
 have hfb:ziE ((zao (l.map zaq)).map bit)= .list (zdQ zhF l l.length):=by
  rw[zbk (Nat.le_refl _),hth,ziE,List.map_map,List.map_map];rfl
 rw[hfb]at hfl;have hfll:=zbn (l:=zao (l.map zaq)) (by omega)
 have hnul:decide (false∈zao (l.map zaq))=l.any λc=>decide (c.kind=0):=by
  rw[hth];cases e:l.any λc=>decide (c.kind=0) with
  |true=>
   obtain⟨c,hc,h⟩:=List.any_eq_true.1 e;exact decide_eq_true (List.mem_map.2 ⟨c,hc,by simpa using h⟩)
  |false=>
   refine decide_eq_false λh=> ?_
   obtain⟨c,hc,h⟩:=List.mem_map.1 h;have:=List.any_eq_false.1 e c hc;simp at h this;exact this h
 obtain⟨fl,hfle⟩: ∃fl,fl=za8 (zao (l.map zaq)):=⟨_,rfl⟩;have hH:zda (l.map zaq)=if (l.any λc=>decide (c.kind=0))=true then 1::fl else [0]:=by
  rw[zda,<- hnul,<- hfle]
  by_cases e:false∈zao (l.map zaq) <;> simp[e]
 rw[<- hfle]at hfl hfll;rw[hk0]at hok;have hkk: ∀c∈l,c.kind=0\/c.kind=3:=λc hc=>by
  have:=List.any_eq_false.1 hok c hc;simp[zg4]at this
  by_cases e:c.kind=0
  ·exact .inl e
  ·exact .inr (this e)
 rw[<- hk0]at hok;have hw1:=zso hvl hkk;have hkl:=zci (l.map zaq);rw[List.length_map]at hkl;have hC:zdb k (l.map zaq)=zda (l.map zaq)++zc9 (zcW (l.map zaq)):=by rw[hk0];rfl
 rw[hC,hH];have hW64: ∀s∈zcW (l.map zaq),s.size<=64:=zeo (zsn hvl);have hSD:zeY zh5 l l.length=ss (zcW (l.map zaq)):=by
  rw[zlm,<- hw1,ss,List.map_map];rfl
 obtain⟨W,hWe⟩: ∃W,W=zcW (l.map zaq):=⟨_,rfl⟩;rw[<- hWe]at hkl hW64 hSD ⊢;have hWl:W.length<=256:=by omega
 have hun:=zlj W hWl;have hul:=zch W;have hum64: ∀s∈zd0 W,s.size<=64:=λs h=>hW64 s (zc1.1 h)
 have humem: ∀s∈W,s∈zd0 W:=λs h=>zc1.2 h
 have htW:=zi5 W hW64 hWl;have htU:=zi5 (zd0 W) hum64 (by omega)
 have htwl:=zd3 hW64 hWl;have htul:=zd3 hum64 (by omega)
 have hput:=zcJ (zd0 W).length (by omega)
 have hputl:=zaZ (n:=(zd0 W).length) (by omega)
 have hpi:=zfg hWl;have hppl:(za5 W).length=W.length:=by simp[za5]
 have hbest:=ziU (za5 W) hpi (by omega)
 have hbl:=zbY hpi (by omega)
 have hplD:ints (za5 W)= .list (zdQ (ixD (zd0 W)) W W.length):=by
  rw[zbk (Nat.le_refl _),ints,za5,List.map_map];rfl
 rw[hplD]at hbest;have hw:zc9 W=if (zjP W).length<(zey W).length then zjP W else zey W:=rfl
 have hLT:zjP W=(1::put (zd0 W).length)++zbr (zd0 W)++zbx (za5 W):=rfl;have hPT:zey W=[0]++zbr W:=rfl;rw[hw,hLT,hPT];clear hw hLT hPT hC hH hWe hplD hw1 hkk;obtain⟨u,hue⟩: ∃u,u=zd0 W:=⟨_,rfl⟩;rw[<- hue]at hun hul humem htU htul hput hputl hbest ⊢;obtain⟨tu,htue⟩: ∃tu,tu=zbr u:=⟨_,rfl⟩;obtain⟨tl,htle⟩: ∃tl,tl=zbr W:=⟨_,rfl⟩;obtain⟨bp,hbpe⟩: ∃bp,bp=zbx (za5 W):=⟨_,rfl⟩;obtain⟨pu,hpue⟩: ∃pu,pu=put u.length:=⟨_,rfl⟩;rw[<- htue]at htU htul ⊢;rw[<- htle]at htW htwl ⊢;rw[<- hbpe]at hbest hbl ⊢;rw[<- hpue]at hput hputl ⊢;have hw0:IntKind.u64.wrap (u.length:Int)=u.length:=zae (by omega) (by omega)
 clear hue htue htle hbpe hpue hum64 hW64 hpi hppl;have e3:(1::pu++tu++bp).length=1+pu.length+tu.length+bp.length:=by simp only[List.length_cons,List.length_append];omega
 have e4:([0]++tl).length=1+tl.length:=by simp only[List.length_append,List.length_cons,List.length_nil]
 rw[e3,e4];have hk3:(k:Int)=3:=by omega
 refine rg b67 rfl ?_;intro T hT;simp -dsimp -implicitDefEqProofs (disch:=first|omega|assumption) [h1',h2']
 generalize hz:zac _ _ _ _ _ _=z;revert z;refine zaa (σ:=Nat) (λi=>[(0,.d (.int .i64 k)),(1,.d (.list (ce l))),(6,.d (.int .i64 i))]) (λi=>[]) (λi=>i<=l.length) (λi=>l.length - i) 0 ?_ ?_ ?_
 ·exact Nat.zero_le _
 ·simp -dsimp -implicitDefEqProofs (disch:=first|omega|assumption)
 intro T' f hT' i hi ih
 by_cases h1:i<l.length
 ·have hc:=hl l[i] (List.getElem_mem _)
  have hok1:=List.any_eq_false.1 hok _ (List.getElem_mem h1);obtain⟨⟨ck,n,s⟩,hx⟩: ∃x,x=l[i]:=⟨_,rfl⟩;have gx:=hx.symm;rw[<- hx]at hc hok1;simp only at hc;have hw:IntKind.i64.wrap (ck:Int)=ck:=wI (by omega) (by omega)
  have zk: ¬ k=0:=by omega
  by_cases z:ck=0
  ·subst z
   simp -dsimp -implicitDefEqProofs (disch:=first|omega|assumption) [h1,gx,Cel.d]
   exact ih (i+1) _ _ h1 (by omega) (by simp -dsimp -implicitDefEqProofs (disch:=first|omega|assumption))
  ·have z': ¬ (ck:Int)=0:=by omega
   have e:ck=k:=by
    simp[zg4,z]at hok1;exact hok1
   have e':(ck:Int)=k:=by omega
   simp -dsimp -implicitDefEqProofs (disch:=first|omega|assumption) [h1,gx,Cel.d,z',z,zk,hw,e',e]
   exact ih (i+1) _ _ h1 (by omega) (by simp -dsimp -implicitDefEqProofs (disch:=first|omega|assumption))
 obtain rfl:i=l.length:=by omega
 subst hT';clear ih hi h1;have h256: ¬ (256:Int)<l.length:=by omega
 simp -dsimp -implicitDefEqProofs (disch:=first|omega|assumption) [h256]
 generalize hz:zac _ _ _ _ _ _=z;revert z;refine zaa (σ:=Nat) (λi=>[(0,.d (.int .i64 k)),(1,.d (.list (ce l))),(8,.arr 0 i),(9,.arr 1 (zeY zdf l i).length),(10,.arr 2 (zeY zh4 l i).length),(11,.arr 3 (zeY zh5 l i).length),(12,.d (.bool ((l.take i).any λc=>decide (c.kind=0)))),(13,.d (.int .i64 i))]) (λi=>[.arr 1 (zdQ zhF l i) 0,.arr 1 (zeY zdf l i) 0,.arr 1 (zeY zh4 l i) 0,.arr 1 (zeY zh5 l i) 0]) (λi=>i<=l.length) (λi=>l.length - i) 0 ?_ ?_ ?_
 ·exact Nat.zero_le _
 ·simp -dsimp -implicitDefEqProofs (disch:=first|omega|assumption) [zaF,zgp]
 intro T2 f2 hT2 i hi ih
 by_cases h1:i<l.length
 ·have hv:=hvl l[i] (List.getElem_mem _)
  have hs64:=(zb3 hv).2.2.2.2;have hbs:=zaG (g:=zhF) h1;have hws:=zbL (g:=zdf) h1;have hns:=zbL (g:=zh4) h1;have hss:=zbL (g:=zh5) h1;have hln:=zai (g:=zhF) hi;have l1:=zau zdf l i;have l2:=zau zh4 l i;have l3:=zau zh5 l i;have hany:(l.take (i+1)).any (λc=>decide (c.kind=0))=((l.take i).any (λc=>decide (c.kind=0)) || decide (l[i].kind=0)):=by
   rw[zam h1,List.any_append];simp
  obtain⟨⟨ck,n,s⟩,hx⟩: ∃x,x=l[i]:=⟨_,rfl⟩;have gx:=hx.symm;rw[<- hx]at hs64 hbs hws hns hss hany;simp only at hs64;have hs': ¬ (64:Int)<s.size:=by omega
  by_cases z:ck=0
  ·subst z
   simp only[ne_eq,not_true_eq_false,if_false,List.append_nil,decide_true,Bool.or_true]at hws hns hss hany;simp -dsimp -implicitDefEqProofs (disch:=first|omega|assumption) [h1,gx,Cel.d,hs',hln]
   refine ih (i+1) _ _ h1 (by omega) ?_
   rw[hbs,hws,hns,hss,hany];simp -dsimp -implicitDefEqProofs (disch:=first|omega|assumption) [hln,zhF,bit]
  ·have z': ¬ (ck:Int)=0:=by omega
   simp only[ne_eq,z,not_false_eq_true,if_true,decide_false,Bool.or_false]at hws hns hss hany;simp -dsimp -implicitDefEqProofs (disch:=first|omega|assumption) [h1,gx,Cel.d,hs',hln,z',z]
   refine ih (i+1) _ _ h1 (by omega) ?_
   rw[hbs,hws,hns,hss,hany];simp -dsimp -implicitDefEqProofs (disch:=first|omega|assumption) [hln,zhF,bit,zdf,zh4,zh5,z]
 obtain rfl:i=l.length:=by omega
 have hln:=zai (g:=zhF) (Nat.le_refl l.length);have l1:=zau zdf l l.length;have l2:=zau zh4 l l.length;have l3:=zau zh5 l l.length;subst hT2;clear ih hi h1;rw[List.take_length];rw[hSD];have hsl:(ss W).length=W.length:=by simp
 cases hnl:l.any λc=>decide (c.kind=0) with
 |true=>
  rw[hnl,if_pos rfl]at hT;simp -dsimp -implicitDefEqProofs (disch:=first|omega|assumption) [hk3,hk0,hun,hln,hfl,hsl]
  generalize hz:zac _ _ _ _ _ _=z;revert z;refine zaa (σ:=Nat) (λi=>[(11,.arr 0 W.length),(15,.arr 1 (1+fl.length)),(18,.arr 2 u.length),(19,.arr 3 i),(20,.d (.int .i64 i))]) (λi=>[.arr 1 (ss W) W.length,.arr 1 (.int .u8 1::bytes fl) 0,.arr 1 (ss u) 0,.arr 1 (zdQ (ixD u) W i) 0]) (λi=>i<=W.length) (λi=>W.length - i) 0 ?_ ?_ ?_
  ·exact Nat.zero_le _
  ·simp -dsimp -implicitDefEqProofs (disch:=first|omega|assumption) [zaF,hfl,hsl]
  intro T3 f3 hT3 i hi ih
  by_cases h1:i<W.length
  ·have hpd:=zaG (g:=ixD u) h1
   have hpl:=zai (g:=ixD u) hi;obtain⟨w,hwe⟩: ∃w,w=W[i]:=⟨_,rfl⟩;have gw:=hwe.symm;have hwm:=humem w (hwe ▸ List.getElem_mem h1);have hix:=ziO hwm;rw[gw]at hpd;simp -dsimp -implicitDefEqProofs (disch:=first|omega|assumption) [h1,gw]
   generalize hz:zac _ _ _ _ _ _=z;revert z;refine zaa (σ:=Nat) (λa=>[(11,.arr 0 W.length),(15,.arr 1 (1+fl.length)),(18,.arr 2 u.length),(19,.arr 3 i),(20,.d (.int .i64 i)),(21,.d (.int .i64 a))]) (λa=>[.arr 1 (ss W) W.length,.arr 1 (.int .u8 1::bytes fl) 0,.arr 1 (ss u) 0,.arr 1 (zdQ (ixD u) W i) 0]) (λa=>a<=ixS u w) (λa=>ixS u w - a) 0 ?_ ?_ ?_
   ·exact Nat.zero_le _
   ·simp -dsimp -implicitDefEqProofs (disch:=first|omega|assumption) [hpl,hfl,hsl]
   intro T5 f5 hT5 a ha ih5;have hau:a<u.length:=by omega
   obtain⟨y,hye⟩: ∃y,y=u[a]:=⟨_,rfl⟩;have gy:=hye.symm
   by_cases h2:a<ixS u w
   ·have hne: ¬ y=w:=by rw[hye];exact zkG h2 hau
    simp -dsimp -implicitDefEqProofs (disch:=first|omega|assumption) [h1,gw,hau,gy,zel,hne]
    exact ih5 (a+1) _ _ h2 (by omega) (by simp -dsimp -implicitDefEqProofs (disch:=first|omega|assumption) [hpl,hfl,hsl])
   ·obtain rfl:a=ixS u w:=by omega
    have hyw:y=w:=by rw[hye];exact zlb hau
    subst hT5;simp -dsimp -implicitDefEqProofs (disch:=first|omega|assumption) [h1,gw,hau,gy,hyw,hpl]
    refine ih (i+1) _ _ h1 (by omega) ?_
    rw[hpd];simp -dsimp -implicitDefEqProofs (disch:=first|omega|assumption) [hpl,ixD,hfl,hsl]
  ·obtain rfl:i=W.length:=by omega
   have hpl:=zai (g:=ixD u) hi;subst hT3
   by_cases hlt:1+pu.length+tu.length+bp.length<1+tl.length
   ·have hlt':(1+(pu.length:Int)+tu.length+bp.length)<1+tl.length:=by omega
    rw[if_pos hlt]at hT;rw[show (((1:UInt8)::fl)++((1:UInt8)::pu++tu++bp)).length=1+fl.length+(pu.length+(tu.length+(bp.length+1))) by simp only[List.length_cons,List.length_append];omega]at hT
    simp -dsimp -implicitDefEqProofs (disch:=first|omega|assumption) [hpl,htW,hput,hw0,htU,hbest,hlt']
    simpa -dsimp -implicitDefEqProofs (disch:=first|omega|assumption) [E,List.append_assoc,Nat.add_assoc]using hT
   ·have hlt': ¬ (1+(pu.length:Int)+tu.length+bp.length)<1+tl.length:=by omega
    rw[if_neg hlt]at hT;rw[show (((1:UInt8)::fl)++([(0:UInt8)]++tl)).length=1+fl.length+(tl.length+1) by simp only[List.length_cons,List.length_append,List.length_nil];omega]at hT
    simp -dsimp -implicitDefEqProofs (disch:=first|omega|assumption) [hpl,htW,hput,hw0,htU,hbest,hlt']
    simpa -dsimp -implicitDefEqProofs (disch:=first|omega|assumption) [E,List.append_assoc,Nat.add_assoc]using hT
 |false=>
  rw[hnl,if_neg (by simp)]at hT
  simp -dsimp -implicitDefEqProofs (disch:=first|omega|assumption) [hk3,hk0,hun,hln,hsl]
  generalize hz:zac _ _ _ _ _ _=z;revert z;refine zaa (σ:=Nat) (λi=>[(11,.arr 0 W.length),(15,.arr 1 1),(18,.arr 2 u.length),(19,.arr 3 i),(20,.d (.int .i64 i))]) (λi=>[.arr 1 (ss W) W.length,.arr 1 ([.int .u8 0]) 0,.arr 1 (ss u) 0,.arr 1 (zdQ (ixD u) W i) 0]) (λi=>i<=W.length) (λi=>W.length - i) 0 ?_ ?_ ?_
  ·exact Nat.zero_le _
  ·simp -dsimp -implicitDefEqProofs (disch:=first|omega|assumption) [zaF,hsl]
  intro T3 f3 hT3 i hi ih
  by_cases h1:i<W.length
  ·have hpd:=zaG (g:=ixD u) h1
   have hpl:=zai (g:=ixD u) hi;obtain⟨w,hwe⟩: ∃w,w=W[i]:=⟨_,rfl⟩;have gw:=hwe.symm;have hwm:=humem w (hwe ▸ List.getElem_mem h1);have hix:=ziO hwm;rw[gw]at hpd;simp -dsimp -implicitDefEqProofs (disch:=first|omega|assumption) [h1,gw]
   generalize hz:zac _ _ _ _ _ _=z;revert z;refine zaa (σ:=Nat) (λa=>[(11,.arr 0 W.length),(15,.arr 1 1),(18,.arr 2 u.length),(19,.arr 3 i),(20,.d (.int .i64 i)),(21,.d (.int .i64 a))]) (λa=>[.arr 1 (ss W) W.length,.arr 1 ([.int .u8 0]) 0,.arr 1 (ss u) 0,.arr 1 (zdQ (ixD u) W i) 0]) (λa=>a<=ixS u w) (λa=>ixS u w - a) 0 ?_ ?_ ?_
   ·exact Nat.zero_le _
   ·simp -dsimp -implicitDefEqProofs (disch:=first|omega|assumption) [hpl,hsl]
   intro T5 f5 hT5 a ha ih5;have hau:a<u.length:=by omega
   obtain⟨y,hye⟩: ∃y,y=u[a]:=⟨_,rfl⟩;have gy:=hye.symm
   by_cases h2:a<ixS u w
   ·have hne: ¬ y=w:=by rw[hye];exact zkG h2 hau
    simp -dsimp -implicitDefEqProofs (disch:=first|omega|assumption) [h1,gw,hau,gy,zel,hne]
    exact ih5 (a+1) _ _ h2 (by omega) (by simp -dsimp -implicitDefEqProofs (disch:=first|omega|assumption) [hpl,hsl])
   ·obtain rfl:a=ixS u w:=by omega
    have hyw:y=w:=by rw[hye];exact zlb hau
    subst hT5;simp -dsimp -implicitDefEqProofs (disch:=first|omega|assumption) [h1,gw,hau,gy,hyw,hpl]
    refine ih (i+1) _ _ h1 (by omega) ?_
    rw[hpd];simp -dsimp -implicitDefEqProofs (disch:=first|omega|assumption) [hpl,ixD,hsl]
  ·obtain rfl:i=W.length:=by omega
   have hpl:=zai (g:=ixD u) hi;subst hT3
   by_cases hlt:1+pu.length+tu.length+bp.length<1+tl.length
   ·have hlt':(1+(pu.length:Int)+tu.length+bp.length)<1+tl.length:=by omega
    rw[if_pos hlt]at hT;rw[show ([(0:UInt8)]++(1::pu++tu++bp)).length=1+(pu.length+(tu.length+(bp.length+1))) by simp only[List.length_cons,List.length_append,List.length_nil];omega]at hT
    simp -dsimp -implicitDefEqProofs (disch:=first|omega|assumption) [hpl,htW,hput,hw0,htU,hbest,hlt']
    simpa -dsimp -implicitDefEqProofs (disch:=first|omega|assumption) [E,List.append_assoc,Nat.add_assoc]using hT
   ·have hlt': ¬ (1+(pu.length:Int)+tu.length+bp.length)<1+tl.length:=by omega
    rw[if_neg hlt]at hT;rw[show ([(0:UInt8)]++([(0:UInt8)]++tl)).length=1+(tl.length+1) by simp only[List.length_cons,List.length_append,List.length_nil];omega]at hT
    simp -dsimp -implicitDefEqProofs (disch:=first|omega|assumption) [hpl,htW,hput,hw0,htU,hbest,hlt']
    simpa -dsimp -implicitDefEqProofs (disch:=first|omega|assumption) [E,List.append_assoc,Nat.add_assoc]using hT
end Go.Am.Ab
