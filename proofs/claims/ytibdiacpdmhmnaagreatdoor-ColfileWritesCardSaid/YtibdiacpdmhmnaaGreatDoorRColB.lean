/- Columns of the document, written. -/
import Derived.Test.YtibdiacpdmhmnaaGreatDoorRColA
set_option linter.all false
namespace Go.Am.Ab
open Go.Proofs
set_option maxHeartbeats 8000000
set_option maxRecDepth 4000
def zmi (l:List Cel) (hl: ∀c∈l,c.kind<256/\c.s.size<=9223372036854775807) (hn:l.length<=1000000):R 38 [.d (.list (ce l))] []=some ([.arr 0 l.length],[.arr 3 (ce (l.map fix)) 0]):=by
 have hend:ce (l.map fix)=zcY (λc=>(fix c).d) l l.length:=by
  rw[zbk (Nat.le_refl _)]
  show (l.map fix).map Cel.d=_
  rw[List.map_map];rfl
 rw[hend];refine rg b38 rfl ?_;intro T hT;simp -dsimp -implicitDefEqProofs (disch:=first|omega|assumption)
 generalize hz:zaf _ _ _ _ _ _=z;revert z;refine zaa (σ:=Nat) (λi=>[(0,.d (.list (ce l))),(3,.arr 0 i),(4,.d (.int .i64 i))]) (λi=>[.arr 3 (zcY (λc=>(fix c).d) l i) 0]) (λi=>i<=l.length) (λi=>l.length - i) 0 ?_ ?_ ?_
 ·exact Nat.zero_le _
 ·simp -dsimp -implicitDefEqProofs (disch:=first|omega|assumption) [zaL]
 intro T' f hT' i hi ih
 by_cases h1:i<l.length
 ·have hc:=hl l[i] (List.getElem_mem _)
  have h:=zky l[i] hc.1 hc.2;rw[ztj]at h;have hcc:=zhq l[i];have hsz:(fix l[i]).d.cells.length=3:=rfl;have htk:=zaM (g:=λc=>(fix c).d) h1
  have hlen:=zai (g:=λc=>(fix c).d) hi
  simp -dsimp -implicitDefEqProofs (disch:=first|omega|assumption) [h1,h,hlen,hcc,hsz]
  refine ih (i+1) _ _ h1 (by omega) ?_
  rw[htk];simp -dsimp -implicitDefEqProofs (disch:=first|omega|assumption)
 ·have e:i=l.length:=by omega
  subst e;subst hT';simp -dsimp -implicitDefEqProofs (disch:=first|omega|assumption)
  simpa -dsimp -implicitDefEqProofs (disch:=first|omega|assumption) using hT
def zib (c:Cel):D:= .int .u64 ((bit (decide (c.kind≠0)):Nat):Int)
def zdm (c:Cel):D:= .int .u64 (IntKind.u64.wrap c.n)
def zjB (c:Cel):D:= .int .i64 c.n
def zjC (c:Cel):D:= .str c.s
end Go.Am.Ab
namespace Go.Am.Ab
open Go.Proofs
set_option maxHeartbeats 8000000
set_option maxRecDepth 4000
def zmj (k:Nat) (hk0:k=1) (l:List Cel) (hvl: ∀c∈l,chk c=0) (hi64: ∀c∈l,zat c.n) (hn:l.length<=256) (hok:l.any (zpK k)=false):R 54 [.d (.int .i64 k),.d (.list (ce l))] []=some ([.arr 0 (zeH k (l.map zan)).length,E 0],[.arr 1 (bytes (zeH k (l.map zan))) 0]):=by
 have h1': ¬ (k:Int)<1:=by omega
 have h2': ¬ (3:Int)<k:=by omega
 have hl: ∀c∈l,c.kind<256:=λc hc=>by have:=(zci (hvl c hc)).1;omega
 have hth:=zhG hvl;have htl:(zav (l.map zan)).length=l.length:=by rw[zaF];simp
 have hfl:=zdA (zav (l.map zan)) (by omega)
 have hfb:zhm ((zav (l.map zan)).map bit)= .list (zcY zib l l.length):=by
  rw[zbk (Nat.le_refl _),hth,zhm,List.map_map,List.map_map];rfl
 rw[hfb]at hfl;have hfll:=zbn (l:=zav (l.map zan)) (by omega)
 have hnul:decide (false∈zav (l.map zan))=l.any λc=>decide (c.kind=0):=by
  rw[hth];cases e:l.any λc=>decide (c.kind=0) with
  |true=>
   obtain⟨c,hc,h⟩:=List.any_eq_true.1 e;exact decide_eq_true (List.mem_map.2 ⟨c,hc,by simpa using h⟩)
  |false=>
   refine decide_eq_false λh=> ?_
   obtain⟨c,hc,h⟩:=List.mem_map.1 h;have:=List.any_eq_false.1 e c hc;simp at h this;exact this h
 obtain⟨fl,hfle⟩: ∃fl,fl=za8 (zav (l.map zan)):=⟨_,rfl⟩;have hH:zdj (l.map zan)=if (l.any λc=>decide (c.kind=0))=true then 1::fl else [0]:=by
  rw[zdj,<- hnul,<- hfle]
  by_cases e:false∈zav (l.map zan) <;> simp[e]
 rw[<- hfle]at hfl hfll;rw[hk0]at hok;have hkk: ∀c∈l,c.kind=0\/c.kind=1:=λc hc=>by
  have:=List.any_eq_false.1 hok c hc;simp[zpK]at this
  by_cases e:c.kind=0
  ·exact .inl e
  ·exact .inr (this e)
 rw[<- hk0]at hok;have hw1:=zm2 hvl hkk;have hwi: ∀n∈zcj (l.map zan),zat n:=by
  rw[<- hw1];intro n hn;obtain⟨c,hc,rfl⟩:=List.mem_map.1 hn;exact hi64 c (List.mem_filter.1 hc).1
 have hkl:=zcQ (l.map zan);rw[List.length_map]at hkl;have hbody:=zhy (zcj (l.map zan)) hwi (by omega)
 have hbl:=zcv hwi (by omega)
 have hform:ints (zcj (l.map zan))= .list (zfh zjB l l.length):=by
  rw[zjp,<- hw1,ints,List.map_map];rfl
 rw[hform]at hbody;have hC:zeH k (l.map zan)=zdj (l.map zan)++zca (zcj (l.map zan)):=by rw[hk0];rfl
 rw[hC,hH];obtain⟨bd,hbd⟩: ∃bd,bd=zca (zcj (l.map zan)):=⟨_,rfl⟩;rw[<- hbd]at hbody hbl ⊢;have hki:(k:Int)=1:=by omega
 refine rg b54 rfl ?_;intro T hT;simp -dsimp -implicitDefEqProofs (disch:=first|omega|assumption) [h1',h2']
 generalize hz:zaf _ _ _ _ _ _=z;revert z;refine zaa (σ:=Nat) (λi=>[(0,.d (.int .i64 k)),(1,.d (.list (ce l))),(6,.d (.int .i64 i))]) (λi=>[]) (λi=>i<=l.length) (λi=>l.length - i) 0 ?_ ?_ ?_
 ·exact Nat.zero_le _
 ·simp -dsimp -implicitDefEqProofs (disch:=first|omega|assumption)
 intro T' f hT' i hi ih
 by_cases h1:i<l.length
 ·have hc:=hl l[i] (List.getElem_mem _)
  have hok1:=List.any_eq_false.1 hok _ (List.getElem_mem h1);obtain⟨⟨ck,n,s⟩,hx⟩: ∃x,x=l[i]:=⟨_,rfl⟩;have gx:=hx.symm;rw[<- hx]at hc hok1;simp only at hc;have hw:IntKind.i64.wrap (ck:Int)=ck:=wI (by omega) (by omega)
  have zk: ¬ k=0:=by omega
  by_cases z:ck=0
  ·subst z
   simp -dsimp -implicitDefEqProofs (disch:=first|omega|assumption) [h1,gx,Cel.d]
   exact ih (i+1) _ _ h1 (by omega) (by simp -dsimp -implicitDefEqProofs (disch:=first|omega|assumption))
  ·have z': ¬ (ck:Int)=0:=by omega
   have e:ck=k:=by
    simp[zpK,z]at hok1;exact hok1
   have e':(ck:Int)=k:=by omega
   simp -dsimp -implicitDefEqProofs (disch:=first|omega|assumption) [h1,gx,Cel.d,z',z,zk,hw,e',e]
   exact ih (i+1) _ _ h1 (by omega) (by simp -dsimp -implicitDefEqProofs (disch:=first|omega|assumption))
 obtain rfl:i=l.length:=by omega
 subst hT';clear ih hi h1;have h256: ¬ (256:Int)<l.length:=by omega
 simp -dsimp -implicitDefEqProofs (disch:=first|omega|assumption) [h256]
 generalize hz:zaf _ _ _ _ _ _=z;revert z;refine zaa (σ:=Nat) (λi=>[(0,.d (.int .i64 k)),(1,.d (.list (ce l))),(8,.arr 0 i),(9,.arr 1 (zfh zdm l i).length),(10,.arr 2 (zfh zjB l i).length),(11,.arr 3 (zfh zjC l i).length),(12,.d (.bool ((l.take i).any λc=>decide (c.kind=0)))),(13,.d (.int .i64 i))]) (λi=>[.arr 1 (zcY zib l i) 0,.arr 1 (zfh zdm l i) 0,.arr 1 (zfh zjB l i) 0,.arr 1 (zfh zjC l i) 0]) (λi=>i<=l.length) (λi=>l.length - i) 0 ?_ ?_ ?_
 ·exact Nat.zero_le _
 ·simp -dsimp -implicitDefEqProofs (disch:=first|omega|assumption) [zaL,zhH]
 intro T2 f2 hT2 i hi ih
 by_cases h1:i<l.length
 ·have hv:=hvl l[i] (List.getElem_mem _)
  have hs64:=(zci hv).2.2.2.2;have hbs:=zaM (g:=zib) h1;have hws:=zck (g:=zdm) h1;have hns:=zck (g:=zjB) h1;have hss:=zck (g:=zjC) h1;have hln:=zai (g:=zib) hi;have l1:=zaw zdm l i;have l2:=zaw zjB l i;have l3:=zaw zjC l i;have hany:(l.take (i+1)).any (λc=>decide (c.kind=0))=((l.take i).any (λc=>decide (c.kind=0)) || decide (l[i].kind=0)):=by
   rw[zaq h1,List.any_append];simp
  obtain⟨⟨ck,n,s⟩,hx⟩: ∃x,x=l[i]:=⟨_,rfl⟩;have gx:=hx.symm;rw[<- hx]at hs64 hbs hws hns hss hany;simp only at hs64;have hs': ¬ (64:Int)<s.size:=by omega
  by_cases z:ck=0
  ·subst z
   simp only[ne_eq,not_true_eq_false,if_false,List.append_nil,decide_true,Bool.or_true]at hws hns hss hany;simp -dsimp -implicitDefEqProofs (disch:=first|omega|assumption) [h1,gx,Cel.d,hs',hln]
   refine ih (i+1) _ _ h1 (by omega) ?_
   rw[hbs,hws,hns,hss,hany];simp -dsimp -implicitDefEqProofs (disch:=first|omega|assumption) [hln,zib,bit]
  ·have z': ¬ (ck:Int)=0:=by omega
   simp only[ne_eq,z,not_false_eq_true,if_true,decide_false,Bool.or_false]at hws hns hss hany;simp -dsimp -implicitDefEqProofs (disch:=first|omega|assumption) [h1,gx,Cel.d,hs',hln,z',z]
   refine ih (i+1) _ _ h1 (by omega) ?_
   rw[hbs,hws,hns,hss,hany];simp -dsimp -implicitDefEqProofs (disch:=first|omega|assumption) [hln,zib,bit,zdm,zjB,zjC,z]
 obtain rfl:i=l.length:=by omega
 have hln:=zai (g:=zib) (Nat.le_refl l.length);have l1:=zaw zdm l l.length;have l2:=zaw zjB l l.length;have l3:=zaw zjC l l.length;subst hT2;clear ih hi h1;rw[List.take_length];cases hnl:l.any λc=>decide (c.kind=0) with
 |true=>
  rw[hnl,if_pos rfl,show (1::fl++bd).length=1+fl.length+bd.length by simp only[List.length_cons,List.length_append];omega]at hT
  simp -dsimp -implicitDefEqProofs (disch:=first|omega|assumption) [hki,hk0,hfl,hbody,hln]
  simpa -dsimp -implicitDefEqProofs (disch:=first|omega|assumption) [E]using hT
 |false=>
  rw[hnl,if_neg (by simp),show ([(0:UInt8)]++bd).length=1+bd.length by simp only[List.length_append,List.length_singleton]]at hT
  simp -dsimp -implicitDefEqProofs (disch:=first|omega|assumption) [hki,hk0,hbody,hln]
  simpa -dsimp -implicitDefEqProofs (disch:=first|omega|assumption) [E]using hT
end Go.Am.Ab
namespace Go.Am.Ab
open Go.Proofs
set_option maxHeartbeats 8000000
set_option maxRecDepth 4000
def zmk (k:Nat) (hk0:k=2) (l:List Cel) (hvl: ∀c∈l,chk c=0) (hi64: ∀c∈l,zat c.n) (hn:l.length<=256) (hok:l.any (zpK k)=false):R 54 [.d (.int .i64 k),.d (.list (ce l))] []=some ([.arr 0 (zeH k (l.map zan)).length,E 0],[.arr 1 (bytes (zeH k (l.map zan))) 0]):=by
 have h1': ¬ (k:Int)<1:=by omega
 have h2': ¬ (3:Int)<k:=by omega
 have hl: ∀c∈l,c.kind<256:=λc hc=>by have:=(zci (hvl c hc)).1;omega
 have hth:=zhG hvl;have htl:(zav (l.map zan)).length=l.length:=by rw[zaF];simp
 have hfl:=zdA (zav (l.map zan)) (by omega)
 have hfb:zhm ((zav (l.map zan)).map bit)= .list (zcY zib l l.length):=by
  rw[zbk (Nat.le_refl _),hth,zhm,List.map_map,List.map_map];rfl
 rw[hfb]at hfl;have hfll:=zbn (l:=zav (l.map zan)) (by omega)
 have hnul:decide (false∈zav (l.map zan))=l.any λc=>decide (c.kind=0):=by
  rw[hth];cases e:l.any λc=>decide (c.kind=0) with
  |true=>
   obtain⟨c,hc,h⟩:=List.any_eq_true.1 e;exact decide_eq_true (List.mem_map.2 ⟨c,hc,by simpa using h⟩)
  |false=>
   refine decide_eq_false λh=> ?_
   obtain⟨c,hc,h⟩:=List.mem_map.1 h;have:=List.any_eq_false.1 e c hc;simp at h this;exact this h
 obtain⟨fl,hfle⟩: ∃fl,fl=za8 (zav (l.map zan)):=⟨_,rfl⟩;have hH:zdj (l.map zan)=if (l.any λc=>decide (c.kind=0))=true then 1::fl else [0]:=by
  rw[zdj,<- hnul,<- hfle]
  by_cases e:false∈zav (l.map zan) <;> simp[e]
 rw[<- hfle]at hfl hfll;rw[hk0]at hok;have hkk: ∀c∈l,c.kind=0\/c.kind=2:=λc hc=>by
  have:=List.any_eq_false.1 hok c hc;simp[zpK]at this
  by_cases e:c.kind=0
  ·exact .inl e
  ·exact .inr (this e)
 rw[<- hk0]at hok;have hw1:=zm3 hvl hkk;have hkl:=zcQ (l.map zan);rw[List.length_map]at hkl;have hbody:=zdA (zb6 (l.map zan)) (by omega)
 have hbl:=zbn (l:=zb6 (l.map zan)) (by omega)
 have hform:zhm ((zb6 (l.map zan)).map bit)= .list (zfh zdm l l.length):=by
  rw[zjp,show (nnz l).map zdm=((nnz l).map (λc=>IntKind.u64.wrap c.n)).map (λn=>D.int .u64 n) by rw[List.map_map];rfl,hw1,zhm,List.map_map,List.map_map];rfl
 rw[hform]at hbody;have hC:zeH k (l.map zan)=zdj (l.map zan)++za8 (zb6 (l.map zan)):=by rw[hk0];rfl
 rw[hC,hH];obtain⟨bd,hbd⟩: ∃bd,bd=za8 (zb6 (l.map zan)):=⟨_,rfl⟩;rw[<- hbd]at hbody hbl ⊢;have hki:(k:Int)=2:=by omega
 refine rg b54 rfl ?_;intro T hT;simp -dsimp -implicitDefEqProofs (disch:=first|omega|assumption) [h1',h2']
 generalize hz:zaf _ _ _ _ _ _=z;revert z;refine zaa (σ:=Nat) (λi=>[(0,.d (.int .i64 k)),(1,.d (.list (ce l))),(6,.d (.int .i64 i))]) (λi=>[]) (λi=>i<=l.length) (λi=>l.length - i) 0 ?_ ?_ ?_
 ·exact Nat.zero_le _
 ·simp -dsimp -implicitDefEqProofs (disch:=first|omega|assumption)
 intro T' f hT' i hi ih
 by_cases h1:i<l.length
 ·have hc:=hl l[i] (List.getElem_mem _)
  have hok1:=List.any_eq_false.1 hok _ (List.getElem_mem h1);obtain⟨⟨ck,n,s⟩,hx⟩: ∃x,x=l[i]:=⟨_,rfl⟩;have gx:=hx.symm;rw[<- hx]at hc hok1;simp only at hc;have hw:IntKind.i64.wrap (ck:Int)=ck:=wI (by omega) (by omega)
  have zk: ¬ k=0:=by omega
  by_cases z:ck=0
  ·subst z
   simp -dsimp -implicitDefEqProofs (disch:=first|omega|assumption) [h1,gx,Cel.d]
   exact ih (i+1) _ _ h1 (by omega) (by simp -dsimp -implicitDefEqProofs (disch:=first|omega|assumption))
  ·have z': ¬ (ck:Int)=0:=by omega
   have e:ck=k:=by
    simp[zpK,z]at hok1;exact hok1
   have e':(ck:Int)=k:=by omega
   simp -dsimp -implicitDefEqProofs (disch:=first|omega|assumption) [h1,gx,Cel.d,z',z,zk,hw,e',e]
   exact ih (i+1) _ _ h1 (by omega) (by simp -dsimp -implicitDefEqProofs (disch:=first|omega|assumption))
 obtain rfl:i=l.length:=by omega
 subst hT';clear ih hi h1;have h256: ¬ (256:Int)<l.length:=by omega
 simp -dsimp -implicitDefEqProofs (disch:=first|omega|assumption) [h256]
 generalize hz:zaf _ _ _ _ _ _=z;revert z;refine zaa (σ:=Nat) (λi=>[(0,.d (.int .i64 k)),(1,.d (.list (ce l))),(8,.arr 0 i),(9,.arr 1 (zfh zdm l i).length),(10,.arr 2 (zfh zjB l i).length),(11,.arr 3 (zfh zjC l i).length),(12,.d (.bool ((l.take i).any λc=>decide (c.kind=0)))),(13,.d (.int .i64 i))]) (λi=>[.arr 1 (zcY zib l i) 0,.arr 1 (zfh zdm l i) 0,.arr 1 (zfh zjB l i) 0,.arr 1 (zfh zjC l i) 0]) (λi=>i<=l.length) (λi=>l.length - i) 0 ?_ ?_ ?_
 ·exact Nat.zero_le _
 ·simp -dsimp -implicitDefEqProofs (disch:=first|omega|assumption) [zaL,zhH]
 intro T2 f2 hT2 i hi ih
 by_cases h1:i<l.length
 ·have hv:=hvl l[i] (List.getElem_mem _)
  have hs64:=(zci hv).2.2.2.2;have hbs:=zaM (g:=zib) h1;have hws:=zck (g:=zdm) h1;have hns:=zck (g:=zjB) h1;have hss:=zck (g:=zjC) h1;have hln:=zai (g:=zib) hi;have l1:=zaw zdm l i;have l2:=zaw zjB l i;have l3:=zaw zjC l i;have hany:(l.take (i+1)).any (λc=>decide (c.kind=0))=((l.take i).any (λc=>decide (c.kind=0)) || decide (l[i].kind=0)):=by
   rw[zaq h1,List.any_append];simp
  obtain⟨⟨ck,n,s⟩,hx⟩: ∃x,x=l[i]:=⟨_,rfl⟩;have gx:=hx.symm;rw[<- hx]at hs64 hbs hws hns hss hany;simp only at hs64;have hs': ¬ (64:Int)<s.size:=by omega
  by_cases z:ck=0
  ·subst z
   simp only[ne_eq,not_true_eq_false,if_false,List.append_nil,decide_true,Bool.or_true]at hws hns hss hany;simp -dsimp -implicitDefEqProofs (disch:=first|omega|assumption) [h1,gx,Cel.d,hs',hln]
   refine ih (i+1) _ _ h1 (by omega) ?_
   rw[hbs,hws,hns,hss,hany];simp -dsimp -implicitDefEqProofs (disch:=first|omega|assumption) [hln,zib,bit]
  ·have z': ¬ (ck:Int)=0:=by omega
   simp only[ne_eq,z,not_false_eq_true,if_true,decide_false,Bool.or_false]at hws hns hss hany;simp -dsimp -implicitDefEqProofs (disch:=first|omega|assumption) [h1,gx,Cel.d,hs',hln,z',z]
   refine ih (i+1) _ _ h1 (by omega) ?_
   rw[hbs,hws,hns,hss,hany];simp -dsimp -implicitDefEqProofs (disch:=first|omega|assumption) [hln,zib,bit,zdm,zjB,zjC,z]
 obtain rfl:i=l.length:=by omega
 have hln:=zai (g:=zib) (Nat.le_refl l.length);have l1:=zaw zdm l l.length;have l2:=zaw zjB l l.length;have l3:=zaw zjC l l.length;subst hT2;clear ih hi h1;rw[List.take_length];cases hnl:l.any λc=>decide (c.kind=0) with
 |true=>
  rw[hnl,if_pos rfl,show (1::fl++bd).length=1+fl.length+bd.length by simp only[List.length_cons,List.length_append];omega]at hT
  simp -dsimp -implicitDefEqProofs (disch:=first|omega|assumption) [hki,hk0,hfl,hbody,hln]
  simpa -dsimp -implicitDefEqProofs (disch:=first|omega|assumption) [E]using hT
 |false=>
  rw[hnl,if_neg (by simp),show ([(0:UInt8)]++bd).length=1+bd.length by simp only[List.length_append,List.length_singleton]]at hT
  simp -dsimp -implicitDefEqProofs (disch:=first|omega|assumption) [hki,hk0,hbody,hln]
  simpa -dsimp -implicitDefEqProofs (disch:=first|omega|assumption) [E]using hT
end Go.Am.Ab
namespace Go.Am.Ab
open Go.Proofs
set_option maxHeartbeats 8000000
set_option maxRecDepth 4000
@[simp] def zml (n:Nat): ∀a b:List D,zap n (a++b)=(zap n a && zap n b)
 |[],b=>by simp[zap]
 |x::a,b=>by
  have:=zml n a b;simp[zap,this,Bool.and_assoc]
def ixD (u:List ByteArray) (s:ByteArray):D:= .int .i64 ((ixS u s:Nat):Int)
def ziU {u:List ByteArray} {s:ByteArray} {j:Nat} (h:j<ixS u s) (hj:j<u.length):u[j]≠s:=by
 have:=List.not_of_lt_findIdx (p:=λt=>decide (t=s)) (xs:=u) (i:=j) h
 simpa using this
def zmm (k:Nat) (hk0:k=3) (l:List Cel) (hvl: ∀c∈l,chk c=0) (hn:l.length<=256) (hok:l.any (zpK k)=false):R 54 [.d (.int .i64 k),.d (.list (ce l))] []=some ([.arr 0 (zeH k (l.map zan)).length,E 0],[.arr 1 (bytes (zeH k (l.map zan))) 0]):=by
 have h1': ¬ (k:Int)<1:=by omega
 have h2': ¬ (3:Int)<k:=by omega
 have hl: ∀c∈l,c.kind<256:=λc hc=>by have:=(zci (hvl c hc)).1;omega
 have hth:=zhG hvl;have htl:(zav (l.map zan)).length=l.length:=by rw[zaF];simp
 have hfl:=zdA (zav (l.map zan)) (by omega)
 have hfb:zhm ((zav (l.map zan)).map bit)= .list (zcY zib l l.length):=by
  rw[zbk (Nat.le_refl _),hth,zhm,List.map_map,List.map_map];rfl
 rw[hfb]at hfl;have hfll:=zbn (l:=zav (l.map zan)) (by omega)
 have hnul:decide (false∈zav (l.map zan))=l.any λc=>decide (c.kind=0):=by
  rw[hth];cases e:l.any λc=>decide (c.kind=0) with
  |true=>
   obtain⟨c,hc,h⟩:=List.any_eq_true.1 e;exact decide_eq_true (List.mem_map.2 ⟨c,hc,by simpa using h⟩)
  |false=>
   refine decide_eq_false λh=> ?_
   obtain⟨c,hc,h⟩:=List.mem_map.1 h;have:=List.any_eq_false.1 e c hc;simp at h this;exact this h
 obtain⟨fl,hfle⟩: ∃fl,fl=za8 (zav (l.map zan)):=⟨_,rfl⟩;have hH:zdj (l.map zan)=if (l.any λc=>decide (c.kind=0))=true then 1::fl else [0]:=by
  rw[zdj,<- hnul,<- hfle]
  by_cases e:false∈zav (l.map zan) <;> simp[e]
 rw[<- hfle]at hfl hfll;rw[hk0]at hok;have hkk: ∀c∈l,c.kind=0\/c.kind=3:=λc hc=>by
  have:=List.any_eq_false.1 hok c hc;simp[zpK]at this
  by_cases e:c.kind=0
  ·exact .inl e
  ·exact .inr (this e)
 rw[<- hk0]at hok;have hw1:=zpL hvl hkk;have hkl:=zcQ (l.map zan);rw[List.length_map]at hkl;have hC:zeH k (l.map zan)=zdj (l.map zan)++zdE (zcT (l.map zan)):=by rw[hk0];rfl
 rw[hC,hH];have hW64: ∀s∈zcT (l.map zan),s.size<=64:=zgA (ztn hvl);have hSD:zfh zjC l l.length=ss (zcT (l.map zan)):=by
  rw[zjp,<- hw1,ss,List.map_map];rfl
 obtain⟨W,hWe⟩: ∃W,W=zcT (l.map zan):=⟨_,rfl⟩;rw[<- hWe]at hkl hW64 hSD ⊢;have hWl:W.length<=256:=by omega
 have hun:=zjm W hWl;have hul:=zc6 W;have hum64: ∀s∈zdX W,s.size<=64:=λs h=>hW64 s (zfe.1 h)
 have humem: ∀s∈W,s∈zdX W:=λs h=>zfe.2 h
 have htW:=zhE W hW64 hWl;have htU:=zhE (zdX W) hum64 (by omega)
 have htwl:=zdi hW64 hWl;have htul:=zdi hum64 (by omega)
 have hput:=zaP (zdX W).length (by omega)
 have hputl:=zak (n:=(zdX W).length) (by omega)
 have hpi:=ziN hWl;have hppl:(zbN W).length=W.length:=by simp[zbN]
 have hbest:=zhy (zbN W) hpi (by omega)
 have hbl:=zcv hpi (by omega)
 have hplD:ints (zbN W)= .list (zcY (ixD (zdX W)) W W.length):=by
  rw[zbk (Nat.le_refl _),ints,zbN,List.map_map];rfl
 rw[hplD]at hbest;have hw:zdE W=if (zkH W).length<(zeq W).length then zkH W else zeq W:=rfl
 have hLT:zkH W=(1::put (zdX W).length)++zbt (zdX W)++zca (zbN W):=rfl;have hPT:zeq W=[0]++zbt W:=rfl;rw[hw,hLT,hPT];clear hw hLT hPT hC hH hWe hplD hw1 hkk;obtain⟨u,hue⟩: ∃u,u=zdX W:=⟨_,rfl⟩;rw[<- hue]at hun hul humem htU htul hput hputl hbest ⊢;obtain⟨tu,htue⟩: ∃tu,tu=zbt u:=⟨_,rfl⟩;obtain⟨tl,htle⟩: ∃tl,tl=zbt W:=⟨_,rfl⟩;obtain⟨bp,hbpe⟩: ∃bp,bp=zca (zbN W):=⟨_,rfl⟩;obtain⟨pu,hpue⟩: ∃pu,pu=put u.length:=⟨_,rfl⟩;rw[<- htue]at htU htul ⊢;rw[<- htle]at htW htwl ⊢;rw[<- hbpe]at hbest hbl ⊢;rw[<- hpue]at hput hputl ⊢;have hw0:IntKind.u64.wrap (u.length:Int)=u.length:=zaj (by omega) (by omega)
 clear hue htue htle hbpe hpue hum64 hW64 hpi hppl;have e3:(1::pu++tu++bp).length=1+pu.length+tu.length+bp.length:=by simp only[List.length_cons,List.length_append];omega
 have e4:([0]++tl).length=1+tl.length:=by simp only[List.length_append,List.length_cons,List.length_nil]
 rw[e3,e4];have hk3:(k:Int)=3:=by omega
 refine rg b54 rfl ?_;intro T hT;simp -dsimp -implicitDefEqProofs (disch:=first|omega|assumption) [h1',h2']
 generalize hz:zaf _ _ _ _ _ _=z;revert z;refine zaa (σ:=Nat) (λi=>[(0,.d (.int .i64 k)),(1,.d (.list (ce l))),(6,.d (.int .i64 i))]) (λi=>[]) (λi=>i<=l.length) (λi=>l.length - i) 0 ?_ ?_ ?_
 ·exact Nat.zero_le _
 ·simp -dsimp -implicitDefEqProofs (disch:=first|omega|assumption)
 intro T' f hT' i hi ih
 by_cases h1:i<l.length
 ·have hc:=hl l[i] (List.getElem_mem _)
  have hok1:=List.any_eq_false.1 hok _ (List.getElem_mem h1);obtain⟨⟨ck,n,s⟩,hx⟩: ∃x,x=l[i]:=⟨_,rfl⟩;have gx:=hx.symm;rw[<- hx]at hc hok1;simp only at hc;have hw:IntKind.i64.wrap (ck:Int)=ck:=wI (by omega) (by omega)
  have zk: ¬ k=0:=by omega
  by_cases z:ck=0
  ·subst z
   simp -dsimp -implicitDefEqProofs (disch:=first|omega|assumption) [h1,gx,Cel.d]
   exact ih (i+1) _ _ h1 (by omega) (by simp -dsimp -implicitDefEqProofs (disch:=first|omega|assumption))
  ·have z': ¬ (ck:Int)=0:=by omega
   have e:ck=k:=by
    simp[zpK,z]at hok1;exact hok1
   have e':(ck:Int)=k:=by omega
   simp -dsimp -implicitDefEqProofs (disch:=first|omega|assumption) [h1,gx,Cel.d,z',z,zk,hw,e',e]
   exact ih (i+1) _ _ h1 (by omega) (by simp -dsimp -implicitDefEqProofs (disch:=first|omega|assumption))
 obtain rfl:i=l.length:=by omega
 subst hT';clear ih hi h1;have h256: ¬ (256:Int)<l.length:=by omega
 simp -dsimp -implicitDefEqProofs (disch:=first|omega|assumption) [h256]
 generalize hz:zaf _ _ _ _ _ _=z;revert z;refine zaa (σ:=Nat) (λi=>[(0,.d (.int .i64 k)),(1,.d (.list (ce l))),(8,.arr 0 i),(9,.arr 1 (zfh zdm l i).length),(10,.arr 2 (zfh zjB l i).length),(11,.arr 3 (zfh zjC l i).length),(12,.d (.bool ((l.take i).any λc=>decide (c.kind=0)))),(13,.d (.int .i64 i))]) (λi=>[.arr 1 (zcY zib l i) 0,.arr 1 (zfh zdm l i) 0,.arr 1 (zfh zjB l i) 0,.arr 1 (zfh zjC l i) 0]) (λi=>i<=l.length) (λi=>l.length - i) 0 ?_ ?_ ?_
 ·exact Nat.zero_le _
 ·simp -dsimp -implicitDefEqProofs (disch:=first|omega|assumption) [zaL,zhH]
 intro T2 f2 hT2 i hi ih
 by_cases h1:i<l.length
 ·have hv:=hvl l[i] (List.getElem_mem _)
  have hs64:=(zci hv).2.2.2.2;have hbs:=zaM (g:=zib) h1;have hws:=zck (g:=zdm) h1;have hns:=zck (g:=zjB) h1;have hss:=zck (g:=zjC) h1;have hln:=zai (g:=zib) hi;have l1:=zaw zdm l i;have l2:=zaw zjB l i;have l3:=zaw zjC l i;have hany:(l.take (i+1)).any (λc=>decide (c.kind=0))=((l.take i).any (λc=>decide (c.kind=0)) || decide (l[i].kind=0)):=by
   rw[zaq h1,List.any_append];simp
  obtain⟨⟨ck,n,s⟩,hx⟩: ∃x,x=l[i]:=⟨_,rfl⟩;have gx:=hx.symm;rw[<- hx]at hs64 hbs hws hns hss hany;simp only at hs64;have hs': ¬ (64:Int)<s.size:=by omega
  by_cases z:ck=0
  ·subst z
   simp only[ne_eq,not_true_eq_false,if_false,List.append_nil,decide_true,Bool.or_true]at hws hns hss hany;simp -dsimp -implicitDefEqProofs (disch:=first|omega|assumption) [h1,gx,Cel.d,hs',hln]
   refine ih (i+1) _ _ h1 (by omega) ?_
   rw[hbs,hws,hns,hss,hany];simp -dsimp -implicitDefEqProofs (disch:=first|omega|assumption) [hln,zib,bit]
  ·have z': ¬ (ck:Int)=0:=by omega
   simp only[ne_eq,z,not_false_eq_true,if_true,decide_false,Bool.or_false]at hws hns hss hany;simp -dsimp -implicitDefEqProofs (disch:=first|omega|assumption) [h1,gx,Cel.d,hs',hln,z',z]
   refine ih (i+1) _ _ h1 (by omega) ?_
   rw[hbs,hws,hns,hss,hany];simp -dsimp -implicitDefEqProofs (disch:=first|omega|assumption) [hln,zib,bit,zdm,zjB,zjC,z]
 obtain rfl:i=l.length:=by omega
 have hln:=zai (g:=zib) (Nat.le_refl l.length);have l1:=zaw zdm l l.length;have l2:=zaw zjB l l.length;have l3:=zaw zjC l l.length;subst hT2;clear ih hi h1;rw[List.take_length];rw[hSD];have hsl:(ss W).length=W.length:=by simp
 cases hnl:l.any λc=>decide (c.kind=0) with
 |true=>
  rw[hnl,if_pos rfl]at hT;simp -dsimp -implicitDefEqProofs (disch:=first|omega|assumption) [hk3,hk0,hun,hln,hfl,hsl]
  generalize hz:zaf _ _ _ _ _ _=z;revert z;refine zaa (σ:=Nat) (λi=>[(11,.arr 0 W.length),(15,.arr 1 (1+fl.length)),(18,.arr 2 u.length),(19,.arr 3 i),(20,.d (.int .i64 i))]) (λi=>[.arr 1 (ss W) W.length,.arr 1 (.int .u8 1::bytes fl) 0,.arr 1 (ss u) 0,.arr 1 (zcY (ixD u) W i) 0]) (λi=>i<=W.length) (λi=>W.length - i) 0 ?_ ?_ ?_
  ·exact Nat.zero_le _
  ·simp -dsimp -implicitDefEqProofs (disch:=first|omega|assumption) [zaL,hfl,hsl]
  intro T3 f3 hT3 i hi ih
  by_cases h1:i<W.length
  ·have hpd:=zaM (g:=ixD u) h1
   have hpl:=zai (g:=ixD u) hi;obtain⟨w,hwe⟩: ∃w,w=W[i]:=⟨_,rfl⟩;have gw:=hwe.symm;have hwm:=humem w (hwe ▸ List.getElem_mem h1);have hix:=zmY hwm;rw[gw]at hpd;simp -dsimp -implicitDefEqProofs (disch:=first|omega|assumption) [h1,gw]
   generalize hz:zaf _ _ _ _ _ _=z;revert z;refine zaa (σ:=Nat) (λa=>[(11,.arr 0 W.length),(15,.arr 1 (1+fl.length)),(18,.arr 2 u.length),(19,.arr 3 i),(20,.d (.int .i64 i)),(21,.d (.int .i64 a))]) (λa=>[.arr 1 (ss W) W.length,.arr 1 (.int .u8 1::bytes fl) 0,.arr 1 (ss u) 0,.arr 1 (zcY (ixD u) W i) 0]) (λa=>a<=ixS u w) (λa=>ixS u w - a) 0 ?_ ?_ ?_
   ·exact Nat.zero_le _
   ·simp -dsimp -implicitDefEqProofs (disch:=first|omega|assumption) [hpl,hfl,hsl]
   intro T5 f5 hT5 a ha ih5;have hau:a<u.length:=by omega
   obtain⟨y,hye⟩: ∃y,y=u[a]:=⟨_,rfl⟩;have gy:=hye.symm
   by_cases h2:a<ixS u w
   ·have hne: ¬ y=w:=by rw[hye];exact ziU h2 hau
    simp -dsimp -implicitDefEqProofs (disch:=first|omega|assumption) [h1,gw,hau,gy,zdz,hne]
    exact ih5 (a+1) _ _ h2 (by omega) (by simp -dsimp -implicitDefEqProofs (disch:=first|omega|assumption) [hpl,hfl,hsl])
   ·obtain rfl:a=ixS u w:=by omega
    have hyw:y=w:=by rw[hye];exact zlO hau
    subst hT5;simp -dsimp -implicitDefEqProofs (disch:=first|omega|assumption) [h1,gw,hau,gy,hyw,hpl]
    refine ih (i+1) _ _ h1 (by omega) ?_
    rw[hpd];simp -dsimp -implicitDefEqProofs (disch:=first|omega|assumption) [hpl,ixD,hfl,hsl]
  ·obtain rfl:i=W.length:=by omega
   have hpl:=zai (g:=ixD u) hi;subst hT3
   by_cases hlt:1+pu.length+tu.length+bp.length<1+tl.length
   ·have hlt':(1+(pu.length:Int)+tu.length+bp.length)<1+tl.length:=by omega
    rw[if_pos hlt]at hT;rw[show (((1:UInt8)::fl)++((1:UInt8)::pu++tu++bp)).length=1+fl.length+(pu.length+(tu.length+(bp.length+1))) by simp only[List.length_cons,List.length_append];omega]at hT
    simp -dsimp -implicitDefEqProofs (disch:=first|omega|assumption) [hpl,htW,hput,hw0,htU,hbest,hlt']
    simpa -dsimp -implicitDefEqProofs (disch:=first|omega|assumption) [E,List.append_assoc,Nat.add_assoc]using hT
   ·have hlt': ¬ (1+(pu.length:Int)+tu.length+bp.length)<1+tl.length:=by omega
    rw[if_neg hlt]at hT;rw[show (((1:UInt8)::fl)++([(0:UInt8)]++tl)).length=1+fl.length+(tl.length+1) by simp only[List.length_cons,List.length_append,List.length_nil];omega]at hT
    simp -dsimp -implicitDefEqProofs (disch:=first|omega|assumption) [hpl,htW,hput,hw0,htU,hbest,hlt']
    simpa -dsimp -implicitDefEqProofs (disch:=first|omega|assumption) [E,List.append_assoc,Nat.add_assoc]using hT
 |false=>
  rw[hnl,if_neg (by simp)]at hT
  simp -dsimp -implicitDefEqProofs (disch:=first|omega|assumption) [hk3,hk0,hun,hln,hsl]
  generalize hz:zaf _ _ _ _ _ _=z;revert z;refine zaa (σ:=Nat) (λi=>[(11,.arr 0 W.length),(15,.arr 1 1),(18,.arr 2 u.length),(19,.arr 3 i),(20,.d (.int .i64 i))]) (λi=>[.arr 1 (ss W) W.length,.arr 1 ([.int .u8 0]) 0,.arr 1 (ss u) 0,.arr 1 (zcY (ixD u) W i) 0]) (λi=>i<=W.length) (λi=>W.length - i) 0 ?_ ?_ ?_
  ·exact Nat.zero_le _
  ·simp -dsimp -implicitDefEqProofs (disch:=first|omega|assumption) [zaL,hsl]
  intro T3 f3 hT3 i hi ih
  by_cases h1:i<W.length
  ·have hpd:=zaM (g:=ixD u) h1
   have hpl:=zai (g:=ixD u) hi;obtain⟨w,hwe⟩: ∃w,w=W[i]:=⟨_,rfl⟩;have gw:=hwe.symm;have hwm:=humem w (hwe ▸ List.getElem_mem h1);have hix:=zmY hwm;rw[gw]at hpd;simp -dsimp -implicitDefEqProofs (disch:=first|omega|assumption) [h1,gw]
   generalize hz:zaf _ _ _ _ _ _=z;revert z;refine zaa (σ:=Nat) (λa=>[(11,.arr 0 W.length),(15,.arr 1 1),(18,.arr 2 u.length),(19,.arr 3 i),(20,.d (.int .i64 i)),(21,.d (.int .i64 a))]) (λa=>[.arr 1 (ss W) W.length,.arr 1 ([.int .u8 0]) 0,.arr 1 (ss u) 0,.arr 1 (zcY (ixD u) W i) 0]) (λa=>a<=ixS u w) (λa=>ixS u w - a) 0 ?_ ?_ ?_
   ·exact Nat.zero_le _
   ·simp -dsimp -implicitDefEqProofs (disch:=first|omega|assumption) [hpl,hsl]
   intro T5 f5 hT5 a ha ih5;have hau:a<u.length:=by omega
   obtain⟨y,hye⟩: ∃y,y=u[a]:=⟨_,rfl⟩;have gy:=hye.symm
   by_cases h2:a<ixS u w
   ·have hne: ¬ y=w:=by rw[hye];exact ziU h2 hau
    simp -dsimp -implicitDefEqProofs (disch:=first|omega|assumption) [h1,gw,hau,gy,zdz,hne]
    exact ih5 (a+1) _ _ h2 (by omega) (by simp -dsimp -implicitDefEqProofs (disch:=first|omega|assumption) [hpl,hsl])
   ·obtain rfl:a=ixS u w:=by omega
    have hyw:y=w:=by rw[hye];exact zlO hau
    subst hT5;simp -dsimp -implicitDefEqProofs (disch:=first|omega|assumption) [h1,gw,hau,gy,hyw,hpl]
    refine ih (i+1) _ _ h1 (by omega) ?_
    rw[hpd];simp -dsimp -implicitDefEqProofs (disch:=first|omega|assumption) [hpl,ixD,hsl]
  ·obtain rfl:i=W.length:=by omega
   have hpl:=zai (g:=ixD u) hi;subst hT3
   by_cases hlt:1+pu.length+tu.length+bp.length<1+tl.length
   ·have hlt':(1+(pu.length:Int)+tu.length+bp.length)<1+tl.length:=by omega
    rw[if_pos hlt]at hT;rw[show ([(0:UInt8)]++(1::pu++tu++bp)).length=1+(pu.length+(tu.length+(bp.length+1))) by simp only[List.length_cons,List.length_append,List.length_nil];omega]at hT
    simp -dsimp -implicitDefEqProofs (disch:=first|omega|assumption) [hpl,htW,hput,hw0,htU,hbest,hlt']
    simpa -dsimp -implicitDefEqProofs (disch:=first|omega|assumption) [E,List.append_assoc,Nat.add_assoc]using hT
   ·have hlt': ¬ (1+(pu.length:Int)+tu.length+bp.length)<1+tl.length:=by omega
    rw[if_neg hlt]at hT;rw[show ([(0:UInt8)]++([(0:UInt8)]++tl)).length=1+(tl.length+1) by simp only[List.length_cons,List.length_append,List.length_nil];omega]at hT
    simp -dsimp -implicitDefEqProofs (disch:=first|omega|assumption) [hpl,htW,hput,hw0,htU,hbest,hlt']
    simpa -dsimp -implicitDefEqProofs (disch:=first|omega|assumption) [E,List.append_assoc,Nat.add_assoc]using hT
end Go.Am.Ab
