/- What is written of any rows. -/
import Derived.Test.YtibdiacpdmhmnaaGreatDoorFileB
import Derived.Test.YtibdiacpdmhmnaaGreatDoorAli
import Derived.Test.YtibdiacpdmhmnaaGreatDoorCDec
set_option linter.all false
namespace Go.Am.Ab
open Go.Proofs
set_option maxHeartbeats 8000000
set_option maxRecDepth 4000
def gsm:List Fld->Nat->Nat
 |[],n=>n
 |f::fs,n=>if n<5000 then gsm fs (n+min f.name.size 5000) else n
def zrQ (f:Fld) (fs:List Fld) (n:Nat):gsm (f::fs) n=if n<5000 then gsm fs (n+min f.name.size 5000) else n:=rfl
def zst: ∀ (l:List Fld) (n:Nat),n<=gsm l n
 |[],_=>Nat.le_refl _
 |f::fs,n=>by
  unfold gsm;split
  ·exact Nat.le_trans (Nat.le_add_right _ _) (zst fs _)
  ·exact Nat.le_refl _
def zk1: ∀ (l:List Fld) (n:Nat),gsm l n<5000-> ∀f∈l,f.name.size<5000
 |[],_,_,f,h=>by simp at h
 |g::l,n,h,f,hf=>by
  unfold gsm at h;split at h
  ·rcases List.mem_cons.1 hf with rfl | hf
   ·have:=zst l (n+min f.name.size 5000);omega
   ·exact zk1 l _ h f hf
  ·omega
def zmp (s:Sch):Bool:=decide (100<s.fields.length) || decide (5000<=gsm (s.fields.take 100) 0)
def zrR {s:Sch} (h:zmp s=false):s.fields.length<=100/\ ∀f∈s.fields,f.name.size<5000:=by
 unfold zmp at h;simp only[Bool.or_eq_false_iff,decide_eq_false_iff_not]at h;have hl:s.fields.length<=100:=by omega
 rw[List.take_of_length_le hl]at h;exact⟨hl,zk1 _ 0 (by omega)⟩
def zop (s:Sch) (hl:s.fields.length<=9223372036854775807):R 10 [.d s.d] []=some ([.d (.bool (zmp s))],[]):=by
 obtain⟨sid,fs⟩:=s;simp only at hl;simp only[Sch.d];refine rg b10 rfl ?_;intro T hT;simp -dsimp -implicitDefEqProofs (disch:=first|omega|assumption)
 generalize hz:zaf _ _ _ _ _ _=z;revert z;refine zaa (σ:=Nat × Nat) (λx=>[(1,.ptr 0 0),(3,.d (.int .i64 x.2)),(4,.d (.int .i64 x.1))]) (λx=>[.box [.d (.int .u32 sid),.d (.list (fs.map Fld.d))]]) (λx=>x.1<=fs.length/\x.1<=100/\x.2<=10000/\gsm (fs.take 100) 0=gsm ((fs.take 100).drop x.1) x.2) (λx=>fs.length - x.1) (0,0) ?_ ?_ ?_
 ·exact⟨Nat.zero_le _,Nat.zero_le _,Nat.zero_le _,rfl⟩
 ·simp -dsimp -implicitDefEqProofs (disch:=first|omega|assumption)
 intro T' f hT' ⟨i,n⟩ ⟨h1,h2,h3,h4⟩ ih;simp only at h1 h2 h3 h4 ih;have hgr:zmp ⟨sid,fs⟩=(decide (100<fs.length) || decide (5000<=gsm ((fs.take 100).drop i) n)):=by unfold zmp;rw[h4]
 by_cases c1:i<fs.length
 ·by_cases c2:i<100
  ·have ht:i<(fs.take 100).length:=by rw[List.length_take];omega
   have hd:(fs.take 100).drop i=fs[i]::(fs.take 100).drop (i+1):=by rw[List.drop_eq_getElem_cons ht,List.getElem_take]
   obtain⟨x,hx⟩: ∃x,fs[i]=x:=⟨_,rfl⟩;rw[hd,hx,zrQ]at h4 hgr;have c2':(i:Int)<100:=by omega
   by_cases c3:n<5000
   ·rw[if_pos c3]at h4
    obtain⟨xi,xn,xk,xd⟩:=x;simp only at h4
    by_cases c4:xn.size<=5000
    ·rw[Nat.min_eq_left (by omega)]at h4
     have c3':(n:Int)<5000:=by omega
     have c4': ¬ (5000:Int)<xn.size:=by omega
     simp -dsimp -implicitDefEqProofs (disch:=first|omega|assumption) [c1,c2,c2',c3,c3',c4',hx]
     refine ih (i+1,n+xn.size) _ _ ⟨c1,c2,by simp only;omega,h4⟩ (by simp only;omega) ?_
     simp -dsimp -implicitDefEqProofs (disch:=first|omega|assumption)
    ·rw[Nat.min_eq_right (by omega)]at h4
     have c3':(n:Int)<5000:=by omega
     have c4':(5000:Int)<xn.size:=by omega
     simp -dsimp -implicitDefEqProofs (disch:=first|omega|assumption) [c1,c2,c2',c3,c3',c4',hx]
     refine ih (i+1,n+5000) _ _ ⟨c1,c2,by simp only;omega,h4⟩ (by simp only;omega) ?_
     simp -dsimp -implicitDefEqProofs (disch:=first|omega|assumption)
   ·rw[if_neg c3,decide_eq_true (by omega:5000<=n),Bool.or_true]at hgr
    subst hT';rw[hgr]at hT;have c3': ¬ (n:Int)<5000:=by omega
    have c4':(5000:Int)<=n:=by omega
    by_cases c5:(100:Int)<fs.length
    ·simp -dsimp -implicitDefEqProofs (disch:=first|omega|assumption) [c1,c2,c2',c3,c3',c5]
     simpa -dsimp -implicitDefEqProofs (disch:=first|omega|assumption) using hT
    ·simp -dsimp -implicitDefEqProofs (disch:=first|omega|assumption) [c1,c2,c2',c3,c3',c5,c4']
     simpa -dsimp -implicitDefEqProofs (disch:=first|omega|assumption) using hT
  ·obtain rfl:i=100:=by omega
   by_cases c5:100<fs.length
   ·rw[decide_eq_true c5,Bool.true_or]at hgr
    subst hT';rw[hgr]at hT;have c5':(100:Int)<fs.length:=by omega
    simp -dsimp -implicitDefEqProofs (disch:=first|omega|assumption) [c1,c5']
    simpa -dsimp -implicitDefEqProofs (disch:=first|omega|assumption) using hT
   ·omega
 ·obtain rfl:i=fs.length:=by omega
  have e:(fs.take 100).drop fs.length=[]:=List.drop_eq_nil_of_le (by rw[List.length_take];omega)
  rw[e]at hgr;subst hT';rw[hgr]at hT;simp only[gsm]at hT
  by_cases c5:100<fs.length
  ·omega
  ·rw[decide_eq_false c5]at hT
   have c5': ¬ (100:Int)<fs.length:=by omega
   by_cases c6:5000<=n
   ·have c6':(5000:Int)<=n:=by omega
    simp -dsimp -implicitDefEqProofs (disch:=first|omega|assumption) [c1,c5',c6']
    simpa -dsimp -implicitDefEqProofs (disch:=first|omega|assumption) [c6]using hT
   ·have c6': ¬ (5000:Int)<=n:=by omega
    simp -dsimp -implicitDefEqProofs (disch:=first|omega|assumption) [c1,c5',c6']
    simpa -dsimp -implicitDefEqProofs (disch:=first|omega|assumption) [c6]using hT
def zk7 (l:List (List Cel)):List (List Cel):=(l.take 300).map λr=>(r.take 20).map fix
def zqr (r:List Cel):D:= .list (ce ((r.take 20).map fix))
def zsu (r:List Cel):D:= .list (vs (r.map zan))
@[simp] def zut (r:List Cel):(zqr r).cells=[zqr r]:=rfl
@[simp] def zuu (r:List Cel):(zsu r).cells=[zsu r]:=rfl
def zoq (l:List (List Cel)):List (List Val):=(zk7 l).map (·.map zan)
def zqh (l:List (List Cel)):(zoq l).map (·.map zag)=zk7 l:=by
 unfold zoq zk7;rw[List.map_map,List.map_map];refine List.map_congr_left λr _=> ?_
 show ((r.take 20).map fix |>.map zan).map zag=_
 rw[List.map_map,List.map_map];exact List.map_congr_left λc _=>zqc (zmU c)
def zor (l:List (List Cel)) (hl: ∀r∈l, ∀c∈r,c.kind<256/\c.s.size<=9223372036854775807) (hn:l.length<=9223372036854775807) (hr: ∀r∈l,r.length<=9223372036854775807):
 R 11 [.d (.list (zcx l))] []=some ([.arr 0 (zk7 l).length],[.arr 1 (zcx (zk7 l)) 0]):=by
 obtain⟨L,hL⟩: ∃L,L=l.take 300:=⟨_,rfl⟩;have hLl:L.length<=300/\L.length<=l.length:=by rw[hL,List.length_take];omega
 have hfl:zk7 l=L.map λr=>(r.take 20).map fix:=by rw[hL];rfl
 have hend:zcx (zk7 l)=zcY zqr L L.length:=by
  rw[zbk (Nat.le_refl _),hfl];exact List.map_map
 rw[hend,hfl,List.length_map];refine rg b11 rfl ?_;intro T hT;simp -dsimp -implicitDefEqProofs (disch:=first|omega|assumption)
 generalize hz:zaf _ _ _ _ _ _=z;revert z;refine zaa (σ:=Nat) (λi=>[(0,.d (.list (zcx l))),(3,.arr 0 i),(4,.d (.int .i64 i))]) (λi=>[.arr 1 (zcY zqr L i) 0]) (λi=>i<=L.length) (λi=>L.length - i) 0 ?_ ?_ ?_
 ·exact Nat.zero_le _
 ·simp -dsimp -implicitDefEqProofs (disch:=first|omega|assumption) [zaL]
 intro T' f hT' i hi ih
 by_cases h1:i<L.length
 ·have h2:i<l.length:=by omega
  have h3:i<300:=by omega
  have h3':(i:Int)<300:=by omega
  obtain⟨r,hr1⟩: ∃r,l[i]=r:=⟨_,rfl⟩;have hLr:L[i]=r:=by simp only[hL,List.getElem_take,hr1]
  have hrm:r∈l:=hr1 ▸ List.getElem_mem h2;have hrl:=hr r hrm;have hf:=zmi (r.take 20) (λc hc=>hl r hrm c (List.mem_of_mem_take hc)) (by rw[List.length_take];omega)
  have htk:=zaM (g:=zqr) h1;have hlen:=zai (g:=zqr) hi;rw[hLr]at htk
  by_cases h4:r.length<=20
  ·have e:r.take 20=r:=List.take_of_length_le (by omega)
   rw[e]at hf;have h4': ¬ (20:Int)<r.length:=by omega
   have e2:List.take r.length (ce r)=ce r:=List.take_of_length_le (by rw[List.length_map];omega)
   obtain⟨w,hw⟩: ∃w,w=r.map fix:=⟨_,rfl⟩;have hwl:w.length=r.length:=by rw[hw,List.length_map]
   have hfx:zqr r= .list (ce w):=by unfold zqr;rw[e,hw]
   rw[<- hw]at hf;rw[hfx]at htk;simp -dsimp -implicitDefEqProofs (disch:=first|omega|assumption) [h2,h3,h3',h4',hr1,hf,hlen,e2,hwl]
   refine ih (i+1) _ _ h1 (by omega) ?_
   rw[htk];simp -dsimp -implicitDefEqProofs (disch:=first|omega|assumption)
  ·have h4':(20:Int)<r.length:=by omega
   have e2:List.take 20 (ce r)=ce (r.take 20):=List.map_take.symm;obtain⟨q,hq⟩: ∃q,q=r.take 20:=⟨_,rfl⟩;have hql:q.length=20:=by rw[hq,List.length_take];omega
   obtain⟨w,hw⟩: ∃w,w=q.map fix:=⟨_,rfl⟩;have hwl:w.length=20:=by rw[hw,List.length_map,hql]
   rw[<- hq,<- hw,hql]at hf;rw[<- hq]at e2;have hfx:zqr r= .list (ce w):=by unfold zqr;rw[<- hq,hw]
   rw[hfx]at htk;simp -dsimp -implicitDefEqProofs (disch:=first|omega|assumption) [h2,h3,h3',h4',hr1,hf,hlen,e2,hwl]
   refine ih (i+1) _ _ h1 (by omega) ?_
   rw[htk];simp -dsimp -implicitDefEqProofs (disch:=first|omega|assumption)
 ·have e:i=L.length:=by omega
  subst e;have h5: ¬ (L.length<l.length/\L.length<300):=by rw[hL,List.length_take];omega
  subst hT'
  by_cases h6:L.length<l.length
  ·have h7: ¬ (L.length:Int)<300:=by omega
   simp -dsimp -implicitDefEqProofs (disch:=first|omega|assumption) [h6,h7]
   simpa -dsimp -implicitDefEqProofs (disch:=first|omega|assumption) using hT
  ·simp -dsimp -implicitDefEqProofs (disch:=first|omega|assumption) [h6]
   simpa -dsimp -implicitDefEqProofs (disch:=first|omega|assumption) using hT
def zos (L:List (List Cel)) (hl: ∀r∈L,r.length<=1000000/\ ∀c∈r,c.kind<256/\c.s.size<=9223372036854775807) (hn:L.length<=1000000):
 R 13 [.d (.list (zcx L))] []=some ([.arr 0 L.length],[.arr 1 (zfl (L.map (·.map zan))) 0]):=by
 have hend:zfl (L.map (·.map zan))=zcY zsu L L.length:=by
  rw[zbk (Nat.le_refl _)];exact List.map_map
 rw[hend];refine rg b13 rfl ?_;intro T hT;simp -dsimp -implicitDefEqProofs (disch:=first|omega|assumption)
 generalize hz:zaf _ _ _ _ _ _=z;revert z;refine zaa (σ:=Nat) (λi=>[(0,.d (.list (zcx L))),(3,.arr 0 i),(4,.d (.int .i64 i))]) (λi=>[.arr 1 (zcY zsu L i) 0]) (λi=>i<=L.length) (λi=>L.length - i) 0 ?_ ?_ ?_
 ·exact Nat.zero_le _
 ·simp -dsimp -implicitDefEqProofs (disch:=first|omega|assumption) [zaL]
 intro T' f hT' i hi ih
 by_cases h1:i<L.length
 ·obtain⟨r,hr1⟩: ∃r,L[i]=r:=⟨_,rfl⟩
  obtain⟨h2,h3⟩:=hl r (hr1 ▸ List.getElem_mem h1);have hf:=zrr r h3 h2;have htk:=zaM (g:=zsu) h1;have hlen:=zai (g:=zsu) hi;rw[hr1]at htk;obtain⟨w,hw⟩: ∃w,w=r.map zan:=⟨_,rfl⟩;have hwl:w.length=r.length:=by rw[hw,List.length_map]
  have hfx:zsu r= .list (vs w):=by unfold zsu;rw[hw]
  rw[<- hw]at hf;rw[hfx]at htk;simp -dsimp -implicitDefEqProofs (disch:=first|omega|assumption) [h1,hr1,hf,hlen,hwl]
  refine ih (i+1) _ _ h1 (by omega) ?_
  rw[htk];simp -dsimp -implicitDefEqProofs (disch:=first|omega|assumption)
 ·have e:i=L.length:=by omega
  subst e;subst hT';simp -dsimp -implicitDefEqProofs (disch:=first|omega|assumption)
  simpa -dsimp -implicitDefEqProofs (disch:=first|omega|assumption) using hT
end Go.Am.Ab
namespace Go.Am.Ab
open Go.Proofs
set_option maxHeartbeats 8000000
set_option maxRecDepth 4000
def zrS {s:Sch} (h:s.wf) (hg:zmp s=false):SchOk s:=by
 obtain⟨h1,h2⟩:=zrR hg;obtain⟨a,b,c,d⟩:=h;exact⟨by omega,h1,λf hf=>by
  obtain⟨p,q,r,t,u⟩:=d f hf;have:=h2 f hf;omega⟩
def ztD {l:List (List Cel)} (hl: ∀r∈l, ∀c∈r,c.kind<256/\zat c.n/\c.s.size<=9223372036854775807):
 (zoq l).length<=300/\(∀r∈zoq l,r.length<=20)/\(∀r∈zoq l, ∀n,Val.whole n∈r->zat n)/\ ∀r∈zk7 l,r.length<=1000000/\ ∀c∈r,c.kind<256/\c.s.size<=9223372036854775807:=by
 refine⟨by simp[zoq,zk7];omega,λr hr=> ?_,λr hr n hn=> ?_,λr hr=> ?_⟩
 ·obtain⟨q,hq,rfl⟩:=List.mem_map.1 hr
  obtain⟨p,hp,rfl⟩:=List.mem_map.1 hq;simp;omega
 ·obtain⟨q,hq,rfl⟩:=List.mem_map.1 hr
  obtain⟨p,hp,rfl⟩:=List.mem_map.1 hq;obtain⟨c,hc,e⟩:=List.mem_map.1 hn;obtain⟨d,hd,rfl⟩:=List.mem_map.1 hc;have hi:=(hl p (List.mem_of_mem_take hp) d (List.mem_of_mem_take hd)).2.1;have hk:(fix d).kind=1:=by rw[<- zjo (zmU d),e];rfl
  rw[zhF (zmU d) hk]at e;cases e;unfold fix;split
  ·exact hi
  ·show zat 0
   unfold zat;omega
 ·obtain⟨p,hp,rfl⟩:=List.mem_map.1 hr
  refine⟨by simp;omega,λc hc=> ?_⟩
  obtain⟨d,hd,rfl⟩:=List.mem_map.1 hc;obtain⟨h1,_,h2⟩:=hl p (List.mem_of_mem_take hp) d (List.mem_of_mem_take hd);unfold fix;split
  ·exact⟨h1,h2⟩
  ·exact⟨by decide,by decide⟩
@[simp] def qq9:zae G 9=false/\zab G 9=false:=by and_intros<;>decide +kernel
def zfn (s:Sch) (hs:s.wf) (l:List (List Cel)) (hl: ∀r∈l, ∀c∈r,c.kind<256/\zat c.n/\c.s.size<=9223372036854775807) (hn:l.length<=9223372036854775807) (hr: ∀r∈l,r.length<=9223372036854775807) (n:Int):
 R 3 [.d s.d,.d (.list (zcx l)),.d (.int .i64 n)] []=some ([.d (.bool true)],[]):=by
 have al:=zCC;have hg:=zop s hs.2.2.1;cases hg2:zmp s with
 |true=>
  rw[hg2]at hg;obtain⟨sid,fs⟩:=s;simp only[Sch.d]at hg ⊢;refine rg b3 rfl ?_;intro T hT;simp -dsimp -implicitDefEqProofs (disch:=first|omega|assumption) [al,hg]
  simpa -dsimp -implicitDefEqProofs (disch:=first|omega|assumption) using hT
 |false=>
  rw[hg2]at hg;have h0:=zrS hs hg2;obtain⟨v1,v2,v3,v4⟩:=ztD hl;have hf:=zor l (λr hr c hc=>⟨(hl r hr c hc).1,(hl r hr c hc).2.2⟩) hn hr
  have hv:=zos (zk7 l) v4 (by simp[zk7];omega)
  have hw:=zmn s (zoq l) n h0 (by omega) (λr hr=>by have:=v2 r hr;omega) v3
  have hw2:=zkZ s (zoq l) n h0 (by omega) (λr hr=>by have:=v2 r hr;omega) v3
  rw[zqh]at hw2;change R _ _ _=some (_,[.arr 1 (zfl (zoq l)) 0]) at hv;have e1:(zcx (zk7 l)).length=(zk7 l).length:=List.length_map _;have e2:(zfl (zoq l)).length=(zk7 l).length:=by simp[zoq]
  generalize zcx (zk7 l)=F at*;generalize zfl (zoq l)=V at*;generalize (zk7 l).length=m at*;generalize zhQ s (zoq l) n=w at*;obtain⟨b,e⟩:=w;have hM:=ziR b;obtain⟨sid,fs⟩:=s;simp only[Sch.d]at hg hw hw2 ⊢;simp only[WrR]at hw hw2;refine rg b3 rfl ?_;intro T hT;simp -dsimp -implicitDefEqProofs (disch:=first|omega|assumption) [al,hg,hf,hv,hw,hw2,e1,e2,hM]
  simpa -dsimp -implicitDefEqProofs (disch:=first|omega|assumption) using hT
def zrT {m:Nat} {x:D} (h:zbu Tryz.prog m 26 x): ∃l:List (List Cel),x= .list (zcx l)/\(∀r∈l,(∀c∈r,c.wf)/\r.length<=maxLen)/\l.length<=maxLen:=by
 obtain⟨ys,rfl,hl,ha⟩:=zf1 h Tryz.underlying26;obtain⟨l,rfl,hw⟩:=zjD (f:=λr=>D.list (ce r)) (p:=λr=>(∀c∈r,c.wf)/\r.length<=maxLen) (λy hy=>zqg (ha y hy))
 exact⟨l,rfl,hw,by simpa using hl⟩
end Go.Am.Ab
