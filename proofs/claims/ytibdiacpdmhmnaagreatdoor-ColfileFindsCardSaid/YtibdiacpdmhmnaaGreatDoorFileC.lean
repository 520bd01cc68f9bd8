/- What is written of any rows. -/
import Derived.Test.YtibdiacpdmhmnaaGreatDoorFileB
import Derived.Test.YtibdiacpdmhmnaaGreatDoorAli
import Derived.Test.YtibdiacpdmhmnaaGreatDoorCDec
set_option linter.all false
namespace Go.Am.Ab
open Go.Proofs
set_option maxHeartbeats 8000000
set_option maxRecDepth 4000
def gsm:List Fld->Nat->Nat
 |[],n=>n
 |f::fs,n=>if n<5000 then gsm fs (n+min f.name.size 5000) else n
def zyC (f:Fld) (fs:List Fld) (n:Nat):gsm (f::fs) n=if n<5000 then gsm fs (n+min f.name.size 5000) else n:=rfl
def zzG: ∀ (l:List Fld) (n:Nat),n<=gsm l n
 |[],_=>yaj _
 |f::fs,n=>by
  unfold gsm;split
  ·exact ya4 (yb0 _ _) (zzG fs _)
  ·exact yaj _
def zo9: ∀ (l:List Fld) (n:Nat),gsm l n<5000-> ∀f∈l,f.name.size<5000
 |[],_,_,f,h=>by simp at h
 |g::l,n,h,f,hf=>by
  unfold gsm at h;split at h
  ·rcases List.mem_cons.1 hf with rfl | hf
   ·have:=zzG l (n+min f.name.size 5000);omega
   ·exact zo9 l _ h f hf
  ·omega
def zqI (s:Sch):Bool:=decide (100<s.fields.length) || decide (5000<=gsm (s.fields.take 100) 0)
def zyD {s:Sch} (h:zqI s=false):s.fields.length<=100/\ ∀f∈s.fields,f.name.size<5000:=by
 unfold zqI at h;simp only[Bool.or_eq_false_iff,yaS]at h;have hl:s.fields.length<=100:=by omega
 rw[yaA hl]at h;exact⟨hl,zo9 _ 0 (by omega)⟩
def ztS (s:Sch) (hl:s.fields.length<=9223372036854775807):R 10 [.d s.d] []=some ([.d (.bool (zqI s))],[]):=by
 obtain⟨sid,fs⟩:=s;simp only at hl;simp only[Sch.d];refine rg b10 rfl ?_;intro T hT;simp -dsimp -implicitDefEqProofs (disch:=omega)
 generalize hz:zaf _ _ _ _ _ _=z;revert z;refine zaa (σ:=Nat × Nat) (λx=>[(1,.ptr 0 0),(3,.d (.int .i64 x.2)),(4,.d (.int .i64 x.1))]) (λx=>[.box [.d (.int .u32 sid),.d (.list (fs.map Fld.d))]]) (λx=>x.1<=fs.length/\x.1<=100/\x.2<=10000/\gsm (fs.take 100) 0=gsm ((fs.take 100).drop x.1) x.2) (λx=>fs.length - x.1) (0,0) ?_ ?_ ?_
 ·exact⟨yai _,yai _,yai _,rfl⟩
 ·simp -dsimp -implicitDefEqProofs (disch:=omega)
 intro T' f hT' ⟨i,n⟩ ⟨h1,h2,h3,h4⟩ ih;simp only at h1 h2 h3 h4 ih;have hgr:zqI ⟨sid,fs⟩=(decide (100<fs.length) || decide (5000<=gsm ((fs.take 100).drop i) n)):=by unfold zqI;rw[h4]
 by_cases c1:i<fs.length
 ·by_cases c2:i<100
  ·have ht:i<(fs.take 100).length:=by rw[yaq];omega
   have hd:(fs.take 100).drop i=fs[i]::(fs.take 100).drop (i+1):=by rw[yao ht,ycE]
   obtain⟨x,hx⟩: ∃x,fs[i]=x:=⟨_,rfl⟩;rw[hd,hx,zyC]at h4 hgr;have c2':(i:Int)<100:=by omega
   by_cases c3:n<5000
   ·rw[yag c3]at h4
    obtain⟨xi,xn,xk,xd⟩:=x;simp only at h4
    by_cases c4:xn.size<=5000
    ·rw[ybM (by omega)]at h4
     have c3':(n:Int)<5000:=by omega
     have c4': ¬ (5000:Int)<xn.size:=by omega
     simp -dsimp -implicitDefEqProofs (disch:=omega) [c1,c2,c2',c3,c3',c4',hx]
     refine ih (i+1,n+xn.size) _ _ ⟨c1,c2,by simp only;omega,h4⟩ (by simp only;omega) ?_
     simp -dsimp -implicitDefEqProofs (disch:=omega)
    ·rw[ych (by omega)]at h4
     have c3':(n:Int)<5000:=by omega
     have c4':(5000:Int)<xn.size:=by omega
     simp -dsimp -implicitDefEqProofs (disch:=omega) [c1,c2,c2',c3,c3',c4',hx]
     refine ih (i+1,n+5000) _ _ ⟨c1,c2,by simp only;omega,h4⟩ (by simp only;omega) ?_
     simp -dsimp -implicitDefEqProofs (disch:=omega)
   ·rw[yac c3,yaI (by omega:5000<=n),Bool.or_true]at hgr
    subst hT';rw[hgr]at hT;have c3': ¬ (n:Int)<5000:=by omega
    have c4':(5000:Int)<=n:=by omega
    by_cases c5:(100:Int)<fs.length
    ·simp -dsimp -implicitDefEqProofs (disch:=omega) [c1,c2,c2',c3,c3',c5]
     simpa -dsimp -implicitDefEqProofs (disch:=omega) using hT
    ·simp -dsimp -implicitDefEqProofs (disch:=omega) [c1,c2,c2',c3,c3',c5,c4']
     simpa -dsimp -implicitDefEqProofs (disch:=omega) using hT
  ·obtain rfl:i=100:=by omega
   by_cases c5:100<fs.length
   ·rw[yaI c5,ydy]at hgr
    subst hT';rw[hgr]at hT;have c5':(100:Int)<fs.length:=by omega
    simp -dsimp -implicitDefEqProofs (disch:=omega) [c1,c5']
    simpa -dsimp -implicitDefEqProofs (disch:=omega) using hT
   ·omega
 ·obtain rfl:i=fs.length:=by omega
  have e:(fs.take 100).drop fs.length=[]:=ybv (by rw[yaq];omega)
  rw[e]at hgr;subst hT';rw[hgr]at hT;simp only[gsm]at hT
  by_cases c5:100<fs.length
  ·omega
  ·rw[yaO c5]at hT
   have c5': ¬ (100:Int)<fs.length:=by omega
   by_cases c6:5000<=n
   ·have c6':(5000:Int)<=n:=by omega
    simp -dsimp -implicitDefEqProofs (disch:=omega) [c1,c5',c6']
    simpa -dsimp -implicitDefEqProofs (disch:=omega) [c6]using hT
   ·have c6': ¬ (5000:Int)<=n:=by omega
    simp -dsimp -implicitDefEqProofs (disch:=omega) [c1,c5',c6']
    simpa -dsimp -implicitDefEqProofs (disch:=omega) [c6]using hT
def zw6 (l:List (List Cel)):List (List Cel):=(l.take 300).map λr=>(r.take 20).map fix
def zw7 (r:List Cel):D:= .list (ce ((r.take 20).map fix))
def zzH (r:List Cel):D:= .list (vs (r.map zaA))
@[simp] def zBX (r:List Cel):(zw7 r).cells=[zw7 r]:=rfl
@[simp] def zBY (r:List Cel):(zzH r).cells=[zzH r]:=rfl
def zme (l:List (List Cel)):List (List Val):=(zw6 l).map (·.map zaA)
def zwt (l:List (List Cel)):(zme l).map (·.map cellOf)=zw6 l:=by
 unfold zme zw6;rw[yaQ,yaQ];refine ya0 λr _=> ?_
 show ((r.take 20).map fix |>.map zaA).map cellOf=_
 rw[yaQ,yaQ];exact ya0 λc _=>zky (zrk c)
def ztT (l:List (List Cel)) (hl: ∀r∈l, ∀c∈r,c.kind<256/\c.s.size<=9223372036854775807) (hn:l.length<=9223372036854775807) (hr: ∀r∈l,r.length<=9223372036854775807):
 R 11 [.d (.list (zbD l))] []=some ([.arr 0 (zw6 l).length],[.arr 1 (zbD (zw6 l)) 0]):=by
 obtain⟨L,hL⟩: ∃L,L=l.take 300:=⟨_,rfl⟩;have hLl:L.length<=300/\L.length<=l.length:=by rw[hL,yaq];omega
 have hfl:zw6 l=L.map λr=>(r.take 20).map fix:=by rw[hL];rfl
 have hend:zbD (zw6 l)=zeo zw7 L L.length:=by
  rw[zbg (yaj _),hfl];exact yaQ
 rw[hend,hfl,yah];refine rg b11 rfl ?_;intro T hT;simp -dsimp -implicitDefEqProofs (disch:=omega)
 generalize hz:zaf _ _ _ _ _ _=z;revert z;refine zaa (σ:=Nat) (λi=>[(0,.d (.list (zbD l))),(3,.arr 0 i),(4,.d (.int .i64 i))]) (λi=>[.arr 1 (zeo zw7 L i) 0]) (λi=>i<=L.length) (λi=>L.length - i) 0 ?_ ?_ ?_
 ·exact yai _
 ·simp -dsimp -implicitDefEqProofs (disch:=omega) [zaO]
 intro T' f hT' i hi ih
 by_cases h1:i<L.length
 ·have h2:i<l.length:=by omega
  have h3:i<300:=by omega
  have h3':(i:Int)<300:=by omega
  obtain⟨r,hr1⟩: ∃r,l[i]=r:=⟨_,rfl⟩;have hLr:L[i]=r:=by simp only[hL,ycE,hr1]
  have hrm:r∈l:=hr1 ▸ yam h2;have hrl:=hr r hrm;have hf:=zqz (r.take 20) (λc hc=>hl r hrm c (yaH hc)) (by rw[yaq];omega)
  have htk:=zaP (g:=zw7) h1;have hlen:=zak (g:=zw7) hi;rw[hLr]at htk
  by_cases h4:r.length<=20
  ·have e:r.take 20=r:=yaA (by omega)
   rw[e]at hf;have h4': ¬ (20:Int)<r.length:=by omega
   have e2:List.take r.length (ce r)=ce r:=yaA (by rw[yah];omega)
   obtain⟨w,hw⟩: ∃w,w=r.map fix:=⟨_,rfl⟩;have hwl:w.length=r.length:=by rw[hw,yah]
   have hfx:zw7 r= .list (ce w):=by unfold zw7;rw[e,hw]
   rw[<- hw]at hf;rw[hfx]at htk;simp -dsimp -implicitDefEqProofs (disch:=omega) [h2,h3,h3',h4',hr1,hf,hlen,e2,hwl]
   refine ih (i+1) _ _ h1 (by omega) ?_
   rw[htk];simp -dsimp -implicitDefEqProofs (disch:=omega)
  ·have h4':(20:Int)<r.length:=by omega
   have e2:List.take 20 (ce r)=ce (r.take 20):=List.map_take.symm;obtain⟨q,hq⟩: ∃q,q=r.take 20:=⟨_,rfl⟩;have hql:q.length=20:=by rw[hq,yaq];omega
   obtain⟨w,hw⟩: ∃w,w=q.map fix:=⟨_,rfl⟩;have hwl:w.length=20:=by rw[hw,yah,hql]
   rw[<- hq,<- hw,hql]at hf;rw[<- hq]at e2;have hfx:zw7 r= .list (ce w):=by unfold zw7;rw[<- hq,hw]
   rw[hfx]at htk;simp -dsimp -implicitDefEqProofs (disch:=omega) [h2,h3,h3',h4',hr1,hf,hlen,e2,hwl]
   refine ih (i+1) _ _ h1 (by omega) ?_
   rw[htk];simp -dsimp -implicitDefEqProofs (disch:=omega)
 ·have e:i=L.length:=by omega
  subst e;have h5: ¬ (L.length<l.length/\L.length<300):=by rw[hL,yaq];omega
  subst hT'
  by_cases h6:L.length<l.length
  ·have h7: ¬ (L.length:Int)<300:=by omega
   simp -dsimp -implicitDefEqProofs (disch:=omega) [h6,h7]
   simpa -dsimp -implicitDefEqProofs (disch:=omega) using hT
  ·simp -dsimp -implicitDefEqProofs (disch:=omega) [h6]
   simpa -dsimp -implicitDefEqProofs (disch:=omega) using hT
def ztU (L:List (List Cel)) (hl: ∀r∈L,r.length<=1000000/\ ∀c∈r,c.kind<256/\c.s.size<=9223372036854775807) (hn:L.length<=1000000):
 R 13 [.d (.list (zbD L))] []=some ([.arr 0 L.length],[.arr 1 (zaK (L.map (·.map zaA))) 0]):=by
 have hend:zaK (L.map (·.map zaA))=zeo zzH L L.length:=by
  rw[zbg (yaj _)];exact yaQ
 rw[hend];refine rg b13 rfl ?_;intro T hT;simp -dsimp -implicitDefEqProofs (disch:=omega)
 generalize hz:zaf _ _ _ _ _ _=z;revert z;refine zaa (σ:=Nat) (λi=>[(0,.d (.list (zbD L))),(3,.arr 0 i),(4,.d (.int .i64 i))]) (λi=>[.arr 1 (zeo zzH L i) 0]) (λi=>i<=L.length) (λi=>L.length - i) 0 ?_ ?_ ?_
 ·exact yai _
 ·simp -dsimp -implicitDefEqProofs (disch:=omega) [zaO]
 intro T' f hT' i hi ih
 by_cases h1:i<L.length
 ·obtain⟨r,hr1⟩: ∃r,L[i]=r:=⟨_,rfl⟩
  obtain⟨h2,h3⟩:=hl r (hr1 ▸ yam h1);have hf:=zx8 r h3 h2;have htk:=zaP (g:=zzH) h1;have hlen:=zak (g:=zzH) hi;rw[hr1]at htk;obtain⟨w,hw⟩: ∃w,w=r.map zaA:=⟨_,rfl⟩;have hwl:w.length=r.length:=by rw[hw,yah]
  have hfx:zzH r= .list (vs w):=by unfold zzH;rw[hw]
  rw[<- hw]at hf;rw[hfx]at htk;simp -dsimp -implicitDefEqProofs (disch:=omega) [h1,hr1,hf,hlen,hwl]
  refine ih (i+1) _ _ h1 (by omega) ?_
  rw[htk];simp -dsimp -implicitDefEqProofs (disch:=omega)
 ·have e:i=L.length:=by omega
  subst e;subst hT';simp -dsimp -implicitDefEqProofs (disch:=omega)
  simpa -dsimp -implicitDefEqProofs (disch:=omega) using hT
end Go.Am.Ab
namespace Go.Am.Ab
open Go.Proofs
set_option maxHeartbeats 8000000
set_option maxRecDepth 4000
def zyE {s:Sch} (h:s.wf) (hg:zqI s=false):SchOk s:=by
 obtain⟨h1,h2⟩:=zyD hg;obtain⟨a,b,c,d⟩:=h;exact⟨by omega,h1,λf hf=>by
  obtain⟨p,q,r,t,u⟩:=d f hf;have:=h2 f hf;omega⟩
def zAX {l:List (List Cel)} (hl: ∀r∈l, ∀c∈r,c.kind<256/\zah c.n/\c.s.size<=9223372036854775807):
 (zme l).length<=300/\(∀r∈zme l,r.length<=20)/\(∀r∈zme l, ∀n,Val.whole n∈r->zah n)/\ ∀r∈zw6 l,r.length<=1000000/\ ∀c∈r,c.kind<256/\c.s.size<=9223372036854775807:=by
 refine⟨by simp[zme,zw6];omega,λr hr=> ?_,λr hr n hn=> ?_,λr hr=> ?_⟩
 ·obtain⟨q,hq,rfl⟩:=List.mem_map.1 hr
  obtain⟨p,hp,rfl⟩:=List.mem_map.1 hq;simp;omega
 ·obtain⟨q,hq,rfl⟩:=List.mem_map.1 hr
  obtain⟨p,hp,rfl⟩:=List.mem_map.1 hq;obtain⟨c,hc,e⟩:=List.mem_map.1 hn;obtain⟨d,hd,rfl⟩:=List.mem_map.1 hc;have hi:=(hl p (yaH hp) d (yaH hd)).2.1;have hk:(fix d).kind=1:=by rw[<- zyk (zrk d),e];rfl
  rw[zoA (zrk d) hk]at e;cases e;unfold fix;split
  ·exact hi
  ·show zah 0
   unfold zah;omega
 ·obtain⟨p,hp,rfl⟩:=List.mem_map.1 hr
  refine⟨by simp;omega,λc hc=> ?_⟩
  obtain⟨d,hd,rfl⟩:=List.mem_map.1 hc;obtain⟨h1,_,h2⟩:=hl p (yaH hp) d (yaH hd);unfold fix;split
  ·exact⟨h1,h2⟩
  ·exact⟨by decide,by decide⟩
def zyF {m:Nat} {x:D} (h:zby Tryz.prog m 26 x): ∃l:List (List Cel),x= .list (zbD l)/\(∀r∈l,(∀c∈r,c.wf)/\r.length<=maxLen)/\l.length<=maxLen:=by
 obtain⟨ys,rfl,hl,ha⟩:=zfI h Tryz.underlying26;obtain⟨l,rfl,hw⟩:=zkG (f:=λr=>D.list (ce r)) (p:=λr=>(∀c∈r,c.wf)/\r.length<=maxLen) (λy hy=>zws (ha y hy))
 exact⟨l,rfl,hw,by simpa using hl⟩
end Go.Am.Ab
