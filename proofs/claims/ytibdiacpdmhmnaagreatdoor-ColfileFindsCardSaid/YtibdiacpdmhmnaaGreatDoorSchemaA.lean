/- Schemas. -/
import Derived.Test.YtibdiacpdmhmnaaGreatDoorBase
import Derived.Test.YtibdiacpdmhmnaaGreatDoorSignsB
import Derived.Test.YtibdiacpdmhmnaaGreatDoorVars
import Derived.Test.YtibdiacpdmhmnaaGreatDoorCellsA
set_option linter.all false
namespace Go.Am.Ab
open Go.Proofs
set_option maxHeartbeats 4000000
set_option maxRecDepth 4000
def zkO (x:Nat × Nat × Bool):Bool:=(decide (97<=x.1/\x.1<=122) || decide (x.1=95) || decide (127<x.1)) || (decide (48<=x.1/\x.1<=57) && decide (0<x.2.1))
def zoj (s:ByteArray):Bool:=decide (1<=s.size/\s.size<=16) && ((sgs s).all (·.2.2) && (sgs s).all zkO)
def zg7 {s:ByteArray} (h: ¬ (1<=s.size/\s.size<=16)):zoj s=false:=by unfold zoj;rw[yaO h];rfl
def zs4 (s:ByteArray) (hm:s.size<1000000000):R 82 [.d (.str s)] []=some ([.d (.bool (zoj s))],[]):=by
 have hcl:=zhR s hm
 by_cases h1:s.size<1
 ·have h1':(s.size:Int)<1:=by omega
  rw[zg7 (by omega)]
  refine rg b82 rfl ?_;intro T hT;simp -dsimp -implicitDefEqProofs (disch:=omega) [h1']
  simpa -dsimp -implicitDefEqProofs (disch:=omega) using hT
 have h1': ¬ (s.size:Int)<1:=by omega
 by_cases h2:16<s.size
 ·have h2':(16:Int)<s.size:=by omega
  rw[zg7 (by omega)]
  refine rg b82 rfl ?_;intro T hT;simp -dsimp -implicitDefEqProofs (disch:=omega) [h1',h2']
  simpa -dsimp -implicitDefEqProofs (disch:=omega) using hT
 have h2': ¬ (16:Int)<s.size:=by omega
 have e:zoj s=((sgs s).all (·.2.2) && (sgs s).all zkO):=by unfold zoj;rw[yaI ⟨by omega,by omega⟩];rfl
 rw[e];cases hall:(sgs s).all (·.2.2) with
 |false=>
  rw[hall]at hcl;refine rg b82 rfl ?_;intro T hT;simp -dsimp -implicitDefEqProofs (disch:=omega) [h1',h2',hcl]
  simpa -dsimp -implicitDefEqProofs (disch:=omega) using hT
 |true=>
  rw[hall]at hcl;rw[ybK];have hle: ∀x∈sgs s,x.1<=1114111:=λx hx=>(zod s s.size 0 x hx).1
  refine rg b82 rfl ?_;intro T hT;simp -dsimp -implicitDefEqProofs (disch:=omega) [h1',h2',hcl]
  generalize hz:zaf _ _ _ _ _ _=z;revert z;refine zaa (σ:=Nat × Nat) (λx=>[(19,.ptr 0 0)]) (λx=>[.siter s x.1]) (λx=>s.size<=x.2+x.1/\x.1<=s.size/\(sgs s).all zkO=(sgL s x.2 x.1).all zkO) (λx=>s.size - x.1) (0,s.size) ?_ ?_ ?_
  ·exact⟨by simp only;omega,yai _,rfl⟩
  ·simp -dsimp -implicitDefEqProofs (disch:=omega)
  intro T' f hT' ⟨i,m⟩ ⟨g1,g2,g3⟩ ih;simp only at g1 g2 g3 ih
  by_cases hi:i<s.size
  ·obtain⟨k,rfl,e1,e2⟩:=zfn hi g1
   have hw:=zc0 (s:=rst s i) (by rw[zaX g2];omega)
   have hp:=zdp (rst s i);rw[zaX g2]at hw;have hd:=zjT hi;rw[e1,ycB]at g3;generalize sig (rst s i)=x at*;obtain⟨c,w,ok⟩:=x;simp only at e2 hw hp g3 hd;have goOn:zkO (c,i,ok)=true->(sgs s).all zkO=(sgL s k (i+w)).all zkO:=λh=>by rw[g3,h,ybK]
   have stop:zkO (c,i,ok)=false->(sgs s).all zkO=false:=λh=>by rw[g3,h,yc8]
   clear g3
   by_cases a1:(97<=c/\c<=122)
   ·have b1:(97:Int)<=c:=by omega
    have b2:(c:Int)<=122:=by omega
    have g:=goOn (by unfold zkO;simp[a1])
    simp -dsimp -implicitDefEqProofs (disch:=omega) [hi,hd,b1,b2]
    refine ih (i+w,k) _ _ ⟨by simp only;omega,by simp only;omega,g⟩ (by simp only;omega) ?_
    simp -dsimp -implicitDefEqProofs (disch:=omega)
   by_cases a2:c=95
   ·have g:=goOn (by unfold zkO;simp[a2])
    have b0:(c:Int)=95:=by omega
    subst a2;simp -dsimp -implicitDefEqProofs (disch:=omega) [hi,hd]
    refine ih (i+w,k) _ _ ⟨by simp only;omega,by simp only;omega,g⟩ (by simp only;omega) ?_
    simp -dsimp -implicitDefEqProofs (disch:=omega)
   have b0: ¬ (c:Int)=95:=by omega
   by_cases a3:127<c
   ·have g:=goOn (by unfold zkO;simp[a3])
    have b3:(127:Int)<c:=by omega
    have b2: ¬ (c:Int)<=122:=by omega
    have b1:(97:Int)<=c:=by omega
    simp -dsimp -implicitDefEqProofs (disch:=omega) [hi,hd,b0,b1,b2,b3,a2]
    refine ih (i+w,k) _ _ ⟨by simp only;omega,by simp only;omega,g⟩ (by simp only;omega) ?_
    simp -dsimp -implicitDefEqProofs (disch:=omega)
   have b3: ¬ (127:Int)<c:=by omega
   by_cases a4:(48<=c/\c<=57)/\0<i
   ·have g:=goOn (by unfold zkO;simp[a4])
    have b1: ¬ (97:Int)<=c:=by omega
    have b4:(48:Int)<=c:=by omega
    have b5:(c:Int)<=57:=by omega
    have b6:(0:Int)<i:=by omega
    have b7:0<i:=by omega
    simp -dsimp -implicitDefEqProofs (disch:=omega) [hi,hd,b0,b1,b3,b4,b5,b6,b7,a2]
    refine ih (i+w,k) _ _ ⟨by simp only;omega,by simp only;omega,g⟩ (by simp only;omega) ?_
    simp -dsimp -implicitDefEqProofs (disch:=omega)
   ·have g:=stop (by unfold zkO;simp;omega)
    subst hT';rw[g]at hT
    by_cases b1:(97:Int)<=c
    ·have b2: ¬ (c:Int)<=122:=by omega
     have b4:(48:Int)<=c:=by omega
     have b5: ¬ (c:Int)<=57:=by omega
     simp -dsimp -implicitDefEqProofs (disch:=omega) [hi,hd,b0,b1,b2,b3,b4,b5,a2]
     simpa -dsimp -implicitDefEqProofs (disch:=omega) using hT
    ·by_cases b4:(48:Int)<=c
     ·by_cases b5:(c:Int)<=57
      ·have b6:i=0:=by omega
       subst b6;simp -dsimp -implicitDefEqProofs (disch:=omega) [hi,hd,b0,b1,b3,b4,b5,a2]
       simpa -dsimp -implicitDefEqProofs (disch:=omega) using hT
      ·simp -dsimp -implicitDefEqProofs (disch:=omega) [hi,hd,b0,b1,b3,b4,b5,a2]
       simpa -dsimp -implicitDefEqProofs (disch:=omega) using hT
     ·simp -dsimp -implicitDefEqProofs (disch:=omega) [hi,hd,b0,b1,b3,b4,a2]
      simpa -dsimp -implicitDefEqProofs (disch:=omega) using hT
  ·have:i=s.size:=by omega
   subst this;subst hT';rw[zhQ (ybx _)]at g3;rw[g3]at hT;simp -dsimp -implicitDefEqProofs (disch:=omega)
   simpa -dsimp -implicitDefEqProofs (disch:=omega) using hT
def zu6 (s:ByteArray) (k:Nat) (x:Nat × Nat × Bool) (h:(sgs s)[k]? =some x):decide (0<x.2.1)=decide (0<k):=by
 unfold sgs at h;cases k with
 |zero=>
  cases hs:s.size with
  |zero=>rw[hs]at h;simp[sgL]at h
  |succ m=>
   rw[hs]at h;simp only[sgL]at h;split at h
   ·simp only[yaF,yaa]at h
    rw[<- h]
   ·cases h
 |succ k=>
  cases hs:s.size with
  |zero=>rw[hs]at h;simp[sgL]at h
  |succ m=>
   rw[hs]at h;simp only[sgL]at h;split at h
   ·simp only[ybs]at h
    have h1:=zuU s m _ x (yay h);have h2:=zdp (rst s 0);rw[yaI (by omega),yaI (by omega)]
   ·simp at h
def zp5 (s:ByteArray) (hm:s.size<1000000000):R 56 [.d (.str s)] []=some ([.d (.bool (zoj s))],[]):=by
 have hs:=zck s hm
 by_cases h1:s.size<1
 ·have h1':(s.size:Int)<1:=by omega
  rw[zg7 (by omega)]
  refine rg b56 rfl ?_;intro T hT;simp -dsimp -implicitDefEqProofs (disch:=omega) [h1']
  simpa -dsimp -implicitDefEqProofs (disch:=omega) using hT
 have h1': ¬ (s.size:Int)<1:=by omega
 by_cases h2:16<s.size
 ·have h2':(16:Int)<s.size:=by omega
  rw[zg7 (by omega)]
  refine rg b56 rfl ?_;intro T hT;simp -dsimp -implicitDefEqProofs (disch:=omega) [h1',h2']
  simpa -dsimp -implicitDefEqProofs (disch:=omega) using hT
 have h2': ¬ (16:Int)<s.size:=by omega
 have e:zoj s=((sgs s).all (·.2.2) && (sgs s).all zkO):=by unfold zoj;rw[yaI ⟨by omega,by omega⟩];rfl
 rw[e];have hpl:=zu6 s;have hL:(sgs s).length<1000000000:=by have:=zcO s s.size 0;unfold sgs;omega
 generalize sgs s=L at*;refine rg b56 rfl ?_;intro T hT;simp -dsimp -implicitDefEqProofs (disch:=omega) [h1',h2',hs]
 generalize hz:zaf _ _ _ _ _ _=z;revert z;refine zaa (σ:=Nat) (λk=>[(3,.arr 0 L.length),(5,.d (.bool (L.all (·.2.2)))),(6,.d (.int .i64 k))]) (λ_=>[.arr 1 (zjS L) 0]) (λk=>k<=L.length/\(L.take k).all zkO=true) (λk=>L.length - k) 0 ?_ ?_ ?_
 ·exact⟨yai _,rfl⟩
 ·simp -dsimp -implicitDefEqProofs (disch:=omega)
 intro T' f hT' k ⟨g1,g2⟩ ih
 by_cases hk:k<L.length
 ·obtain⟨x,hx⟩: ∃x,L[k]=x:=⟨_,rfl⟩
  have hp:=hpl k x (by rw[yak hk,hx])
  have goOn:zkO x=true->(L.take (k+1)).all zkO=true:=λh=>by
   rw[ya3 hk,List.all_append,g2,hx];simp[h]
  have stop:zkO x=false->L.all zkO=false:=λh=>by
   rw[<- ycb];intro hh;have:=List.all_eq_true.1 hh x (hx ▸ yam hk);rw[h]at this;cases this
  obtain⟨c,p,ok⟩:=x;have ho:zkO (c,p,ok)=((decide (97<=c/\c<=122) || decide (c=95) || decide (127<c)) || (decide (48<=c/\c<=57) && decide (0<k))):=by unfold zkO;simp only[hp]
  rw[ho]at goOn stop;clear ho;clear hp hpl
  by_cases a1:(97<=c/\c<=122)
  ·have b1:(97:Int)<=c:=by omega
   have b2:(c:Int)<=122:=by omega
   have b4:(48:Int)<=c:=by omega
   have b5: ¬ (c:Int)<=57:=by omega
   have g:=goOn (by simp[a1])
   simp -dsimp -implicitDefEqProofs (disch:=omega) [hk,hx,b1,b2,b4,b5]
   refine ih (k+1) _ _ ⟨hk,g⟩ (by omega) ?_
   simp -dsimp -implicitDefEqProofs (disch:=omega)
  by_cases a2:c=95
  ·have g:=goOn (by simp[a2])
   subst a2;simp -dsimp -implicitDefEqProofs (disch:=omega) [hk,hx]
   refine ih (k+1) _ _ ⟨hk,g⟩ (by omega) ?_
   simp -dsimp -implicitDefEqProofs (disch:=omega)
  have b0: ¬ (c:Int)=95:=by omega
  by_cases a3:127<c
  ·have g:=goOn (by simp[a3])
   have b3:(127:Int)<c:=by omega
   have b2: ¬ (c:Int)<=122:=by omega
   have b1:(97:Int)<=c:=by omega
   have b4:(48:Int)<=c:=by omega
   have b5: ¬ (c:Int)<=57:=by omega
   simp -dsimp -implicitDefEqProofs (disch:=omega) [hk,hx,b0,b1,b2,b3,b4,b5,a2]
   refine ih (k+1) _ _ ⟨hk,g⟩ (by omega) ?_
   simp -dsimp -implicitDefEqProofs (disch:=omega)
  have b3: ¬ (127:Int)<c:=by omega
  by_cases b1:(97:Int)<=c
  ·have b2: ¬ (c:Int)<=122:=by omega
   have b4:(48:Int)<=c:=by omega
   have b5: ¬ (c:Int)<=57:=by omega
   have g:=stop (by simp;omega)
   subst hT';rw[g,ycn]at hT;simp -dsimp -implicitDefEqProofs (disch:=omega) [hk,hx,b0,b1,b2,b3,b4,b5,a2]
   simpa -dsimp -implicitDefEqProofs (disch:=omega) using hT
  ·by_cases b4:(48:Int)<=c
   ·by_cases b5:(c:Int)<=57
    ·cases k with
     |zero=>
      have g:=stop (by simp;omega)
      subst hT';rw[g,ycn]at hT;simp -dsimp -implicitDefEqProofs (disch:=omega) [hk,hx,b0,b1,b3,b4,b5,a2]
      simpa -dsimp -implicitDefEqProofs (disch:=omega) using hT
     |succ k=>
      have b6:(0:Int)<(k:Int)+1:=by omega
      have b7:(k:Int)+1<(L.length:Int):=by omega
      have b8:(k:Int)+1+1<=9223372036854775807:=by omega
      have g:=goOn (by simp;omega)
      simp -dsimp -implicitDefEqProofs (disch:=omega) [hk,b7,hx,b0,b1,b3,b4,b5,b6,a2]
      refine ih (k+1+1) _ _ ⟨hk,g⟩ (by omega) ?_
      simp -dsimp -implicitDefEqProofs (disch:=omega)
    ·have g:=stop (by simp;omega)
     subst hT';rw[g,ycn]at hT;simp -dsimp -implicitDefEqProofs (disch:=omega) [hk,hx,b0,b1,b3,b4,b5,a2]
     simpa -dsimp -implicitDefEqProofs (disch:=omega) using hT
   ·have g:=stop (by simp;omega)
    subst hT';rw[g,ycn]at hT;simp -dsimp -implicitDefEqProofs (disch:=omega) [hk,hx,b0,b1,b3,b4,a2]
    simpa -dsimp -implicitDefEqProofs (disch:=omega) using hT
 ·have:k=L.length:=by omega
  subst this;rw[yaW]at g2;subst hT';rw[g2,ybY]at hT;simp -dsimp -implicitDefEqProofs (disch:=omega)
  simpa -dsimp -implicitDefEqProofs (disch:=omega) using hT
end Go.Am.Ab
namespace Go.Am.Ab
open Go.Proofs
set_option maxHeartbeats 4000000
set_option maxRecDepth 4000
attribute [simp] V.plain
def zpk (nm:ByteArray) (l:List Fld):Bool:=l.any λg=>decide (g.name=nm)
def zzw (nm:ByteArray):List Fld->Nat->Int
 |[],_=> -1
 |g::r,i=>if g.name=nm then i else zzw nm r (i+1)
def zrl (nm:ByteArray): ∀ (l:List Fld) (i:Nat),decide (0<=zzw nm l i)=zpk nm l
 |[],i=>rfl
 |g::r,i=>by
  have ih:=zrl nm r (i+1);unfold zzw;unfold zpk at ih ⊢;rw[List.any_cons];split
  ·rename_i h
   rw[yaI h,ydy];exact yaI (by omega)
  ·rename_i h
   rw[yaO h,yck,ih]
def zpl (seen:List Fld) (prev:Int) (f:Fld):Int:=
 if f.id<=prev then 81 else if !zoj f.name || zpk f.name seen then 80 else if f.kind<1\/3<f.kind then 10
 else if f.need=seen.isEmpty/\ ¬ (seen.isEmpty=true/\f.kind=2) then 0 else 82
def zue:List Fld->Int->List Fld->Int
 |_,_,[]=>0
 |seen,prev,f::r=>if zpl seen prev f=0 then zue (seen++[f]) f.id r else zpl seen prev f
def zj6 (s:Sch):Int:=if s.id=0\/s.fields.length=0\/8<s.fields.length then 1 else zue [] 0 s.fields
def zc6 (fs:List Fld) (k:Nat):Int:=match k with | 0=>0 | k+1=>match fs[k]? with | some f=>f.id | none=>0
def zok {fs:List Fld} {k:Nat} {f:Fld} (hk:k<fs.length) (hf:fs[k]=f) (prev:Int):
 zue (fs.take k) prev (fs.drop k)=if zpl (fs.take k) prev f=0 then zue (fs.take (k+1)) f.id (fs.drop (k+1)) else zpl (fs.take k) prev f:=by
 rw[yao hk,hf,ya3 hk,hf];rfl
def zep {fs:List Fld} {k:Nat} {f:Fld} (hk:k<fs.length) (hf:fs[k]=f):zc6 fs (k+1)=f.id:=by
 simp only[zc6,yak hk,hf]
def zlN {fs:List Fld} {k:Nat} (hk:k<fs.length):(fs.take k).isEmpty=decide (k=0):=by
 cases k with
 |zero=>rfl
 |succ k=>cases fs with
  |nil=>simp at hk
  |cons f r=>rfl
def zp6 (k:Int):R 85 [.d (.int .u8 k)] []=some ([.d (.bool (decide (1<=k/\k<=3)))],[]):=by
 by_cases h1:1<=k
 ·by_cases h2:k<=3
  ·rw[yaI ⟨h1,h2⟩]
   refine rg b85 rfl ?_;intro T hT;simp -dsimp -implicitDefEqProofs (disch:=omega) [h1,h2]
   simpa -dsimp -implicitDefEqProofs (disch:=omega) using hT
  ·rw[yaO (λh=>h2 h.2)]
   refine rg b85 rfl ?_;intro T hT;simp -dsimp -implicitDefEqProofs (disch:=omega) [h1,h2]
   simpa -dsimp -implicitDefEqProofs (disch:=omega) using hT
 ·rw[yaO (λh=>h1 h.1)]
  refine rg b85 rfl ?_;intro T hT;simp -dsimp -implicitDefEqProofs (disch:=omega) [h1]
  simpa -dsimp -implicitDefEqProofs (disch:=omega) using hT
def zs5 (f g:Fld):R 84 [.d f.d,.ptr 0 0] [.box [.d (.int .u32 g.id),.d (.str g.name),.d (.int .u8 g.kind),.d (.bool g.need)]]=some ([.d (.bool (decide (f.name=g.name)))],[.box [.d (.int .u32 g.id),.d (.str g.name),.d (.int .u8 g.kind),.d (.bool g.need)]]):=by
 refine rg b84 rfl ?_;intro T hT;simp -dsimp -implicitDefEqProofs (disch:=omega) [zaS]
 simpa -dsimp -implicitDefEqProofs (disch:=omega) using hT
def zp7 (fs:List Fld) (g:Fld) (hl:fs.length<1000000000):R 124 [.d (.list (fs.map Fld.d)),.clo 84 [.ptr 0 0]] [.box [.d (.int .u32 g.id),.d (.str g.name),.d (.int .u8 g.kind),.d (.bool g.need)]]
 =some ([.d (.int .i64 (zzw g.name fs 0))],[.box [.d (.int .u32 g.id),.d (.str g.name),.d (.int .u8 g.kind),.d (.bool g.need)]]):=by
 refine rg zIU rfl ?_;intro T hT;simp -dsimp -implicitDefEqProofs (disch:=omega)
 generalize hz:zaf _ _ _ _ _ _=z;revert z;refine zaa (σ:=Nat) (λk=>[(0,.d (.list (fs.map Fld.d))),(1,.clo 84 [.ptr 0 0]),(7,.d (.int .i64 fs.length)),(8,.d (.int .i64 k))]) (λ_=>[.box [.d (.int .u32 g.id),.d (.str g.name),.d (.int .u8 g.kind),.d (.bool g.need)]]) (λk=>k<=fs.length/\zzw g.name fs 0=zzw g.name (fs.drop k) k) (λk=>fs.length - k) 0 ?_ ?_ ?_
 ·exact⟨yai _,rfl⟩
 ·simp -dsimp -implicitDefEqProofs (disch:=omega)
 intro T' f hT' k ⟨g1,g2⟩ ih
 by_cases hk:k<fs.length
 ·obtain⟨x,hx⟩: ∃x,fs[k]=x:=⟨_,rfl⟩
  have hs:=zs5 x g;rw[yao hk,hx]at g2;simp only[zzw]at g2
  by_cases he:x.name=g.name
  ·rw[yag he]at g2
   rw[yaI he]at hs;subst hT';rw[g2]at hT;obtain⟨xi,xn,xk,xd⟩:=x;simp only[Fld.d]at hs;simp -dsimp -implicitDefEqProofs (disch:=omega) [hk,hx,hs]
   simpa -dsimp -implicitDefEqProofs (disch:=omega) using hT
  ·rw[yac he]at g2
   rw[yaO he]at hs;obtain⟨xi,xn,xk,xd⟩:=x;simp only[Fld.d]at hs;simp -dsimp -implicitDefEqProofs (disch:=omega) [hk,hx,hs]
   refine ih (k+1) _ _ ⟨by omega,g2⟩ (by omega) ?_
   simp -dsimp -implicitDefEqProofs (disch:=omega) [wI]
 ·have:k=fs.length:=by omega
  subst this;rw[yca,show zzw g.name [] fs.length= -1 from rfl]at g2
  subst hT';rw[g2]at hT;simp -dsimp -implicitDefEqProofs (disch:=omega)
  simpa -dsimp -implicitDefEqProofs (disch:=omega) using hT
def zk3 (fs:List Fld) (g:Fld) (hl:fs.length<1000000000):R 83 [.d (.list (fs.map Fld.d)),.clo 84 [.ptr 0 0]] [.box [.d (.int .u32 g.id),.d (.str g.name),.d (.int .u8 g.kind),.d (.bool g.need)]]
 =some ([.d (.bool (zpk g.name fs))],[.box [.d (.int .u32 g.id),.d (.str g.name),.d (.int .u8 g.kind),.d (.bool g.need)]]):=by
 have h:=zp7 fs g hl;rw[<- zrl g.name fs 0];refine rg b83 rfl ?_;intro T hT;simp -dsimp -implicitDefEqProofs (disch:=omega) [h]
 simpa -dsimp -implicitDefEqProofs (disch:=omega) using hT
def zp8 {l:List Fld} {p:Int} {f:Fld} (h:f.id<=p):zpl l p f=81:=by unfold zpl;rw[yag h]
def zdZ {l:List Fld} {p:Int} {f:Fld} (h: ¬ f.id<=p) (h2:zoj f.name=false\/zpk f.name l=true):zpl l p f=80:=by
 unfold zpl;rw[yac h,yag];rcases h2 with h2 | h2 <;> simp[h2]
def zeW {l:List Fld} {p:Int} {f:Fld} (h: ¬ f.id<=p) (h2:zoj f.name=true) (h3:zpk f.name l=false) (h4:f.kind<1\/3<f.kind):zpl l p f=10:=by
 unfold zpl;rw[yac h,yac (by simp[h2,h3]),yag h4]
def zmJ {l:List Fld} {p:Int} {f:Fld} (h: ¬ f.id<=p) (h2:zoj f.name=true) (h3:zpk f.name l=false) (h4: ¬ (f.kind<1\/3<f.kind)):
 zpl l p f=if f.need=l.isEmpty/\ ¬ (l.isEmpty=true/\f.kind=2) then 0 else 82:=by
 unfold zpl;rw[yac h,yac (by simp[h2,h3]),yac h4]
def zj7 (s:Sch) (hid:0<=s.id) (hf: ∀f∈s.fields,f.name.size<1000000000) (hl:s.fields.length<1000000000):R 39 [.d s.d] []=some ([.d (.int .i64 (zj6 s))],[]):=by
 obtain⟨sid,fs⟩:=s;simp only at hid hf hl;unfold zj6;simp only
 by_cases h1:sid<1
 ·rw[yag (.inl (by omega))]
  refine rg b39 rfl ?_;intro T hT;simp -dsimp -implicitDefEqProofs (disch:=omega) [h1]
  simpa -dsimp -implicitDefEqProofs (disch:=omega) using hT
 by_cases h2:fs.length<1
 ·rw[yag (.inr (.inl (by omega)))]
  have h2':(fs.length:Int)<1:=by omega
  refine rg b39 rfl ?_;intro T hT;simp -dsimp -implicitDefEqProofs (disch:=omega) [h1,h2']
  simpa -dsimp -implicitDefEqProofs (disch:=omega) using hT
 have h2': ¬ (fs.length:Int)<1:=by omega
 by_cases h3:8<fs.length
 ·rw[yag (.inr (.inr h3))]
  have h3':(8:Int)<fs.length:=by omega
  refine rg b39 rfl ?_;intro T hT;simp -dsimp -implicitDefEqProofs (disch:=omega) [h1,h2',h3']
  simpa -dsimp -implicitDefEqProofs (disch:=omega) using hT
 have h3': ¬ (8:Int)<fs.length:=by omega
 rw[yac (by omega)]
 refine rg b39 rfl ?_;intro T hT;simp -dsimp -implicitDefEqProofs (disch:=omega) [h1,h2',h3']
 generalize hz:zaf _ _ _ _ _ _=z;revert z;refine zaa (σ:=Nat) (λk=>[(1,.ptr 0 0),(3,.d (.int .u32 (zc6 fs k))),(22,.d (.list (fs.map Fld.d))),(23,.d (.int .i64 fs.length)),(24,.d (.int .i64 k))]) (λ_=>[.box [.d (.int .u32 sid),.d (.list (fs.map Fld.d))]]) (λk=>k<=fs.length/\zue [] 0 fs=zue (fs.take k) (zc6 fs k) (fs.drop k)) (λk=>fs.length - k) 0 ?_ ?_ ?_
 ·exact⟨yai _,rfl⟩
 ·simp -dsimp -implicitDefEqProofs (disch:=omega) [zc6]
 intro T' fn hT' k ⟨g1,g2⟩ ih
 by_cases hk:k<fs.length
 ·obtain⟨x,hx⟩: ∃x,fs[k]=x:=⟨_,rfl⟩
  rw[zok hk hx]at g2;have hp:=zep hk hx;have hnm:=zs4 x.name (hf x (hx ▸ yam hk));have hcn:=zk3 (fs.take k) x (by rw[yaq];omega)
  rw[ybQ]at hcn;have he:=zlN hk;obtain⟨xi,xn,xk,xd⟩:=x;simp only at hnm hcn hp;generalize zc6 fs k=p at*
  by_cases a1:xi<=p
  ·rw[zp8 a1,yac (by decide)]at g2
   subst hT';rw[g2]at hT;simp -dsimp -implicitDefEqProofs (disch:=omega) [hk,hx,a1]
   simpa -dsimp -implicitDefEqProofs (disch:=omega) using hT
  cases a2:zoj xn with
  |false=>
   rw[zdZ a1 (.inl a2),yac (by decide)]at g2
   rw[a2]at hnm;subst hT';rw[g2]at hT;simp -dsimp -implicitDefEqProofs (disch:=omega) [hk,hx,a1,hnm]
   simpa -dsimp -implicitDefEqProofs (disch:=omega) using hT
  |true=>
  rw[a2]at hnm;cases a3:zpk xn (fs.take k) with
  |true=>
   rw[zdZ a1 (.inr a3),yac (by decide)]at g2
   rw[a3]at hcn;subst hT';rw[g2]at hT;simp -dsimp -implicitDefEqProofs (disch:=omega) [hk,hx,a1,hnm,hcn]
   simpa -dsimp -implicitDefEqProofs (disch:=omega) using hT
  |false=>
  rw[a3]at hcn;have hr:=zp6 xk
  by_cases a4:xk<1\/3<xk
  ·rw[zeW a1 a2 a3 a4,yac (by decide)]at g2
   rw[yaO (by omega)]at hr
   subst hT';rw[g2]at hT;simp -dsimp -implicitDefEqProofs (disch:=omega) [hk,hx,a1,hnm,hcn,hr]
   simpa -dsimp -implicitDefEqProofs (disch:=omega) using hT
  have hend:=zmJ (l:=fs.take k) (p:=p) (f:=⟨xi,xn,xk,xd⟩) a1 a2 a3 a4;rw[he]at hend;generalize zpl (fs.take k) p ⟨xi,xn,xk,xd⟩=c at g2 hend;rw[yaI (by omega)]at hr
  simp only at hend;cases k with
  |zero=>
   rw[yaI rfl]at hend;rw[yd0]at hcn;cases xd with
   |false=>
    rw[yac (by simp)]at hend
    rw[hend,yac (by decide)]at g2
    subst hT';rw[g2]at hT;simp -dsimp -implicitDefEqProofs (disch:=omega) [hk,hx,a1,hnm,hcn,hr]
    simpa -dsimp -implicitDefEqProofs (disch:=omega) using hT
   |true=>
    by_cases a5:xk=2
    ·rw[yac (by simp[a5])]at hend
     rw[hend,yac (by decide)]at g2
     subst hT';rw[g2]at hT;subst a5;simp -dsimp -implicitDefEqProofs (disch:=omega) [hk,hx,a1,hnm,hcn,hr]
     simpa -dsimp -implicitDefEqProofs (disch:=omega) using hT
    ·rw[yag (by simp[a5])]at hend
     rw[yag hend]at g2;simp -dsimp -implicitDefEqProofs (disch:=omega) [hk,hx,a1,hnm,hcn,hr,a5]
     have hp1:zc6 fs 1=xi:=hp;refine ih 1 _ _ ⟨by omega,by rw[hp1];exact g2⟩ (by omega) ?_
     simp -dsimp -implicitDefEqProofs (disch:=omega) [wI,hp1]
  |succ k=>
   rw[yaO (by omega)]at hend
   have b1: ¬ (k:Int)+1=0:=by omega
   have b2:(k:Int)+1<(fs.length:Int):=by omega
   cases xd with
   |true=>
    rw[yac (by simp)]at hend
    rw[hend,yac (by decide)]at g2
    subst hT';rw[g2]at hT;simp -dsimp -implicitDefEqProofs (disch:=omega) [hk,b2,hx,a1,hnm,hcn,hr,b1]
    simpa -dsimp -implicitDefEqProofs (disch:=omega) using hT
   |false=>
    rw[yag (by simp)]at hend
    rw[yag hend]at g2;simp -dsimp -implicitDefEqProofs (disch:=omega) [hk,b2,hx,a1,hnm,hcn,hr,b1]
    refine ih (k+1+1) _ _ ⟨by omega,by rw[hp];exact g2⟩ (by omega) ?_
    simp -dsimp -implicitDefEqProofs (disch:=omega) [wI,hp]
 ·have:k=fs.length:=by omega
  subst this;rw[yca,show ∀l p,zue l p []=0 from λ_ _=>rfl]at g2
  subst hT';rw[g2]at hT;simp -dsimp -implicitDefEqProofs (disch:=omega)
  simpa -dsimp -implicitDefEqProofs (disch:=omega) using hT
end Go.Am.Ab
namespace Go.Am.Ab
open Go.Proofs
set_option maxHeartbeats 4000000
set_option maxRecDepth 4000
def zs6 (fs:List Fld) (nm:ByteArray) (hl:fs.length<1000000000):R 57 [.d (.list (fs.map Fld.d)),.d (.str nm)] []=some ([.d (.bool (zpk nm fs))],[]):=by
 refine rg b57 rfl ?_;intro T hT;simp -dsimp -implicitDefEqProofs (disch:=omega)
 generalize hz:zaf _ _ _ _ _ _=z;revert z;refine zaa (σ:=Nat) (λk=>[(0,.d (.list (fs.map Fld.d))),(1,.d (.str nm)),(5,.d (.int .i64 k))]) (λ_=>[]) (λk=>k<=fs.length/\zpk nm fs=zpk nm (fs.drop k)) (λk=>fs.length - k) 0 ?_ ?_ ?_
 ·exact⟨yai _,rfl⟩
 ·simp -dsimp -implicitDefEqProofs (disch:=omega)
 intro T' f hT' k ⟨g1,g2⟩ ih
 by_cases hk:k<fs.length
 ·obtain⟨x,hx⟩: ∃x,fs[k]=x:=⟨_,rfl⟩
  rw[yao hk,hx,show zpk nm (x::fs.drop (k+1))=(decide (x.name=nm) || zpk nm (fs.drop (k+1))) from rfl]at g2
  obtain⟨xi,xn,xk,xd⟩:=x;simp only at g2
  by_cases he:xn=nm
  ·rw[yaI he,ydy]at g2
   subst hT';rw[g2]at hT;simp -dsimp -implicitDefEqProofs (disch:=omega) [hk,hx,zaS,he]
   simpa -dsimp -implicitDefEqProofs (disch:=omega) using hT
  ·rw[yaO he,yck]at g2
   simp -dsimp -implicitDefEqProofs (disch:=omega) [hk,hx,zaS,he]
   refine ih (k+1) _ _ ⟨by omega,g2⟩ (by omega) ?_
   simp -dsimp -implicitDefEqProofs (disch:=omega) [wI]
 ·have:k=fs.length:=by omega
  subst this;rw[yca,show zpk nm []=false from rfl]at g2
  subst hT';rw[g2]at hT;simp -dsimp -implicitDefEqProofs (disch:=omega)
  simpa -dsimp -implicitDefEqProofs (disch:=omega) using hT
def zol (s:Sch) (hid:0<=s.id) (hf: ∀f∈s.fields,0<=f.id/\f.name.size<1000000000) (hl:s.fields.length<1000000000):R 15 [.d s.d] []=some ([.d (.int .i64 (zj6 s))],[]):=by
 obtain⟨sid,fs⟩:=s;simp only at hid hf hl;unfold zj6;simp only
 by_cases h1:sid=0
 ·rw[yag (.inl h1)]
  subst h1;refine rg b15 rfl ?_;intro T hT;simp -dsimp -implicitDefEqProofs (disch:=omega)
  simpa -dsimp -implicitDefEqProofs (disch:=omega) using hT
 by_cases h2:fs.length=0
 ·rw[yag (.inr (.inl (by omega)))]
  have h2':fs=[]:=yaE h2;subst h2';refine rg b15 rfl ?_;intro T hT;simp -dsimp -implicitDefEqProofs (disch:=omega) [h1]
  simpa -dsimp -implicitDefEqProofs (disch:=omega) using hT
 have h2': ¬ fs=[]:=λe=>h2 (by rw[e];rfl)
 by_cases h3:8<fs.length
 ·rw[yag (.inr (.inr h3))]
  have h3':(8:Int)<fs.length:=by omega
  refine rg b15 rfl ?_;intro T hT;simp -dsimp -implicitDefEqProofs (disch:=omega) [h1,h2',h3']
  simpa -dsimp -implicitDefEqProofs (disch:=omega) using hT
 have h3': ¬ (8:Int)<fs.length:=by omega
 rw[yac (by omega)]
 refine rg b15 rfl ?_;intro T hT;simp -dsimp -implicitDefEqProofs (disch:=omega) [h1,h2',h3']
 generalize hz:zaf _ _ _ _ _ _=z;revert z;refine zaa (σ:=Nat) (λk=>[(1,.ptr 0 0),(3,.d (.int .i64 k))]) (λ_=>[.box [.d (.int .u32 sid),.d (.list (fs.map Fld.d))]]) (λk=>k<=fs.length/\zue [] 0 fs=zue (fs.take k) (zc6 fs k) (fs.drop k)) (λk=>fs.length - k) 0 ?_ ?_ ?_
 ·exact⟨yai _,rfl⟩
 ·simp -dsimp -implicitDefEqProofs (disch:=omega)
 intro T' fn hT' k ⟨g1,g2⟩ ih
 by_cases hk:k<fs.length
 ·obtain⟨x,hx⟩: ∃x,fs[k]=x:=⟨_,rfl⟩
  have hx0:=hf x (hx ▸ yam hk);rw[zok hk hx]at g2;have hp:=zep hk hx;have hnm:=zp5 x.name hx0.2;have hcn:=zs6 (fs.take k) x.name (by rw[yaq];omega)
  rw[ybQ]at hcn;have he:=zlN hk;obtain⟨xi,xn,xk,xd⟩:=x;simp only at hnm hcn hp hx0;have hi:xi=0\/(∃j,k=j+1/\xi<=zc6 fs k)\/(xi≠0/\ ¬ xi<=zc6 fs k):=by
   by_cases a:xi=0
   ·exact .inl a
   ·cases k with
    |zero=>exact .inr (.inr ⟨a,by simp only[zc6];omega⟩)
    |succ j=>
     by_cases b:xi<=zc6 fs (j+1)
     ·exact .inr (.inl ⟨j,rfl,b⟩)
     ·exact .inr (.inr ⟨a,b⟩)
  have hp0:0<=zc6 fs k:=by
   cases k with
   |zero=>exact ydL _
   |succ j=>
    have hj:j<fs.length:=by omega
    rw[zep hj rfl];exact (hf _ (yam hj)).1
  have hpv: ∀j,k=j+1-> ∃y:Fld, ∃hj:j<fs.length,fs[j]=y/\y.id=zc6 fs k:=λj e=>by
   subst e;have hj:j<fs.length:=by omega
   exact⟨fs[j],hj,rfl,(zep hj rfl).symm⟩
  generalize zc6 fs k=p at*;rcases hi with a0 | ⟨j,rfl,a1⟩ | ⟨a0,a1⟩
  ·rw[zp8 (by simp only;omega),yac (by decide)]at g2
   subst a0;subst hT';rw[g2]at hT;simp -dsimp -implicitDefEqProofs (disch:=omega) [hk,hx]
   simpa -dsimp -implicitDefEqProofs (disch:=omega) using hT
  ·rw[zp8 a1,yac (by decide)]at g2
   obtain⟨y,hj,hy,hyp⟩:=hpv j rfl;have b2:(j:Int)+1<(fs.length:Int):=by omega
   have b3:(0:Int)<(j:Int)+1:=by omega
   obtain⟨yi,yn,yk,yd⟩:=y;simp only at hyp;subst hyp;subst hT';rw[g2]at hT
   by_cases a0:xi=0
   ·subst a0
    simp -dsimp -implicitDefEqProofs (disch:=omega) [hk,b2,hx]
    simpa -dsimp -implicitDefEqProofs (disch:=omega) using hT
   ·simp -dsimp -implicitDefEqProofs (disch:=omega) [hk,b2,b3,hx,hy,hj,a0,a1]
    simpa -dsimp -implicitDefEqProofs (disch:=omega) using hT
  cases k with
  |zero=>
   rw[yd0]at hcn;cases a2:zoj xn with
   |false=>
    rw[zdZ a1 (.inl a2),yac (by decide)]at g2
    rw[a2]at hnm;subst hT';rw[g2]at hT;simp -dsimp -implicitDefEqProofs (disch:=omega) [hk,hx,a0,a1,hnm]
    simpa -dsimp -implicitDefEqProofs (disch:=omega) using hT
   |true=>
   rw[a2]at hnm;cases a3:zpk xn (fs.take 0) with
   |true=>
    rw[zdZ a1 (.inr a3),yac (by decide)]at g2
    rw[a3]at hcn;subst hT';rw[g2]at hT;simp -dsimp -implicitDefEqProofs (disch:=omega) [hk,hx,a0,a1,hnm,hcn]
    simpa -dsimp -implicitDefEqProofs (disch:=omega) using hT
   |false=>
   rw[a3]at hcn
   by_cases a4:xk<1
   ·rw[zeW a1 a2 a3 (.inl a4),yac (by decide)]at g2
    subst hT';rw[g2]at hT;simp -dsimp -implicitDefEqProofs (disch:=omega) [hk,hx,a0,a1,hnm,hcn,a4]
    simpa -dsimp -implicitDefEqProofs (disch:=omega) using hT
   by_cases a5:3<xk
   ·rw[zeW a1 a2 a3 (.inr a5),yac (by decide)]at g2
    subst hT';rw[g2]at hT;simp -dsimp -implicitDefEqProofs (disch:=omega) [hk,hx,a0,a1,hnm,hcn,a4,a5]
    simpa -dsimp -implicitDefEqProofs (disch:=omega) using hT
   have hend:=zmJ (l:=fs.take 0) (p:=p) (f:=⟨xi,xn,xk,xd⟩) a1 a2 a3 (λh=>h.elim a4 a5)
   rw[he]at hend;generalize zpl (fs.take 0) p ⟨xi,xn,xk,xd⟩=c at g2 hend;simp only at hend;cases xd with
   |false=>
    rw[yac (by simp)]at hend
    rw[hend,yac (by decide)]at g2
    subst hT';rw[g2]at hT;simp -dsimp -implicitDefEqProofs (disch:=omega) [hk,hx,a0,a1,hnm,hcn,a4,a5]
    simpa -dsimp -implicitDefEqProofs (disch:=omega) using hT
   |true=>
    by_cases a6:xk=2
    ·rw[yac (by simp[a6])]at hend
     rw[hend,yac (by decide)]at g2
     subst hT';rw[g2]at hT;subst a6;simp -dsimp -implicitDefEqProofs (disch:=omega) [hk,hx,a0,a1,hnm,hcn]
     simpa -dsimp -implicitDefEqProofs (disch:=omega) using hT
    ·rw[yag (by simp[a6])]at hend
     rw[yag hend]at g2;simp -dsimp -implicitDefEqProofs (disch:=omega) [hk,hx,a0,a1,hnm,hcn,a4,a5,a6]
     have hp1:zc6 fs 1=xi:=hp;refine ih 1 _ _ ⟨by omega,by rw[hp1];exact g2⟩ (by omega) ?_
     simp -dsimp -implicitDefEqProofs (disch:=omega) [wI]
  |succ j=>
   obtain⟨y,hj,hy,hyp⟩:=hpv j rfl;have b2:(j:Int)+1<(fs.length:Int):=by omega
   have b3:(0:Int)<(j:Int)+1:=by omega
   have b4: ¬ (j:Int)+1=0:=by omega
   obtain⟨yi,yn,yk,yd⟩:=y;simp only at hyp;subst hyp;cases a2:zoj xn with
   |false=>
    rw[zdZ a1 (.inl a2),yac (by decide)]at g2
    rw[a2]at hnm;subst hT';rw[g2]at hT;simp -dsimp -implicitDefEqProofs (disch:=omega) [hk,b2,b3,b4,hx,hy,hj,a0,a1,hnm]
    simpa -dsimp -implicitDefEqProofs (disch:=omega) using hT
   |true=>
   rw[a2]at hnm;cases a3:zpk xn (fs.take (j+1)) with
   |true=>
    rw[zdZ a1 (.inr a3),yac (by decide)]at g2
    rw[a3]at hcn;subst hT';rw[g2]at hT;simp -dsimp -implicitDefEqProofs (disch:=omega) [hk,b2,b3,b4,hx,hy,hj,a0,a1,hnm,hcn]
    simpa -dsimp -implicitDefEqProofs (disch:=omega) using hT
   |false=>
   rw[a3]at hcn
   by_cases a4:xk<1
   ·rw[zeW a1 a2 a3 (.inl a4),yac (by decide)]at g2
    subst hT';rw[g2]at hT;simp -dsimp -implicitDefEqProofs (disch:=omega) [hk,b2,b3,b4,hx,hy,hj,a0,a1,hnm,hcn,a4]
    simpa -dsimp -implicitDefEqProofs (disch:=omega) using hT
   by_cases a5:3<xk
   ·rw[zeW a1 a2 a3 (.inr a5),yac (by decide)]at g2
    subst hT';rw[g2]at hT;simp -dsimp -implicitDefEqProofs (disch:=omega) [hk,b2,b3,b4,hx,hy,hj,a0,a1,hnm,hcn,a4,a5]
    simpa -dsimp -implicitDefEqProofs (disch:=omega) using hT
   have hend:=zmJ (l:=fs.take (j+1)) (p:=yi) (f:=⟨xi,xn,xk,xd⟩) a1 a2 a3 (λh=>h.elim a4 a5)
   rw[he]at hend;generalize zpl (fs.take (j+1)) yi ⟨xi,xn,xk,xd⟩=c at g2 hend;simp only at hend;rw[yaO (by omega)]at hend
   cases xd with
   |true=>
    rw[yac (by simp)]at hend
    rw[hend,yac (by decide)]at g2
    subst hT';rw[g2]at hT;simp -dsimp -implicitDefEqProofs (disch:=omega) [hk,b2,b3,b4,hx,hy,hj,a0,a1,hnm,hcn,a4,a5]
    simpa -dsimp -implicitDefEqProofs (disch:=omega) using hT
   |false=>
    rw[yag (by simp)]at hend
    rw[yag hend]at g2;simp -dsimp -implicitDefEqProofs (disch:=omega) [hk,b2,b3,b4,hx,hy,hj,a0,a1,hnm,hcn,a4,a5]
    refine ih (j+1+1) _ _ ⟨by omega,by rw[hp];exact g2⟩ (by omega) ?_
    simp -dsimp -implicitDefEqProofs (disch:=omega) [wI]
 ·have:k=fs.length:=by omega
  subst this;rw[yca,show ∀l p,zue l p []=0 from λ_ _=>rfl]at g2
  subst hT';rw[g2]at hT;simp -dsimp -implicitDefEqProofs (disch:=omega)
  simpa -dsimp -implicitDefEqProofs (disch:=omega) using hT
end Go.Am.Ab
namespace Go.Am.Ab
open Go.Proofs
set_option maxHeartbeats 4000000
set_option maxRecDepth 4000
def zi7 (f:Fld) (v:Val):Int:=
 match v with
 |.null=>if f.need=true then 82 else 0
 |.text s=>if f.kind≠3 then 10 else if 64<s.size then 5 else 0
 |v=>if f.kind≠v.kind then 10 else 0
def zu7:List Fld->List Val->Int
 |f::fs,v::vs=>if zi7 f v=0 then zu7 fs vs else zi7 f v
 |_,_=>0
def fit (s:Sch) (l:List Val):Int:=if l.length≠s.fields.length then 1 else zu7 s.fields l
def zg8 {xi:Int} {xn:ByteArray} {xd:Bool} {t:ByteArray}:zi7 ⟨xi,xn,3,xd⟩ (.text t)=if 64<t.size then 5 else 0:=rfl
def zom {fs:List Fld} {l:List Val} {k:Nat} {f:Fld} {v:Val} (hk:k<fs.length) (hl:k<l.length) (hf:fs[k]=f) (hv:l[k]=v):
 zu7 (fs.drop k) (l.drop k)=if zi7 f v=0 then zu7 (fs.drop (k+1)) (l.drop (k+1)) else zi7 f v:=by
 rw[yao hk,yao hl,hf,hv];rfl
def zrm (fs:List Fld) (l:List Val) {k:Nat} (hk:fs.length<=k):zu7 (fs.drop k) (l.drop k)=0:=by
 rw[ybv hk];rfl
def zx9 (s:Sch) (l:List Val) (hl:s.fields.length<1000000000) (hm:l.length<1000000000):R 40 [.d s.d,.d (.list (vs l))] []=some ([.d (.int .i64 (fit s l))],[]):=by
 obtain⟨sid,fs⟩:=s;simp only at hl;unfold fit;simp only
 by_cases h1:l.length=fs.length
 ·rw[yac (ycl h1)]
  have h1':(l.length:Int)=fs.length:=by omega
  refine rg b40 rfl ?_;intro T hT;simp -dsimp -implicitDefEqProofs (disch:=omega) [h1']
  generalize hz:zaf _ _ _ _ _ _=z;revert z;refine zaa (σ:=Nat) (λk=>[(1,.d (.list (vs l))),(16,.d (.list (fs.map Fld.d))),(17,.d (.int .i64 fs.length)),(18,.d (.int .i64 k))]) (λ_=>[]) (λk=>k<=fs.length/\zu7 fs l=zu7 (fs.drop k) (l.drop k)) (λk=>fs.length - k) 0 ?_ ?_ ?_
  ·exact⟨yai _,rfl⟩
  ·simp -dsimp -implicitDefEqProofs (disch:=omega)
  intro T' fn hT' k ⟨g1,g2⟩ ih
  by_cases hk:k<fs.length
  ·have hk2:k<l.length:=by omega
   obtain⟨x,hx⟩: ∃x,fs[k]=x:=⟨_,rfl⟩;obtain⟨v,hv⟩: ∃v,l[k]=v:=⟨_,rfl⟩;rw[zom hk hk2 hx hv]at g2;obtain⟨xi,xn,xk,xd⟩:=x;cases v with
   |null=>
    cases xd with
    |true=>
     rw[show zi7 ⟨xi,xn,xk,true⟩ .null=82 from rfl,yac (by decide)]at g2
     subst hT';rw[g2]at hT;simp -dsimp -implicitDefEqProofs (disch:=omega) [hk,hk2,hx,hv,Val.d]
     simpa -dsimp -implicitDefEqProofs (disch:=omega) using hT
    |false=>
     rw[show zi7 ⟨xi,xn,xk,false⟩ .null=0 from rfl,yag rfl]at g2
     simp -dsimp -implicitDefEqProofs (disch:=omega) [hk,hk2,hx,hv,Val.d]
     refine ih (k+1) _ _ ⟨by omega,g2⟩ (by omega) ?_
     simp -dsimp -implicitDefEqProofs (disch:=omega) [wI]
   |whole n=>
    have hko:R 86 [.d (.iface 2 (.int .i64 n))] []=some ([.d (.int .u8 1)],[]):=zbw (.whole n)
    by_cases a1:(1:Int)=xk
    ·subst a1
     rw[show zi7 ⟨xi,xn,1,xd⟩ (.whole n)=0 from rfl,yag rfl]at g2
     simp -dsimp -implicitDefEqProofs (disch:=omega) [hk,hk2,hx,hv,Val.d,hko]
     refine ih (k+1) _ _ ⟨by omega,g2⟩ (by omega) ?_
     simp -dsimp -implicitDefEqProofs (disch:=omega) [wI]
    ·rw[show zi7 ⟨xi,xn,xk,xd⟩ (.whole n)=10 from yag (λh=>a1 h.symm),yac (by decide)]at g2
     subst hT';rw[g2]at hT;simp -dsimp -implicitDefEqProofs (disch:=omega) [hk,hk2,hx,hv,Val.d,hko,a1]
     simpa -dsimp -implicitDefEqProofs (disch:=omega) using hT
   |truth b=>
    have hko:R 86 [.d (.iface 4 (.bool b))] []=some ([.d (.int .u8 2)],[]):=zbw (.truth b)
    by_cases a1:(2:Int)=xk
    ·subst a1
     rw[show zi7 ⟨xi,xn,2,xd⟩ (.truth b)=0 from rfl,yag rfl]at g2
     simp -dsimp -implicitDefEqProofs (disch:=omega) [hk,hk2,hx,hv,Val.d,hko]
     refine ih (k+1) _ _ ⟨by omega,g2⟩ (by omega) ?_
     simp -dsimp -implicitDefEqProofs (disch:=omega) [wI]
    ·rw[show zi7 ⟨xi,xn,xk,xd⟩ (.truth b)=10 from yag (λh=>a1 h.symm),yac (by decide)]at g2
     subst hT';rw[g2]at hT;simp -dsimp -implicitDefEqProofs (disch:=omega) [hk,hk2,hx,hv,Val.d,hko,a1]
     simpa -dsimp -implicitDefEqProofs (disch:=omega) using hT
   |text t=>
    have hko:R 86 [.d (.iface 9 (.str t))] []=some ([.d (.int .u8 3)],[]):=zbw (.text t)
    by_cases a1:(3:Int)=xk
    ·subst a1
     by_cases a2:64<t.size
     ·have a2':(64:Int)<t.size:=by omega
      rw[zg8,yag a2,yac (by decide)]at g2
      subst hT';rw[g2]at hT;simp -dsimp -implicitDefEqProofs (disch:=omega) [hk,hk2,hx,hv,Val.d,hko,a2']
      simpa -dsimp -implicitDefEqProofs (disch:=omega) using hT
     ·have a2': ¬ (64:Int)<t.size:=by omega
      rw[zg8,yac a2,yag rfl]at g2;simp -dsimp -implicitDefEqProofs (disch:=omega) [hk,hk2,hx,hv,Val.d,hko,a2']
      refine ih (k+1) _ _ ⟨by omega,g2⟩ (by omega) ?_
      simp -dsimp -implicitDefEqProofs (disch:=omega) [wI]
    ·rw[show zi7 ⟨xi,xn,xk,xd⟩ (.text t)=10 from yag (λh=>a1 h.symm),yac (by decide)]at g2
     subst hT';rw[g2]at hT;simp -dsimp -implicitDefEqProofs (disch:=omega) [hk,hk2,hx,hv,Val.d,hko,a1]
     simpa -dsimp -implicitDefEqProofs (disch:=omega) using hT
  ·have:k=fs.length:=by omega
   subst this;rw[zrm _ _ (yaj _)]at g2;subst hT';rw[g2]at hT;simp -dsimp -implicitDefEqProofs (disch:=omega)
   simpa -dsimp -implicitDefEqProofs (disch:=omega) using hT
 ·rw[yag h1]
  have h1': ¬ (l.length:Int)=fs.length:=by omega
  refine rg b40 rfl ?_;intro T hT;simp -dsimp -implicitDefEqProofs (disch:=omega) [h1']
  simpa -dsimp -implicitDefEqProofs (disch:=omega) using hT
def zu8 (s:Sch) (l:List Val) (hl:s.fields.length<1000000000) (hm:l.length<1000000000):R 50 [.d s.d,.d (.list (ce (l.map cellOf)))] []=some ([.d (.int .i64 (fit s l))],[]):=by
 obtain⟨sid,fs⟩:=s;simp only at hl;unfold fit;simp only
 by_cases h1:l.length=fs.length
 ·rw[yac (ycl h1)]
  have h1':(l.length:Int)=fs.length:=by omega
  refine rg b50 rfl ?_;intro T hT;simp -dsimp -implicitDefEqProofs (disch:=omega) [h1']
  generalize hz:zaf _ _ _ _ _ _=z;revert z;refine zaa (σ:=Nat) (λk=>[(1,.d (.list (ce (l.map cellOf)))),(2,.ptr 0 0),(5,.d (.int .i64 k))]) (λ_=>[.box [.d (.int .u32 sid),.d (.list (fs.map Fld.d))]]) (λk=>k<=fs.length/\zu7 fs l=zu7 (fs.drop k) (l.drop k)) (λk=>fs.length - k) 0 ?_ ?_ ?_
  ·exact⟨yai _,rfl⟩
  ·simp -dsimp -implicitDefEqProofs (disch:=omega)
  intro T' fn hT' k ⟨g1,g2⟩ ih
  by_cases hk:k<fs.length
  ·have hk2:k<l.length:=by omega
   obtain⟨x,hx⟩: ∃x,fs[k]=x:=⟨_,rfl⟩;obtain⟨v,hv⟩: ∃v,l[k]=v:=⟨_,rfl⟩;rw[zom hk hk2 hx hv]at g2;obtain⟨xi,xn,xk,xd⟩:=x;cases v with
   |null=>
    cases xd with
    |true=>
     rw[show zi7 ⟨xi,xn,xk,true⟩ .null=82 from rfl,yac (by decide)]at g2
     subst hT';rw[g2]at hT;simp -dsimp -implicitDefEqProofs (disch:=omega) [h1',hk,hk2,hx,hv,cellOf,Cel.none,Cel.d]
     simpa -dsimp -implicitDefEqProofs (disch:=omega) using hT
    |false=>
     rw[show zi7 ⟨xi,xn,xk,false⟩ .null=0 from rfl,yag rfl]at g2
     simp -dsimp -implicitDefEqProofs (disch:=omega) [h1',hk,hk2,hx,hv,cellOf,Cel.none,Cel.d]
     refine ih (k+1) _ _ ⟨by omega,g2⟩ (by omega) ?_
     simp -dsimp -implicitDefEqProofs (disch:=omega) [wI]
   |whole n=>
    by_cases a1:(1:Int)=xk
    ·subst a1
     rw[show zi7 ⟨xi,xn,1,xd⟩ (.whole n)=0 from rfl,yag rfl]at g2
     simp -dsimp -implicitDefEqProofs (disch:=omega) [h1',hk,hk2,hx,hv,cellOf,Cel.none,Cel.d]
     refine ih (k+1) _ _ ⟨by omega,g2⟩ (by omega) ?_
     simp -dsimp -implicitDefEqProofs (disch:=omega) [wI]
    ·rw[show zi7 ⟨xi,xn,xk,xd⟩ (.whole n)=10 from yag (λh=>a1 h.symm),yac (by decide)]at g2
     subst hT';rw[g2]at hT;simp -dsimp -implicitDefEqProofs (disch:=omega) [h1',hk,hk2,hx,hv,cellOf,Cel.none,Cel.d,a1]
     simpa -dsimp -implicitDefEqProofs (disch:=omega) using hT
   |truth b=>
    by_cases a1:(2:Int)=xk
    ·subst a1
     rw[show zi7 ⟨xi,xn,2,xd⟩ (.truth b)=0 from rfl,yag rfl]at g2
     simp -dsimp -implicitDefEqProofs (disch:=omega) [h1',hk,hk2,hx,hv,cellOf,Cel.none,Cel.d]
     refine ih (k+1) _ _ ⟨by omega,g2⟩ (by omega) ?_
     simp -dsimp -implicitDefEqProofs (disch:=omega) [wI]
    ·rw[show zi7 ⟨xi,xn,xk,xd⟩ (.truth b)=10 from yag (λh=>a1 h.symm),yac (by decide)]at g2
     subst hT';rw[g2]at hT;simp -dsimp -implicitDefEqProofs (disch:=omega) [h1',hk,hk2,hx,hv,cellOf,Cel.none,Cel.d,a1]
     simpa -dsimp -implicitDefEqProofs (disch:=omega) using hT
   |text t=>
    by_cases a1:(3:Int)=xk
    ·subst a1
     by_cases a2:64<t.size
     ·have a2':(64:Int)<t.size:=by omega
      rw[zg8,yag a2,yac (by decide)]at g2
      subst hT';rw[g2]at hT;simp -dsimp -implicitDefEqProofs (disch:=omega) [h1',hk,hk2,hx,hv,cellOf,Cel.none,Cel.d,a2']
      simpa -dsimp -implicitDefEqProofs (disch:=omega) using hT
     ·have a2': ¬ (64:Int)<t.size:=by omega
      rw[zg8,yac a2,yag rfl]at g2;simp -dsimp -implicitDefEqProofs (disch:=omega) [h1',hk,hk2,hx,hv,cellOf,Cel.none,Cel.d,a2']
      refine ih (k+1) _ _ ⟨by omega,g2⟩ (by omega) ?_
      simp -dsimp -implicitDefEqProofs (disch:=omega) [wI]
    ·rw[show zi7 ⟨xi,xn,xk,xd⟩ (.text t)=10 from yag (λh=>a1 h.symm),yac (by decide)]at g2
     subst hT';rw[g2]at hT;simp -dsimp -implicitDefEqProofs (disch:=omega) [h1',hk,hk2,hx,hv,cellOf,Cel.none,Cel.d,a1]
     simpa -dsimp -implicitDefEqProofs (disch:=omega) using hT
  ·have:k=fs.length:=by omega
   subst this;rw[zrm _ _ (yaj _)]at g2;subst hT';rw[g2]at hT;simp -dsimp -implicitDefEqProofs (disch:=omega) [h1']
   simpa -dsimp -implicitDefEqProofs (disch:=omega) using hT
 ·rw[yag h1]
  have h1': ¬ (l.length:Int)=fs.length:=by omega
  refine rg b50 rfl ?_;intro T hT;simp -dsimp -implicitDefEqProofs (disch:=omega) [h1']
  simpa -dsimp -implicitDefEqProofs (disch:=omega) using hT
end Go.Am.Ab
namespace Go.Am.Ab
open Go.Proofs
set_option maxHeartbeats 4000000
set_option maxRecDepth 4000
abbrev tx (s:ByteArray):List UInt8:=s.data.toList
def zg9 (b:Bool):List UInt8:=[if b then 1 else 0]
def zeX (f:Fld):List UInt8:=put f.id.toNat++(put f.name.size++(tx f.name++(put f.kind.toNat++zg9 f.need)))
def zk4 (s:Sch):List UInt8:=put s.id.toNat++put s.fields.length
def zmK (s:Sch):List UInt8:=zk4 s++s.fields.flatMap zeX
structure SchOk (s:Sch):Prop where
 id:0<=s.id/\s.id<4294967296
 len:s.fields.length<=100
 fld: ∀f∈s.fields,0<=f.id/\f.id<4294967296/\0<=f.kind/\f.kind<256/\f.name.size<5000
def zu9 {f:Fld} (h:f.name.size<5000) (h1:f.id<4294967296) (h2:f.kind<256):(zeX f).length<=5031:=by
 unfold zeX zg9 tx;have a:=zaq (n:=f.id.toNat) (by omega)
 have b:=zaq (n:=f.name.size) (by omega)
 have c:=zaq (n:=f.kind.toNat) (by omega)
 have d:f.name.data.toList.length=f.name.size:=by simp
 simp only[yae,yaf,yaz];omega
def zrn {fs:List Fld} (hf: ∀f∈fs,0<=f.id/\f.id<4294967296/\0<=f.kind/\f.kind<256/\f.name.size<5000):(fs.flatMap zeX).length<=5031*fs.length:=by
 induction fs with
 |nil=>simp
 |cons f r ih=>
  obtain⟨_,a,_,b,c⟩:=hf f (by simp)
  have:=zu9 c a b;have:=ih λg hg=>hf g (by simp[hg])
  simp only[ya5,yae,yaf];omega
def zva {fs:List Fld} {k:Nat} {f:Fld} (hk:k<fs.length) (hf:fs[k]=f):(fs.take (k+1)).flatMap zeX=(fs.take k).flatMap zeX++zeX f:=by
 rw[ya3 hk,hf,yds];simp
def zs7 (s:Sch) (h:SchOk s):R 41 [.d s.d] []=some ([.arr 0 (zmK s).length],[.arr 1 (bytes (zmK s)) 0]):=by
 obtain⟨sid,fs⟩:=s;obtain⟨⟨hi0,hi1⟩,hl,hf⟩:=h;simp only at hi0 hi1 hl hf;obtain⟨n,rfl⟩:=yaC hi0;have p1:=zaZ n (by omega)
 have p2:=zaZ fs.length (by omega)
 have hH:zk4 ⟨n,fs⟩=put n++put fs.length:=rfl;have hHl:(zk4 ⟨n,fs⟩).length<=20:=by
  rw[hH,yae];have:=zaq (n:=n) (by omega)
  have:=zaq (n:=fs.length) (by omega)
  omega
 have b0:(n:Int)<=18446744073709551615:=by omega
 have b1:(fs.length:Int)<=18446744073709551615:=by omega
 have l1:=zaq (n:=n) (by omega)
 have l2:=zaq (n:=fs.length) (by omega)
 refine rg b41 rfl ?_;intro T hT;simp -dsimp -implicitDefEqProofs (disch:=omega) [p1,p2,zal,b0,b1]
 generalize hz:zaf _ _ _ _ _ _=z;revert z;refine zaa (σ:=Nat × List UInt8) (λx=>[(3,.arr 0 x.2.length),(18,.d (.list (fs.map Fld.d))),(19,.d (.int .i64 fs.length)),(20,.d (.int .i64 x.1))]) (λx=>[.arr 1 (bytes x.2) 0]) (λx=>x.1<=fs.length/\x.2=zk4 ⟨n,fs⟩++(fs.take x.1).flatMap zeX) (λx=>fs.length - x.1) (0,zk4 ⟨n,fs⟩) ?_ ?_ ?_
 ·exact⟨yai _,by simp⟩
 ·simp -dsimp -implicitDefEqProofs (disch:=omega) [hH]
 intro T' fn hT' ⟨k,acc⟩ ⟨g1,g2⟩ ih;simp only at g1 g2 ih
 by_cases hk:k<fs.length
 ·obtain⟨x,hx⟩: ∃x,fs[k]=x:=⟨_,rfl⟩
  obtain⟨c1,c2,c3,c4,c5⟩:=hf x (hx ▸ yam hk);have hn:=zva hk hx;have hal:acc.length<=20+5031*100:=by
   rw[g2,yae];have:=zrn (fs:=fs.take k) λf hf'=>hf f (yaH hf')
   rw[yaq]at this;omega
  obtain⟨xi,xn,xk,xd⟩:=x;simp only at c1 c2 c3 c4 c5;obtain⟨i,rfl⟩:=yaC c1;obtain⟨kd,rfl⟩:=yaC c3;have q1:=zaZ i (by omega)
  have q2:=zaZ xn.size (by omega)
  have q3:=zaZ kd (by omega)
  have e1:=zaq (n:=i) (by omega)
  have e2:=zaq (n:=xn.size) (by omega)
  have e3:=zaq (n:=kd) (by omega)
  have d1:(i:Int)<=18446744073709551615:=by omega
  have d2:(xn.size:Int)<=18446744073709551615:=by omega
  have d3:(kd:Int)<=18446744073709551615:=by omega
  have hpf:zeX ⟨i,xn,kd,xd⟩=put i++(put xn.size++(tx xn++(put kd++zg9 xd))):=rfl;cases xd with
  |true=>
   simp -dsimp -implicitDefEqProofs (disch:=omega) [hk,hx,q1,q2,q3,zal,d1,d2,d3]
   refine ih (k+1,acc++zeX ⟨i,xn,kd,true⟩) _ _ ⟨by simp only;omega,by simp only;rw[hn,g2,yan]⟩ (by simp only;omega) ?_
   simp -dsimp -implicitDefEqProofs (disch:=omega) [hpf,wI]
   exact⟨by simp only[zg9,yaf,yaz];omega,rfl⟩
  |false=>
   simp -dsimp -implicitDefEqProofs (disch:=omega) [hk,hx,q1,q2,q3,zal,d1,d2,d3]
   refine ih (k+1,acc++zeX ⟨i,xn,kd,false⟩) _ _ ⟨by simp only;omega,by simp only;rw[hn,g2,yan]⟩ (by simp only;omega) ?_
   simp -dsimp -implicitDefEqProofs (disch:=omega) [hpf,wI]
   exact⟨by simp only[zg9,yaf,yaz];omega,rfl⟩
 ·have:k=fs.length:=by omega
  subst this;rw[yaW]at g2;have e:zmK ⟨n,fs⟩=acc:=g2.symm;subst hT';rw[e]at hT;simp -dsimp -implicitDefEqProofs (disch:=omega)
  simpa -dsimp -implicitDefEqProofs (disch:=omega) using hT
end Go.Am.Ab
