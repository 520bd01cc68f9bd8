/- Schemas. -/
import Derived.Test.YtibdiacpdmhmnaaGreatDoorBase
import Derived.Test.YtibdiacpdmhmnaaGreatDoorVars
import Derived.Test.YtibdiacpdmhmnaaGreatDoorCellsA
import Derived.Test.YtibdiacpdmhmnaaGreatDoorSignsB
set_option linter.all false
namespace Go.Am.Ab
open Go.Proofs
set_option maxHeartbeats 4000000
set_option maxRecDepth 4000
def zk9 (x:Nat × Nat × Bool):Bool:=(decide (97<=x.1/\x.1<=122) || decide (x.1=95) || decide (127<x.1)) || (decide (48<=x.1/\x.1<=57) && decide (0<x.2.1))
def zo6 (s:ByteArray):Bool:=decide (1<=s.size/\s.size<=16) && ((sgs s).all (·.2.2) && (sgs s).all zk9)
def zhk {s:ByteArray} (h: ¬ (1<=s.size/\s.size<=16)):zo6 s=false:=by unfold zo6;rw[yaM h];rfl
def ztW (s:ByteArray) (hm:s.size<1000000000):R 82 [.d (.str s)] []=some ([.d (.bool (zo6 s))],[]):=by
 have hcl:=zia s hm
 by_cases h1:s.size<1
 ·have h1':(s.size:Int)<1:=by omega
  rw[zhk (by omega)]
  refine rg b82 rfl ?_;intro T hT;simp -dsimp -implicitDefEqProofs (disch:=first|omega|assumption) [h1']
  simpa -dsimp -implicitDefEqProofs (disch:=first|omega|assumption) using hT
 have h1': ¬ (s.size:Int)<1:=by omega
 by_cases h2:16<s.size
 ·have h2':(16:Int)<s.size:=by omega
  rw[zhk (by omega)]
  refine rg b82 rfl ?_;intro T hT;simp -dsimp -implicitDefEqProofs (disch:=first|omega|assumption) [h1',h2']
  simpa -dsimp -implicitDefEqProofs (disch:=first|omega|assumption) using hT
 have h2': ¬ (16:Int)<s.size:=by omega
 have e:zo6 s=((sgs s).all (·.2.2) && (sgs s).all zk9):=by unfold zo6;rw[yaK ⟨by omega,by omega⟩];rfl
 rw[e];cases hall:(sgs s).all (·.2.2) with
 |false=>
  rw[hall]at hcl;refine rg b82 rfl ?_;intro T hT;simp -dsimp -implicitDefEqProofs (disch:=first|omega|assumption) [h1',h2',hcl]
  simpa -dsimp -implicitDefEqProofs (disch:=first|omega|assumption) using hT
 |true=>
  rw[hall]at hcl;rw[ycu];have hle: ∀x∈sgs s,x.1<=1114111:=λx hx=>(zr4 s s.size 0 x hx).1
  refine rg b82 rfl ?_;intro T hT;simp -dsimp -implicitDefEqProofs (disch:=first|omega|assumption) [h1',h2',hcl]
  generalize hz:zaj _ _ _ _ _ _=z;revert z;refine zaa (σ:=Nat × Nat) (λx=>[(19,.ptr 0 0)]) (λx=>[.siter s x.1]) (λx=>s.size<=x.2+x.1/\x.1<=s.size/\(sgs s).all zk9=(sgL s x.2 x.1).all zk9) (λx=>s.size - x.1) (0,s.size) ?_ ?_ ?_
  ·exact⟨by simp only;omega,yai _,rfl⟩
  ·simp -dsimp -implicitDefEqProofs (disch:=first|omega|assumption)
  intro T' f hT' ⟨i,m⟩ ⟨g1,g2,g3⟩ ih;simp only at g1 g2 g3 ih
  by_cases hi:i<s.size
  ·obtain⟨k,rfl,e1,e2⟩:=zhj hi g1
   have hw:=zd6 (s:=rst s i) (by rw[zbv g2];omega)
   have hp:=zdS (rst s i);rw[zbv g2]at hw;have hd:=zo3 hi;rw[e1,ycE]at g3;generalize sig (rst s i)=x at*;obtain⟨c,w,ok⟩:=x;simp only at e2 hw hp g3 hd;have goOn:zk9 (c,i,ok)=true->(sgs s).all zk9=(sgL s k (i+w)).all zk9:=λh=>by rw[g3,h,ycu]
   have stop:zk9 (c,i,ok)=false->(sgs s).all zk9=false:=λh=>by rw[g3,h,ydL]
   clear g3
   by_cases a1:(97<=c/\c<=122)
   ·have b1:(97:Int)<=c:=by omega
    have b2:(c:Int)<=122:=by omega
    have g:=goOn (by unfold zk9;simp[a1])
    simp -dsimp -implicitDefEqProofs (disch:=first|omega|assumption) [hi,hd,b1,b2]
    refine ih (i+w,k) _ _ ⟨by simp only;omega,by simp only;omega,g⟩ (by simp only;omega) ?_
    simp -dsimp -implicitDefEqProofs (disch:=first|omega|assumption)
   by_cases a2:c=95
   ·have g:=goOn (by unfold zk9;simp[a2])
    have b0:(c:Int)=95:=by omega
    subst a2;simp -dsimp -implicitDefEqProofs (disch:=first|omega|assumption) [hi,hd]
    refine ih (i+w,k) _ _ ⟨by simp only;omega,by simp only;omega,g⟩ (by simp only;omega) ?_
    simp -dsimp -implicitDefEqProofs (disch:=first|omega|assumption)
   have b0: ¬ (c:Int)=95:=by omega
   by_cases a3:127<c
   ·have g:=goOn (by unfold zk9;simp[a3])
    have b3:(127:Int)<c:=by omega
    have b2: ¬ (c:Int)<=122:=by omega
    have b1:(97:Int)<=c:=by omega
    simp -dsimp -implicitDefEqProofs (disch:=first|omega|assumption) [hi,hd,b0,b1,b2,b3,a2]
    refine ih (i+w,k) _ _ ⟨by simp only;omega,by simp only;omega,g⟩ (by simp only;omega) ?_
    simp -dsimp -implicitDefEqProofs (disch:=first|omega|assumption)
   have b3: ¬ (127:Int)<c:=by omega
   by_cases a4:(48<=c/\c<=57)/\0<i
   ·have g:=goOn (by unfold zk9;simp[a4])
    have b1: ¬ (97:Int)<=c:=by omega
    have b4:(48:Int)<=c:=by omega
    have b5:(c:Int)<=57:=by omega
    have b6:(0:Int)<i:=by omega
    have b7:0<i:=by omega
    simp -dsimp -implicitDefEqProofs (disch:=first|omega|assumption) [hi,hd,b0,b1,b3,b4,b5,b6,b7,a2]
    refine ih (i+w,k) _ _ ⟨by simp only;omega,by simp only;omega,g⟩ (by simp only;omega) ?_
    simp -dsimp -implicitDefEqProofs (disch:=first|omega|assumption)
   ·have g:=stop (by unfold zk9;simp;omega)
    subst hT';rw[g]at hT
    by_cases b1:(97:Int)<=c
    ·have b2: ¬ (c:Int)<=122:=by omega
     have b4:(48:Int)<=c:=by omega
     have b5: ¬ (c:Int)<=57:=by omega
     simp -dsimp -implicitDefEqProofs (disch:=first|omega|assumption) [hi,hd,b0,b1,b2,b3,b4,b5,a2]
     simpa -dsimp -implicitDefEqProofs (disch:=first|omega|assumption) using hT
    ·by_cases b4:(48:Int)<=c
     ·by_cases b5:(c:Int)<=57
      ·have b6:i=0:=by omega
       subst b6;simp -dsimp -implicitDefEqProofs (disch:=first|omega|assumption) [hi,hd,b0,b1,b3,b4,b5,a2]
       simpa -dsimp -implicitDefEqProofs (disch:=first|omega|assumption) using hT
      ·simp -dsimp -implicitDefEqProofs (disch:=first|omega|assumption) [hi,hd,b0,b1,b3,b4,b5,a2]
       simpa -dsimp -implicitDefEqProofs (disch:=first|omega|assumption) using hT
     ·simp -dsimp -implicitDefEqProofs (disch:=first|omega|assumption) [hi,hd,b0,b1,b3,b4,a2]
      simpa -dsimp -implicitDefEqProofs (disch:=first|omega|assumption) using hT
  ·have:i=s.size:=by omega
   subst this;subst hT';rw[zku (ybG _)]at g3;rw[g3]at hT;simp -dsimp -implicitDefEqProofs (disch:=first|omega|assumption)
   simpa -dsimp -implicitDefEqProofs (disch:=first|omega|assumption) using hT
def zvG (s:ByteArray) (k:Nat) (x:Nat × Nat × Bool) (h:(sgs s)[k]? =some x):decide (0<x.2.1)=decide (0<k):=by
 unfold sgs at h;cases k with
 |zero=>
  cases hs:s.size with
  |zero=>rw[hs]at h;simp[sgL]at h
  |succ m=>
   rw[hs]at h;simp only[sgL]at h;split at h
   ·simp only[yaI,yaa]at h
    rw[<- h]
   ·cases h
 |succ k=>
  cases hs:s.size with
  |zero=>rw[hs]at h;simp[sgL]at h
  |succ m=>
   rw[hs]at h;simp only[sgL]at h;split at h
   ·simp only[yby]at h
    have h1:=zvE s m _ x (yaE h);have h2:=zdS (rst s 0);rw[yaK (by omega),yaK (by omega)]
   ·simp at h
def zqO (s:ByteArray) (hm:s.size<1000000000):R 56 [.d (.str s)] []=some ([.d (.bool (zo6 s))],[]):=by
 have hs:=zd7 s hm
 by_cases h1:s.size<1
 ·have h1':(s.size:Int)<1:=by omega
  rw[zhk (by omega)]
  refine rg b56 rfl ?_;intro T hT;simp -dsimp -implicitDefEqProofs (disch:=first|omega|assumption) [h1']
  simpa -dsimp -implicitDefEqProofs (disch:=first|omega|assumption) using hT
 have h1': ¬ (s.size:Int)<1:=by omega
 by_cases h2:16<s.size
 ·have h2':(16:Int)<s.size:=by omega
  rw[zhk (by omega)]
  refine rg b56 rfl ?_;intro T hT;simp -dsimp -implicitDefEqProofs (disch:=first|omega|assumption) [h1',h2']
  simpa -dsimp -implicitDefEqProofs (disch:=first|omega|assumption) using hT
 have h2': ¬ (16:Int)<s.size:=by omega
 have e:zo6 s=((sgs s).all (·.2.2) && (sgs s).all zk9):=by unfold zo6;rw[yaK ⟨by omega,by omega⟩];rfl
 rw[e];have hpl:=zvG s;have hL:(sgs s).length<1000000000:=by have:=zfK s s.size 0;unfold sgs;omega
 generalize sgs s=L at*;refine rg b56 rfl ?_;intro T hT;simp -dsimp -implicitDefEqProofs (disch:=first|omega|assumption) [h1',h2',hs]
 generalize hz:zaj _ _ _ _ _ _=z;revert z;refine zaa (σ:=Nat) (λk=>[(3,.arr 0 L.length),(5,.d (.bool (L.all (·.2.2)))),(6,.d (.int .i64 k))]) (λ_=>[.arr 1 (zx2 L) 0]) (λk=>k<=L.length/\(L.take k).all zk9=true) (λk=>L.length - k) 0 ?_ ?_ ?_
 ·exact⟨yai _,rfl⟩
 ·simp -dsimp -implicitDefEqProofs (disch:=first|omega|assumption)
 intro T' f hT' k ⟨g1,g2⟩ ih
 by_cases hk:k<L.length
 ·obtain⟨x,hx⟩: ∃x,L[k]=x:=⟨_,rfl⟩
  have hp:=hpl k x (by rw[yao hk,hx])
  have goOn:zk9 x=true->(L.take (k+1)).all zk9=true:=λh=>by
   rw[ybc hk,List.all_append,g2,hx];simp[h]
  have stop:zk9 x=false->L.all zk9=false:=λh=>by
   rw[<- ycm];intro hh;have:=List.all_eq_true.1 hh x (hx ▸ yam hk);rw[h]at this;cases this
  obtain⟨c,p,ok⟩:=x;have ho:zk9 (c,p,ok)=((decide (97<=c/\c<=122) || decide (c=95) || decide (127<c)) || (decide (48<=c/\c<=57) && decide (0<k))):=by unfold zk9;simp only[hp]
  rw[ho]at goOn stop;clear ho;clear hp hpl
  by_cases a1:(97<=c/\c<=122)
  ·have b1:(97:Int)<=c:=by omega
   have b2:(c:Int)<=122:=by omega
   have b4:(48:Int)<=c:=by omega
   have b5: ¬ (c:Int)<=57:=by omega
   have g:=goOn (by simp[a1])
   simp -dsimp -implicitDefEqProofs (disch:=first|omega|assumption) [hk,hx,b1,b2,b4,b5]
   refine ih (k+1) _ _ ⟨hk,g⟩ (by omega) ?_
   simp -dsimp -implicitDefEqProofs (disch:=first|omega|assumption)
  by_cases a2:c=95
  ·have g:=goOn (by simp[a2])
   subst a2;simp -dsimp -implicitDefEqProofs (disch:=first|omega|assumption) [hk,hx]
   refine ih (k+1) _ _ ⟨hk,g⟩ (by omega) ?_
   simp -dsimp -implicitDefEqProofs (disch:=first|omega|assumption)
  have b0: ¬ (c:Int)=95:=by omega
  by_cases a3:127<c
  ·have g:=goOn (by simp[a3])
   have b3:(127:Int)<c:=by omega
   have b2: ¬ (c:Int)<=122:=by omega
   have b1:(97:Int)<=c:=by omega
   have b4:(48:Int)<=c:=by omega
   have b5: ¬ (c:Int)<=57:=by omega
   simp -dsimp -implicitDefEqProofs (disch:=first|omega|assumption) [hk,hx,b0,b1,b2,b3,b4,b5,a2]
   refine ih (k+1) _ _ ⟨hk,g⟩ (by omega) ?_
   simp -dsimp -implicitDefEqProofs (disch:=first|omega|assumption)
  have b3: ¬ (127:Int)<c:=by omega
  by_cases b1:(97:Int)<=c
  ·have b2: ¬ (c:Int)<=122:=by omega
   have b4:(48:Int)<=c:=by omega
   have b5: ¬ (c:Int)<=57:=by omega
   have g:=stop (by simp;omega)
   subst hT';rw[g,yco]at hT;simp -dsimp -implicitDefEqProofs (disch:=first|omega|assumption) [hk,hx,b0,b1,b2,b3,b4,b5,a2]
   simpa -dsimp -implicitDefEqProofs (disch:=first|omega|assumption) using hT
  ·by_cases b4:(48:Int)<=c
   ·by_cases b5:(c:Int)<=57
    ·cases k with
     |zero=>
      have g:=stop (by simp;omega)
      subst hT';rw[g,yco]at hT;simp -dsimp -implicitDefEqProofs (disch:=first|omega|assumption) [hk,hx,b0,b1,b3,b4,b5,a2]
      simpa -dsimp -implicitDefEqProofs (disch:=first|omega|assumption) using hT
     |succ k=>
      have b6:(0:Int)<(k:Int)+1:=by omega
      have b7:(k:Int)+1<(L.length:Int):=by omega
      have b8:(k:Int)+1+1<=9223372036854775807:=by omega
      have g:=goOn (by simp;omega)
      simp -dsimp -implicitDefEqProofs (disch:=first|omega|assumption) [hk,b7,hx,b0,b1,b3,b4,b5,b6,a2]
      refine ih (k+1+1) _ _ ⟨hk,g⟩ (by omega) ?_
      simp -dsimp -implicitDefEqProofs (disch:=first|omega|assumption)
    ·have g:=stop (by simp;omega)
     subst hT';rw[g,yco]at hT;simp -dsimp -implicitDefEqProofs (disch:=first|omega|assumption) [hk,hx,b0,b1,b3,b4,b5,a2]
     simpa -dsimp -implicitDefEqProofs (disch:=first|omega|assumption) using hT
   ·have g:=stop (by simp;omega)
    subst hT';rw[g,yco]at hT;simp -dsimp -implicitDefEqProofs (disch:=first|omega|assumption) [hk,hx,b0,b1,b3,b4,a2]
    simpa -dsimp -implicitDefEqProofs (disch:=first|omega|assumption) using hT
 ·have:k=L.length:=by omega
  subst this;rw[yaQ]at g2;subst hT';rw[g2,ybW]at hT;simp -dsimp -implicitDefEqProofs (disch:=first|omega|assumption)
  simpa -dsimp -implicitDefEqProofs (disch:=first|omega|assumption) using hT
end Go.Am.Ab
namespace Go.Am.Ab
open Go.Proofs
set_option maxHeartbeats 4000000
set_option maxRecDepth 4000
attribute [simp] V.plain
def zp0 (nm:ByteArray) (l:List Fld):Bool:=l.any λg=>decide (g.name=nm)
def zzb (nm:ByteArray):List Fld->Nat->Int
 |[],_=> -1
 |g::r,i=>if g.name=nm then i else zzb nm r (i+1)
def zr5 (nm:ByteArray): ∀ (l:List Fld) (i:Nat),decide (0<=zzb nm l i)=zp0 nm l
 |[],i=>rfl
 |g::r,i=>by
  have ih:=zr5 nm r (i+1);unfold zzb;unfold zp0 at ih ⊢;rw[List.any_cons];split
  ·rename_i h
   rw[yaK h,Bool.true_or];exact yaK (by omega)
  ·rename_i h
   rw[yaM h,ycY,ih]
def zp1 (seen:List Fld) (prev:Int) (f:Fld):Int:=
 if f.id<=prev then 81 else if !zo6 f.name || zp0 f.name seen then 80 else if f.kind<1\/3<f.kind then 10
 else if f.need=seen.isEmpty/\ ¬ (seen.isEmpty=true/\f.kind=2) then 0 else 82
def zuy:List Fld->Int->List Fld->Int
 |_,_,[]=>0
 |seen,prev,f::r=>if zp1 seen prev f=0 then zuy (seen++[f]) f.id r else zp1 seen prev f
def zib (s:Sch):Int:=if s.id=0\/s.fields.length=0\/8<s.fields.length then 1 else zuy [] 0 s.fields
def zdg (fs:List Fld) (k:Nat):Int:=match k with | 0=>0 | k+1=>match fs[k]? with | some f=>f.id | none=>0
def zo7 {fs:List Fld} {k:Nat} {f:Fld} (hk:k<fs.length) (hf:fs[k]=f) (prev:Int):
 zuy (fs.take k) prev (fs.drop k)=if zp1 (fs.take k) prev f=0 then zuy (fs.take (k+1)) f.id (fs.drop (k+1)) else zp1 (fs.take k) prev f:=by
 rw[yaC hk,hf,ybc hk,hf];rfl
def zeC {fs:List Fld} {k:Nat} {f:Fld} (hk:k<fs.length) (hf:fs[k]=f):zdg fs (k+1)=f.id:=by
 simp only[zdg,yao hk,hf]
def zmu {fs:List Fld} {k:Nat} (hk:k<fs.length):(fs.take k).isEmpty=decide (k=0):=by
 cases k with
 |zero=>rfl
 |succ k=>cases fs with
  |nil=>simp at hk
  |cons f r=>rfl
def zqP (k:Int):R 85 [.d (.int .u8 k)] []=some ([.d (.bool (decide (1<=k/\k<=3)))],[]):=by
 by_cases h1:1<=k
 ·by_cases h2:k<=3
  ·rw[yaK ⟨h1,h2⟩]
   refine rg b85 rfl ?_;intro T hT;simp -dsimp -implicitDefEqProofs (disch:=first|omega|assumption) [h1,h2]
   simpa -dsimp -implicitDefEqProofs (disch:=first|omega|assumption) using hT
  ·rw[yaM (λh=>h2 h.2)]
   refine rg b85 rfl ?_;intro T hT;simp -dsimp -implicitDefEqProofs (disch:=first|omega|assumption) [h1,h2]
   simpa -dsimp -implicitDefEqProofs (disch:=first|omega|assumption) using hT
 ·rw[yaM (λh=>h1 h.1)]
  refine rg b85 rfl ?_;intro T hT;simp -dsimp -implicitDefEqProofs (disch:=first|omega|assumption) [h1]
  simpa -dsimp -implicitDefEqProofs (disch:=first|omega|assumption) using hT
def ztX (f g:Fld):R 84 [.d f.d,.ptr 0 0] [.box [.d (.int .u32 g.id),.d (.str g.name),.d (.int .u8 g.kind),.d (.bool g.need)]]=some ([.d (.bool (decide (f.name=g.name)))],[.box [.d (.int .u32 g.id),.d (.str g.name),.d (.int .u8 g.kind),.d (.bool g.need)]]):=by
 refine rg b84 rfl ?_;intro T hT;simp -dsimp -implicitDefEqProofs (disch:=first|omega|assumption) [zbQ]
 simpa -dsimp -implicitDefEqProofs (disch:=first|omega|assumption) using hT
def zqQ (fs:List Fld) (g:Fld) (hl:fs.length<1000000000):R 124 [.d (.list (fs.map Fld.d)),.clo 84 [.ptr 0 0]] [.box [.d (.int .u32 g.id),.d (.str g.name),.d (.int .u8 g.kind),.d (.bool g.need)]]
 =some ([.d (.int .i64 (zzb g.name fs 0))],[.box [.d (.int .u32 g.id),.d (.str g.name),.d (.int .u8 g.kind),.d (.bool g.need)]]):=by
 refine rg zJh rfl ?_;intro T hT;simp -dsimp -implicitDefEqProofs (disch:=first|omega|assumption)
 generalize hz:zaj _ _ _ _ _ _=z;revert z;refine zaa (σ:=Nat) (λk=>[(0,.d (.list (fs.map Fld.d))),(1,.clo 84 [.ptr 0 0]),(7,.d (.int .i64 fs.length)),(8,.d (.int .i64 k))]) (λ_=>[.box [.d (.int .u32 g.id),.d (.str g.name),.d (.int .u8 g.kind),.d (.bool g.need)]]) (λk=>k<=fs.length/\zzb g.name fs 0=zzb g.name (fs.drop k) k) (λk=>fs.length - k) 0 ?_ ?_ ?_
 ·exact⟨yai _,rfl⟩
 ·simp -dsimp -implicitDefEqProofs (disch:=first|omega|assumption)
 intro T' f hT' k ⟨g1,g2⟩ ih
 by_cases hk:k<fs.length
 ·obtain⟨x,hx⟩: ∃x,fs[k]=x:=⟨_,rfl⟩
  have hs:=ztX x g;rw[yaC hk,hx]at g2;simp only[zzb]at g2
  by_cases he:x.name=g.name
  ·rw[yaj he]at g2
   rw[yaK he]at hs;subst hT';rw[g2]at hT;obtain⟨xi,xn,xk,xd⟩:=x;simp only[Fld.d]at hs;simp -dsimp -implicitDefEqProofs (disch:=first|omega|assumption) [hk,hx,hs]
   simpa -dsimp -implicitDefEqProofs (disch:=first|omega|assumption) using hT
  ·rw[yag he]at g2
   rw[yaM he]at hs;obtain⟨xi,xn,xk,xd⟩:=x;simp only[Fld.d]at hs;simp -dsimp -implicitDefEqProofs (disch:=first|omega|assumption) [hk,hx,hs]
   refine ih (k+1) _ _ ⟨by omega,g2⟩ (by omega) ?_
   simp -dsimp -implicitDefEqProofs (disch:=first|omega|assumption) [wI]
 ·have:k=fs.length:=by omega
  subst this;rw[yb9,show zzb g.name [] fs.length= -1 from rfl]at g2
  subst hT';rw[g2]at hT;simp -dsimp -implicitDefEqProofs (disch:=first|omega|assumption)
  simpa -dsimp -implicitDefEqProofs (disch:=first|omega|assumption) using hT
def zlo (fs:List Fld) (g:Fld) (hl:fs.length<1000000000):R 83 [.d (.list (fs.map Fld.d)),.clo 84 [.ptr 0 0]] [.box [.d (.int .u32 g.id),.d (.str g.name),.d (.int .u8 g.kind),.d (.bool g.need)]]
 =some ([.d (.bool (zp0 g.name fs))],[.box [.d (.int .u32 g.id),.d (.str g.name),.d (.int .u8 g.kind),.d (.bool g.need)]]):=by
 have h:=zqQ fs g hl;rw[<- zr5 g.name fs 0];refine rg b83 rfl ?_;intro T hT;simp -dsimp -implicitDefEqProofs (disch:=first|omega|assumption) [h]
 simpa -dsimp -implicitDefEqProofs (disch:=first|omega|assumption) using hT
def zqR {l:List Fld} {p:Int} {f:Fld} (h:f.id<=p):zp1 l p f=81:=by unfold zp1;rw[yaj h]
def zd9 {l:List Fld} {p:Int} {f:Fld} (h: ¬ f.id<=p) (h2:zo6 f.name=false\/zp0 f.name l=true):zp1 l p f=80:=by
 unfold zp1;rw[yag h,yaj];rcases h2 with h2 | h2 <;> simp[h2]
def ze9 {l:List Fld} {p:Int} {f:Fld} (h: ¬ f.id<=p) (h2:zo6 f.name=true) (h3:zp0 f.name l=false) (h4:f.kind<1\/3<f.kind):zp1 l p f=10:=by
 unfold zp1;rw[yag h,yag (by simp[h2,h3]),yaj h4]
def znt {l:List Fld} {p:Int} {f:Fld} (h: ¬ f.id<=p) (h2:zo6 f.name=true) (h3:zp0 f.name l=false) (h4: ¬ (f.kind<1\/3<f.kind)):
 zp1 l p f=if f.need=l.isEmpty/\ ¬ (l.isEmpty=true/\f.kind=2) then 0 else 82:=by
 unfold zp1;rw[yag h,yag (by simp[h2,h3]),yag h4]
def zkx (s:Sch) (hid:0<=s.id) (hf: ∀f∈s.fields,f.name.size<1000000000) (hl:s.fields.length<1000000000):R 39 [.d s.d] []=some ([.d (.int .i64 (zib s))],[]):=by
 obtain⟨sid,fs⟩:=s;simp only at hid hf hl;unfold zib;simp only
 by_cases h1:sid<1
 ·rw[yaj (.inl (by omega))]
  refine rg b39 rfl ?_;intro T hT;simp -dsimp -implicitDefEqProofs (disch:=first|omega|assumption) [h1]
  simpa -dsimp -implicitDefEqProofs (disch:=first|omega|assumption) using hT
 by_cases h2:fs.length<1
 ·rw[yaj (.inr (.inl (by omega)))]
  have h2':(fs.length:Int)<1:=by omega
  refine rg b39 rfl ?_;intro T hT;simp -dsimp -implicitDefEqProofs (disch:=first|omega|assumption) [h1,h2']
  simpa -dsimp -implicitDefEqProofs (disch:=first|omega|assumption) using hT
 have h2': ¬ (fs.length:Int)<1:=by omega
 by_cases h3:8<fs.length
 ·rw[yaj (.inr (.inr h3))]
  have h3':(8:Int)<fs.length:=by omega
  refine rg b39 rfl ?_;intro T hT;simp -dsimp -implicitDefEqProofs (disch:=first|omega|assumption) [h1,h2',h3']
  simpa -dsimp -implicitDefEqProofs (disch:=first|omega|assumption) using hT
 have h3': ¬ (8:Int)<fs.length:=by omega
 rw[yag (by omega)]
 refine rg b39 rfl ?_;intro T hT;simp -dsimp -implicitDefEqProofs (disch:=first|omega|assumption) [h1,h2',h3']
 generalize hz:zaj _ _ _ _ _ _=z;revert z;refine zaa (σ:=Nat) (λk=>[(1,.ptr 0 0),(3,.d (.int .u32 (zdg fs k))),(22,.d (.list (fs.map Fld.d))),(23,.d (.int .i64 fs.length)),(24,.d (.int .i64 k))]) (λ_=>[.box [.d (.int .u32 sid),.d (.list (fs.map Fld.d))]]) (λk=>k<=fs.length/\zuy [] 0 fs=zuy (fs.take k) (zdg fs k) (fs.drop k)) (λk=>fs.length - k) 0 ?_ ?_ ?_
 ·exact⟨yai _,rfl⟩
 ·simp -dsimp -implicitDefEqProofs (disch:=first|omega|assumption) [zdg]
 intro T' fn hT' k ⟨g1,g2⟩ ih
 by_cases hk:k<fs.length
 ·obtain⟨x,hx⟩: ∃x,fs[k]=x:=⟨_,rfl⟩
  rw[zo7 hk hx]at g2;have hp:=zeC hk hx;have hnm:=ztW x.name (hf x (hx ▸ yam hk));have hcn:=zlo (fs.take k) x (by rw[yan];omega)
  rw[ybO]at hcn;have he:=zmu hk;obtain⟨xi,xn,xk,xd⟩:=x;simp only at hnm hcn hp;generalize zdg fs k=p at*
  by_cases a1:xi<=p
  ·rw[zqR a1,yag (by decide)]at g2
   subst hT';rw[g2]at hT;simp -dsimp -implicitDefEqProofs (disch:=first|omega|assumption) [hk,hx,a1]
   simpa -dsimp -implicitDefEqProofs (disch:=first|omega|assumption) using hT
  cases a2:zo6 xn with
  |false=>
   rw[zd9 a1 (.inl a2),yag (by decide)]at g2
   rw[a2]at hnm;subst hT';rw[g2]at hT;simp -dsimp -implicitDefEqProofs (disch:=first|omega|assumption) [hk,hx,a1,hnm]
   simpa -dsimp -implicitDefEqProofs (disch:=first|omega|assumption) using hT
  |true=>
  rw[a2]at hnm;cases a3:zp0 xn (fs.take k) with
  |true=>
   rw[zd9 a1 (.inr a3),yag (by decide)]at g2
   rw[a3]at hcn;subst hT';rw[g2]at hT;simp -dsimp -implicitDefEqProofs (disch:=first|omega|assumption) [hk,hx,a1,hnm,hcn]
   simpa -dsimp -implicitDefEqProofs (disch:=first|omega|assumption) using hT
  |false=>
  rw[a3]at hcn;have hr:=zqP xk
  by_cases a4:xk<1\/3<xk
  ·rw[ze9 a1 a2 a3 a4,yag (by decide)]at g2
   rw[yaM (by omega)]at hr
   subst hT';rw[g2]at hT;simp -dsimp -implicitDefEqProofs (disch:=first|omega|assumption) [hk,hx,a1,hnm,hcn,hr]
   simpa -dsimp -implicitDefEqProofs (disch:=first|omega|assumption) using hT
  have hend:=znt (l:=fs.take k) (p:=p) (f:=⟨xi,xn,xk,xd⟩) a1 a2 a3 a4;rw[he]at hend;generalize zp1 (fs.take k) p ⟨xi,xn,xk,xd⟩=c at g2 hend;rw[yaK (by omega)]at hr
  simp only at hend;cases k with
  |zero=>
   rw[yaK rfl]at hend;rw[yd4]at hcn;cases xd with
   |false=>
    rw[yag (by simp)]at hend
    rw[hend,yag (by decide)]at g2
    subst hT';rw[g2]at hT;simp -dsimp -implicitDefEqProofs (disch:=first|omega|assumption) [hk,hx,a1,hnm,hcn,hr]
    simpa -dsimp -implicitDefEqProofs (disch:=first|omega|assumption) using hT
   |true=>
    by_cases a5:xk=2
    ·rw[yag (by simp[a5])]at hend
     rw[hend,yag (by decide)]at g2
     subst hT';rw[g2]at hT;subst a5;simp -dsimp -implicitDefEqProofs (disch:=first|omega|assumption) [hk,hx,a1,hnm,hcn,hr]
     simpa -dsimp -implicitDefEqProofs (disch:=first|omega|assumption) using hT
    ·rw[yaj (by simp[a5])]at hend
     rw[yaj hend]at g2;simp -dsimp -implicitDefEqProofs (disch:=first|omega|assumption) [hk,hx,a1,hnm,hcn,hr,a5]
     have hp1:zdg fs 1=xi:=hp;refine ih 1 _ _ ⟨by omega,by rw[hp1];exact g2⟩ (by omega) ?_
     simp -dsimp -implicitDefEqProofs (disch:=first|omega|assumption) [wI,hp1]
  |succ k=>
   rw[yaM (by omega)]at hend
   have b1: ¬ (k:Int)+1=0:=by omega
   have b2:(k:Int)+1<(fs.length:Int):=by omega
   cases xd with
   |true=>
    rw[yag (by simp)]at hend
    rw[hend,yag (by decide)]at g2
    subst hT';rw[g2]at hT;simp -dsimp -implicitDefEqProofs (disch:=first|omega|assumption) [hk,b2,hx,a1,hnm,hcn,hr,b1]
    simpa -dsimp -implicitDefEqProofs (disch:=first|omega|assumption) using hT
   |false=>
    rw[yaj (by simp)]at hend
    rw[yaj hend]at g2;simp -dsimp -implicitDefEqProofs (disch:=first|omega|assumption) [hk,b2,hx,a1,hnm,hcn,hr,b1]
    refine ih (k+1+1) _ _ ⟨by omega,by rw[hp];exact g2⟩ (by omega) ?_
    simp -dsimp -implicitDefEqProofs (disch:=first|omega|assumption) [wI,hp]
 ·have:k=fs.length:=by omega
  subst this;rw[yb9,show ∀l p,zuy l p []=0 from λ_ _=>rfl]at g2
  subst hT';rw[g2]at hT;simp -dsimp -implicitDefEqProofs (disch:=first|omega|assumption)
  simpa -dsimp -implicitDefEqProofs (disch:=first|omega|assumption) using hT
end Go.Am.Ab
namespace Go.Am.Ab
open Go.Proofs
set_option maxHeartbeats 4000000
set_option maxRecDepth 4000
def ztY (fs:List Fld) (nm:ByteArray) (hl:fs.length<1000000000):R 57 [.d (.list (fs.map Fld.d)),.d (.str nm)] []=some ([.d (.bool (zp0 nm fs))],[]):=by
 refine rg b57 rfl ?_;intro T hT;simp -dsimp -implicitDefEqProofs (disch:=first|omega|assumption)
 generalize hz:zaj _ _ _ _ _ _=z;revert z;refine zaa (σ:=Nat) (λk=>[(0,.d (.list (fs.map Fld.d))),(1,.d (.str nm)),(5,.d (.int .i64 k))]) (λ_=>[]) (λk=>k<=fs.length/\zp0 nm fs=zp0 nm (fs.drop k)) (λk=>fs.length - k) 0 ?_ ?_ ?_
 ·exact⟨yai _,rfl⟩
 ·simp -dsimp -implicitDefEqProofs (disch:=first|omega|assumption)
 intro T' f hT' k ⟨g1,g2⟩ ih
 by_cases hk:k<fs.length
 ·obtain⟨x,hx⟩: ∃x,fs[k]=x:=⟨_,rfl⟩
  rw[yaC hk,hx,show zp0 nm (x::fs.drop (k+1))=(decide (x.name=nm) || zp0 nm (fs.drop (k+1))) from rfl]at g2
  obtain⟨xi,xn,xk,xd⟩:=x;simp only at g2
  by_cases he:xn=nm
  ·rw[yaK he,Bool.true_or]at g2
   subst hT';rw[g2]at hT;simp -dsimp -implicitDefEqProofs (disch:=first|omega|assumption) [hk,hx,zbQ,he]
   simpa -dsimp -implicitDefEqProofs (disch:=first|omega|assumption) using hT
  ·rw[yaM he,ycY]at g2
   simp -dsimp -implicitDefEqProofs (disch:=first|omega|assumption) [hk,hx,zbQ,he]
   refine ih (k+1) _ _ ⟨by omega,g2⟩ (by omega) ?_
   simp -dsimp -implicitDefEqProofs (disch:=first|omega|assumption) [wI]
 ·have:k=fs.length:=by omega
  subst this;rw[yb9,show zp0 nm []=false from rfl]at g2
  subst hT';rw[g2]at hT;simp -dsimp -implicitDefEqProofs (disch:=first|omega|assumption)
  simpa -dsimp -implicitDefEqProofs (disch:=first|omega|assumption) using hT
def zfa (s:Sch) (hid:0<=s.id) (hf: ∀f∈s.fields,0<=f.id/\f.name.size<1000000000) (hl:s.fields.length<1000000000):R 15 [.d s.d] []=some ([.d (.int .i64 (zib s))],[]):=by
 obtain⟨sid,fs⟩:=s;simp only at hid hf hl;unfold zib;simp only
 by_cases h1:sid=0
 ·rw[yaj (.inl h1)]
  subst h1;refine rg b15 rfl ?_;intro T hT;simp -dsimp -implicitDefEqProofs (disch:=first|omega|assumption)
  simpa -dsimp -implicitDefEqProofs (disch:=first|omega|assumption) using hT
 by_cases h2:fs.length=0
 ·rw[yaj (.inr (.inl (by omega)))]
  have h2':fs=[]:=yaz h2;subst h2';refine rg b15 rfl ?_;intro T hT;simp -dsimp -implicitDefEqProofs (disch:=first|omega|assumption) [h1]
  simpa -dsimp -implicitDefEqProofs (disch:=first|omega|assumption) using hT
 have h2': ¬ fs=[]:=λe=>h2 (by rw[e];rfl)
 by_cases h3:8<fs.length
 ·rw[yaj (.inr (.inr h3))]
  have h3':(8:Int)<fs.length:=by omega
  refine rg b15 rfl ?_;intro T hT;simp -dsimp -implicitDefEqProofs (disch:=first|omega|assumption) [h1,h2',h3']
  simpa -dsimp -implicitDefEqProofs (disch:=first|omega|assumption) using hT
 have h3': ¬ (8:Int)<fs.length:=by omega
 rw[yag (by omega)]
 refine rg b15 rfl ?_;intro T hT;simp -dsimp -implicitDefEqProofs (disch:=first|omega|assumption) [h1,h2',h3']
 generalize hz:zaj _ _ _ _ _ _=z;revert z;refine zaa (σ:=Nat) (λk=>[(1,.ptr 0 0),(3,.d (.int .i64 k))]) (λ_=>[.box [.d (.int .u32 sid),.d (.list (fs.map Fld.d))]]) (λk=>k<=fs.length/\zuy [] 0 fs=zuy (fs.take k) (zdg fs k) (fs.drop k)) (λk=>fs.length - k) 0 ?_ ?_ ?_
 ·exact⟨yai _,rfl⟩
 ·simp -dsimp -implicitDefEqProofs (disch:=first|omega|assumption)
 intro T' fn hT' k ⟨g1,g2⟩ ih
 by_cases hk:k<fs.length
 ·obtain⟨x,hx⟩: ∃x,fs[k]=x:=⟨_,rfl⟩
  have hx0:=hf x (hx ▸ yam hk);rw[zo7 hk hx]at g2;have hp:=zeC hk hx;have hnm:=zqO x.name hx0.2;have hcn:=ztY (fs.take k) x.name (by rw[yan];omega)
  rw[ybO]at hcn;have he:=zmu hk;obtain⟨xi,xn,xk,xd⟩:=x;simp only at hnm hcn hp hx0;have hi:xi=0\/(∃j,k=j+1/\xi<=zdg fs k)\/(xi≠0/\ ¬ xi<=zdg fs k):=by
   by_cases a:xi=0
   ·exact .inl a
   ·cases k with
    |zero=>exact .inr (.inr ⟨a,by simp only[zdg];omega⟩)
    |succ j=>
     by_cases b:xi<=zdg fs (j+1)
     ·exact .inr (.inl ⟨j,rfl,b⟩)
     ·exact .inr (.inr ⟨a,b⟩)
  have hp0:0<=zdg fs k:=by
   cases k with
   |zero=>exact ydS _
   |succ j=>
    have hj:j<fs.length:=by omega
    rw[zeC hj rfl];exact (hf _ (yam hj)).1
  have hpv: ∀j,k=j+1-> ∃y:Fld, ∃hj:j<fs.length,fs[j]=y/\y.id=zdg fs k:=λj e=>by
   subst e;have hj:j<fs.length:=by omega
   exact⟨fs[j],hj,rfl,(zeC hj rfl).symm⟩
  generalize zdg fs k=p at*;rcases hi with a0 | ⟨j,rfl,a1⟩ | ⟨a0,a1⟩
  ·rw[zqR (by simp only;omega),yag (by decide)]at g2
   subst a0;subst hT';rw[g2]at hT;simp -dsimp -implicitDefEqProofs (disch:=first|omega|assumption) [hk,hx]
   simpa -dsimp -implicitDefEqProofs (disch:=first|omega|assumption) using hT
  ·rw[zqR a1,yag (by decide)]at g2
   obtain⟨y,hj,hy,hyp⟩:=hpv j rfl;have b2:(j:Int)+1<(fs.length:Int):=by omega
   have b3:(0:Int)<(j:Int)+1:=by omega
   obtain⟨yi,yn,yk,yd⟩:=y;simp only at hyp;subst hyp;subst hT';rw[g2]at hT
   by_cases a0:xi=0
   ·subst a0
    simp -dsimp -implicitDefEqProofs (disch:=first|omega|assumption) [hk,b2,hx]
    simpa -dsimp -implicitDefEqProofs (disch:=first|omega|assumption) using hT
   ·simp -dsimp -implicitDefEqProofs (disch:=first|omega|assumption) [hk,b2,b3,hx,hy,hj,a0,a1]
    simpa -dsimp -implicitDefEqProofs (disch:=first|omega|assumption) using hT
  cases k with
  |zero=>
   rw[yd4]at hcn;cases a2:zo6 xn with
   |false=>
    rw[zd9 a1 (.inl a2),yag (by decide)]at g2
    rw[a2]at hnm;subst hT';rw[g2]at hT;simp -dsimp -implicitDefEqProofs (disch:=first|omega|assumption) [hk,hx,a0,a1,hnm]
    simpa -dsimp -implicitDefEqProofs (disch:=first|omega|assumption) using hT
   |true=>
   rw[a2]at hnm;cases a3:zp0 xn (fs.take 0) with
   |true=>
    rw[zd9 a1 (.inr a3),yag (by decide)]at g2
    rw[a3]at hcn;subst hT';rw[g2]at hT;simp -dsimp -implicitDefEqProofs (disch:=first|omega|assumption) [hk,hx,a0,a1,hnm,hcn]
    simpa -dsimp -implicitDefEqProofs (disch:=first|omega|assumption) using hT
   |false=>
   rw[a3]at hcn
   by_cases a4:xk<1
   ·rw[ze9 a1 a2 a3 (.inl a4),yag (by decide)]at g2
    subst hT';rw[g2]at hT;simp -dsimp -implicitDefEqProofs (disch:=first|omega|assumption) [hk,hx,a0,a1,hnm,hcn,a4]
    simpa -dsimp -implicitDefEqProofs (disch:=first|omega|assumption) using hT
   by_cases a5:3<xk
   ·rw[ze9 a1 a2 a3 (.inr a5),yag (by decide)]at g2
    subst hT';rw[g2]at hT;simp -dsimp -implicitDefEqProofs (disch:=first|omega|assumption) [hk,hx,a0,a1,hnm,hcn,a4,a5]
    simpa -dsimp -implicitDefEqProofs (disch:=first|omega|assumption) using hT
   have hend:=znt (l:=fs.take 0) (p:=p) (f:=⟨xi,xn,xk,xd⟩) a1 a2 a3 (λh=>h.elim a4 a5)
   rw[he]at hend;generalize zp1 (fs.take 0) p ⟨xi,xn,xk,xd⟩=c at g2 hend;simp only at hend;cases xd with
   |false=>
    rw[yag (by simp)]at hend
    rw[hend,yag (by decide)]at g2
    subst hT';rw[g2]at hT;simp -dsimp -implicitDefEqProofs (disch:=first|omega|assumption) [hk,hx,a0,a1,hnm,hcn,a4,a5]
    simpa -dsimp -implicitDefEqProofs (disch:=first|omega|assumption) using hT
   |true=>
    by_cases a6:xk=2
    ·rw[yag (by simp[a6])]at hend
     rw[hend,yag (by decide)]at g2
     subst hT';rw[g2]at hT;subst a6;simp -dsimp -implicitDefEqProofs (disch:=first|omega|assumption) [hk,hx,a0,a1,hnm,hcn]
     simpa -dsimp -implicitDefEqProofs (disch:=first|omega|assumption) using hT
    ·rw[yaj (by simp[a6])]at hend
     rw[yaj hend]at g2;simp -dsimp -implicitDefEqProofs (disch:=first|omega|assumption) [hk,hx,a0,a1,hnm,hcn,a4,a5,a6]
     have hp1:zdg fs 1=xi:=hp;refine ih 1 _ _ ⟨by omega,by rw[hp1];exact g2⟩ (by omega) ?_
     simp -dsimp -implicitDefEqProofs (disch:=first|omega|assumption) [wI]
  |succ j=>
   obtain⟨y,hj,hy,hyp⟩:=hpv j rfl;have b2:(j:Int)+1<(fs.length:Int):=by omega
   have b3:(0:Int)<(j:Int)+1:=by omega
   have b4: ¬ (j:Int)+1=0:=by omega
   obtain⟨yi,yn,yk,yd⟩:=y;simp only at hyp;subst hyp;cases a2:zo6 xn with
   |false=>
    rw[zd9 a1 (.inl a2),yag (by decide)]at g2
    rw[a2]at hnm;subst hT';rw[g2]at hT;simp -dsimp -implicitDefEqProofs (disch:=first|omega|assumption) [hk,b2,b3,b4,hx,hy,hj,a0,a1,hnm]
    simpa -dsimp -implicitDefEqProofs (disch:=first|omega|assumption) using hT
   |true=>
   rw[a2]at hnm;cases a3:zp0 xn (fs.take (j+1)) with
   |true=>
    rw[zd9 a1 (.inr a3),yag (by decide)]at g2
    rw[a3]at hcn;subst hT';rw[g2]at hT;simp -dsimp -implicitDefEqProofs (disch:=first|omega|assumption) [hk,b2,b3,b4,hx,hy,hj,a0,a1,hnm,hcn]
    simpa -dsimp -implicitDefEqProofs (disch:=first|omega|assumption) using hT
   |false=>
   rw[a3]at hcn
   by_cases a4:xk<1
   ·rw[ze9 a1 a2 a3 (.inl a4),yag (by decide)]at g2
    subst hT';rw[g2]at hT;simp -dsimp -implicitDefEqProofs (disch:=first|omega|assumption) [hk,b2,b3,b4,hx,hy,hj,a0,a1,hnm,hcn,a4]
    simpa -dsimp -implicitDefEqProofs (disch:=first|omega|assumption) using hT
   by_cases a5:3<xk
   ·rw[ze9 a1 a2 a3 (.inr a5),yag (by decide)]at g2
    subst hT';rw[g2]at hT;simp -dsimp -implicitDefEqProofs (disch:=first|omega|assumption) [hk,b2,b3,b4,hx,hy,hj,a0,a1,hnm,hcn,a4,a5]
    simpa -dsimp -implicitDefEqProofs (disch:=first|omega|assumption) using hT
   have hend:=znt (l:=fs.take (j+1)) (p:=yi) (f:=⟨xi,xn,xk,xd⟩) a1 a2 a3 (λh=>h.elim a4 a5)
   rw[he]at hend;generalize zp1 (fs.take (j+1)) yi ⟨xi,xn,xk,xd⟩=c at g2 hend;simp only at hend;rw[yaM (by omega)]at hend
   cases xd with
   |true=>
    rw[yag (by simp)]at hend
    rw[hend,yag (by decide)]at g2
    subst hT';rw[g2]at hT;simp -dsimp -implicitDefEqProofs (disch:=first|omega|assumption) [hk,b2,b3,b4,hx,hy,hj,a0,a1,hnm,hcn,a4,a5]
    simpa -dsimp -implicitDefEqProofs (disch:=first|omega|assumption) using hT
   |false=>
    rw[yaj (by simp)]at hend
    rw[yaj hend]at g2;simp -dsimp -implicitDefEqProofs (disch:=first|omega|assumption) [hk,b2,b3,b4,hx,hy,hj,a0,a1,hnm,hcn,a4,a5]
    refine ih (j+1+1) _ _ ⟨by omega,by rw[hp];exact g2⟩ (by omega) ?_
    simp -dsimp -implicitDefEqProofs (disch:=first|omega|assumption) [wI]
 ·have:k=fs.length:=by omega
  subst this;rw[yb9,show ∀l p,zuy l p []=0 from λ_ _=>rfl]at g2
  subst hT';rw[g2]at hT;simp -dsimp -implicitDefEqProofs (disch:=first|omega|assumption)
  simpa -dsimp -implicitDefEqProofs (disch:=first|omega|assumption) using hT
end Go.Am.Ab
namespace Go.Am.Ab
open Go.Proofs
set_option maxHeartbeats 4000000
set_option maxRecDepth 4000
def zjp (f:Fld) (v:Val):Int:=
 match v with
 |.null=>if f.need=true then 82 else 0
 |.text s=>if f.kind≠3 then 10 else if 64<s.size then 5 else 0
 |v=>if f.kind≠v.kind then 10 else 0
def zvH:List Fld->List Val->Int
 |f::fs,v::vs=>if zjp f v=0 then zvH fs vs else zjp f v
 |_,_=>0
def fit (s:Sch) (l:List Val):Int:=if l.length≠s.fields.length then 1 else zvH s.fields l
def zhl {xi:Int} {xn:ByteArray} {xd:Bool} {t:ByteArray}:zjp ⟨xi,xn,3,xd⟩ (.text t)=if 64<t.size then 5 else 0:=rfl
def zo8 {fs:List Fld} {l:List Val} {k:Nat} {f:Fld} {v:Val} (hk:k<fs.length) (hl:k<l.length) (hf:fs[k]=f) (hv:l[k]=v):
 zvH (fs.drop k) (l.drop k)=if zjp f v=0 then zvH (fs.drop (k+1)) (l.drop (k+1)) else zjp f v:=by
 rw[yaC hk,yaC hl,hf,hv];rfl
def zr6 (fs:List Fld) (l:List Val) {k:Nat} (hk:fs.length<=k):zvH (fs.drop k) (l.drop k)=0:=by
 rw[ybq hk];rfl
def zx9 (s:Sch) (l:List Val) (hl:s.fields.length<1000000000) (hm:l.length<1000000000):R 40 [.d s.d,.d (.list (vs l))] []=some ([.d (.int .i64 (fit s l))],[]):=by
 obtain⟨sid,fs⟩:=s;simp only at hl;unfold fit;simp only
 by_cases h1:l.length=fs.length
 ·rw[yag (yce h1)]
  have h1':(l.length:Int)=fs.length:=by omega
  refine rg b40 rfl ?_;intro T hT;simp -dsimp -implicitDefEqProofs (disch:=first|omega|assumption) [h1']
  generalize hz:zaj _ _ _ _ _ _=z;revert z;refine zaa (σ:=Nat) (λk=>[(1,.d (.list (vs l))),(16,.d (.list (fs.map Fld.d))),(17,.d (.int .i64 fs.length)),(18,.d (.int .i64 k))]) (λ_=>[]) (λk=>k<=fs.length/\zvH fs l=zvH (fs.drop k) (l.drop k)) (λk=>fs.length - k) 0 ?_ ?_ ?_
  ·exact⟨yai _,rfl⟩
  ·simp -dsimp -implicitDefEqProofs (disch:=first|omega|assumption)
  intro T' fn hT' k ⟨g1,g2⟩ ih
  by_cases hk:k<fs.length
  ·have hk2:k<l.length:=by omega
   obtain⟨x,hx⟩: ∃x,fs[k]=x:=⟨_,rfl⟩;obtain⟨v,hv⟩: ∃v,l[k]=v:=⟨_,rfl⟩;rw[zo8 hk hk2 hx hv]at g2;obtain⟨xi,xn,xk,xd⟩:=x;cases v with
   |null=>
    cases xd with
    |true=>
     rw[show zjp ⟨xi,xn,xk,true⟩ .null=82 from rfl,yag (by decide)]at g2
     subst hT';rw[g2]at hT;simp -dsimp -implicitDefEqProofs (disch:=first|omega|assumption) [hk,hk2,hx,hv,Val.d]
     simpa -dsimp -implicitDefEqProofs (disch:=first|omega|assumption) using hT
    |false=>
     rw[show zjp ⟨xi,xn,xk,false⟩ .null=0 from rfl,yaj rfl]at g2
     simp -dsimp -implicitDefEqProofs (disch:=first|omega|assumption) [hk,hk2,hx,hv,Val.d]
     refine ih (k+1) _ _ ⟨by omega,g2⟩ (by omega) ?_
     simp -dsimp -implicitDefEqProofs (disch:=first|omega|assumption) [wI]
   |whole n=>
    have hko:R 86 [.d (.iface 2 (.int .i64 n))] []=some ([.d (.int .u8 1)],[]):=zb6 (.whole n)
    by_cases a1:(1:Int)=xk
    ·subst a1
     rw[show zjp ⟨xi,xn,1,xd⟩ (.whole n)=0 from rfl,yaj rfl]at g2
     simp -dsimp -implicitDefEqProofs (disch:=first|omega|assumption) [hk,hk2,hx,hv,Val.d,hko]
     refine ih (k+1) _ _ ⟨by omega,g2⟩ (by omega) ?_
     simp -dsimp -implicitDefEqProofs (disch:=first|omega|assumption) [wI]
    ·rw[show zjp ⟨xi,xn,xk,xd⟩ (.whole n)=10 from yaj (λh=>a1 h.symm),yag (by decide)]at g2
     subst hT';rw[g2]at hT;simp -dsimp -implicitDefEqProofs (disch:=first|omega|assumption) [hk,hk2,hx,hv,Val.d,hko,a1]
     simpa -dsimp -implicitDefEqProofs (disch:=first|omega|assumption) using hT
   |truth b=>
    have hko:R 86 [.d (.iface 4 (.bool b))] []=some ([.d (.int .u8 2)],[]):=zb6 (.truth b)
    by_cases a1:(2:Int)=xk
    ·subst a1
     rw[show zjp ⟨xi,xn,2,xd⟩ (.truth b)=0 from rfl,yaj rfl]at g2
     simp -dsimp -implicitDefEqProofs (disch:=first|omega|assumption) [hk,hk2,hx,hv,Val.d,hko]
     refine ih (k+1) _ _ ⟨by omega,g2⟩ (by omega) ?_
     simp -dsimp -implicitDefEqProofs (disch:=first|omega|assumption) [wI]
    ·rw[show zjp ⟨xi,xn,xk,xd⟩ (.truth b)=10 from yaj (λh=>a1 h.symm),yag (by decide)]at g2
     subst hT';rw[g2]at hT;simp -dsimp -implicitDefEqProofs (disch:=first|omega|assumption) [hk,hk2,hx,hv,Val.d,hko,a1]
     simpa -dsimp -implicitDefEqProofs (disch:=first|omega|assumption) using hT
   |text t=>
    have hko:R 86 [.d (.iface 9 (.str t))] []=some ([.d (.int .u8 3)],[]):=zb6 (.text t)
    by_cases a1:(3:Int)=xk
    ·subst a1
     by_cases a2:64<t.size
     ·have a2':(64:Int)<t.size:=by omega
      rw[zhl,yaj a2,yag (by decide)]at g2
      subst hT';rw[g2]at hT;simp -dsimp -implicitDefEqProofs (disch:=first|omega|assumption) [hk,hk2,hx,hv,Val.d,hko,a2']
      simpa -dsimp -implicitDefEqProofs (disch:=first|omega|assumption) using hT
     ·have a2': ¬ (64:Int)<t.size:=by omega
      rw[zhl,yag a2,yaj rfl]at g2;simp -dsimp -implicitDefEqProofs (disch:=first|omega|assumption) [hk,hk2,hx,hv,Val.d,hko,a2']
      refine ih (k+1) _ _ ⟨by omega,g2⟩ (by omega) ?_
      simp -dsimp -implicitDefEqProofs (disch:=first|omega|assumption) [wI]
    ·rw[show zjp ⟨xi,xn,xk,xd⟩ (.text t)=10 from yaj (λh=>a1 h.symm),yag (by decide)]at g2
     subst hT';rw[g2]at hT;simp -dsimp -implicitDefEqProofs (disch:=first|omega|assumption) [hk,hk2,hx,hv,Val.d,hko,a1]
     simpa -dsimp -implicitDefEqProofs (disch:=first|omega|assumption) using hT
  ·have:k=fs.length:=by omega
   subst this;rw[zr6 _ _ (yaf _)]at g2;subst hT';rw[g2]at hT;simp -dsimp -implicitDefEqProofs (disch:=first|omega|assumption)
   simpa -dsimp -implicitDefEqProofs (disch:=first|omega|assumption) using hT
 ·rw[yaj h1]
  have h1': ¬ (l.length:Int)=fs.length:=by omega
  refine rg b40 rfl ?_;intro T hT;simp -dsimp -implicitDefEqProofs (disch:=first|omega|assumption) [h1']
  simpa -dsimp -implicitDefEqProofs (disch:=first|omega|assumption) using hT
def zo9 (s:Sch) (l:List Val) (hl:s.fields.length<1000000000) (hm:l.length<1000000000):R 50 [.d s.d,.d (.list (ce (l.map zac)))] []=some ([.d (.int .i64 (fit s l))],[]):=by
 obtain⟨sid,fs⟩:=s;simp only at hl;unfold fit;simp only
 by_cases h1:l.length=fs.length
 ·rw[yag (yce h1)]
  have h1':(l.length:Int)=fs.length:=by omega
  refine rg b50 rfl ?_;intro T hT;simp -dsimp -implicitDefEqProofs (disch:=first|omega|assumption) [h1']
  generalize hz:zaj _ _ _ _ _ _=z;revert z;refine zaa (σ:=Nat) (λk=>[(1,.d (.list (ce (l.map zac)))),(2,.ptr 0 0),(5,.d (.int .i64 k))]) (λ_=>[.box [.d (.int .u32 sid),.d (.list (fs.map Fld.d))]]) (λk=>k<=fs.length/\zvH fs l=zvH (fs.drop k) (l.drop k)) (λk=>fs.length - k) 0 ?_ ?_ ?_
  ·exact⟨yai _,rfl⟩
  ·simp -dsimp -implicitDefEqProofs (disch:=first|omega|assumption)
  intro T' fn hT' k ⟨g1,g2⟩ ih
  by_cases hk:k<fs.length
  ·have hk2:k<l.length:=by omega
   obtain⟨x,hx⟩: ∃x,fs[k]=x:=⟨_,rfl⟩;obtain⟨v,hv⟩: ∃v,l[k]=v:=⟨_,rfl⟩;rw[zo8 hk hk2 hx hv]at g2;obtain⟨xi,xn,xk,xd⟩:=x;cases v with
   |null=>
    cases xd with
    |true=>
     rw[show zjp ⟨xi,xn,xk,true⟩ .null=82 from rfl,yag (by decide)]at g2
     subst hT';rw[g2]at hT;simp -dsimp -implicitDefEqProofs (disch:=first|omega|assumption) [h1',hk,hk2,hx,hv,zac,Cel.none,Cel.d]
     simpa -dsimp -implicitDefEqProofs (disch:=first|omega|assumption) using hT
    |false=>
     rw[show zjp ⟨xi,xn,xk,false⟩ .null=0 from rfl,yaj rfl]at g2
     simp -dsimp -implicitDefEqProofs (disch:=first|omega|assumption) [h1',hk,hk2,hx,hv,zac,Cel.none,Cel.d]
     refine ih (k+1) _ _ ⟨by omega,g2⟩ (by omega) ?_
     simp -dsimp -implicitDefEqProofs (disch:=first|omega|assumption) [wI]
   |whole n=>
    by_cases a1:(1:Int)=xk
    ·subst a1
     rw[show zjp ⟨xi,xn,1,xd⟩ (.whole n)=0 from rfl,yaj rfl]at g2
     simp -dsimp -implicitDefEqProofs (disch:=first|omega|assumption) [h1',hk,hk2,hx,hv,zac,Cel.none,Cel.d]
     refine ih (k+1) _ _ ⟨by omega,g2⟩ (by omega) ?_
     simp -dsimp -implicitDefEqProofs (disch:=first|omega|assumption) [wI]
    ·rw[show zjp ⟨xi,xn,xk,xd⟩ (.whole n)=10 from yaj (λh=>a1 h.symm),yag (by decide)]at g2
     subst hT';rw[g2]at hT;simp -dsimp -implicitDefEqProofs (disch:=first|omega|assumption) [h1',hk,hk2,hx,hv,zac,Cel.none,Cel.d,a1]
     simpa -dsimp -implicitDefEqProofs (disch:=first|omega|assumption) using hT
   |truth b=>
    by_cases a1:(2:Int)=xk
    ·subst a1
     rw[show zjp ⟨xi,xn,2,xd⟩ (.truth b)=0 from rfl,yaj rfl]at g2
     simp -dsimp -implicitDefEqProofs (disch:=first|omega|assumption) [h1',hk,hk2,hx,hv,zac,Cel.none,Cel.d]
     refine ih (k+1) _ _ ⟨by omega,g2⟩ (by omega) ?_
     simp -dsimp -implicitDefEqProofs (disch:=first|omega|assumption) [wI]
    ·rw[show zjp ⟨xi,xn,xk,xd⟩ (.truth b)=10 from yaj (λh=>a1 h.symm),yag (by decide)]at g2
     subst hT';rw[g2]at hT;simp -dsimp -implicitDefEqProofs (disch:=first|omega|assumption) [h1',hk,hk2,hx,hv,zac,Cel.none,Cel.d,a1]
     simpa -dsimp -implicitDefEqProofs (disch:=first|omega|assumption) using hT
   |text t=>
    by_cases a1:(3:Int)=xk
    ·subst a1
     by_cases a2:64<t.size
     ·have a2':(64:Int)<t.size:=by omega
      rw[zhl,yaj a2,yag (by decide)]at g2
      subst hT';rw[g2]at hT;simp -dsimp -implicitDefEqProofs (disch:=first|omega|assumption) [h1',hk,hk2,hx,hv,zac,Cel.none,Cel.d,a2']
      simpa -dsimp -implicitDefEqProofs (disch:=first|omega|assumption) using hT
     ·have a2': ¬ (64:Int)<t.size:=by omega
      rw[zhl,yag a2,yaj rfl]at g2;simp -dsimp -implicitDefEqProofs (disch:=first|omega|assumption) [h1',hk,hk2,hx,hv,zac,Cel.none,Cel.d,a2']
      refine ih (k+1) _ _ ⟨by omega,g2⟩ (by omega) ?_
      simp -dsimp -implicitDefEqProofs (disch:=first|omega|assumption) [wI]
    ·rw[show zjp ⟨xi,xn,xk,xd⟩ (.text t)=10 from yaj (λh=>a1 h.symm),yag (by decide)]at g2
     subst hT';rw[g2]at hT;simp -dsimp -implicitDefEqProofs (disch:=first|omega|assumption) [h1',hk,hk2,hx,hv,zac,Cel.none,Cel.d,a1]
     simpa -dsimp -implicitDefEqProofs (disch:=first|omega|assumption) using hT
  ·have:k=fs.length:=by omega
   subst this;rw[zr6 _ _ (yaf _)]at g2;subst hT';rw[g2]at hT;simp -dsimp -implicitDefEqProofs (disch:=first|omega|assumption) [h1']
   simpa -dsimp -implicitDefEqProofs (disch:=first|omega|assumption) using hT
 ·rw[yaj h1]
  have h1': ¬ (l.length:Int)=fs.length:=by omega
  refine rg b50 rfl ?_;intro T hT;simp -dsimp -implicitDefEqProofs (disch:=first|omega|assumption) [h1']
  simpa -dsimp -implicitDefEqProofs (disch:=first|omega|assumption) using hT
end Go.Am.Ab
namespace Go.Am.Ab
open Go.Proofs
set_option maxHeartbeats 4000000
set_option maxRecDepth 4000
abbrev tx (s:ByteArray):List UInt8:=s.data.toList
def zeO (b:Bool):List UInt8:=[if b then 1 else 0]
def zdT (f:Fld):List UInt8:=put f.id.toNat++(put f.name.size++(tx f.name++(put f.kind.toNat++zeO f.need)))
def zhm (s:Sch):List UInt8:=put s.id.toNat++put s.fields.length
def zic (s:Sch):List UInt8:=zhm s++s.fields.flatMap zdT
structure SchOk (s:Sch):Prop where
 id:0<=s.id/\s.id<4294967296
 len:s.fields.length<=100
 fld: ∀f∈s.fields,0<=f.id/\f.id<4294967296/\0<=f.kind/\f.kind<256/\f.name.size<5000
def zvI {f:Fld} (h:f.name.size<5000) (h1:f.id<4294967296) (h2:f.kind<256):(zdT f).length<=5031:=by
 unfold zdT zeO tx;have a:=zam (n:=f.id.toNat) (by omega)
 have b:=zam (n:=f.name.size) (by omega)
 have c:=zam (n:=f.kind.toNat) (by omega)
 have d:f.name.data.toList.length=f.name.size:=by simp
 simp only[yab,yad,yat];omega
def znu {fs:List Fld} (hf: ∀f∈fs,0<=f.id/\f.id<4294967296/\0<=f.kind/\f.kind<256/\f.name.size<5000):(fs.flatMap zdT).length<=5031*fs.length:=by
 induction fs with
 |nil=>simp
 |cons f r ih=>
  obtain⟨_,a,_,b,c⟩:=hf f (by simp)
  have:=zvI c a b;have:=ih λg hg=>hf g (by simp[hg])
  simp only[ya3,yab,yad];omega
def zpa {fs:List Fld} {k:Nat} {f:Fld} (hk:k<fs.length) (hf:fs[k]=f):(fs.take (k+1)).flatMap zdT=(fs.take k).flatMap zdT++zdT f:=by
 rw[ybc hk,hf,ydy];simp
def ztZ (s:Sch) (h:SchOk s):R 41 [.d s.d] []=some ([.arr 0 (zic s).length],[.arr 1 (bytes (zic s)) 0]):=by
 obtain⟨sid,fs⟩:=s;obtain⟨⟨hi0,hi1⟩,hl,hf⟩:=h;simp only at hi0 hi1 hl hf;obtain⟨n,rfl⟩:=yax hi0;have p1:=za7 n (by omega)
 have p2:=za7 fs.length (by omega)
 have hH:zhm ⟨n,fs⟩=put n++put fs.length:=rfl;have hHl:(zhm ⟨n,fs⟩).length<=20:=by
  rw[hH,yab];have:=zam (n:=n) (by omega)
  have:=zam (n:=fs.length) (by omega)
  omega
 have b0:(n:Int)<=18446744073709551615:=by omega
 have b1:(fs.length:Int)<=18446744073709551615:=by omega
 have l1:=zam (n:=n) (by omega)
 have l2:=zam (n:=fs.length) (by omega)
 refine rg b41 rfl ?_;intro T hT;simp -dsimp -implicitDefEqProofs (disch:=first|omega|assumption) [p1,p2,zak,b0,b1]
 generalize hz:zaj _ _ _ _ _ _=z;revert z;refine zaa (σ:=Nat × List UInt8) (λx=>[(3,.arr 0 x.2.length),(18,.d (.list (fs.map Fld.d))),(19,.d (.int .i64 fs.length)),(20,.d (.int .i64 x.1))]) (λx=>[.arr 1 (bytes x.2) 0]) (λx=>x.1<=fs.length/\x.2=zhm ⟨n,fs⟩++(fs.take x.1).flatMap zdT) (λx=>fs.length - x.1) (0,zhm ⟨n,fs⟩) ?_ ?_ ?_
 ·exact⟨yai _,by simp⟩
 ·simp -dsimp -implicitDefEqProofs (disch:=first|omega|assumption) [hH]
 intro T' fn hT' ⟨k,acc⟩ ⟨g1,g2⟩ ih;simp only at g1 g2 ih
 by_cases hk:k<fs.length
 ·obtain⟨x,hx⟩: ∃x,fs[k]=x:=⟨_,rfl⟩
  obtain⟨c1,c2,c3,c4,c5⟩:=hf x (hx ▸ yam hk);have hn:=zpa hk hx;have hal:acc.length<=20+5031*100:=by
   rw[g2,yab];have:=znu (fs:=fs.take k) λf hf'=>hf f (yaD hf')
   rw[yan]at this;omega
  obtain⟨xi,xn,xk,xd⟩:=x;simp only at c1 c2 c3 c4 c5;obtain⟨i,rfl⟩:=yax c1;obtain⟨kd,rfl⟩:=yax c3;have q1:=za7 i (by omega)
  have q2:=za7 xn.size (by omega)
  have q3:=za7 kd (by omega)
  have e1:=zam (n:=i) (by omega)
  have e2:=zam (n:=xn.size) (by omega)
  have e3:=zam (n:=kd) (by omega)
  have d1:(i:Int)<=18446744073709551615:=by omega
  have d2:(xn.size:Int)<=18446744073709551615:=by omega
  have d3:(kd:Int)<=18446744073709551615:=by omega
  have hpf:zdT ⟨i,xn,kd,xd⟩=put i++(put xn.size++(tx xn++(put kd++zeO xd))):=rfl;cases xd with
  |true=>
   simp -dsimp -implicitDefEqProofs (disch:=first|omega|assumption) [hk,hx,q1,q2,q3,zak,d1,d2,d3]
   refine ih (k+1,acc++zdT ⟨i,xn,kd,true⟩) _ _ ⟨by simp only;omega,by simp only;rw[hn,g2,yal]⟩ (by simp only;omega) ?_
   simp -dsimp -implicitDefEqProofs (disch:=first|omega|assumption) [hpf,wI]
   exact⟨by simp only[zeO,yad,yat];omega,rfl⟩
  |false=>
   simp -dsimp -implicitDefEqProofs (disch:=first|omega|assumption) [hk,hx,q1,q2,q3,zak,d1,d2,d3]
   refine ih (k+1,acc++zdT ⟨i,xn,kd,false⟩) _ _ ⟨by simp only;omega,by simp only;rw[hn,g2,yal]⟩ (by simp only;omega) ?_
   simp -dsimp -implicitDefEqProofs (disch:=first|omega|assumption) [hpf,wI]
   exact⟨by simp only[zeO,yad,yat];omega,rfl⟩
 ·have:k=fs.length:=by omega
  subst this;rw[yaQ]at g2;have e:zic ⟨n,fs⟩=acc:=g2.symm;subst hT';rw[e]at hT;simp -dsimp -implicitDefEqProofs (disch:=first|omega|assumption)
  simpa -dsimp -implicitDefEqProofs (disch:=first|omega|assumption) using hT
def zqS (s:Sch) (h:SchOk s):R 51 [.d s.d] []=some ([.arr 0 (zic s).length],[.arr 1 (bytes (zic s)) 0]):=by
 obtain⟨sid,fs⟩:=s;obtain⟨⟨hi0,hi1⟩,hl,hf⟩:=h;simp only at hi0 hi1 hl hf;obtain⟨n,rfl⟩:=yax hi0;have p1:=za3 n (by omega)
 have p2:=za3 fs.length (by omega)
 have hH:zhm ⟨n,fs⟩=put n++put fs.length:=rfl;have hHl:(zhm ⟨n,fs⟩).length<=20:=by
  rw[hH,yab];have:=zam (n:=n) (by omega)
  have:=zam (n:=fs.length) (by omega)
  omega
 have b0:(n:Int)<=18446744073709551615:=by omega
 have b1:(fs.length:Int)<=18446744073709551615:=by omega
 have l1:=zam (n:=n) (by omega)
 have l2:=zam (n:=fs.length) (by omega)
 refine rg b51 rfl ?_;intro T hT;simp -dsimp -implicitDefEqProofs (disch:=first|omega|assumption) [p1,p2,zak,b0,b1]
 generalize hz:zaj _ _ _ _ _ _=z;revert z;refine zaa (σ:=Nat × List UInt8) (λx=>[(1,.ptr 0 0),(3,.arr 1 x.2.length),(4,.d (.int .i64 x.1))]) (λx=>[.box [.d (.int .u32 n),.d (.list (fs.map Fld.d))],.arr 1 (bytes x.2) 0]) (λx=>x.1<=fs.length/\x.2=zhm ⟨n,fs⟩++(fs.take x.1).flatMap zdT) (λx=>fs.length - x.1) (0,zhm ⟨n,fs⟩) ?_ ?_ ?_
 ·exact⟨yai _,by simp⟩
 ·simp -dsimp -implicitDefEqProofs (disch:=first|omega|assumption) [hH]
 intro T' fn hT' ⟨k,acc⟩ ⟨g1,g2⟩ ih;simp only at g1 g2 ih
 by_cases hk:k<fs.length
 ·obtain⟨x,hx⟩: ∃x,fs[k]=x:=⟨_,rfl⟩
  obtain⟨c1,c2,c3,c4,c5⟩:=hf x (hx ▸ yam hk);have hn:=zpa hk hx;have hal:acc.length<=20+5031*100:=by
   rw[g2,yab];have:=znu (fs:=fs.take k) λf hf'=>hf f (yaD hf')
   rw[yan]at this;omega
  obtain⟨xi,xn,xk,xd⟩:=x;simp only at c1 c2 c3 c4 c5;obtain⟨i,rfl⟩:=yax c1;obtain⟨kd,rfl⟩:=yax c3;have q1:=za3 i (by omega)
  have q2:=za3 xn.size (by omega)
  have q3:=za3 kd (by omega)
  have e1:=zam (n:=i) (by omega)
  have e2:=zam (n:=xn.size) (by omega)
  have e3:=zam (n:=kd) (by omega)
  have d1:(i:Int)<=18446744073709551615:=by omega
  have d2:(xn.size:Int)<=18446744073709551615:=by omega
  have d3:(kd:Int)<=18446744073709551615:=by omega
  have hpf:zdT ⟨i,xn,kd,xd⟩=put i++(put xn.size++(tx xn++(put kd++zeO xd))):=rfl;cases xd with
  |true=>
   simp -dsimp -implicitDefEqProofs (disch:=first|omega|assumption) [hk,hx,q1,q2,q3,zak,d1,d2,d3]
   refine ih (k+1,acc++zdT ⟨i,xn,kd,true⟩) _ _ ⟨by simp only;omega,by simp only;rw[hn,g2,yal]⟩ (by simp only;omega) ?_
   simp -dsimp -implicitDefEqProofs (disch:=first|omega|assumption) [hpf,wI]
   exact⟨by simp only[zeO,yad,yat];omega,rfl⟩
  |false=>
   simp -dsimp -implicitDefEqProofs (disch:=first|omega|assumption) [hk,hx,q1,q2,q3,zak,d1,d2,d3]
   refine ih (k+1,acc++zdT ⟨i,xn,kd,false⟩) _ _ ⟨by simp only;omega,by simp only;rw[hn,g2,yal]⟩ (by simp only;omega) ?_
   simp -dsimp -implicitDefEqProofs (disch:=first|omega|assumption) [hpf,wI]
   exact⟨by simp only[zeO,yad,yat];omega,rfl⟩
 ·have:k=fs.length:=by omega
  subst this;rw[yaQ]at g2;have e:zic ⟨n,fs⟩=acc:=g2.symm;subst hT';rw[e]at hT;simp -dsimp -implicitDefEqProofs (disch:=first|omega|assumption)
  simpa -dsimp -implicitDefEqProofs (disch:=first|omega|assumption) using hT
end Go.Am.Ab
