/- Schemas. -/
import Derived.Test.YtibdiacpdmhmnaaGreatDoorBase
import Derived.Test.YtibdiacpdmhmnaaGreatDoorSignsB
import Derived.Test.YtibdiacpdmhmnaaGreatDoorVars
import Derived.Test.YtibdiacpdmhmnaaGreatDoorCellsA
set_option linter.all false
namespace Go.Am.Ab
open Go.Proofs
set_option maxHeartbeats 4000000
set_option maxRecDepth 4000
def zku (x:Nat × Nat × Bool):Bool:=(decide (97<=x.1/\x.1<=122) || decide (x.1=95) || decide (127<x.1)) || (decide (48<=x.1/\x.1<=57) && decide (0<x.2.1))
def zoc (s:ByteArray):Bool:=decide (1<=s.size/\s.size<=16) && ((sgs s).all (·.2.2) && (sgs s).all zku)
def zg8 {s:ByteArray} (h: ¬ (1<=s.size/\s.size<=16)):zoc s=false:=by unfold zoc;rw[yaW h];rfl
def zsP (s:ByteArray) (hm:s.size<1000000000):R 82 [.d (.str s)] []=some ([.d (.bool (zoc s))],[]):=by
 have hcl:=zhI s hm
 by_cases h1:s.size<1
 ·have h1':(s.size:Int)<1:=by omega
  rw[zg8 (by omega)]
  refine rg b82 rfl ?_;intro T hT;simp -dsimp -implicitDefEqProofs (disch:=first|omega|assumption) [h1']
  simpa -dsimp -implicitDefEqProofs (disch:=first|omega|assumption) using hT
 have h1': ¬ (s.size:Int)<1:=by omega
 by_cases h2:16<s.size
 ·have h2':(16:Int)<s.size:=by omega
  rw[zg8 (by omega)]
  refine rg b82 rfl ?_;intro T hT;simp -dsimp -implicitDefEqProofs (disch:=first|omega|assumption) [h1',h2']
  simpa -dsimp -implicitDefEqProofs (disch:=first|omega|assumption) using hT
 have h2': ¬ (16:Int)<s.size:=by omega
 have e:zoc s=((sgs s).all (·.2.2) && (sgs s).all zku):=by unfold zoc;rw[yaQ ⟨by omega,by omega⟩];rfl
 rw[e];cases hall:(sgs s).all (·.2.2) with
 |false=>
  rw[hall]at hcl;refine rg b82 rfl ?_;intro T hT;simp -dsimp -implicitDefEqProofs (disch:=first|omega|assumption) [h1',h2',hcl]
  simpa -dsimp -implicitDefEqProofs (disch:=first|omega|assumption) using hT
 |true=>
  rw[hall]at hcl;rw[ycA];have hle: ∀x∈sgs s,x.1<=1114111:=λx hx=>(zug s s.size 0 x hx).1
  refine rg b82 rfl ?_;intro T hT;simp -dsimp -implicitDefEqProofs (disch:=first|omega|assumption) [h1',h2',hcl]
  generalize hz:zak _ _ _ _ _ _=z;revert z;refine zaa (σ:=Nat × Nat) (λx=>[(19,.ptr 0 0)]) (λx=>[.siter s x.1]) (λx=>s.size<=x.2+x.1/\x.1<=s.size/\(sgs s).all zku=(sgL s x.2 x.1).all zku) (λx=>s.size - x.1) (0,s.size) ?_ ?_ ?_
  ·exact⟨by simp only;omega,yaj _,rfl⟩
  ·simp -dsimp -implicitDefEqProofs (disch:=first|omega|assumption)
  intro T' f hT' ⟨i,m⟩ ⟨g1,g2,g3⟩ ih;simp only at g1 g2 g3 ih
  by_cases hi:i<s.size
  ·obtain⟨k,rfl,e1,e2⟩:=zgS hi g1
   have hw:=zdW (s:=rst s i) (by rw[zbj g2];omega)
   have hp:=zdG (rst s i);rw[zbj g2]at hw;have hd:=znN hi;rw[e1,ycj]at g3;generalize sig (rst s i)=x at*;obtain⟨c,w,ok⟩:=x;simp only at e2 hw hp g3 hd;have goOn:zku (c,i,ok)=true->(sgs s).all zku=(sgL s k (i+w)).all zku:=λh=>by rw[g3,h,ycA]
   have stop:zku (c,i,ok)=false->(sgs s).all zku=false:=λh=>by rw[g3,h,ydI]
   clear g3
   by_cases a1:(97<=c/\c<=122)
   ·have b1:(97:Int)<=c:=by omega
    have b2:(c:Int)<=122:=by omega
    have g:=goOn (by unfold zku;simp[a1])
    simp -dsimp -implicitDefEqProofs (disch:=first|omega|assumption) [hi,hd,b1,b2]
    refine ih (i+w,k) _ _ ⟨by simp only;omega,by simp only;omega,g⟩ (by simp only;omega) ?_
    simp -dsimp -implicitDefEqProofs (disch:=first|omega|assumption)
   by_cases a2:c=95
   ·have g:=goOn (by unfold zku;simp[a2])
    have b0:(c:Int)=95:=by omega
    subst a2;simp -dsimp -implicitDefEqProofs (disch:=first|omega|assumption) [hi,hd]
    refine ih (i+w,k) _ _ ⟨by simp only;omega,by simp only;omega,g⟩ (by simp only;omega) ?_
    simp -dsimp -implicitDefEqProofs (disch:=first|omega|assumption)
   have b0: ¬ (c:Int)=95:=by omega
   by_cases a3:127<c
   ·have g:=goOn (by unfold zku;simp[a3])
    have b3:(127:Int)<c:=by omega
    have b2: ¬ (c:Int)<=122:=by omega
    have b1:(97:Int)<=c:=by omega
    simp -dsimp -implicitDefEqProofs (disch:=first|omega|assumption) [hi,hd,b0,b1,b2,b3,a2]
    refine ih (i+w,k) _ _ ⟨by simp only;omega,by simp only;omega,g⟩ (by simp only;omega) ?_
    simp -dsimp -implicitDefEqProofs (disch:=first|omega|assumption)
   have b3: ¬ (127:Int)<c:=by omega
   by_cases a4:(48<=c/\c<=57)/\0<i
   ·have g:=goOn (by unfold zku;simp[a4])
    have b1: ¬ (97:Int)<=c:=by omega
    have b4:(48:Int)<=c:=by omega
    have b5:(c:Int)<=57:=by omega
    have b6:(0:Int)<i:=by omega
    have b7:0<i:=by omega
    simp -dsimp -implicitDefEqProofs (disch:=first|omega|assumption) [hi,hd,b0,b1,b3,b4,b5,b6,b7,a2]
    refine ih (i+w,k) _ _ ⟨by simp only;omega,by simp only;omega,g⟩ (by simp only;omega) ?_
    simp -dsimp -implicitDefEqProofs (disch:=first|omega|assumption)
   ·have g:=stop (by unfold zku;simp;omega)
    subst hT';rw[g]at hT
    by_cases b1:(97:Int)<=c
    ·have b2: ¬ (c:Int)<=122:=by omega
     have b4:(48:Int)<=c:=by omega
     have b5: ¬ (c:Int)<=57:=by omega
     simp -dsimp -implicitDefEqProofs (disch:=first|omega|assumption) [hi,hd,b0,b1,b2,b3,b4,b5,a2]
     simpa -dsimp -implicitDefEqProofs (disch:=first|omega|assumption) using hT
    ·by_cases b4:(48:Int)<=c
     ·by_cases b5:(c:Int)<=57
      ·have b6:i=0:=by omega
       subst b6;simp -dsimp -implicitDefEqProofs (disch:=first|omega|assumption) [hi,hd,b0,b1,b3,b4,b5,a2]
       simpa -dsimp -implicitDefEqProofs (disch:=first|omega|assumption) using hT
      ·simp -dsimp -implicitDefEqProofs (disch:=first|omega|assumption) [hi,hd,b0,b1,b3,b4,b5,a2]
       simpa -dsimp -implicitDefEqProofs (disch:=first|omega|assumption) using hT
     ·simp -dsimp -implicitDefEqProofs (disch:=first|omega|assumption) [hi,hd,b0,b1,b3,b4,a2]
      simpa -dsimp -implicitDefEqProofs (disch:=first|omega|assumption) using hT
  ·have:i=s.size:=by omega
   subst this;subst hT';rw[zjJ (ybv _)]at g3;rw[g3]at hT;simp -dsimp -implicitDefEqProofs (disch:=first|omega|assumption)
   simpa -dsimp -implicitDefEqProofs (disch:=first|omega|assumption) using hT
def zuZ (s:ByteArray) (k:Nat) (x:Nat × Nat × Bool) (h:(sgs s)[k]? =some x):decide (0<x.2.1)=decide (0<k):=by
 unfold sgs at h;cases k with
 |zero=>
  cases hs:s.size with
  |zero=>rw[hs]at h;simp[sgL]at h
  |succ m=>
   rw[hs]at h;simp only[sgL]at h;split at h
   ·simp only[yau,yaa]at h
    rw[<- h]
   ·cases h
 |succ k=>
  cases hs:s.size with
  |zero=>rw[hs]at h;simp[sgL]at h
  |succ m=>
   rw[hs]at h;simp only[sgL]at h;split at h
   ·simp only[yaP]at h
    have h1:=zud s m _ x (yao h);have h2:=zdG (rst s 0);rw[yaQ (by omega),yaQ (by omega)]
   ·simp at h
def zpH (s:ByteArray) (hm:s.size<1000000000):R 56 [.d (.str s)] []=some ([.d (.bool (zoc s))],[]):=by
 have hs:=zsc s hm
 by_cases h1:s.size<1
 ·have h1':(s.size:Int)<1:=by omega
  rw[zg8 (by omega)]
  refine rg b56 rfl ?_;intro T hT;simp -dsimp -implicitDefEqProofs (disch:=first|omega|assumption) [h1']
  simpa -dsimp -implicitDefEqProofs (disch:=first|omega|assumption) using hT
 have h1': ¬ (s.size:Int)<1:=by omega
 by_cases h2:16<s.size
 ·have h2':(16:Int)<s.size:=by omega
  rw[zg8 (by omega)]
  refine rg b56 rfl ?_;intro T hT;simp -dsimp -implicitDefEqProofs (disch:=first|omega|assumption) [h1',h2']
  simpa -dsimp -implicitDefEqProofs (disch:=first|omega|assumption) using hT
 have h2': ¬ (16:Int)<s.size:=by omega
 have e:zoc s=((sgs s).all (·.2.2) && (sgs s).all zku):=by unfold zoc;rw[yaQ ⟨by omega,by omega⟩];rfl
 rw[e];have hpl:=zuZ s;have hL:(sgs s).length<1000000000:=by have:=zlm s s.size 0;unfold sgs;omega
 generalize sgs s=L at*;refine rg b56 rfl ?_;intro T hT;simp -dsimp -implicitDefEqProofs (disch:=first|omega|assumption) [h1',h2',hs]
 generalize hz:zak _ _ _ _ _ _=z;revert z;refine zaa (σ:=Nat) (λk=>[(3,.arr 0 L.length),(5,.d (.bool (L.all (·.2.2)))),(6,.d (.int .i64 k))]) (λ_=>[.arr 1 (zzz L) 0]) (λk=>k<=L.length/\(L.take k).all zku=true) (λk=>L.length - k) 0 ?_ ?_ ?_
 ·exact⟨yaj _,rfl⟩
 ·simp -dsimp -implicitDefEqProofs (disch:=first|omega|assumption)
 intro T' f hT' k ⟨g1,g2⟩ ih
 by_cases hk:k<L.length
 ·obtain⟨x,hx⟩: ∃x,L[k]=x:=⟨_,rfl⟩
  have hp:=hpl k x (by rw[yal hk,hx])
  have goOn:zku x=true->(L.take (k+1)).all zku=true:=λh=>by
   rw[ybj hk,List.all_append,g2,hx];simp[h]
  have stop:zku x=false->L.all zku=false:=λh=>by
   rw[<- ycd];intro hh;have:=List.all_eq_true.1 hh x (hx ▸ yar hk);rw[h]at this;cases this
  obtain⟨c,p,ok⟩:=x;have ho:zku (c,p,ok)=((decide (97<=c/\c<=122) || decide (c=95) || decide (127<c)) || (decide (48<=c/\c<=57) && decide (0<k))):=by unfold zku;simp only[hp]
  rw[ho]at goOn stop;clear ho;clear hp hpl
  by_cases a1:(97<=c/\c<=122)
  ·have b1:(97:Int)<=c:=by omega
   have b2:(c:Int)<=122:=by omega
   have b4:(48:Int)<=c:=by omega
   have b5: ¬ (c:Int)<=57:=by omega
   have g:=goOn (by simp[a1])
   simp -dsimp -implicitDefEqProofs (disch:=first|omega|assumption) [hk,hx,b1,b2,b4,b5]
   refine ih (k+1) _ _ ⟨hk,g⟩ (by omega) ?_
   simp -dsimp -implicitDefEqProofs (disch:=first|omega|assumption)
  by_cases a2:c=95
  ·have g:=goOn (by simp[a2])
   subst a2;simp -dsimp -implicitDefEqProofs (disch:=first|omega|assumption) [hk,hx]
   refine ih (k+1) _ _ ⟨hk,g⟩ (by omega) ?_
   simp -dsimp -implicitDefEqProofs (disch:=first|omega|assumption)
  have b0: ¬ (c:Int)=95:=by omega
  by_cases a3:127<c
  ·have g:=goOn (by simp[a3])
   have b3:(127:Int)<c:=by omega
   have b2: ¬ (c:Int)<=122:=by omega
   have b1:(97:Int)<=c:=by omega
   have b4:(48:Int)<=c:=by omega
   have b5: ¬ (c:Int)<=57:=by omega
   simp -dsimp -implicitDefEqProofs (disch:=first|omega|assumption) [hk,hx,b0,b1,b2,b3,b4,b5,a2]
   refine ih (k+1) _ _ ⟨hk,g⟩ (by omega) ?_
   simp -dsimp -implicitDefEqProofs (disch:=first|omega|assumption)
  have b3: ¬ (127:Int)<c:=by omega
  by_cases b1:(97:Int)<=c
  ·have b2: ¬ (c:Int)<=122:=by omega
   have b4:(48:Int)<=c:=by omega
   have b5: ¬ (c:Int)<=57:=by omega
   have g:=stop (by simp;omega)
   subst hT';rw[g,ycE]at hT;simp -dsimp -implicitDefEqProofs (disch:=first|omega|assumption) [hk,hx,b0,b1,b2,b3,b4,b5,a2]
   simpa -dsimp -implicitDefEqProofs (disch:=first|omega|assumption) using hT
  ·by_cases b4:(48:Int)<=c
   ·by_cases b5:(c:Int)<=57
    ·cases k with
     |zero=>
      have g:=stop (by simp;omega)
      subst hT';rw[g,ycE]at hT;simp -dsimp -implicitDefEqProofs (disch:=first|omega|assumption) [hk,hx,b0,b1,b3,b4,b5,a2]
      simpa -dsimp -implicitDefEqProofs (disch:=first|omega|assumption) using hT
     |succ k=>
      have b6:(0:Int)<(k:Int)+1:=by omega
      have b7:(k:Int)+1<(L.length:Int):=by omega
      have b8:(k:Int)+1+1<=9223372036854775807:=by omega
      have g:=goOn (by simp;omega)
      simp -dsimp -implicitDefEqProofs (disch:=first|omega|assumption) [hk,b7,hx,b0,b1,b3,b4,b5,b6,a2]
      refine ih (k+1+1) _ _ ⟨hk,g⟩ (by omega) ?_
      simp -dsimp -implicitDefEqProofs (disch:=first|omega|assumption)
    ·have g:=stop (by simp;omega)
     subst hT';rw[g,ycE]at hT;simp -dsimp -implicitDefEqProofs (disch:=first|omega|assumption) [hk,hx,b0,b1,b3,b4,b5,a2]
     simpa -dsimp -implicitDefEqProofs (disch:=first|omega|assumption) using hT
   ·have g:=stop (by simp;omega)
    subst hT';rw[g,ycE]at hT;simp -dsimp -implicitDefEqProofs (disch:=first|omega|assumption) [hk,hx,b0,b1,b3,b4,a2]
    simpa -dsimp -implicitDefEqProofs (disch:=first|omega|assumption) using hT
 ·have:k=L.length:=by omega
  subst this;rw[ybf]at g2;subst hT';rw[g2,yce]at hT;simp -dsimp -implicitDefEqProofs (disch:=first|omega|assumption)
  simpa -dsimp -implicitDefEqProofs (disch:=first|omega|assumption) using hT
end Go.Am.Ab
namespace Go.Am.Ab
open Go.Proofs
set_option maxHeartbeats 4000000
set_option maxRecDepth 4000
attribute [simp] V.plain
def zoQ (nm:ByteArray) (l:List Fld):Bool:=l.any λg=>decide (g.name=nm)
def zyE (nm:ByteArray):List Fld->Nat->Int
 |[],_=> -1
 |g::r,i=>if g.name=nm then i else zyE nm r (i+1)
def zq2 (nm:ByteArray): ∀ (l:List Fld) (i:Nat),decide (0<=zyE nm l i)=zoQ nm l
 |[],i=>rfl
 |g::r,i=>by
  have ih:=zq2 nm r (i+1);unfold zyE;unfold zoQ at ih ⊢;rw[List.any_cons];split
  ·rename_i h
   rw[yaQ h,Bool.true_or];exact yaQ (by omega)
  ·rename_i h
   rw[yaW h,ydn,ih]
def zoR (seen:List Fld) (prev:Int) (f:Fld):Int:=
 if f.id<=prev then 81 else if !zoc f.name || zoQ f.name seen then 80 else if f.kind<1\/3<f.kind then 10
 else if f.need=seen.isEmpty/\ ¬ (seen.isEmpty=true/\f.kind=2) then 0 else 82
def ztt:List Fld->Int->List Fld->Int
 |_,_,[]=>0
 |seen,prev,f::r=>if zoR seen prev f=0 then ztt (seen++[f]) f.id r else zoR seen prev f
def zj7 (s:Sch):Int:=if s.id=0\/s.fields.length=0\/8<s.fields.length then 1 else ztt [] 0 s.fields
def zc2 (fs:List Fld) (k:Nat):Int:=match k with | 0=>0 | k+1=>match fs[k]? with | some f=>f.id | none=>0
def zod {fs:List Fld} {k:Nat} {f:Fld} (hk:k<fs.length) (hf:fs[k]=f) (prev:Int):
 ztt (fs.take k) prev (fs.drop k)=if zoR (fs.take k) prev f=0 then ztt (fs.take (k+1)) f.id (fs.drop (k+1)) else zoR (fs.take k) prev f:=by
 rw[yaG hk,hf,ybj hk,hf];rfl
def zer {fs:List Fld} {k:Nat} {f:Fld} (hk:k<fs.length) (hf:fs[k]=f):zc2 fs (k+1)=f.id:=by
 simp only[zc2,yal hk,hf]
def zlL {fs:List Fld} {k:Nat} (hk:k<fs.length):(fs.take k).isEmpty=decide (k=0):=by
 cases k with
 |zero=>rfl
 |succ k=>cases fs with
  |nil=>simp at hk
  |cons f r=>rfl
def zpI (k:Int):R 85 [.d (.int .u8 k)] []=some ([.d (.bool (decide (1<=k/\k<=3)))],[]):=by
 by_cases h1:1<=k
 ·by_cases h2:k<=3
  ·rw[yaQ ⟨h1,h2⟩]
   refine rg b85 rfl ?_;intro T hT;simp -dsimp -implicitDefEqProofs (disch:=first|omega|assumption) [h1,h2]
   simpa -dsimp -implicitDefEqProofs (disch:=first|omega|assumption) using hT
  ·rw[yaW (λh=>h2 h.2)]
   refine rg b85 rfl ?_;intro T hT;simp -dsimp -implicitDefEqProofs (disch:=first|omega|assumption) [h1,h2]
   simpa -dsimp -implicitDefEqProofs (disch:=first|omega|assumption) using hT
 ·rw[yaW (λh=>h1 h.1)]
  refine rg b85 rfl ?_;intro T hT;simp -dsimp -implicitDefEqProofs (disch:=first|omega|assumption) [h1]
  simpa -dsimp -implicitDefEqProofs (disch:=first|omega|assumption) using hT
def zsQ (f g:Fld):R 84 [.d f.d,.ptr 0 0] [.box [.d (.int .u32 g.id),.d (.str g.name),.d (.int .u8 g.kind),.d (.bool g.need)]]=some ([.d (.bool (decide (f.name=g.name)))],[.box [.d (.int .u32 g.id),.d (.str g.name),.d (.int .u8 g.kind),.d (.bool g.need)]]):=by
 refine rg b84 rfl ?_;intro T hT;simp -dsimp -implicitDefEqProofs (disch:=first|omega|assumption) [zdH]
 simpa -dsimp -implicitDefEqProofs (disch:=first|omega|assumption) using hT
def zpJ (fs:List Fld) (g:Fld) (hl:fs.length<1000000000):R 124 [.d (.list (fs.map Fld.d)),.clo 84 [.ptr 0 0]] [.box [.d (.int .u32 g.id),.d (.str g.name),.d (.int .u8 g.kind),.d (.bool g.need)]]
 =some ([.d (.int .i64 (zyE g.name fs 0))],[.box [.d (.int .u32 g.id),.d (.str g.name),.d (.int .u8 g.kind),.d (.bool g.need)]]):=by
 refine rg zIg rfl ?_;intro T hT;simp -dsimp -implicitDefEqProofs (disch:=first|omega|assumption)
 generalize hz:zak _ _ _ _ _ _=z;revert z;refine zaa (σ:=Nat) (λk=>[(0,.d (.list (fs.map Fld.d))),(1,.clo 84 [.ptr 0 0]),(7,.d (.int .i64 fs.length)),(8,.d (.int .i64 k))]) (λ_=>[.box [.d (.int .u32 g.id),.d (.str g.name),.d (.int .u8 g.kind),.d (.bool g.need)]]) (λk=>k<=fs.length/\zyE g.name fs 0=zyE g.name (fs.drop k) k) (λk=>fs.length - k) 0 ?_ ?_ ?_
 ·exact⟨yaj _,rfl⟩
 ·simp -dsimp -implicitDefEqProofs (disch:=first|omega|assumption)
 intro T' f hT' k ⟨g1,g2⟩ ih
 by_cases hk:k<fs.length
 ·obtain⟨x,hx⟩: ∃x,fs[k]=x:=⟨_,rfl⟩
  have hs:=zsQ x g;rw[yaG hk,hx]at g2;simp only[zyE]at g2
  by_cases he:x.name=g.name
  ·rw[yai he]at g2
   rw[yaQ he]at hs;subst hT';rw[g2]at hT;obtain⟨xi,xn,xk,xd⟩:=x;simp only[Fld.d]at hs;simp -dsimp -implicitDefEqProofs (disch:=first|omega|assumption) [hk,hx,hs]
   simpa -dsimp -implicitDefEqProofs (disch:=first|omega|assumption) using hT
  ·rw[yaf he]at g2
   rw[yaW he]at hs;obtain⟨xi,xn,xk,xd⟩:=x;simp only[Fld.d]at hs;simp -dsimp -implicitDefEqProofs (disch:=first|omega|assumption) [hk,hx,hs]
   refine ih (k+1) _ _ ⟨by omega,g2⟩ (by omega) ?_
   simp -dsimp -implicitDefEqProofs (disch:=first|omega|assumption) [wI]
 ·have:k=fs.length:=by omega
  subst this;rw[yb9,show zyE g.name [] fs.length= -1 from rfl]at g2
  subst hT';rw[g2]at hT;simp -dsimp -implicitDefEqProofs (disch:=first|omega|assumption)
  simpa -dsimp -implicitDefEqProofs (disch:=first|omega|assumption) using hT
def zkL (fs:List Fld) (g:Fld) (hl:fs.length<1000000000):R 83 [.d (.list (fs.map Fld.d)),.clo 84 [.ptr 0 0]] [.box [.d (.int .u32 g.id),.d (.str g.name),.d (.int .u8 g.kind),.d (.bool g.need)]]
 =some ([.d (.bool (zoQ g.name fs))],[.box [.d (.int .u32 g.id),.d (.str g.name),.d (.int .u8 g.kind),.d (.bool g.need)]]):=by
 have h:=zpJ fs g hl;rw[<- zq2 g.name fs 0];refine rg b83 rfl ?_;intro T hT;simp -dsimp -implicitDefEqProofs (disch:=first|omega|assumption) [h]
 simpa -dsimp -implicitDefEqProofs (disch:=first|omega|assumption) using hT
def zpK {l:List Fld} {p:Int} {f:Fld} (h:f.id<=p):zoR l p f=81:=by unfold zoR;rw[yai h]
def zd1 {l:List Fld} {p:Int} {f:Fld} (h: ¬ f.id<=p) (h2:zoc f.name=false\/zoQ f.name l=true):zoR l p f=80:=by
 unfold zoR;rw[yaf h,yai];rcases h2 with h2 | h2 <;> simp[h2]
def zeX {l:List Fld} {p:Int} {f:Fld} (h: ¬ f.id<=p) (h2:zoc f.name=true) (h3:zoQ f.name l=false) (h4:f.kind<1\/3<f.kind):zoR l p f=10:=by
 unfold zoR;rw[yaf h,yaf (by simp[h2,h3]),yai h4]
def zmA {l:List Fld} {p:Int} {f:Fld} (h: ¬ f.id<=p) (h2:zoc f.name=true) (h3:zoQ f.name l=false) (h4: ¬ (f.kind<1\/3<f.kind)):
 zoR l p f=if f.need=l.isEmpty/\ ¬ (l.isEmpty=true/\f.kind=2) then 0 else 82:=by
 unfold zoR;rw[yaf h,yaf (by simp[h2,h3]),yaf h4]
def zj8 (s:Sch) (hid:0<=s.id) (hf: ∀f∈s.fields,f.name.size<1000000000) (hl:s.fields.length<1000000000):R 39 [.d s.d] []=some ([.d (.int .i64 (zj7 s))],[]):=by
 obtain⟨sid,fs⟩:=s;simp only at hid hf hl;unfold zj7;simp only
 by_cases h1:sid<1
 ·rw[yai (.inl (by omega))]
  refine rg b39 rfl ?_;intro T hT;simp -dsimp -implicitDefEqProofs (disch:=first|omega|assumption) [h1]
  simpa -dsimp -implicitDefEqProofs (disch:=first|omega|assumption) using hT
 by_cases h2:fs.length<1
 ·rw[yai (.inr (.inl (by omega)))]
  have h2':(fs.length:Int)<1:=by omega
  refine rg b39 rfl ?_;intro T hT;simp -dsimp -implicitDefEqProofs (disch:=first|omega|assumption) [h1,h2']
  simpa -dsimp -implicitDefEqProofs (disch:=first|omega|assumption) using hT
 have h2': ¬ (fs.length:Int)<1:=by omega
 by_cases h3:8<fs.length
 ·rw[yai (.inr (.inr h3))]
  have h3':(8:Int)<fs.length:=by omega
  refine rg b39 rfl ?_;intro T hT;simp -dsimp -implicitDefEqProofs (disch:=first|omega|assumption) [h1,h2',h3']
  simpa -dsimp -implicitDefEqProofs (disch:=first|omega|assumption) using hT
 have h3': ¬ (8:Int)<fs.length:=by omega
 rw[yaf (by omega)]
 refine rg b39 rfl ?_;intro T hT;simp -dsimp -implicitDefEqProofs (disch:=first|omega|assumption) [h1,h2',h3']
 generalize hz:zak _ _ _ _ _ _=z;revert z;refine zaa (σ:=Nat) (λk=>[(1,.ptr 0 0),(3,.d (.int .u32 (zc2 fs k))),(22,.d (.list (fs.map Fld.d))),(23,.d (.int .i64 fs.length)),(24,.d (.int .i64 k))]) (λ_=>[.box [.d (.int .u32 sid),.d (.list (fs.map Fld.d))]]) (λk=>k<=fs.length/\ztt [] 0 fs=ztt (fs.take k) (zc2 fs k) (fs.drop k)) (λk=>fs.length - k) 0 ?_ ?_ ?_
 ·exact⟨yaj _,rfl⟩
 ·simp -dsimp -implicitDefEqProofs (disch:=first|omega|assumption) [zc2]
 intro T' fn hT' k ⟨g1,g2⟩ ih
 by_cases hk:k<fs.length
 ·obtain⟨x,hx⟩: ∃x,fs[k]=x:=⟨_,rfl⟩
  rw[zod hk hx]at g2;have hp:=zer hk hx;have hnm:=zsP x.name (hf x (hx ▸ yar hk));have hcn:=zkL (fs.take k) x (by rw[yat];omega)
  rw[ybZ]at hcn;have he:=zlL hk;obtain⟨xi,xn,xk,xd⟩:=x;simp only at hnm hcn hp;generalize zc2 fs k=p at*
  by_cases a1:xi<=p
  ·rw[zpK a1,yaf (by decide)]at g2
   subst hT';rw[g2]at hT;simp -dsimp -implicitDefEqProofs (disch:=first|omega|assumption) [hk,hx,a1]
   simpa -dsimp -implicitDefEqProofs (disch:=first|omega|assumption) using hT
  cases a2:zoc xn with
  |false=>
   rw[zd1 a1 (.inl a2),yaf (by decide)]at g2
   rw[a2]at hnm;subst hT';rw[g2]at hT;simp -dsimp -implicitDefEqProofs (disch:=first|omega|assumption) [hk,hx,a1,hnm]
   simpa -dsimp -implicitDefEqProofs (disch:=first|omega|assumption) using hT
  |true=>
  rw[a2]at hnm;cases a3:zoQ xn (fs.take k) with
  |true=>
   rw[zd1 a1 (.inr a3),yaf (by decide)]at g2
   rw[a3]at hcn;subst hT';rw[g2]at hT;simp -dsimp -implicitDefEqProofs (disch:=first|omega|assumption) [hk,hx,a1,hnm,hcn]
   simpa -dsimp -implicitDefEqProofs (disch:=first|omega|assumption) using hT
  |false=>
  rw[a3]at hcn;have hr:=zpI xk
  by_cases a4:xk<1\/3<xk
  ·rw[zeX a1 a2 a3 a4,yaf (by decide)]at g2
   rw[yaW (by omega)]at hr
   subst hT';rw[g2]at hT;simp -dsimp -implicitDefEqProofs (disch:=first|omega|assumption) [hk,hx,a1,hnm,hcn,hr]
   simpa -dsimp -implicitDefEqProofs (disch:=first|omega|assumption) using hT
  have hend:=zmA (l:=fs.take k) (p:=p) (f:=⟨xi,xn,xk,xd⟩) a1 a2 a3 a4;rw[he]at hend;generalize zoR (fs.take k) p ⟨xi,xn,xk,xd⟩=c at g2 hend;rw[yaQ (by omega)]at hr
  simp only at hend;cases k with
  |zero=>
   rw[yaQ rfl]at hend;rw[yd1]at hcn;cases xd with
   |false=>
    rw[yaf (by simp)]at hend
    rw[hend,yaf (by decide)]at g2
    subst hT';rw[g2]at hT;simp -dsimp -implicitDefEqProofs (disch:=first|omega|assumption) [hk,hx,a1,hnm,hcn,hr]
    simpa -dsimp -implicitDefEqProofs (disch:=first|omega|assumption) using hT
   |true=>
    by_cases a5:xk=2
    ·rw[yaf (by simp[a5])]at hend
     rw[hend,yaf (by decide)]at g2
     subst hT';rw[g2]at hT;subst a5;simp -dsimp -implicitDefEqProofs (disch:=first|omega|assumption) [hk,hx,a1,hnm,hcn,hr]
     simpa -dsimp -implicitDefEqProofs (disch:=first|omega|assumption) using hT
    ·rw[yai (by simp[a5])]at hend
     rw[yai hend]at g2;simp -dsimp -implicitDefEqProofs (disch:=first|omega|assumption) [hk,hx,a1,hnm,hcn,hr,a5]
     have hp1:zc2 fs 1=xi:=hp;refine ih 1 _ _ ⟨by omega,by rw[hp1];exact g2⟩ (by omega) ?_
     simp -dsimp -implicitDefEqProofs (disch:=first|omega|assumption) [wI,hp1]
  |succ k=>
   rw[yaW (by omega)]at hend
   have b1: ¬ (k:Int)+1=0:=by omega
   have b2:(k:Int)+1<(fs.length:Int):=by omega
   cases xd with
   |true=>
    rw[yaf (by simp)]at hend
    rw[hend,yaf (by decide)]at g2
    subst hT';rw[g2]at hT;simp -dsimp -implicitDefEqProofs (disch:=first|omega|assumption) [hk,b2,hx,a1,hnm,hcn,hr,b1]
    simpa -dsimp -implicitDefEqProofs (disch:=first|omega|assumption) using hT
   |false=>
    rw[yai (by simp)]at hend
    rw[yai hend]at g2;simp -dsimp -implicitDefEqProofs (disch:=first|omega|assumption) [hk,b2,hx,a1,hnm,hcn,hr,b1]
    refine ih (k+1+1) _ _ ⟨by omega,by rw[hp];exact g2⟩ (by omega) ?_
    simp -dsimp -implicitDefEqProofs (disch:=first|omega|assumption) [wI,hp]
 ·have:k=fs.length:=by omega
  subst this;rw[yb9,show ∀l p,ztt l p []=0 from λ_ _=>rfl]at g2
  subst hT';rw[g2]at hT;simp -dsimp -implicitDefEqProofs (disch:=first|omega|assumption)
  simpa -dsimp -implicitDefEqProofs (disch:=first|omega|assumption) using hT
end Go.Am.Ab
namespace Go.Am.Ab
open Go.Proofs
set_option maxHeartbeats 4000000
set_option maxRecDepth 4000
def zsR (fs:List Fld) (nm:ByteArray) (hl:fs.length<1000000000):R 57 [.d (.list (fs.map Fld.d)),.d (.str nm)] []=some ([.d (.bool (zoQ nm fs))],[]):=by
 refine rg b57 rfl ?_;intro T hT;simp -dsimp -implicitDefEqProofs (disch:=first|omega|assumption)
 generalize hz:zak _ _ _ _ _ _=z;revert z;refine zaa (σ:=Nat) (λk=>[(0,.d (.list (fs.map Fld.d))),(1,.d (.str nm)),(5,.d (.int .i64 k))]) (λ_=>[]) (λk=>k<=fs.length/\zoQ nm fs=zoQ nm (fs.drop k)) (λk=>fs.length - k) 0 ?_ ?_ ?_
 ·exact⟨yaj _,rfl⟩
 ·simp -dsimp -implicitDefEqProofs (disch:=first|omega|assumption)
 intro T' f hT' k ⟨g1,g2⟩ ih
 by_cases hk:k<fs.length
 ·obtain⟨x,hx⟩: ∃x,fs[k]=x:=⟨_,rfl⟩
  rw[yaG hk,hx,show zoQ nm (x::fs.drop (k+1))=(decide (x.name=nm) || zoQ nm (fs.drop (k+1))) from rfl]at g2
  obtain⟨xi,xn,xk,xd⟩:=x;simp only at g2
  by_cases he:xn=nm
  ·rw[yaQ he,Bool.true_or]at g2
   subst hT';rw[g2]at hT;simp -dsimp -implicitDefEqProofs (disch:=first|omega|assumption) [hk,hx,zdH,he]
   simpa -dsimp -implicitDefEqProofs (disch:=first|omega|assumption) using hT
  ·rw[yaW he,ydn]at g2
   simp -dsimp -implicitDefEqProofs (disch:=first|omega|assumption) [hk,hx,zdH,he]
   refine ih (k+1) _ _ ⟨by omega,g2⟩ (by omega) ?_
   simp -dsimp -implicitDefEqProofs (disch:=first|omega|assumption) [wI]
 ·have:k=fs.length:=by omega
  subst this;rw[yb9,show zoQ nm []=false from rfl]at g2
  subst hT';rw[g2]at hT;simp -dsimp -implicitDefEqProofs (disch:=first|omega|assumption)
  simpa -dsimp -implicitDefEqProofs (disch:=first|omega|assumption) using hT
def zoe (s:Sch) (hid:0<=s.id) (hf: ∀f∈s.fields,0<=f.id/\f.name.size<1000000000) (hl:s.fields.length<1000000000):R 15 [.d s.d] []=some ([.d (.int .i64 (zj7 s))],[]):=by
 obtain⟨sid,fs⟩:=s;simp only at hid hf hl;unfold zj7;simp only
 by_cases h1:sid=0
 ·rw[yai (.inl h1)]
  subst h1;refine rg b15 rfl ?_;intro T hT;simp -dsimp -implicitDefEqProofs (disch:=first|omega|assumption)
  simpa -dsimp -implicitDefEqProofs (disch:=first|omega|assumption) using hT
 by_cases h2:fs.length=0
 ·rw[yai (.inr (.inl (by omega)))]
  have h2':fs=[]:=yaL h2;subst h2';refine rg b15 rfl ?_;intro T hT;simp -dsimp -implicitDefEqProofs (disch:=first|omega|assumption) [h1]
  simpa -dsimp -implicitDefEqProofs (disch:=first|omega|assumption) using hT
 have h2': ¬ fs=[]:=λe=>h2 (by rw[e];rfl)
 by_cases h3:8<fs.length
 ·rw[yai (.inr (.inr h3))]
  have h3':(8:Int)<fs.length:=by omega
  refine rg b15 rfl ?_;intro T hT;simp -dsimp -implicitDefEqProofs (disch:=first|omega|assumption) [h1,h2',h3']
  simpa -dsimp -implicitDefEqProofs (disch:=first|omega|assumption) using hT
 have h3': ¬ (8:Int)<fs.length:=by omega
 rw[yaf (by omega)]
 refine rg b15 rfl ?_;intro T hT;simp -dsimp -implicitDefEqProofs (disch:=first|omega|assumption) [h1,h2',h3']
 generalize hz:zak _ _ _ _ _ _=z;revert z;refine zaa (σ:=Nat) (λk=>[(1,.ptr 0 0),(3,.d (.int .i64 k))]) (λ_=>[.box [.d (.int .u32 sid),.d (.list (fs.map Fld.d))]]) (λk=>k<=fs.length/\ztt [] 0 fs=ztt (fs.take k) (zc2 fs k) (fs.drop k)) (λk=>fs.length - k) 0 ?_ ?_ ?_
 ·exact⟨yaj _,rfl⟩
 ·simp -dsimp -implicitDefEqProofs (disch:=first|omega|assumption)
 intro T' fn hT' k ⟨g1,g2⟩ ih
 by_cases hk:k<fs.length
 ·obtain⟨x,hx⟩: ∃x,fs[k]=x:=⟨_,rfl⟩
  have hx0:=hf x (hx ▸ yar hk);rw[zod hk hx]at g2;have hp:=zer hk hx;have hnm:=zpH x.name hx0.2;have hcn:=zsR (fs.take k) x.name (by rw[yat];omega)
  rw[ybZ]at hcn;have he:=zlL hk;obtain⟨xi,xn,xk,xd⟩:=x;simp only at hnm hcn hp hx0;have hi:xi=0\/(∃j,k=j+1/\xi<=zc2 fs k)\/(xi≠0/\ ¬ xi<=zc2 fs k):=by
   by_cases a:xi=0
   ·exact .inl a
   ·cases k with
    |zero=>exact .inr (.inr ⟨a,by simp only[zc2];omega⟩)
    |succ j=>
     by_cases b:xi<=zc2 fs (j+1)
     ·exact .inr (.inl ⟨j,rfl,b⟩)
     ·exact .inr (.inr ⟨a,b⟩)
  have hp0:0<=zc2 fs k:=by
   cases k with
   |zero=>exact ydP _
   |succ j=>
    have hj:j<fs.length:=by omega
    rw[zer hj rfl];exact (hf _ (yar hj)).1
  have hpv: ∀j,k=j+1-> ∃y:Fld, ∃hj:j<fs.length,fs[j]=y/\y.id=zc2 fs k:=λj e=>by
   subst e;have hj:j<fs.length:=by omega
   exact⟨fs[j],hj,rfl,(zer hj rfl).symm⟩
  generalize zc2 fs k=p at*;rcases hi with a0 | ⟨j,rfl,a1⟩ | ⟨a0,a1⟩
  ·rw[zpK (by simp only;omega),yaf (by decide)]at g2
   subst a0;subst hT';rw[g2]at hT;simp -dsimp -implicitDefEqProofs (disch:=first|omega|assumption) [hk,hx]
   simpa -dsimp -implicitDefEqProofs (disch:=first|omega|assumption) using hT
  ·rw[zpK a1,yaf (by decide)]at g2
   obtain⟨y,hj,hy,hyp⟩:=hpv j rfl;have b2:(j:Int)+1<(fs.length:Int):=by omega
   have b3:(0:Int)<(j:Int)+1:=by omega
   obtain⟨yi,yn,yk,yd⟩:=y;simp only at hyp;subst hyp;subst hT';rw[g2]at hT
   by_cases a0:xi=0
   ·subst a0
    simp -dsimp -implicitDefEqProofs (disch:=first|omega|assumption) [hk,b2,hx]
    simpa -dsimp -implicitDefEqProofs (disch:=first|omega|assumption) using hT
   ·simp -dsimp -implicitDefEqProofs (disch:=first|omega|assumption) [hk,b2,b3,hx,hy,hj,a0,a1]
    simpa -dsimp -implicitDefEqProofs (disch:=first|omega|assumption) using hT
  cases k with
  |zero=>
   rw[yd1]at hcn;cases a2:zoc xn with
   |false=>
    rw[zd1 a1 (.inl a2),yaf (by decide)]at g2
    rw[a2]at hnm;subst hT';rw[g2]at hT;simp -dsimp -implicitDefEqProofs (disch:=first|omega|assumption) [hk,hx,a0,a1,hnm]
    simpa -dsimp -implicitDefEqProofs (disch:=first|omega|assumption) using hT
   |true=>
   rw[a2]at hnm;cases a3:zoQ xn (fs.take 0) with
   |true=>
    rw[zd1 a1 (.inr a3),yaf (by decide)]at g2
    rw[a3]at hcn;subst hT';rw[g2]at hT;simp -dsimp -implicitDefEqProofs (disch:=first|omega|assumption) [hk,hx,a0,a1,hnm,hcn]
    simpa -dsimp -implicitDefEqProofs (disch:=first|omega|assumption) using hT
   |false=>
   rw[a3]at hcn
   by_cases a4:xk<1
   ·rw[zeX a1 a2 a3 (.inl a4),yaf (by decide)]at g2
    subst hT';rw[g2]at hT;simp -dsimp -implicitDefEqProofs (disch:=first|omega|assumption) [hk,hx,a0,a1,hnm,hcn,a4]
    simpa -dsimp -implicitDefEqProofs (disch:=first|omega|assumption) using hT
   by_cases a5:3<xk
   ·rw[zeX a1 a2 a3 (.inr a5),yaf (by decide)]at g2
    subst hT';rw[g2]at hT;simp -dsimp -implicitDefEqProofs (disch:=first|omega|assumption) [hk,hx,a0,a1,hnm,hcn,a4,a5]
    simpa -dsimp -implicitDefEqProofs (disch:=first|omega|assumption) using hT
   have hend:=zmA (l:=fs.take 0) (p:=p) (f:=⟨xi,xn,xk,xd⟩) a1 a2 a3 (λh=>h.elim a4 a5)
   rw[he]at hend;generalize zoR (fs.take 0) p ⟨xi,xn,xk,xd⟩=c at g2 hend;simp only at hend;cases xd with
   |false=>
    rw[yaf (by simp)]at hend
    rw[hend,yaf (by decide)]at g2
    subst hT';rw[g2]at hT;simp -dsimp -implicitDefEqProofs (disch:=first|omega|assumption) [hk,hx,a0,a1,hnm,hcn,a4,a5]
    simpa -dsimp -implicitDefEqProofs (disch:=first|omega|assumption) using hT
   |true=>
    by_cases a6:xk=2
    ·rw[yaf (by simp[a6])]at hend
     rw[hend,yaf (by decide)]at g2
     subst hT';rw[g2]at hT;subst a6;simp -dsimp -implicitDefEqProofs (disch:=first|omega|assumption) [hk,hx,a0,a1,hnm,hcn]
     simpa -dsimp -implicitDefEqProofs (disch:=first|omega|assumption) using hT
    ·rw[yai (by simp[a6])]at hend
     rw[yai hend]at g2;simp -dsimp -implicitDefEqProofs (disch:=first|omega|assumption) [hk,hx,a0,a1,hnm,hcn,a4,a5,a6]
     have hp1:zc2 fs 1=xi:=hp;refine ih 1 _ _ ⟨by omega,by rw[hp1];exact g2⟩ (by omega) ?_
     simp -dsimp -implicitDefEqProofs (disch:=first|omega|assumption) [wI]
  |succ j=>
   obtain⟨y,hj,hy,hyp⟩:=hpv j rfl;have b2:(j:Int)+1<(fs.length:Int):=by omega
   have b3:(0:Int)<(j:Int)+1:=by omega
   have b4: ¬ (j:Int)+1=0:=by omega
   obtain⟨yi,yn,yk,yd⟩:=y;simp only at hyp;subst hyp;cases a2:zoc xn with
   |false=>
    rw[zd1 a1 (.inl a2),yaf (by decide)]at g2
    rw[a2]at hnm;subst hT';rw[g2]at hT;simp -dsimp -implicitDefEqProofs (disch:=first|omega|assumption) [hk,b2,b3,b4,hx,hy,hj,a0,a1,hnm]
    simpa -dsimp -implicitDefEqProofs (disch:=first|omega|assumption) using hT
   |true=>
   rw[a2]at hnm;cases a3:zoQ xn (fs.take (j+1)) with
   |true=>
    rw[zd1 a1 (.inr a3),yaf (by decide)]at g2
    rw[a3]at hcn;subst hT';rw[g2]at hT;simp -dsimp -implicitDefEqProofs (disch:=first|omega|assumption) [hk,b2,b3,b4,hx,hy,hj,a0,a1,hnm,hcn]
    simpa -dsimp -implicitDefEqProofs (disch:=first|omega|assumption) using hT
   |false=>
   rw[a3]at hcn
   by_cases a4:xk<1
   ·rw[zeX a1 a2 a3 (.inl a4),yaf (by decide)]at g2
    subst hT';rw[g2]at hT;simp -dsimp -implicitDefEqProofs (disch:=first|omega|assumption) [hk,b2,b3,b4,hx,hy,hj,a0,a1,hnm,hcn,a4]
    simpa -dsimp -implicitDefEqProofs (disch:=first|omega|assumption) using hT
   by_cases a5:3<xk
   ·rw[zeX a1 a2 a3 (.inr a5),yaf (by decide)]at g2
    subst hT';rw[g2]at hT;simp -dsimp -implicitDefEqProofs (disch:=first|omega|assumption) [hk,b2,b3,b4,hx,hy,hj,a0,a1,hnm,hcn,a4,a5]
    simpa -dsimp -implicitDefEqProofs (disch:=first|omega|assumption) using hT
   have hend:=zmA (l:=fs.take (j+1)) (p:=yi) (f:=⟨xi,xn,xk,xd⟩) a1 a2 a3 (λh=>h.elim a4 a5)
   rw[he]at hend;generalize zoR (fs.take (j+1)) yi ⟨xi,xn,xk,xd⟩=c at g2 hend;simp only at hend;rw[yaW (by omega)]at hend
   cases xd with
   |true=>
    rw[yaf (by simp)]at hend
    rw[hend,yaf (by decide)]at g2
    subst hT';rw[g2]at hT;simp -dsimp -implicitDefEqProofs (disch:=first|omega|assumption) [hk,b2,b3,b4,hx,hy,hj,a0,a1,hnm,hcn,a4,a5]
    simpa -dsimp -implicitDefEqProofs (disch:=first|omega|assumption) using hT
   |false=>
    rw[yai (by simp)]at hend
    rw[yai hend]at g2;simp -dsimp -implicitDefEqProofs (disch:=first|omega|assumption) [hk,b2,b3,b4,hx,hy,hj,a0,a1,hnm,hcn,a4,a5]
    refine ih (j+1+1) _ _ ⟨by omega,by rw[hp];exact g2⟩ (by omega) ?_
    simp -dsimp -implicitDefEqProofs (disch:=first|omega|assumption) [wI]
 ·have:k=fs.length:=by omega
  subst this;rw[yb9,show ∀l p,ztt l p []=0 from λ_ _=>rfl]at g2
  subst hT';rw[g2]at hT;simp -dsimp -implicitDefEqProofs (disch:=first|omega|assumption)
  simpa -dsimp -implicitDefEqProofs (disch:=first|omega|assumption) using hT
end Go.Am.Ab
namespace Go.Am.Ab
open Go.Proofs
set_option maxHeartbeats 4000000
set_option maxRecDepth 4000
def ziR (f:Fld) (v:Val):Int:=
 match v with
 |.null=>if f.need=true then 82 else 0
 |.text s=>if f.kind≠3 then 10 else if 64<s.size then 5 else 0
 |v=>if f.kind≠v.kind then 10 else 0
def zu0:List Fld->List Val->Int
 |f::fs,v::vs=>if ziR f v=0 then zu0 fs vs else ziR f v
 |_,_=>0
def fit (s:Sch) (l:List Val):Int:=if l.length≠s.fields.length then 1 else zu0 s.fields l
def zg9 {xi:Int} {xn:ByteArray} {xd:Bool} {t:ByteArray}:ziR ⟨xi,xn,3,xd⟩ (.text t)=if 64<t.size then 5 else 0:=rfl
def zof {fs:List Fld} {l:List Val} {k:Nat} {f:Fld} {v:Val} (hk:k<fs.length) (hl:k<l.length) (hf:fs[k]=f) (hv:l[k]=v):
 zu0 (fs.drop k) (l.drop k)=if ziR f v=0 then zu0 (fs.drop (k+1)) (l.drop (k+1)) else ziR f v:=by
 rw[yaG hk,yaG hl,hf,hv];rfl
def zq3 (fs:List Fld) (l:List Val) {k:Nat} (hk:fs.length<=k):zu0 (fs.drop k) (l.drop k)=0:=by
 rw[ybI hk];rfl
def zxw (s:Sch) (l:List Val) (hl:s.fields.length<1000000000) (hm:l.length<1000000000):R 40 [.d s.d,.d (.list (vs l))] []=some ([.d (.int .i64 (fit s l))],[]):=by
 obtain⟨sid,fs⟩:=s;simp only at hl;unfold fit;simp only
 by_cases h1:l.length=fs.length
 ·rw[yaf (ycg h1)]
  have h1':(l.length:Int)=fs.length:=by omega
  refine rg b40 rfl ?_;intro T hT;simp -dsimp -implicitDefEqProofs (disch:=first|omega|assumption) [h1']
  generalize hz:zak _ _ _ _ _ _=z;revert z;refine zaa (σ:=Nat) (λk=>[(1,.d (.list (vs l))),(16,.d (.list (fs.map Fld.d))),(17,.d (.int .i64 fs.length)),(18,.d (.int .i64 k))]) (λ_=>[]) (λk=>k<=fs.length/\zu0 fs l=zu0 (fs.drop k) (l.drop k)) (λk=>fs.length - k) 0 ?_ ?_ ?_
  ·exact⟨yaj _,rfl⟩
  ·simp -dsimp -implicitDefEqProofs (disch:=first|omega|assumption)
  intro T' fn hT' k ⟨g1,g2⟩ ih
  by_cases hk:k<fs.length
  ·have hk2:k<l.length:=by omega
   obtain⟨x,hx⟩: ∃x,fs[k]=x:=⟨_,rfl⟩;obtain⟨v,hv⟩: ∃v,l[k]=v:=⟨_,rfl⟩;rw[zof hk hk2 hx hv]at g2;obtain⟨xi,xn,xk,xd⟩:=x;cases v with
   |null=>
    cases xd with
    |true=>
     rw[show ziR ⟨xi,xn,xk,true⟩ .null=82 from rfl,yaf (by decide)]at g2
     subst hT';rw[g2]at hT;simp -dsimp -implicitDefEqProofs (disch:=first|omega|assumption) [hk,hk2,hx,hv,Val.d]
     simpa -dsimp -implicitDefEqProofs (disch:=first|omega|assumption) using hT
    |false=>
     rw[show ziR ⟨xi,xn,xk,false⟩ .null=0 from rfl,yai rfl]at g2
     simp -dsimp -implicitDefEqProofs (disch:=first|omega|assumption) [hk,hk2,hx,hv,Val.d]
     refine ih (k+1) _ _ ⟨by omega,g2⟩ (by omega) ?_
     simp -dsimp -implicitDefEqProofs (disch:=first|omega|assumption) [wI]
   |whole n=>
    have hko:R 86 [.d (.iface 2 (.int .i64 n))] []=some ([.d (.int .u8 1)],[]):=zbL (.whole n)
    by_cases a1:(1:Int)=xk
    ·subst a1
     rw[show ziR ⟨xi,xn,1,xd⟩ (.whole n)=0 from rfl,yai rfl]at g2
     simp -dsimp -implicitDefEqProofs (disch:=first|omega|assumption) [hk,hk2,hx,hv,Val.d,hko]
     refine ih (k+1) _ _ ⟨by omega,g2⟩ (by omega) ?_
     simp -dsimp -implicitDefEqProofs (disch:=first|omega|assumption) [wI]
    ·rw[show ziR ⟨xi,xn,xk,xd⟩ (.whole n)=10 from yai (λh=>a1 h.symm),yaf (by decide)]at g2
     subst hT';rw[g2]at hT;simp -dsimp -implicitDefEqProofs (disch:=first|omega|assumption) [hk,hk2,hx,hv,Val.d,hko,a1]
     simpa -dsimp -implicitDefEqProofs (disch:=first|omega|assumption) using hT
   |truth b=>
    have hko:R 86 [.d (.iface 4 (.bool b))] []=some ([.d (.int .u8 2)],[]):=zbL (.truth b)
    by_cases a1:(2:Int)=xk
    ·subst a1
     rw[show ziR ⟨xi,xn,2,xd⟩ (.truth b)=0 from rfl,yai rfl]at g2
     simp -dsimp -implicitDefEqProofs (disch:=first|omega|assumption) [hk,hk2,hx,hv,Val.d,hko]
     refine ih (k+1) _ _ ⟨by omega,g2⟩ (by omega) ?_
     simp -dsimp -implicitDefEqProofs (disch:=first|omega|assumption) [wI]
    ·rw[show ziR ⟨xi,xn,xk,xd⟩ (.truth b)=10 from yai (λh=>a1 h.symm),yaf (by decide)]at g2
     subst hT';rw[g2]at hT;simp -dsimp -implicitDefEqProofs (disch:=first|omega|assumption) [hk,hk2,hx,hv,Val.d,hko,a1]
     simpa -dsimp -implicitDefEqProofs (disch:=first|omega|assumption) using hT
   |text t=>
    have hko:R 86 [.d (.iface 9 (.str t))] []=some ([.d (.int .u8 3)],[]):=zbL (.text t)
    by_cases a1:(3:Int)=xk
    ·subst a1
     by_cases a2:64<t.size
     ·have a2':(64:Int)<t.size:=by omega
      rw[zg9,yai a2,yaf (by decide)]at g2
      subst hT';rw[g2]at hT;simp -dsimp -implicitDefEqProofs (disch:=first|omega|assumption) [hk,hk2,hx,hv,Val.d,hko,a2']
      simpa -dsimp -implicitDefEqProofs (disch:=first|omega|assumption) using hT
     ·have a2': ¬ (64:Int)<t.size:=by omega
      rw[zg9,yaf a2,yai rfl]at g2;simp -dsimp -implicitDefEqProofs (disch:=first|omega|assumption) [hk,hk2,hx,hv,Val.d,hko,a2']
      refine ih (k+1) _ _ ⟨by omega,g2⟩ (by omega) ?_
      simp -dsimp -implicitDefEqProofs (disch:=first|omega|assumption) [wI]
    ·rw[show ziR ⟨xi,xn,xk,xd⟩ (.text t)=10 from yai (λh=>a1 h.symm),yaf (by decide)]at g2
     subst hT';rw[g2]at hT;simp -dsimp -implicitDefEqProofs (disch:=first|omega|assumption) [hk,hk2,hx,hv,Val.d,hko,a1]
     simpa -dsimp -implicitDefEqProofs (disch:=first|omega|assumption) using hT
  ·have:k=fs.length:=by omega
   subst this;rw[zq3 _ _ (yag _)]at g2;subst hT';rw[g2]at hT;simp -dsimp -implicitDefEqProofs (disch:=first|omega|assumption)
   simpa -dsimp -implicitDefEqProofs (disch:=first|omega|assumption) using hT
 ·rw[yai h1]
  have h1': ¬ (l.length:Int)=fs.length:=by omega
  refine rg b40 rfl ?_;intro T hT;simp -dsimp -implicitDefEqProofs (disch:=first|omega|assumption) [h1']
  simpa -dsimp -implicitDefEqProofs (disch:=first|omega|assumption) using hT
def zu1 (s:Sch) (l:List Val) (hl:s.fields.length<1000000000) (hm:l.length<1000000000):R 50 [.d s.d,.d (.list (ce (l.map zah)))] []=some ([.d (.int .i64 (fit s l))],[]):=by
 obtain⟨sid,fs⟩:=s;simp only at hl;unfold fit;simp only
 by_cases h1:l.length=fs.length
 ·rw[yaf (ycg h1)]
  have h1':(l.length:Int)=fs.length:=by omega
  refine rg b50 rfl ?_;intro T hT;simp -dsimp -implicitDefEqProofs (disch:=first|omega|assumption) [h1']
  generalize hz:zak _ _ _ _ _ _=z;revert z;refine zaa (σ:=Nat) (λk=>[(1,.d (.list (ce (l.map zah)))),(2,.ptr 0 0),(5,.d (.int .i64 k))]) (λ_=>[.box [.d (.int .u32 sid),.d (.list (fs.map Fld.d))]]) (λk=>k<=fs.length/\zu0 fs l=zu0 (fs.drop k) (l.drop k)) (λk=>fs.length - k) 0 ?_ ?_ ?_
  ·exact⟨yaj _,rfl⟩
  ·simp -dsimp -implicitDefEqProofs (disch:=first|omega|assumption)
  intro T' fn hT' k ⟨g1,g2⟩ ih
  by_cases hk:k<fs.length
  ·have hk2:k<l.length:=by omega
   obtain⟨x,hx⟩: ∃x,fs[k]=x:=⟨_,rfl⟩;obtain⟨v,hv⟩: ∃v,l[k]=v:=⟨_,rfl⟩;rw[zof hk hk2 hx hv]at g2;obtain⟨xi,xn,xk,xd⟩:=x;cases v with
   |null=>
    cases xd with
    |true=>
     rw[show ziR ⟨xi,xn,xk,true⟩ .null=82 from rfl,yaf (by decide)]at g2
     subst hT';rw[g2]at hT;simp -dsimp -implicitDefEqProofs (disch:=first|omega|assumption) [h1',hk,hk2,hx,hv,zah,Cel.none,Cel.d]
     simpa -dsimp -implicitDefEqProofs (disch:=first|omega|assumption) using hT
    |false=>
     rw[show ziR ⟨xi,xn,xk,false⟩ .null=0 from rfl,yai rfl]at g2
     simp -dsimp -implicitDefEqProofs (disch:=first|omega|assumption) [h1',hk,hk2,hx,hv,zah,Cel.none,Cel.d]
     refine ih (k+1) _ _ ⟨by omega,g2⟩ (by omega) ?_
     simp -dsimp -implicitDefEqProofs (disch:=first|omega|assumption) [wI]
   |whole n=>
    by_cases a1:(1:Int)=xk
    ·subst a1
     rw[show ziR ⟨xi,xn,1,xd⟩ (.whole n)=0 from rfl,yai rfl]at g2
     simp -dsimp -implicitDefEqProofs (disch:=first|omega|assumption) [h1',hk,hk2,hx,hv,zah,Cel.none,Cel.d]
     refine ih (k+1) _ _ ⟨by omega,g2⟩ (by omega) ?_
     simp -dsimp -implicitDefEqProofs (disch:=first|omega|assumption) [wI]
    ·rw[show ziR ⟨xi,xn,xk,xd⟩ (.whole n)=10 from yai (λh=>a1 h.symm),yaf (by decide)]at g2
     subst hT';rw[g2]at hT;simp -dsimp -implicitDefEqProofs (disch:=first|omega|assumption) [h1',hk,hk2,hx,hv,zah,Cel.none,Cel.d,a1]
     simpa -dsimp -implicitDefEqProofs (disch:=first|omega|assumption) using hT
   |truth b=>
    by_cases a1:(2:Int)=xk
    ·subst a1
     rw[show ziR ⟨xi,xn,2,xd⟩ (.truth b)=0 from rfl,yai rfl]at g2
     simp -dsimp -implicitDefEqProofs (disch:=first|omega|assumption) [h1',hk,hk2,hx,hv,zah,Cel.none,Cel.d]
     refine ih (k+1) _ _ ⟨by omega,g2⟩ (by omega) ?_
     simp -dsimp -implicitDefEqProofs (disch:=first|omega|assumption) [wI]
    ·rw[show ziR ⟨xi,xn,xk,xd⟩ (.truth b)=10 from yai (λh=>a1 h.symm),yaf (by decide)]at g2
     subst hT';rw[g2]at hT;simp -dsimp -implicitDefEqProofs (disch:=first|omega|assumption) [h1',hk,hk2,hx,hv,zah,Cel.none,Cel.d,a1]
     simpa -dsimp -implicitDefEqProofs (disch:=first|omega|assumption) using hT
   |text t=>
    by_cases a1:(3:Int)=xk
    ·subst a1
     by_cases a2:64<t.size
     ·have a2':(64:Int)<t.size:=by omega
      rw[zg9,yai a2,yaf (by decide)]at g2
      subst hT';rw[g2]at hT;simp -dsimp -implicitDefEqProofs (disch:=first|omega|assumption) [h1',hk,hk2,hx,hv,zah,Cel.none,Cel.d,a2']
      simpa -dsimp -implicitDefEqProofs (disch:=first|omega|assumption) using hT
     ·have a2': ¬ (64:Int)<t.size:=by omega
      rw[zg9,yaf a2,yai rfl]at g2;simp -dsimp -implicitDefEqProofs (disch:=first|omega|assumption) [h1',hk,hk2,hx,hv,zah,Cel.none,Cel.d,a2']
      refine ih (k+1) _ _ ⟨by omega,g2⟩ (by omega) ?_
      simp -dsimp -implicitDefEqProofs (disch:=first|omega|assumption) [wI]
    ·rw[show ziR ⟨xi,xn,xk,xd⟩ (.text t)=10 from yai (λh=>a1 h.symm),yaf (by decide)]at g2
     subst hT';rw[g2]at hT;simp -dsimp -implicitDefEqProofs (disch:=first|omega|assumption) [h1',hk,hk2,hx,hv,zah,Cel.none,Cel.d,a1]
     simpa -dsimp -implicitDefEqProofs (disch:=first|omega|assumption) using hT
  ·have:k=fs.length:=by omega
   subst this;rw[zq3 _ _ (yag _)]at g2;subst hT';rw[g2]at hT;simp -dsimp -implicitDefEqProofs (disch:=first|omega|assumption) [h1']
   simpa -dsimp -implicitDefEqProofs (disch:=first|omega|assumption) using hT
 ·rw[yai h1]
  have h1': ¬ (l.length:Int)=fs.length:=by omega
  refine rg b50 rfl ?_;intro T hT;simp -dsimp -implicitDefEqProofs (disch:=first|omega|assumption) [h1']
  simpa -dsimp -implicitDefEqProofs (disch:=first|omega|assumption) using hT
end Go.Am.Ab
namespace Go.Am.Ab
open Go.Proofs
set_option maxHeartbeats 4000000
set_option maxRecDepth 4000
abbrev tx (s:ByteArray):List UInt8:=s.data.toList
def zha (b:Bool):List UInt8:=[if b then 1 else 0]
def zeY (f:Fld):List UInt8:=put f.id.toNat++(put f.name.size++(tx f.name++(put f.kind.toNat++zha f.need)))
def zkM (s:Sch):List UInt8:=put s.id.toNat++put s.fields.length
def zmB (s:Sch):List UInt8:=zkM s++s.fields.flatMap zeY
structure SchOk (s:Sch):Prop where
 id:0<=s.id/\s.id<4294967296
 len:s.fields.length<=100
 fld: ∀f∈s.fields,0<=f.id/\f.id<4294967296/\0<=f.kind/\f.kind<256/\f.name.size<5000
def zu2 {f:Fld} (h:f.name.size<5000) (h1:f.id<4294967296) (h2:f.kind<256):(zeY f).length<=5031:=by
 unfold zeY zha tx;have a:=zau (n:=f.id.toNat) (by omega)
 have b:=zau (n:=f.name.size) (by omega)
 have c:=zau (n:=f.kind.toNat) (by omega)
 have d:f.name.data.toList.length=f.name.size:=by simp
 simp only[yae,yad,yav];omega
def zq4 {fs:List Fld} (hf: ∀f∈fs,0<=f.id/\f.id<4294967296/\0<=f.kind/\f.kind<256/\f.name.size<5000):(fs.flatMap zeY).length<=5031*fs.length:=by
 induction fs with
 |nil=>simp
 |cons f r ih=>
  obtain⟨_,a,_,b,c⟩:=hf f (by simp)
  have:=zu2 c a b;have:=ih λg hg=>hf g (by simp[hg])
  simp only[yaY,yae,yad];omega
def zu3 {fs:List Fld} {k:Nat} {f:Fld} (hk:k<fs.length) (hf:fs[k]=f):(fs.take (k+1)).flatMap zeY=(fs.take k).flatMap zeY++zeY f:=by
 rw[ybj hk,hf,yds];simp
def zsS (s:Sch) (h:SchOk s):R 41 [.d s.d] []=some ([.arr 0 (zmB s).length],[.arr 1 (bytes (zmB s)) 0]):=by
 obtain⟨sid,fs⟩:=s;obtain⟨⟨hi0,hi1⟩,hl,hf⟩:=h;simp only at hi0 hi1 hl hf;obtain⟨n,rfl⟩:=yaC hi0;have p1:=zaW n (by omega)
 have p2:=zaW fs.length (by omega)
 have hH:zkM ⟨n,fs⟩=put n++put fs.length:=rfl;have hHl:(zkM ⟨n,fs⟩).length<=20:=by
  rw[hH,yae];have:=zau (n:=n) (by omega)
  have:=zau (n:=fs.length) (by omega)
  omega
 have b0:(n:Int)<=18446744073709551615:=by omega
 have b1:(fs.length:Int)<=18446744073709551615:=by omega
 have l1:=zau (n:=n) (by omega)
 have l2:=zau (n:=fs.length) (by omega)
 refine rg b41 rfl ?_;intro T hT;simp -dsimp -implicitDefEqProofs (disch:=first|omega|assumption) [p1,p2,zan,b0,b1]
 generalize hz:zak _ _ _ _ _ _=z;revert z;refine zaa (σ:=Nat × List UInt8) (λx=>[(3,.arr 0 x.2.length),(18,.d (.list (fs.map Fld.d))),(19,.d (.int .i64 fs.length)),(20,.d (.int .i64 x.1))]) (λx=>[.arr 1 (bytes x.2) 0]) (λx=>x.1<=fs.length/\x.2=zkM ⟨n,fs⟩++(fs.take x.1).flatMap zeY) (λx=>fs.length - x.1) (0,zkM ⟨n,fs⟩) ?_ ?_ ?_
 ·exact⟨yaj _,by simp⟩
 ·simp -dsimp -implicitDefEqProofs (disch:=first|omega|assumption) [hH]
 intro T' fn hT' ⟨k,acc⟩ ⟨g1,g2⟩ ih;simp only at g1 g2 ih
 by_cases hk:k<fs.length
 ·obtain⟨x,hx⟩: ∃x,fs[k]=x:=⟨_,rfl⟩
  obtain⟨c1,c2,c3,c4,c5⟩:=hf x (hx ▸ yar hk);have hn:=zu3 hk hx;have hal:acc.length<=20+5031*100:=by
   rw[g2,yae];have:=zq4 (fs:=fs.take k) λf hf'=>hf f (yaH hf')
   rw[yat]at this;omega
  obtain⟨xi,xn,xk,xd⟩:=x;simp only at c1 c2 c3 c4 c5;obtain⟨i,rfl⟩:=yaC c1;obtain⟨kd,rfl⟩:=yaC c3;have q1:=zaW i (by omega)
  have q2:=zaW xn.size (by omega)
  have q3:=zaW kd (by omega)
  have e1:=zau (n:=i) (by omega)
  have e2:=zau (n:=xn.size) (by omega)
  have e3:=zau (n:=kd) (by omega)
  have d1:(i:Int)<=18446744073709551615:=by omega
  have d2:(xn.size:Int)<=18446744073709551615:=by omega
  have d3:(kd:Int)<=18446744073709551615:=by omega
  have hpf:zeY ⟨i,xn,kd,xd⟩=put i++(put xn.size++(tx xn++(put kd++zha xd))):=rfl;cases xd with
  |true=>
   simp -dsimp -implicitDefEqProofs (disch:=first|omega|assumption) [hk,hx,q1,q2,q3,zan,d1,d2,d3]
   refine ih (k+1,acc++zeY ⟨i,xn,kd,true⟩) _ _ ⟨by simp only;omega,by simp only;rw[hn,g2,yam]⟩ (by simp only;omega) ?_
   simp -dsimp -implicitDefEqProofs (disch:=first|omega|assumption) [hpf,wI]
   exact⟨by simp only[zha,yad,yav];omega,rfl⟩
  |false=>
   simp -dsimp -implicitDefEqProofs (disch:=first|omega|assumption) [hk,hx,q1,q2,q3,zan,d1,d2,d3]
   refine ih (k+1,acc++zeY ⟨i,xn,kd,false⟩) _ _ ⟨by simp only;omega,by simp only;rw[hn,g2,yam]⟩ (by simp only;omega) ?_
   simp -dsimp -implicitDefEqProofs (disch:=first|omega|assumption) [hpf,wI]
   exact⟨by simp only[zha,yad,yav];omega,rfl⟩
 ·have:k=fs.length:=by omega
  subst this;rw[ybf]at g2;have e:zmB ⟨n,fs⟩=acc:=g2.symm;subst hT';rw[e]at hT;simp -dsimp -implicitDefEqProofs (disch:=first|omega|assumption)
  simpa -dsimp -implicitDefEqProofs (disch:=first|omega|assumption) using hT
end Go.Am.Ab
