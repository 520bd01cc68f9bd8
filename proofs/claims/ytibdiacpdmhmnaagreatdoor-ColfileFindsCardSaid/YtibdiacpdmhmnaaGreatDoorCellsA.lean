/- Cells, values. -/
import Derived.Test.YtibdiacpdmhmnaaGreatDoorIntsA
set_option linter.all false
namespace Go.Am.Ab
open Go.Proofs
set_option maxHeartbeats 4000000
set_option maxRecDepth 4000
attribute [simp] znq zmm
structure Cel where
 kind:Nat
 n:Int
 s:ByteArray
 deriving DecidableEq
abbrev noS:ByteArray:=⟨#[]⟩
def Cel.none:Cel:=⟨0,0,noS⟩
def Cel.d (c:Cel):D:= .agg [.int .u8 c.kind,.int .i64 c.n,.str c.s]
inductive Val where
 |null
 |whole (n:Int)
 |truth (b:Bool)
 |text (s:ByteArray)
 deriving DecidableEq
def Val.d:Val->D
 |.null=> .nilI
 |.whole n=> .iface 2 (.int .i64 n)
 |.truth b=> .iface 4 (.bool b)
 |.text s=> .iface 9 (.str s)
def Val.kind:Val->Nat
 |.null=>0
 |.whole _=>1
 |.truth _=>2
 |.text _=>3
abbrev vs (l:List Val):List D:=l.map Val.d
abbrev ce (l:List Cel):List D:=l.map Cel.d
def zj3 {a b:ByteArray} (h:a.toList=b.toList):a=b:=by
 rw[ByteArray.toList_eq,ByteArray.toList_eq]at h;obtain⟨⟨x⟩⟩:=a;obtain⟨⟨y⟩⟩:=b;simp at h;rw[h]
def zaS (a b:ByteArray):(a.toList == b.toList)=decide (a=b):=by
 by_cases e:a=b
 ·subst e;simp
 ·rw[yaO e]
  exact ydV λh=>e (zj3 h)
def zdY (a:ByteArray):a.toList.isEmpty=decide (a=noS):=by
 rw[<- zaS];have:noS.toList=[]:=by rw[ByteArray.toList_eq]
 rw[this];cases a.toList <;> rfl
@[simp] def zBQ (l:List Val):zam 1 (l.map Val.d)=true:=zaJ l λv=>by cases v <;> rfl
@[simp] def zBR (l:List Cel):zam 3 (l.map Cel.d)=true:=zaJ l λv=>rfl
@[simp] def zEm (v:Val):v.d.cells=[v.d]:=by cases v <;> rfl
@[simp] def zBS (v:Val):(V.d v.d).cells=[V.d v.d]:=by cases v <;> rfl
def zeo {α:Type} (g:α->D) (p:List α) (i:Nat):List D:=(p.take i).map g
def zaO {α:Type} (g:α->D) (p:List α):zeo g p 0=[]:=rfl
def zaP {α:Type} {g:α->D} {p:List α} {i:Nat} (h:i<p.length):zeo g p (i+1)=zeo g p i++[g p[i]]:=by
 unfold zeo;rw[ya3 h,ya7];rfl
def zak {α:Type} {g:α->D} {p:List α} {i:Nat} (h:i<=p.length):(zeo g p i).length=i:=by simp[zeo];omega
def zbg {α:Type} {g:α->D} {p:List α} {i:Nat} (h:p.length<=i):zeo g p i=p.map g:=by rw[zeo,yaA h]
def chk (c:Cel):Nat:=
 if 3<c.kind then 10 else
 if (c.kind≠3/\c.s≠noS)\/(c.kind≠1/\c.kind≠2/\c.n≠0)\/(c.kind=2/\c.n≠0/\c.n≠1) then 1 else
 if 64<c.s.size then 5 else 0
end Go.Am.Ab
namespace Go.Am.Ab
open Go.Proofs
set_option maxHeartbeats 4000000
set_option maxRecDepth 4000
def zj4 (c:Cel) (hc:c.kind<256) (hs:c.s.size<=9223372036854775807):R 120 [.d c.d] []=some ([.d (.int .i64 (chk c))],[]):=by
 obtain⟨k,n,s⟩:=c;simp only at hc hs;simp only[Cel.d]
 by_cases h3:3<k
 ·have h3':(3:Int)<k:=by omega
  have e:chk ⟨k,n,s⟩=10:=by simp[chk,h3]
  rw[e];refine rg zIT rfl ?_;intro T hT;simp -dsimp -implicitDefEqProofs (disch:=omega) [h3']
  simpa -dsimp -implicitDefEqProofs (disch:=omega) using hT
 by_cases a1:s=noS <;> by_cases a2:n=0 <;> by_cases a3:n=1 <;> by_cases a4:64<s.size
 all_goals have hk:k=0\/k=1\/k=2\/k=3:=by omega
 all_goals first
  |(exfalso;omega)
  |(exfalso;subst a1;simp at a4;done)
  |skip
 all_goals
  rcases hk with rfl | rfl | rfl | rfl
  all_goals
   have a4':((64:Int)<(s.size:Int))=(64<s.size):=by simp only[eq_iff_iff];omega
   simp[chk,a1,a2,a3,a4];refine rg zIT rfl ?_;intro T hT;simp -dsimp -implicitDefEqProofs (disch:=omega) [zaS,zdY,a1,a2,a3,a4',a4]
   simpa -dsimp -implicitDefEqProofs (disch:=omega) using hT
end Go.Am.Ab
namespace Go.Am.Ab
open Go.Proofs
set_option maxHeartbeats 4000000
set_option maxRecDepth 4000
def zAA (c:Cel):c.d= .agg [.int .u8 c.kind,.int .i64 c.n,.str c.s]:=rfl
def zj5 (c:Cel):c.d.cells=[.int .u8 c.kind,.int .i64 c.n,.str c.s]:=rfl
def fix (c:Cel):Cel:=if chk c=0 then c else Cel.none
def zg6 (c:Cel) (hc:c.kind<256) (hs:c.s.size<=9223372036854775807):R 71 [.d c.d] []=some ([.d (fix c).d],[]):=by
 have h:=zj4 c hc hs;simp only[Cel.d]at h ⊢
 by_cases h0:chk c=0
 ·have e:fix c=c:=by simp[fix,h0]
  rw[e];refine rg b71 rfl ?_;intro T hT;simp -dsimp -implicitDefEqProofs (disch:=omega) [h,h0]
  simpa -dsimp -implicitDefEqProofs (disch:=omega) using hT
 ·have e:fix c=Cel.none:=by simp[fix,h0]
  have h0': ¬ (chk c:Int)=0:=by omega
  rw[e];refine rg b71 rfl ?_;intro T hT;simp -dsimp -implicitDefEqProofs (disch:=omega) [h,h0,h0']
  simpa -dsimp -implicitDefEqProofs (disch:=omega) [Cel.none]using hT
def zbv {c:Cel} (h:chk c=0):c.kind<=3/\(c.kind≠3->c.s=noS)/\(c.kind≠1->c.kind≠2->c.n=0)/\(c.kind=2->c.n=0\/c.n=1)/\c.s.size<=64:=by
 unfold chk at h;split at h
 ·omega
 ·split at h
  ·omega
  ·rename_i h1 h2
   split at h
   ·omega
   ·refine⟨by omega,λa=> ?_,λa b=> ?_,λa=> ?_,by omega⟩
    ·exact yco λb=>h2 (.inl ⟨a,b⟩)
    ·exact yco λb'=>h2 (.inr (.inl ⟨a,b,b'⟩))
    ·exact yco λb=>h2 (.inr (.inr ⟨a,λe=>b (.inl e),λe=>b (.inr e)⟩))
def zrk (c:Cel):chk (fix c)=0:=by
 unfold fix;split
 ·assumption
 ·rfl
def zaA (c:Cel):Val:=if (fix c).kind=1 then .whole (fix c).n else if (fix c).kind=2 then .truth (decide ((fix c).n=1)) else if (fix c).kind=3 then .text (fix c).s else .null
def zs1 (c:Cel) (hc:c.kind<256) (hs:c.s.size<=9223372036854775807):R 101 [.d c.d] []=some ([.d (zaA c).d],[]):=by
 have h:=zg6 c hc hs;have hk:=(zbv (zrk c)).1;unfold zaA;obtain⟨f,hf⟩: ∃f,f=fix c:=⟨_,rfl⟩;rw[<- hf]at h hk ⊢;obtain⟨k,n,s⟩:=f;simp only[Cel.d]at h ⊢;simp only at hk ⊢;have hk4:k=0\/k=1\/k=2\/k=3:=by omega
 rcases hk4 with rfl | rfl | rfl | rfl
 all_goals
  refine rg zJU rfl ?_;intro T hT;simp -dsimp -implicitDefEqProofs (disch:=omega) [h]
  simpa -dsimp -implicitDefEqProofs (disch:=omega) [Val.d]using hT
def zx8 (l:List Cel) (hl: ∀c∈l,c.kind<256/\c.s.size<=9223372036854775807) (hn:l.length<=1000000):R 49 [.d (.list (ce l))] []=some ([.arr 0 l.length],[.arr 1 (vs (l.map zaA)) 0]):=by
 have hend:vs (l.map zaA)=zeo (λc=>(zaA c).d) l l.length:=by
  rw[zbg (yaj _)]
  show (l.map zaA).map Val.d=_
  rw[yaQ];rfl
 rw[hend];refine rg b49 rfl ?_;intro T hT;simp -dsimp -implicitDefEqProofs (disch:=omega)
 generalize hz:zaf _ _ _ _ _ _=z;revert z;refine zaa (σ:=Nat) (λi=>[(0,.d (.list (ce l))),(3,.arr 0 i),(4,.d (.int .i64 i))]) (λi=>[.arr 1 (zeo (λc=>(zaA c).d) l i) 0]) (λi=>i<=l.length) (λi=>l.length - i) 0 ?_ ?_ ?_
 ·exact yai _
 ·simp -dsimp -implicitDefEqProofs (disch:=omega) [zaO]
 intro T' f hT' i hi ih
 by_cases h1:i<l.length
 ·have hc:=hl l[i] (yam _)
  have h:=zs1 l[i] hc.1 hc.2;rw[zAA]at h;have hcc:=zj5 l[i];have htk:=zaP (g:=λc=>(zaA c).d) h1
  have hlen:=zak (g:=λc=>(zaA c).d) hi
  simp -dsimp -implicitDefEqProofs (disch:=omega) [h1,h,hlen,hcc]
  refine ih (i+1) _ _ h1 (by omega) ?_
  rw[htk];simp -dsimp -implicitDefEqProofs (disch:=omega)
 ·have e:i=l.length:=by omega
  subst e;subst hT';simp -dsimp -implicitDefEqProofs (disch:=omega)
  simpa -dsimp -implicitDefEqProofs (disch:=omega) using hT
def cellOf:Val->Cel
 |.null=>Cel.none
 |.whole n=>⟨1,n,noS⟩
 |.truth b=>⟨2,if b then 1 else 0,noS⟩
 |.text s=>⟨3,0,s⟩
def zu5 (v:Val):R 81 [.d v.d] []=some ([.d (cellOf v).d],[]):=by
 rcases v with _ | n | b | s
 ·simp only[Val.d,cellOf,Cel.none,Cel.d]
  refine rg b81 rfl ?_;intro T hT;simp -dsimp -implicitDefEqProofs (disch:=omega)
  simpa -dsimp -implicitDefEqProofs (disch:=omega) using hT
 ·simp only[Val.d,cellOf,Cel.none,Cel.d]
  refine rg b81 rfl ?_;intro T hT;simp -dsimp -implicitDefEqProofs (disch:=omega)
  simpa -dsimp -implicitDefEqProofs (disch:=omega) using hT
 ·simp only[Val.d,cellOf,Cel.none,Cel.d]
  cases b
  all_goals
   refine rg b81 rfl ?_;intro T hT;simp -dsimp -implicitDefEqProofs (disch:=omega)
   simpa -dsimp -implicitDefEqProofs (disch:=omega) using hT
 ·simp only[Val.d,cellOf,Cel.none,Cel.d]
  refine rg b81 rfl ?_;intro T hT;simp -dsimp -implicitDefEqProofs (disch:=omega)
  simpa -dsimp -implicitDefEqProofs (disch:=omega) using hT
def zs2 (l:List Val) (hn:l.length<=1000000):R 37 [.d (.list (vs l))] []=some ([.arr 0 l.length],[.arr 3 (ce (l.map cellOf)) 0]):=by
 have hend:ce (l.map cellOf)=zeo (λv=>(cellOf v).d) l l.length:=by
  rw[zbg (yaj _)]
  show (l.map cellOf).map Cel.d=_
  rw[yaQ];rfl
 rw[hend];refine rg b37 rfl ?_;intro T hT;simp -dsimp -implicitDefEqProofs (disch:=omega)
 generalize hz:zaf _ _ _ _ _ _=z;revert z;refine zaa (σ:=Nat) (λi=>[(0,.d (.list (vs l))),(3,.arr 0 i),(4,.d (.int .i64 i))]) (λi=>[.arr 3 (zeo (λv=>(cellOf v).d) l i) 0]) (λi=>i<=l.length) (λi=>l.length - i) 0 ?_ ?_ ?_
 ·exact yai _
 ·simp -dsimp -implicitDefEqProofs (disch:=omega) [zaO]
 intro T' f hT' i hi ih
 by_cases h1:i<l.length
 ·have h:=zu5 l[i]
  have htk:=zaP (g:=λv=>(cellOf v).d) h1
  have hlen:=zak (g:=λv=>(cellOf v).d) hi
  have hsz:(cellOf l[i]).d.cells.length=3:=rfl;simp -dsimp -implicitDefEqProofs (disch:=omega) [h1,h,hlen,hsz]
  refine ih (i+1) _ _ h1 (by omega) ?_
  rw[htk];simp -dsimp -implicitDefEqProofs (disch:=omega)
 ·have e:i=l.length:=by omega
  subst e;subst hT';simp -dsimp -implicitDefEqProofs (disch:=omega)
  simpa -dsimp -implicitDefEqProofs (disch:=omega) using hT
def zbw (v:Val):R 86 [.d v.d] []=some ([.d (.int .u8 v.kind)],[]):=by
 rcases v with _ | n | b | s
 all_goals
  simp only[Val.d,Val.kind];refine rg b86 rfl ?_;intro T hT;simp -dsimp -implicitDefEqProofs (disch:=omega)
  simpa -dsimp -implicitDefEqProofs (disch:=omega) using hT
def zfs (k:Nat) (hk:k<256):R 88 [.d (.int .u8 k)] []=some ([.d (.bool (decide (1<=k/\k<=3)))],[]):=by
 by_cases h1:1<=k
 ·have h1':(1:Int)<=k:=by omega
  by_cases h2:k<=3
  ·have h2':(k:Int)<=3:=by omega
   have e:decide (1<=k/\k<=3)=true:=by simp;omega
   rw[e];refine rg b88 rfl ?_;intro T hT;simp -dsimp -implicitDefEqProofs (disch:=omega) [h1',h2']
   simpa -dsimp -implicitDefEqProofs (disch:=omega) using hT
  ·have h2': ¬ (k:Int)<=3:=by omega
   have e:decide (1<=k/\k<=3)=false:=by simp;omega
   rw[e];refine rg b88 rfl ?_;intro T hT;simp -dsimp -implicitDefEqProofs (disch:=omega) [h1',h2']
   simpa -dsimp -implicitDefEqProofs (disch:=omega) using hT
 ·have h1': ¬ (1:Int)<=k:=by omega
  have e:decide (1<=k/\k<=3)=false:=by simp;omega
  rw[e];refine rg b88 rfl ?_;intro T hT;simp -dsimp -implicitDefEqProofs (disch:=omega) [h1']
  simpa -dsimp -implicitDefEqProofs (disch:=omega) using hT
def zoi (a b:List Cel) (ha:a.length<=1000000):R 36 [.d (.list (ce a)),.d (.list (ce b))] []=some ([.d (.bool (decide (a=b)))],[]):=by
 by_cases h0:a.length=b.length
 ·have h0':(a.length:Int)=b.length:=by omega
  refine rg b36 rfl ?_;intro T hT;simp -dsimp -implicitDefEqProofs (disch:=omega) [h0,h0']
  generalize hz:zaf _ _ _ _ _ _=z;revert z;refine zaa (σ:=Nat) (λi=>[(0,.d (.list (ce a))),(1,.d (.list (ce b))),(5,.d (.int .i64 i))]) (λi=>[]) (λi=>i<=a.length/\a.take i=b.take i) (λi=>a.length - i) 0 ?_ ?_ ?_
  ·exact⟨yai _,by simp⟩
  ·simp -dsimp -implicitDefEqProofs (disch:=omega)
  intro T' f hT' i ⟨hi,he⟩ ih
  by_cases h1:i<a.length
  ·have h2:i<b.length:=by omega
   obtain⟨⟨k,n,s⟩,hx⟩: ∃x,x=a[i]:=⟨_,rfl⟩;obtain⟨⟨k',n',s'⟩,hy⟩: ∃y,y=b[i]:=⟨_,rfl⟩;have gx:=hx.symm;have gy:=hy.symm
   by_cases h3:(⟨k,n,s⟩:Cel)=⟨k',n',s'⟩
   ·simp only[Cel.mk.injEq]at h3
    obtain⟨rfl,rfl,rfl⟩:=h3;simp -dsimp -implicitDefEqProofs (disch:=omega) [h1,h2,gx,gy,Cel.d,zaS]
    refine ih (i+1) _ _ ⟨h1, ?_⟩ (by omega) (by simp -dsimp -implicitDefEqProofs (disch:=omega))
    rw[zaN h1,zaN h2,he,gx,gy]
   ·have hne:a≠b:=by
     intro e;subst e;rw[gx]at gy;exact h3 gy
    have e:decide (a=b)=false:=yaO hne;rw[e]at hT;have h4:(!decide (k=k') || (!decide (n=n') || !decide (s=s')))=true:=by
     by_cases c1:k=k' <;> by_cases c2:n=n' <;> by_cases c3:s=s' <;> simp[c1,c2,c3]
     exact h3 (by rw[c1,c2,c3])
    subst hT';simp -dsimp -implicitDefEqProofs (disch:=omega) [h1,h2,gx,gy,Cel.d,zaS,h4]
    simpa -dsimp -implicitDefEqProofs (disch:=omega) using hT
  ·have e:a=b:=by
    rw[yaA (by omega),yaA (by omega)]at he
    exact he
   subst hT';simp -dsimp -implicitDefEqProofs (disch:=omega) [h1]
   subst e;simpa -dsimp -implicitDefEqProofs (disch:=omega) using hT
 ·have hne:a≠b:=by rintro rfl;exact h0 rfl
  have h0': ¬ (a.length:Int)=b.length:=by omega
  refine rg b36 rfl ?_;intro T hT;simp -dsimp -implicitDefEqProofs (disch:=omega) [h0,h0']
  simpa -dsimp -implicitDefEqProofs (disch:=omega) [hne]using hT
end Go.Am.Ab
