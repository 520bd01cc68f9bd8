/- Cells, values. -/
import Derived.Test.YtibdiacpdmhmnaaGreatDoorIntsA
set_option linter.all false
namespace Go.Am.Ab
open Go.Proofs
set_option maxHeartbeats 4000000
set_option maxRecDepth 4000
attribute [simp] zm2 zl6
structure Cel where
 kind:Nat
 n:Int
 s:ByteArray
 deriving DecidableEq
abbrev noS:ByteArray:=⟨#[]⟩
def Cel.none:Cel:=⟨0,0,noS⟩
def Cel.d (c:Cel):D:= .agg [.int .u8 c.kind,.int .i64 c.n,.str c.s]
inductive Val where
 |null
 |whole (n:Int)
 |truth (b:Bool)
 |text (s:ByteArray)
 deriving DecidableEq
def Val.d:Val->D
 |.null=> .nilI
 |.whole n=> .iface 2 (.int .i64 n)
 |.truth b=> .iface 4 (.bool b)
 |.text s=> .iface 9 (.str s)
def Val.kind:Val->Nat
 |.null=>0
 |.whole _=>1
 |.truth _=>2
 |.text _=>3
abbrev vs (l:List Val):List D:=l.map Val.d
abbrev ce (l:List Cel):List D:=l.map Cel.d
def zjT {a b:ByteArray} (h:a.toList=b.toList):a=b:=by
 rw[ByteArray.toList_eq,ByteArray.toList_eq]at h;obtain⟨⟨x⟩⟩:=a;obtain⟨⟨y⟩⟩:=b;simp at h;rw[h]
def zdH (a b:ByteArray):(a.toList == b.toList)=decide (a=b):=by
 by_cases e:a=b
 ·subst e;simp
 ·rw[yaW e]
  exact ydY λh=>e (zjT h)
def zur (a:ByteArray):a.toList.isEmpty=decide (a=noS):=by
 rw[<- zdH];have:noS.toList=[]:=by rw[ByteArray.toList_eq]
 rw[this];cases a.toList <;> rfl
@[simp] def zA1 (l:List Val):zao 1 (l.map Val.d)=true:=zaJ l λv=>by cases v <;> rfl
@[simp] def zA2 (l:List Cel):zao 3 (l.map Cel.d)=true:=zaJ l λv=>rfl
@[simp] def zDm (v:Val):v.d.cells=[v.d]:=by cases v <;> rfl
@[simp] def zA3 (v:Val):(V.d v.d).cells=[V.d v.d]:=by cases v <;> rfl
def zey {α:Type} (g:α->D) (p:List α) (i:Nat):List D:=(p.take i).map g
def zaR {α:Type} (g:α->D) (p:List α):zey g p 0=[]:=rfl
def zaS {α:Type} {g:α->D} {p:List α} {i:Nat} (h:i<p.length):zey g p (i+1)=zey g p i++[g p[i]]:=by
 unfold zey;rw[ybj h,ybi];rfl
def zam {α:Type} {g:α->D} {p:List α} {i:Nat} (h:i<=p.length):(zey g p i).length=i:=by simp[zey];omega
def zbw {α:Type} {g:α->D} {p:List α} {i:Nat} (h:p.length<=i):zey g p i=p.map g:=by rw[zey,yaB h]
def chk (c:Cel):Nat:=
 if 3<c.kind then 10 else
 if (c.kind≠3/\c.s≠noS)\/(c.kind≠1/\c.kind≠2/\c.n≠0)\/(c.kind=2/\c.n≠0/\c.n≠1) then 1 else
 if 64<c.s.size then 5 else 0
end Go.Am.Ab
namespace Go.Am.Ab
open Go.Proofs
set_option maxHeartbeats 4000000
set_option maxRecDepth 4000
def zpw (c:Cel) (hc:c.kind<256) (hs:c.s.size<=9223372036854775807):R 120 [.d c.d] []=some ([.d (.int .i64 (chk c))],[]):=by
 obtain⟨k,n,s⟩:=c;simp only at hc hs;simp only[Cel.d]
 by_cases h3:3<k
 ·have h3':(3:Int)<k:=by omega
  have e:chk ⟨k,n,s⟩=10:=by simp[chk,h3]
  rw[e];refine rg zHe rfl ?_;intro T hT;simp -dsimp -implicitDefEqProofs (disch:=first|omega|assumption) [h3']
  simpa -dsimp -implicitDefEqProofs (disch:=first|omega|assumption) using hT
 by_cases a1:s=noS <;> by_cases a2:n=0 <;> by_cases a3:n=1 <;> by_cases a4:64<s.size
 all_goals have hk:k=0\/k=1\/k=2\/k=3:=by omega
 all_goals first
  |(exfalso;omega)
  |(exfalso;subst a1;simp at a4;done)
  |skip
 all_goals
  rcases hk with rfl | rfl | rfl | rfl
  all_goals
   have a4':((64:Int)<(s.size:Int))=(64<s.size):=by simp only[eq_iff_iff];omega
   simp[chk,a1,a2,a3,a4];refine rg zHe rfl ?_;intro T hT;simp -dsimp -implicitDefEqProofs (disch:=first|omega|assumption) [zdH,zur,a1,a2,a3,a4',a4]
   simpa -dsimp -implicitDefEqProofs (disch:=first|omega|assumption) using hT
end Go.Am.Ab
namespace Go.Am.Ab
open Go.Proofs
set_option maxHeartbeats 4000000
set_option maxRecDepth 4000
def zDn (c:Cel):c.d= .agg [.int .u8 c.kind,.int .i64 c.n,.str c.s]:=rfl
def znS (c:Cel):c.d.cells=[.int .u8 c.kind,.int .i64 c.n,.str c.s]:=rfl
def fix (c:Cel):Cel:=if chk c=0 then c else Cel.none
def znT (c:Cel) (hc:c.kind<256) (hs:c.s.size<=9223372036854775807):R 71 [.d c.d] []=some ([.d (fix c).d],[]):=by
 have h:=zpw c hc hs;simp only[Cel.d]at h ⊢
 by_cases h0:chk c=0
 ·have e:fix c=c:=by simp[fix,h0]
  rw[e];refine rg b71 rfl ?_;intro T hT;simp -dsimp -implicitDefEqProofs (disch:=first|omega|assumption) [h,h0]
  simpa -dsimp -implicitDefEqProofs (disch:=first|omega|assumption) using hT
 ·have e:fix c=Cel.none:=by simp[fix,h0]
  have h0': ¬ (chk c:Int)=0:=by omega
  rw[e];refine rg b71 rfl ?_;intro T hT;simp -dsimp -implicitDefEqProofs (disch:=first|omega|assumption) [h,h0,h0']
  simpa -dsimp -implicitDefEqProofs (disch:=first|omega|assumption) [Cel.none]using hT
def ziO {c:Cel} (h:chk c=0):c.kind<=3/\(c.kind≠3->c.s=noS)/\(c.kind≠1->c.kind≠2->c.n=0)/\(c.kind=2->c.n=0\/c.n=1)/\c.s.size<=64:=by
 unfold chk at h;split at h
 ·omega
 ·split at h
  ·omega
  ·rename_i h1 h2
   split at h
   ·omega
   ·refine⟨by omega,λa=> ?_,λa b=> ?_,λa=> ?_,by omega⟩
    ·exact ycG λb=>h2 (.inl ⟨a,b⟩)
    ·exact ycG λb'=>h2 (.inr (.inl ⟨a,b,b'⟩))
    ·exact ycG λb=>h2 (.inr (.inr ⟨a,λe=>b (.inl e),λe=>b (.inr e)⟩))
def zqM (c:Cel):chk (fix c)=0:=by
 unfold fix;split
 ·assumption
 ·rfl
def zcB (c:Cel):Val:=if (fix c).kind=1 then .whole (fix c).n else if (fix c).kind=2 then .truth (decide ((fix c).n=1)) else if (fix c).kind=3 then .text (fix c).s else .null
def zsq (c:Cel) (hc:c.kind<256) (hs:c.s.size<=9223372036854775807):R 101 [.d c.d] []=some ([.d (zcB c).d],[]):=by
 have h:=znT c hc hs;have hk:=(ziO (zqM c)).1;unfold zcB;obtain⟨f,hf⟩: ∃f,f=fix c:=⟨_,rfl⟩;rw[<- hf]at h hk ⊢;obtain⟨k,n,s⟩:=f;simp only[Cel.d]at h ⊢;simp only at hk ⊢;have hk4:k=0\/k=1\/k=2\/k=3:=by omega
 rcases hk4 with rfl | rfl | rfl | rfl
 all_goals
  refine rg zId rfl ?_;intro T hT;simp -dsimp -implicitDefEqProofs (disch:=first|omega|assumption) [h]
  simpa -dsimp -implicitDefEqProofs (disch:=first|omega|assumption) [Val.d]using hT
def zxi (l:List Cel) (hl: ∀c∈l,c.kind<256/\c.s.size<=9223372036854775807) (hn:l.length<=1000000):R 49 [.d (.list (ce l))] []=some ([.arr 0 l.length],[.arr 1 (vs (l.map zcB)) 0]):=by
 have hend:vs (l.map zcB)=zey (λc=>(zcB c).d) l l.length:=by
  rw[zbw (yag _)]
  show (l.map zcB).map Val.d=_
  rw[ya3];rfl
 rw[hend];refine rg b49 rfl ?_;intro T hT;simp -dsimp -implicitDefEqProofs (disch:=first|omega|assumption)
 generalize hz:zak _ _ _ _ _ _=z;revert z;refine zaa (σ:=Nat) (λi=>[(0,.d (.list (ce l))),(3,.arr 0 i),(4,.d (.int .i64 i))]) (λi=>[.arr 1 (zey (λc=>(zcB c).d) l i) 0]) (λi=>i<=l.length) (λi=>l.length - i) 0 ?_ ?_ ?_
 ·exact yaj _
 ·simp -dsimp -implicitDefEqProofs (disch:=first|omega|assumption) [zaR]
 intro T' f hT' i hi ih
 by_cases h1:i<l.length
 ·have hc:=hl l[i] (yar _)
  have h:=zsq l[i] hc.1 hc.2;rw[zDn]at h;have hcc:=znS l[i];have htk:=zaS (g:=λc=>(zcB c).d) h1
  have hlen:=zam (g:=λc=>(zcB c).d) hi
  simp -dsimp -implicitDefEqProofs (disch:=first|omega|assumption) [h1,h,hlen,hcc]
  refine ih (i+1) _ _ h1 (by omega) ?_
  rw[htk];simp -dsimp -implicitDefEqProofs (disch:=first|omega|assumption)
 ·have e:i=l.length:=by omega
  subst e;subst hT';simp -dsimp -implicitDefEqProofs (disch:=first|omega|assumption)
  simpa -dsimp -implicitDefEqProofs (disch:=first|omega|assumption) using hT
def zah:Val->Cel
 |.null=>Cel.none
 |.whole n=>⟨1,n,noS⟩
 |.truth b=>⟨2,if b then 1 else 0,noS⟩
 |.text s=>⟨3,0,s⟩
def zus (v:Val):R 81 [.d v.d] []=some ([.d (zah v).d],[]):=by
 rcases v with _ | n | b | s
 ·simp only[Val.d,zah,Cel.none,Cel.d]
  refine rg b81 rfl ?_;intro T hT;simp -dsimp -implicitDefEqProofs (disch:=first|omega|assumption)
  simpa -dsimp -implicitDefEqProofs (disch:=first|omega|assumption) using hT
 ·simp only[Val.d,zah,Cel.none,Cel.d]
  refine rg b81 rfl ?_;intro T hT;simp -dsimp -implicitDefEqProofs (disch:=first|omega|assumption)
  simpa -dsimp -implicitDefEqProofs (disch:=first|omega|assumption) using hT
 ·simp only[Val.d,zah,Cel.none,Cel.d]
  cases b
  all_goals
   refine rg b81 rfl ?_;intro T hT;simp -dsimp -implicitDefEqProofs (disch:=first|omega|assumption)
   simpa -dsimp -implicitDefEqProofs (disch:=first|omega|assumption) using hT
 ·simp only[Val.d,zah,Cel.none,Cel.d]
  refine rg b81 rfl ?_;intro T hT;simp -dsimp -implicitDefEqProofs (disch:=first|omega|assumption)
  simpa -dsimp -implicitDefEqProofs (disch:=first|omega|assumption) using hT
def zsr (l:List Val) (hn:l.length<=1000000):R 37 [.d (.list (vs l))] []=some ([.arr 0 l.length],[.arr 3 (ce (l.map zah)) 0]):=by
 have hend:ce (l.map zah)=zey (λv=>(zah v).d) l l.length:=by
  rw[zbw (yag _)]
  show (l.map zah).map Cel.d=_
  rw[ya3];rfl
 rw[hend];refine rg b37 rfl ?_;intro T hT;simp -dsimp -implicitDefEqProofs (disch:=first|omega|assumption)
 generalize hz:zak _ _ _ _ _ _=z;revert z;refine zaa (σ:=Nat) (λi=>[(0,.d (.list (vs l))),(3,.arr 0 i),(4,.d (.int .i64 i))]) (λi=>[.arr 3 (zey (λv=>(zah v).d) l i) 0]) (λi=>i<=l.length) (λi=>l.length - i) 0 ?_ ?_ ?_
 ·exact yaj _
 ·simp -dsimp -implicitDefEqProofs (disch:=first|omega|assumption) [zaR]
 intro T' f hT' i hi ih
 by_cases h1:i<l.length
 ·have h:=zus l[i]
  have htk:=zaS (g:=λv=>(zah v).d) h1
  have hlen:=zam (g:=λv=>(zah v).d) hi
  have hsz:(zah l[i]).d.cells.length=3:=rfl;simp -dsimp -implicitDefEqProofs (disch:=first|omega|assumption) [h1,h,hlen,hsz]
  refine ih (i+1) _ _ h1 (by omega) ?_
  rw[htk];simp -dsimp -implicitDefEqProofs (disch:=first|omega|assumption)
 ·have e:i=l.length:=by omega
  subst e;subst hT';simp -dsimp -implicitDefEqProofs (disch:=first|omega|assumption)
  simpa -dsimp -implicitDefEqProofs (disch:=first|omega|assumption) using hT
def zbL (v:Val):R 86 [.d v.d] []=some ([.d (.int .u8 v.kind)],[]):=by
 rcases v with _ | n | b | s
 all_goals
  simp only[Val.d,Val.kind];refine rg b86 rfl ?_;intro T hT;simp -dsimp -implicitDefEqProofs (disch:=first|omega|assumption)
  simpa -dsimp -implicitDefEqProofs (disch:=first|omega|assumption) using hT
def zfp (k:Nat) (hk:k<256):R 88 [.d (.int .u8 k)] []=some ([.d (.bool (decide (1<=k/\k<=3)))],[]):=by
 by_cases h1:1<=k
 ·have h1':(1:Int)<=k:=by omega
  by_cases h2:k<=3
  ·have h2':(k:Int)<=3:=by omega
   have e:decide (1<=k/\k<=3)=true:=by simp;omega
   rw[e];refine rg b88 rfl ?_;intro T hT;simp -dsimp -implicitDefEqProofs (disch:=first|omega|assumption) [h1',h2']
   simpa -dsimp -implicitDefEqProofs (disch:=first|omega|assumption) using hT
  ·have h2': ¬ (k:Int)<=3:=by omega
   have e:decide (1<=k/\k<=3)=false:=by simp;omega
   rw[e];refine rg b88 rfl ?_;intro T hT;simp -dsimp -implicitDefEqProofs (disch:=first|omega|assumption) [h1',h2']
   simpa -dsimp -implicitDefEqProofs (disch:=first|omega|assumption) using hT
 ·have h1': ¬ (1:Int)<=k:=by omega
  have e:decide (1<=k/\k<=3)=false:=by simp;omega
  rw[e];refine rg b88 rfl ?_;intro T hT;simp -dsimp -implicitDefEqProofs (disch:=first|omega|assumption) [h1']
  simpa -dsimp -implicitDefEqProofs (disch:=first|omega|assumption) using hT
def znU (a b:List Cel) (ha:a.length<=1000000):R 36 [.d (.list (ce a)),.d (.list (ce b))] []=some ([.d (.bool (decide (a=b)))],[]):=by
 by_cases h0:a.length=b.length
 ·have h0':(a.length:Int)=b.length:=by omega
  refine rg b36 rfl ?_;intro T hT;simp -dsimp -implicitDefEqProofs (disch:=first|omega|assumption) [h0,h0']
  generalize hz:zak _ _ _ _ _ _=z;revert z;refine zaa (σ:=Nat) (λi=>[(0,.d (.list (ce a))),(1,.d (.list (ce b))),(5,.d (.int .i64 i))]) (λi=>[]) (λi=>i<=a.length/\a.take i=b.take i) (λi=>a.length - i) 0 ?_ ?_ ?_
  ·exact⟨yaj _,by simp⟩
  ·simp -dsimp -implicitDefEqProofs (disch:=first|omega|assumption)
  intro T' f hT' i ⟨hi,he⟩ ih
  by_cases h1:i<a.length
  ·have h2:i<b.length:=by omega
   obtain⟨⟨k,n,s⟩,hx⟩: ∃x,x=a[i]:=⟨_,rfl⟩;obtain⟨⟨k',n',s'⟩,hy⟩: ∃y,y=b[i]:=⟨_,rfl⟩;have gx:=hx.symm;have gy:=hy.symm
   by_cases h3:(⟨k,n,s⟩:Cel)=⟨k',n',s'⟩
   ·simp only[Cel.mk.injEq]at h3
    obtain⟨rfl,rfl,rfl⟩:=h3;simp -dsimp -implicitDefEqProofs (disch:=first|omega|assumption) [h1,h2,gx,gy,Cel.d,zdH]
    refine ih (i+1) _ _ ⟨h1, ?_⟩ (by omega) (by simp -dsimp -implicitDefEqProofs (disch:=first|omega|assumption))
    rw[zaM h1,zaM h2,he,gx,gy]
   ·have hne:a≠b:=by
     intro e;subst e;rw[gx]at gy;exact h3 gy
    have e:decide (a=b)=false:=yaW hne;rw[e]at hT;have h4:(!decide (k=k') || (!decide (n=n') || !decide (s=s')))=true:=by
     by_cases c1:k=k' <;> by_cases c2:n=n' <;> by_cases c3:s=s' <;> simp[c1,c2,c3]
     exact h3 (by rw[c1,c2,c3])
    subst hT';simp -dsimp -implicitDefEqProofs (disch:=first|omega|assumption) [h1,h2,gx,gy,Cel.d,zdH,h4]
    simpa -dsimp -implicitDefEqProofs (disch:=first|omega|assumption) using hT
  ·have e:a=b:=by
    rw[yaB (by omega),yaB (by omega)]at he
    exact he
   subst hT';simp -dsimp -implicitDefEqProofs (disch:=first|omega|assumption) [h1]
   subst e;simpa -dsimp -implicitDefEqProofs (disch:=first|omega|assumption) using hT
 ·have hne:a≠b:=by rintro rfl;exact h0 rfl
  have h0': ¬ (a.length:Int)=b.length:=by omega
  refine rg b36 rfl ?_;intro T hT;simp -dsimp -implicitDefEqProofs (disch:=first|omega|assumption) [h0,h0']
  simpa -dsimp -implicitDefEqProofs (disch:=first|omega|assumption) [hne]using hT
end Go.Am.Ab
