/- Cells, values. -/
import Derived.Test.YtibdiacpdmhmnaaGreatDoorIntsA
set_option linter.all false
namespace Go.Am.Ab
open Go.Proofs
set_option maxHeartbeats 4000000
set_option maxRecDepth 4000
attribute [simp] zl0 zk0
structure Cel where
 kind:Nat
 n:Int
 s:ByteArray
 deriving DecidableEq
abbrev noS:ByteArray:=⟨#[]⟩
def Cel.none:Cel:=⟨0,0,noS⟩
def Cel.d (c:Cel):D:= .agg [.int .u8 c.kind,.int .i64 c.n,.str c.s]
inductive Val where
 |null
 |whole (n:Int)
 |truth (b:Bool)
 |text (s:ByteArray)
 deriving DecidableEq
def Val.d:Val->D
 |.null=> .nilI
 |.whole n=> .iface 2 (.int .i64 n)
 |.truth b=> .iface 4 (.bool b)
 |.text s=> .iface 9 (.str s)
def Val.kind:Val->Nat
 |.null=>0
 |.whole _=>1
 |.truth _=>2
 |.text _=>3
abbrev vs (l:List Val):List D:=l.map Val.d
abbrev ce (l:List Cel):List D:=l.map Cel.d
def zi4 {a b:ByteArray} (h:a.toList=b.toList):a=b:=by
 rw[ByteArray.toList_eq,ByteArray.toList_eq]at h;obtain⟨⟨x⟩⟩:=a;obtain⟨⟨y⟩⟩:=b;simp at h;rw[h]
def zfQ (a b:ByteArray):(a.toList == b.toList)=decide (a=b):=by
 by_cases e:a=b
 ·subst e;simp
 ·rw[yaL e]
  exact ydP λh=>e (zi4 h)
@[simp] def zx6 (l:List Val):zao 1 (l.map Val.d)=true:=zaO l λv=>by cases v <;> rfl
@[simp] def zx7 (l:List Cel):zao 3 (l.map Cel.d)=true:=zaO l λv=>rfl
@[simp] def zA0 (v:Val):v.d.cells=[v.d]:=by cases v <;> rfl
@[simp] def zx8 (v:Val):(V.d v.d).cells=[V.d v.d]:=by cases v <;> rfl
def zdg {α:Type} (g:α->D) (p:List α) (i:Nat):List D:=(p.take i).map g
def zaG {α:Type} (g:α->D) (p:List α):zdg g p 0=[]:=rfl
def zaH {α:Type} {g:α->D} {p:List α} {i:Nat} (h:i<p.length):zdg g p (i+1)=zdg g p i++[g p[i]]:=by
 unfold zdg;rw[ybe h,ya7];rfl
def zak {α:Type} {g:α->D} {p:List α} {i:Nat} (h:i<=p.length):(zdg g p i).length=i:=by simp[zdg];omega
def za8 {α:Type} {g:α->D} {p:List α} {i:Nat} (h:p.length<=i):zdg g p i=p.map g:=by rw[zdg,yaw h]
def chk (c:Cel):Nat:=
 if 3<c.kind then 10 else
 if (c.kind≠3/\c.s≠noS)\/(c.kind≠1/\c.kind≠2/\c.n≠0)\/(c.kind=2/\c.n≠0/\c.n≠1) then 1 else
 if 64<c.s.size then 5 else 0
end Go.Am.Ab
namespace Go.Am.Ab
open Go.Proofs
set_option maxHeartbeats 4000000
set_option maxRecDepth 4000
end Go.Am.Ab
namespace Go.Am.Ab
open Go.Proofs
set_option maxHeartbeats 4000000
set_option maxRecDepth 4000
def zEA (c:Cel):c.d= .agg [.int .u8 c.kind,.int .i64 c.n,.str c.s]:=rfl
def zsP (c:Cel):c.d.cells=[.int .u8 c.kind,.int .i64 c.n,.str c.s]:=rfl
def fix (c:Cel):Cel:=if chk c=0 then c else Cel.none
def zc2 {c:Cel} (h:chk c=0):c.kind<=3/\(c.kind≠3->c.s=noS)/\(c.kind≠1->c.kind≠2->c.n=0)/\(c.kind=2->c.n=0\/c.n=1)/\c.s.size<=64:=by
 unfold chk at h;split at h
 ·omega
 ·split at h
  ·omega
  ·rename_i h1 h2
   split at h
   ·omega
   ·refine⟨by omega,λa=> ?_,λa b=> ?_,λa=> ?_,by omega⟩
    ·exact ycL λb=>h2 (.inl ⟨a,b⟩)
    ·exact ycL λb'=>h2 (.inr (.inl ⟨a,b,b'⟩))
    ·exact ycL λb=>h2 (.inr (.inr ⟨a,λe=>b (.inl e),λe=>b (.inr e)⟩))
def zay (c:Cel):Val:=if (fix c).kind=1 then .whole (fix c).n else if (fix c).kind=2 then .truth (decide ((fix c).n=1)) else if (fix c).kind=3 then .text (fix c).s else .null
def zaf:Val->Cel
 |.null=>Cel.none
 |.whole n=>⟨1,n,noS⟩
 |.truth b=>⟨2,if b then 1 else 0,noS⟩
 |.text s=>⟨3,0,s⟩
def zsQ (v:Val):R 81 [.d v.d] []=some ([.d (zaf v).d],[]):=by
 rcases v with _ | n | b | s
 ·simp only[Val.d,zaf,Cel.none,Cel.d]
  refine rg b81 rfl ?_;intro T hT;simp -dsimp -implicitDefEqProofs (disch:=first|omega|assumption)
  simpa -dsimp -implicitDefEqProofs (disch:=first|omega|assumption) using hT
 ·simp only[Val.d,zaf,Cel.none,Cel.d]
  refine rg b81 rfl ?_;intro T hT;simp -dsimp -implicitDefEqProofs (disch:=first|omega|assumption)
  simpa -dsimp -implicitDefEqProofs (disch:=first|omega|assumption) using hT
 ·simp only[Val.d,zaf,Cel.none,Cel.d]
  cases b
  all_goals
   refine rg b81 rfl ?_;intro T hT;simp -dsimp -implicitDefEqProofs (disch:=first|omega|assumption)
   simpa -dsimp -implicitDefEqProofs (disch:=first|omega|assumption) using hT
 ·simp only[Val.d,zaf,Cel.none,Cel.d]
  refine rg b81 rfl ?_;intro T hT;simp -dsimp -implicitDefEqProofs (disch:=first|omega|assumption)
  simpa -dsimp -implicitDefEqProofs (disch:=first|omega|assumption) using hT
def zq9 (l:List Val) (hn:l.length<=1000000):R 37 [.d (.list (vs l))] []=some ([.arr 0 l.length],[.arr 3 (ce (l.map zaf)) 0]):=by
 have hend:ce (l.map zaf)=zdg (λv=>(zaf v).d) l l.length:=by
  rw[za8 (yab _)]
  show (l.map zaf).map Cel.d=_
  rw[ya0];rfl
 rw[hend];refine rg b37 rfl ?_;intro T hT;simp -dsimp -implicitDefEqProofs (disch:=first|omega|assumption)
 generalize hz:zad _ _ _ _ _ _=z;revert z;refine zaa (σ:=Nat) (λi=>[(0,.d (.list (vs l))),(3,.arr 0 i),(4,.d (.int .i64 i))]) (λi=>[.arr 3 (zdg (λv=>(zaf v).d) l i) 0]) (λi=>i<=l.length) (λi=>l.length - i) 0 ?_ ?_ ?_
 ·exact yai _
 ·simp -dsimp -implicitDefEqProofs (disch:=first|omega|assumption) [zaG]
 intro T' f hT' i hi ih
 by_cases h1:i<l.length
 ·have h:=zsQ l[i]
  have htk:=zaH (g:=λv=>(zaf v).d) h1
  have hlen:=zak (g:=λv=>(zaf v).d) hi
  have hsz:(zaf l[i]).d.cells.length=3:=rfl;simp -dsimp -implicitDefEqProofs (disch:=first|omega|assumption) [h1,h,hlen,hsz]
  refine ih (i+1) _ _ h1 (by omega) ?_
  rw[htk];simp -dsimp -implicitDefEqProofs (disch:=first|omega|assumption)
 ·have e:i=l.length:=by omega
  subst e;subst hT';simp -dsimp -implicitDefEqProofs (disch:=first|omega|assumption)
  simpa -dsimp -implicitDefEqProofs (disch:=first|omega|assumption) using hT
def zbP (v:Val):R 86 [.d v.d] []=some ([.d (.int .u8 v.kind)],[]):=by
 rcases v with _ | n | b | s
 all_goals
  simp only[Val.d,Val.kind];refine rg b86 rfl ?_;intro T hT;simp -dsimp -implicitDefEqProofs (disch:=first|omega|assumption)
  simpa -dsimp -implicitDefEqProofs (disch:=first|omega|assumption) using hT
def zfb (k:Nat) (hk:k<256):R 88 [.d (.int .u8 k)] []=some ([.d (.bool (decide (1<=k/\k<=3)))],[]):=by
 by_cases h1:1<=k
 ·have h1':(1:Int)<=k:=by omega
  by_cases h2:k<=3
  ·have h2':(k:Int)<=3:=by omega
   have e:decide (1<=k/\k<=3)=true:=by simp;omega
   rw[e];refine rg b88 rfl ?_;intro T hT;simp -dsimp -implicitDefEqProofs (disch:=first|omega|assumption) [h1',h2']
   simpa -dsimp -implicitDefEqProofs (disch:=first|omega|assumption) using hT
  ·have h2': ¬ (k:Int)<=3:=by omega
   have e:decide (1<=k/\k<=3)=false:=by simp;omega
   rw[e];refine rg b88 rfl ?_;intro T hT;simp -dsimp -implicitDefEqProofs (disch:=first|omega|assumption) [h1',h2']
   simpa -dsimp -implicitDefEqProofs (disch:=first|omega|assumption) using hT
 ·have h1': ¬ (1:Int)<=k:=by omega
  have e:decide (1<=k/\k<=3)=false:=by simp;omega
  rw[e];refine rg b88 rfl ?_;intro T hT;simp -dsimp -implicitDefEqProofs (disch:=first|omega|assumption) [h1']
  simpa -dsimp -implicitDefEqProofs (disch:=first|omega|assumption) using hT
end Go.Am.Ab
