/- Cells, values. -/
import Derived.Test.YtlgdomajdebbdaaGreatDoorIntsA
set_option linter.all false
namespace Go.Am.Ab
open Go.Proofs
set_option maxHeartbeats 4000000
set_option maxRecDepth 4000
attribute [simp] zlK zkN
structure Cel where
 kind:Nat
 n:Int
 s:ByteArray
 deriving DecidableEq
abbrev noS:ByteArray:=⟨#[]⟩
def Cel.none:Cel:=⟨0,0,noS⟩
def Cel.d (c:Cel):D:= .agg [.int .u8 c.kind,.int .i64 c.n,.str c.s]
inductive Val where
 |null
 |whole (n:Int)
 |truth (b:Bool)
 |text (s:ByteArray)
 deriving DecidableEq
def Val.d:Val->D
 |.null=> .nilI
 |.whole n=> .iface 2 (.int .i64 n)
 |.truth b=> .iface 4 (.bool b)
 |.text s=> .iface 9 (.str s)
def Val.kind:Val->Nat
 |.null=>0
 |.whole _=>1
 |.truth _=>2
 |.text _=>3
abbrev vs (l:List Val):List D:=l.map Val.d
abbrev ce (l:List Cel):List D:=l.map Cel.d
def ziM {a b:ByteArray} (h:a.toList=b.toList):a=b:=by
 rw[ByteArray.toList_eq,ByteArray.toList_eq]at h;obtain⟨⟨x⟩⟩:=a;obtain⟨⟨y⟩⟩:=b;simp at h;rw[h]
def zel (a b:ByteArray):(a.toList == b.toList)=decide (a=b):=by
 by_cases e:a=b
 ·subst e;simp
 ·rw[decide_eq_false e]
  exact beq_false_of_ne λh=>e (ziM h)
@[simp] def zwP (l:List Val):zaw 1 (l.map Val.d)=true:=zaN l λv=>by cases v <;> rfl
@[simp] def zwQ (l:List Cel):zaw 3 (l.map Cel.d)=true:=zaN l λv=>rfl
@[simp] def zmu (v:Val):v.d.cells=[v.d]:=by cases v <;> rfl
@[simp] def zwR (v:Val):(V.d v.d).cells=[V.d v.d]:=by cases v <;> rfl
def zdQ {α:Type} (g:α->D) (p:List α) (i:Nat):List D:=(p.take i).map g
def zaF {α:Type} (g:α->D) (p:List α):zdQ g p 0=[]:=rfl
def zaG {α:Type} {g:α->D} {p:List α} {i:Nat} (h:i<p.length):zdQ g p (i+1)=zdQ g p i++[g p[i]]:=by
 unfold zdQ;rw[List.take_succ_eq_append_getElem h,List.map_append];rfl
def zai {α:Type} {g:α->D} {p:List α} {i:Nat} (h:i<=p.length):(zdQ g p i).length=i:=by simp[zdQ];omega
def zbk {α:Type} {g:α->D} {p:List α} {i:Nat} (h:p.length<=i):zdQ g p i=p.map g:=by rw[zdQ,List.take_of_length_le h]
def chk (c:Cel):Nat:=
 if 3<c.kind then 10 else
 if (c.kind≠3/\c.s≠noS)\/(c.kind≠1/\c.kind≠2/\c.n≠0)\/(c.kind=2/\c.n≠0/\c.n≠1) then 1 else
 if 64<c.s.size then 5 else 0
end Go.Am.Ab
namespace Go.Am.Ab
open Go.Proofs
set_option maxHeartbeats 4000000
set_option maxRecDepth 4000
end Go.Am.Ab
namespace Go.Am.Ab
open Go.Proofs
set_option maxHeartbeats 4000000
set_option maxRecDepth 4000
def fix (c:Cel):Cel:=if chk c=0 then c else Cel.none
def zb3 {c:Cel} (h:chk c=0):c.kind<=3/\(c.kind≠3->c.s=noS)/\(c.kind≠1->c.kind≠2->c.n=0)/\(c.kind=2->c.n=0\/c.n=1)/\c.s.size<=64:=by
 unfold chk at h;split at h
 ·omega
 ·split at h
  ·omega
  ·rename_i h1 h2
   split at h
   ·omega
   ·refine⟨by omega,λa=> ?_,λa b=> ?_,λa=> ?_,by omega⟩
    ·exact Classical.byContradiction λb=>h2 (.inl ⟨a,b⟩)
    ·exact Classical.byContradiction λb'=>h2 (.inr (.inl ⟨a,b,b'⟩))
    ·exact Classical.byContradiction λb=>h2 (.inr (.inr ⟨a,λe=>b (.inl e),λe=>b (.inr e)⟩))
def zaq (c:Cel):Val:=if (fix c).kind=1 then .whole (fix c).n else if (fix c).kind=2 then .truth (decide ((fix c).n=1)) else if (fix c).kind=3 then .text (fix c).s else .null
def zar:Val->Cel
 |.null=>Cel.none
 |.whole n=>⟨1,n,noS⟩
 |.truth b=>⟨2,if b then 1 else 0,noS⟩
 |.text s=>⟨3,0,s⟩
def zrR (v:Val):R 73 [.d v.d] []=some ([.d (zar v).d],[]):=by
 rcases v with _ | n | b | s
 ·simp only[Val.d,zar,Cel.none,Cel.d]
  refine rg b73 rfl ?_;intro T hT;simp -dsimp -implicitDefEqProofs (disch:=first|omega|assumption)
  simpa -dsimp -implicitDefEqProofs (disch:=first|omega|assumption) using hT
 ·simp only[Val.d,zar,Cel.none,Cel.d]
  refine rg b73 rfl ?_;intro T hT;simp -dsimp -implicitDefEqProofs (disch:=first|omega|assumption)
  simpa -dsimp -implicitDefEqProofs (disch:=first|omega|assumption) using hT
 ·simp only[Val.d,zar,Cel.none,Cel.d]
  cases b
  all_goals
   refine rg b73 rfl ?_;intro T hT;simp -dsimp -implicitDefEqProofs (disch:=first|omega|assumption)
   simpa -dsimp -implicitDefEqProofs (disch:=first|omega|assumption) using hT
 ·simp only[Val.d,zar,Cel.none,Cel.d]
  refine rg b73 rfl ?_;intro T hT;simp -dsimp -implicitDefEqProofs (disch:=first|omega|assumption)
  simpa -dsimp -implicitDefEqProofs (disch:=first|omega|assumption) using hT
def zqd (l:List Val) (hn:l.length<=1000000):R 22 [.d (.list (vs l))] []=some ([.arr 0 l.length],[.arr 3 (ce (l.map zar)) 0]):=by
 have hend:ce (l.map zar)=zdQ (λv=>(zar v).d) l l.length:=by
  rw[zbk (Nat.le_refl _)]
  show (l.map zar).map Cel.d=_
  rw[List.map_map];rfl
 rw[hend];refine rg b22 rfl ?_;intro T hT;simp -dsimp -implicitDefEqProofs (disch:=first|omega|assumption)
 generalize hz:zac _ _ _ _ _ _=z;revert z;refine zaa (σ:=Nat) (λi=>[(0,.d (.list (vs l))),(3,.arr 0 i),(4,.d (.int .i64 i))]) (λi=>[.arr 3 (zdQ (λv=>(zar v).d) l i) 0]) (λi=>i<=l.length) (λi=>l.length - i) 0 ?_ ?_ ?_
 ·exact Nat.zero_le _
 ·simp -dsimp -implicitDefEqProofs (disch:=first|omega|assumption) [zaF]
 intro T' f hT' i hi ih
 by_cases h1:i<l.length
 ·have h:=zrR l[i]
  have htk:=zaG (g:=λv=>(zar v).d) h1
  have hlen:=zai (g:=λv=>(zar v).d) hi
  have hsz:(zar l[i]).d.cells.length=3:=rfl;simp -dsimp -implicitDefEqProofs (disch:=first|omega|assumption) [h1,h,hlen,hsz]
  refine ih (i+1) _ _ h1 (by omega) ?_
  rw[htk];simp -dsimp -implicitDefEqProofs (disch:=first|omega|assumption)
 ·have e:i=l.length:=by omega
  subst e;subst hT';simp -dsimp -implicitDefEqProofs (disch:=first|omega|assumption)
  simpa -dsimp -implicitDefEqProofs (disch:=first|omega|assumption) using hT
def zaO (v:Val):R 58 [.d v.d] []=some ([.d (.int .u8 v.kind)],[]):=by
 rcases v with _ | n | b | s
 all_goals
  simp only[Val.d,Val.kind];refine rg b58 rfl ?_;intro T hT;simp -dsimp -implicitDefEqProofs (disch:=first|omega|assumption)
  simpa -dsimp -implicitDefEqProofs (disch:=first|omega|assumption) using hT
def zbw (k:Nat) (hk:k<256):R 121 [.d (.int .u8 k)] []=some ([.d (.bool (decide (1<=k/\k<=3)))],[]):=by
 by_cases h1:1<=k
 ·have h1':(1:Int)<=k:=by omega
  by_cases h2:k<=3
  ·have h2':(k:Int)<=3:=by omega
   have e:decide (1<=k/\k<=3)=true:=by simp;omega
   rw[e];refine rg zCC rfl ?_;intro T hT;simp -dsimp -implicitDefEqProofs (disch:=first|omega|assumption) [h1',h2']
   simpa -dsimp -implicitDefEqProofs (disch:=first|omega|assumption) using hT
  ·have h2': ¬ (k:Int)<=3:=by omega
   have e:decide (1<=k/\k<=3)=false:=by simp;omega
   rw[e];refine rg zCC rfl ?_;intro T hT;simp -dsimp -implicitDefEqProofs (disch:=first|omega|assumption) [h1',h2']
   simpa -dsimp -implicitDefEqProofs (disch:=first|omega|assumption) using hT
 ·have h1': ¬ (1:Int)<=k:=by omega
  have e:decide (1<=k/\k<=3)=false:=by simp;omega
  rw[e];refine rg zCC rfl ?_;intro T hT;simp -dsimp -implicitDefEqProofs (disch:=first|omega|assumption) [h1']
  simpa -dsimp -implicitDefEqProofs (disch:=first|omega|assumption) using hT
def zmv (a b:List Cel) (ha:a.length<=1000000):R 21 [.d (.list (ce a)),.d (.list (ce b))] []=some ([.d (.bool (decide (a=b)))],[]):=by
 by_cases h0:a.length=b.length
 ·have h0':(a.length:Int)=b.length:=by omega
  refine rg b21 rfl ?_;intro T hT;simp -dsimp -implicitDefEqProofs (disch:=first|omega|assumption) [h0,h0']
  generalize hz:zac _ _ _ _ _ _=z;revert z;refine zaa (σ:=Nat) (λi=>[(0,.d (.list (ce a))),(1,.d (.list (ce b))),(5,.d (.int .i64 i))]) (λi=>[]) (λi=>i<=a.length/\a.take i=b.take i) (λi=>a.length - i) 0 ?_ ?_ ?_
  ·exact⟨Nat.zero_le _,by simp⟩
  ·simp -dsimp -implicitDefEqProofs (disch:=first|omega|assumption)
  intro T' f hT' i ⟨hi,he⟩ ih
  by_cases h1:i<a.length
  ·have h2:i<b.length:=by omega
   obtain⟨⟨k,n,s⟩,hx⟩: ∃x,x=a[i]:=⟨_,rfl⟩;obtain⟨⟨k',n',s'⟩,hy⟩: ∃y,y=b[i]:=⟨_,rfl⟩;have gx:=hx.symm;have gy:=hy.symm
   by_cases h3:(⟨k,n,s⟩:Cel)=⟨k',n',s'⟩
   ·simp only[Cel.mk.injEq]at h3
    obtain⟨rfl,rfl,rfl⟩:=h3;simp -dsimp -implicitDefEqProofs (disch:=first|omega|assumption) [h1,h2,gx,gy,Cel.d,zel]
    refine ih (i+1) _ _ ⟨h1, ?_⟩ (by omega) (by simp -dsimp -implicitDefEqProofs (disch:=first|omega|assumption))
    rw[zam h1,zam h2,he,gx,gy]
   ·have hne:a≠b:=by
     intro e;subst e;rw[gx]at gy;exact h3 gy
    have e:decide (a=b)=false:=decide_eq_false hne;rw[e]at hT;have h4:(!decide (k=k') || (!decide (n=n') || !decide (s=s')))=true:=by
     by_cases c1:k=k' <;> by_cases c2:n=n' <;> by_cases c3:s=s' <;> simp[c1,c2,c3]
     exact h3 (by rw[c1,c2,c3])
    subst hT';simp -dsimp -implicitDefEqProofs (disch:=first|omega|assumption) [h1,h2,gx,gy,Cel.d,zel,h4]
    simpa -dsimp -implicitDefEqProofs (disch:=first|omega|assumption) using hT
  ·have e:a=b:=by
    rw[List.take_of_length_le (by omega),List.take_of_length_le (by omega)]at he
    exact he
   subst hT';simp -dsimp -implicitDefEqProofs (disch:=first|omega|assumption) [h1]
   subst e;simpa -dsimp -implicitDefEqProofs (disch:=first|omega|assumption) using hT
 ·have hne:a≠b:=by rintro rfl;exact h0 rfl
  have h0': ¬ (a.length:Int)=b.length:=by omega
  refine rg b21 rfl ?_;intro T hT;simp -dsimp -implicitDefEqProofs (disch:=first|omega|assumption) [h0,h0']
  simpa -dsimp -implicitDefEqProofs (disch:=first|omega|assumption) [hne]using hT
end Go.Am.Ab
