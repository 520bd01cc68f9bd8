/- Cells, values. -/
import Derived.Test.YtibdiacpdmhmnaaGreatDoorIntsA
set_option linter.all false
namespace Go.Am.Ab
open Go.Proofs
set_option maxHeartbeats 4000000
set_option maxRecDepth 4000
attribute [simp] zjK ziV
structure Cel where
 kind:Nat
 n:Int
 s:ByteArray
 deriving DecidableEq
abbrev noS:ByteArray:=⟨#[]⟩
def Cel.none:Cel:=⟨0,0,noS⟩
def Cel.d (c:Cel):D:= .agg [.int .u8 c.kind,.int .i64 c.n,.str c.s]
inductive Val where
 |null
 |whole (n:Int)
 |truth (b:Bool)
 |text (s:ByteArray)
 deriving DecidableEq
def Val.d:Val->D
 |.null=> .nilI
 |.whole n=> .iface 2 (.int .i64 n)
 |.truth b=> .iface 4 (.bool b)
 |.text s=> .iface 9 (.str s)
def Val.kind:Val->Nat
 |.null=>0
 |.whole _=>1
 |.truth _=>2
 |.text _=>3
abbrev vs (l:List Val):List D:=l.map Val.d
abbrev ce (l:List Cel):List D:=l.map Cel.d
def zhp {a b:ByteArray} (h:a.toList=b.toList):a=b:=by
 rw[ByteArray.toList_eq,ByteArray.toList_eq]at h;obtain⟨⟨x⟩⟩:=a;obtain⟨⟨y⟩⟩:=b;simp at h;rw[h]
def zdz (a b:ByteArray):(a.toList == b.toList)=decide (a=b):=by
 by_cases e:a=b
 ·subst e;simp
 ·rw[decide_eq_false e]
  exact beq_false_of_ne λh=>e (zhp h)
def zpm (a:ByteArray):a.toList.isEmpty=decide (a=noS):=by
 rw[<- zdz];have:noS.toList=[]:=by rw[ByteArray.toList_eq]
 rw[this];cases a.toList <;> rfl
@[simp] def zun (l:List Val):zap 1 (l.map Val.d)=true:=zaK l λv=>by cases v <;> rfl
@[simp] def zuo (l:List Cel):zap 3 (l.map Cel.d)=true:=zaK l λv=>rfl
@[simp] def zwR (v:Val):v.d.cells=[v.d]:=by cases v <;> rfl
@[simp] def zup (v:Val):(V.d v.d).cells=[V.d v.d]:=by cases v <;> rfl
def zcY {α:Type} (g:α->D) (p:List α) (i:Nat):List D:=(p.take i).map g
def zaL {α:Type} (g:α->D) (p:List α):zcY g p 0=[]:=rfl
def zaM {α:Type} {g:α->D} {p:List α} {i:Nat} (h:i<p.length):zcY g p (i+1)=zcY g p i++[g p[i]]:=by
 unfold zcY;rw[List.take_succ_eq_append_getElem h,List.map_append];rfl
def zai {α:Type} {g:α->D} {p:List α} {i:Nat} (h:i<=p.length):(zcY g p i).length=i:=by simp[zcY];omega
def zbk {α:Type} {g:α->D} {p:List α} {i:Nat} (h:p.length<=i):zcY g p i=p.map g:=by rw[zcY,List.take_of_length_le h]
def chk (c:Cel):Nat:=
 if 3<c.kind then 10 else
 if (c.kind≠3/\c.s≠noS)\/(c.kind≠1/\c.kind≠2/\c.n≠0)\/(c.kind=2/\c.n≠0/\c.n≠1) then 1 else
 if 64<c.s.size then 5 else 0
end Go.Am.Ab
namespace Go.Am.Ab
open Go.Proofs
set_option maxHeartbeats 4000000
set_option maxRecDepth 4000
def zlN (c:Cel) (hc:c.kind<256) (hs:c.s.size<=9223372036854775807):R 120 [.d c.d] []=some ([.d (.int .i64 (chk c))],[]):=by
 obtain⟨k,n,s⟩:=c;simp only at hc hs;simp only[Cel.d]
 by_cases h3:3<k
 ·have h3':(3:Int)<k:=by omega
  have e:chk ⟨k,n,s⟩=10:=by simp[chk,h3]
  rw[e];refine rg zAw rfl ?_;intro T hT;simp -dsimp -implicitDefEqProofs (disch:=first|omega|assumption) [h3']
  simpa -dsimp -implicitDefEqProofs (disch:=first|omega|assumption) using hT
 by_cases a1:s=noS <;> by_cases a2:n=0 <;> by_cases a3:n=1 <;> by_cases a4:64<s.size
 all_goals have hk:k=0\/k=1\/k=2\/k=3:=by omega
 all_goals first
  |(exfalso;omega)
  |(exfalso;subst a1;simp at a4;done)
  |skip
 all_goals
  rcases hk with rfl | rfl | rfl | rfl
  all_goals
   have a4':((64:Int)<(s.size:Int))=(64<s.size):=by simp only[eq_iff_iff];omega
   simp[chk,a1,a2,a3,a4];refine rg zAw rfl ?_;intro T hT;simp -dsimp -implicitDefEqProofs (disch:=first|omega|assumption) [zdz,zpm,a1,a2,a3,a4',a4]
   simpa -dsimp -implicitDefEqProofs (disch:=first|omega|assumption) using hT
end Go.Am.Ab
namespace Go.Am.Ab
open Go.Proofs
set_option maxHeartbeats 4000000
set_option maxRecDepth 4000
def ztj (c:Cel):c.d= .agg [.int .u8 c.kind,.int .i64 c.n,.str c.s]:=rfl
def zhq (c:Cel):c.d.cells=[.int .u8 c.kind,.int .i64 c.n,.str c.s]:=rfl
def fix (c:Cel):Cel:=if chk c=0 then c else Cel.none
def zky (c:Cel) (hc:c.kind<256) (hs:c.s.size<=9223372036854775807):R 71 [.d c.d] []=some ([.d (fix c).d],[]):=by
 have h:=zlN c hc hs;simp only[Cel.d]at h ⊢
 by_cases h0:chk c=0
 ·have e:fix c=c:=by simp[fix,h0]
  rw[e];refine rg b71 rfl ?_;intro T hT;simp -dsimp -implicitDefEqProofs (disch:=first|omega|assumption) [h,h0]
  simpa -dsimp -implicitDefEqProofs (disch:=first|omega|assumption) using hT
 ·have e:fix c=Cel.none:=by simp[fix,h0]
  have h0': ¬ (chk c:Int)=0:=by omega
  rw[e];refine rg b71 rfl ?_;intro T hT;simp -dsimp -implicitDefEqProofs (disch:=first|omega|assumption) [h,h0,h0']
  simpa -dsimp -implicitDefEqProofs (disch:=first|omega|assumption) [Cel.none]using hT
def zci {c:Cel} (h:chk c=0):c.kind<=3/\(c.kind≠3->c.s=noS)/\(c.kind≠1->c.kind≠2->c.n=0)/\(c.kind=2->c.n=0\/c.n=1)/\c.s.size<=64:=by
 unfold chk at h;split at h
 ·omega
 ·split at h
  ·omega
  ·rename_i h1 h2
   split at h
   ·omega
   ·refine⟨by omega,λa=> ?_,λa b=> ?_,λa=> ?_,by omega⟩
    ·exact Classical.byContradiction λb=>h2 (.inl ⟨a,b⟩)
    ·exact Classical.byContradiction λb'=>h2 (.inr (.inl ⟨a,b,b'⟩))
    ·exact Classical.byContradiction λb=>h2 (.inr (.inr ⟨a,λe=>b (.inl e),λe=>b (.inr e)⟩))
def zmU (c:Cel):chk (fix c)=0:=by
 unfold fix;split
 ·assumption
 ·rfl
def zan (c:Cel):Val:=if (fix c).kind=1 then .whole (fix c).n else if (fix c).kind=2 then .truth (decide ((fix c).n=1)) else if (fix c).kind=3 then .text (fix c).s else .null
def zn0 (c:Cel) (hc:c.kind<256) (hs:c.s.size<=9223372036854775807):R 101 [.d c.d] []=some ([.d (zan c).d],[]):=by
 have h:=zky c hc hs;have hk:=(zci (zmU c)).1;unfold zan;obtain⟨f,hf⟩: ∃f,f=fix c:=⟨_,rfl⟩;rw[<- hf]at h hk ⊢;obtain⟨k,n,s⟩:=f;simp only[Cel.d]at h ⊢;simp only at hk ⊢;have hk4:k=0\/k=1\/k=2\/k=3:=by omega
 rcases hk4 with rfl | rfl | rfl | rfl
 all_goals
  refine rg zBl rfl ?_;intro T hT;simp -dsimp -implicitDefEqProofs (disch:=first|omega|assumption) [h]
  simpa -dsimp -implicitDefEqProofs (disch:=first|omega|assumption) [Val.d]using hT
def zrr (l:List Cel) (hl: ∀c∈l,c.kind<256/\c.s.size<=9223372036854775807) (hn:l.length<=1000000):R 49 [.d (.list (ce l))] []=some ([.arr 0 l.length],[.arr 1 (vs (l.map zan)) 0]):=by
 have hend:vs (l.map zan)=zcY (λc=>(zan c).d) l l.length:=by
  rw[zbk (Nat.le_refl _)]
  show (l.map zan).map Val.d=_
  rw[List.map_map];rfl
 rw[hend];refine rg b49 rfl ?_;intro T hT;simp -dsimp -implicitDefEqProofs (disch:=first|omega|assumption)
 generalize hz:zaf _ _ _ _ _ _=z;revert z;refine zaa (σ:=Nat) (λi=>[(0,.d (.list (ce l))),(3,.arr 0 i),(4,.d (.int .i64 i))]) (λi=>[.arr 1 (zcY (λc=>(zan c).d) l i) 0]) (λi=>i<=l.length) (λi=>l.length - i) 0 ?_ ?_ ?_
 ·exact Nat.zero_le _
 ·simp -dsimp -implicitDefEqProofs (disch:=first|omega|assumption) [zaL]
 intro T' f hT' i hi ih
 by_cases h1:i<l.length
 ·have hc:=hl l[i] (List.getElem_mem _)
  have h:=zn0 l[i] hc.1 hc.2;rw[ztj]at h;have hcc:=zhq l[i];have htk:=zaM (g:=λc=>(zan c).d) h1
  have hlen:=zai (g:=λc=>(zan c).d) hi
  simp -dsimp -implicitDefEqProofs (disch:=first|omega|assumption) [h1,h,hlen,hcc]
  refine ih (i+1) _ _ h1 (by omega) ?_
  rw[htk];simp -dsimp -implicitDefEqProofs (disch:=first|omega|assumption)
 ·have e:i=l.length:=by omega
  subst e;subst hT';simp -dsimp -implicitDefEqProofs (disch:=first|omega|assumption)
  simpa -dsimp -implicitDefEqProofs (disch:=first|omega|assumption) using hT
def zag:Val->Cel
 |.null=>Cel.none
 |.whole n=>⟨1,n,noS⟩
 |.truth b=>⟨2,if b then 1 else 0,noS⟩
 |.text s=>⟨3,0,s⟩
def zbE (v:Val):R 86 [.d v.d] []=some ([.d (.int .u8 v.kind)],[]):=by
 rcases v with _ | n | b | s
 all_goals
  simp only[Val.d,Val.kind];refine rg b86 rfl ?_;intro T hT;simp -dsimp -implicitDefEqProofs (disch:=first|omega|assumption)
  simpa -dsimp -implicitDefEqProofs (disch:=first|omega|assumption) using hT
def zfM (k:Nat) (hk:k<256):R 88 [.d (.int .u8 k)] []=some ([.d (.bool (decide (1<=k/\k<=3)))],[]):=by
 by_cases h1:1<=k
 ·have h1':(1:Int)<=k:=by omega
  by_cases h2:k<=3
  ·have h2':(k:Int)<=3:=by omega
   have e:decide (1<=k/\k<=3)=true:=by simp;omega
   rw[e];refine rg b88 rfl ?_;intro T hT;simp -dsimp -implicitDefEqProofs (disch:=first|omega|assumption) [h1',h2']
   simpa -dsimp -implicitDefEqProofs (disch:=first|omega|assumption) using hT
  ·have h2': ¬ (k:Int)<=3:=by omega
   have e:decide (1<=k/\k<=3)=false:=by simp;omega
   rw[e];refine rg b88 rfl ?_;intro T hT;simp -dsimp -implicitDefEqProofs (disch:=first|omega|assumption) [h1',h2']
   simpa -dsimp -implicitDefEqProofs (disch:=first|omega|assumption) using hT
 ·have h1': ¬ (1:Int)<=k:=by omega
  have e:decide (1<=k/\k<=3)=false:=by simp;omega
  rw[e];refine rg b88 rfl ?_;intro T hT;simp -dsimp -implicitDefEqProofs (disch:=first|omega|assumption) [h1']
  simpa -dsimp -implicitDefEqProofs (disch:=first|omega|assumption) using hT
end Go.Am.Ab
