/- Columns of the document, written. -/
import Derived.Test.YtibdiacpdmhmnaaGreatDoorRColA
set_option linter.all false
namespace Go.Am.Ab
open Go.Proofs
set_option maxHeartbeats 8000000
set_option maxRecDepth 4000
def zpX (l:List Cel) (hl: ∀c∈l,c.kind<256/\c.s.size<=9223372036854775807) (hn:l.length<=1000000):R 38 [.d (.list (ce l))] []=some ([.arr 0 l.length],[.arr 3 (ce (l.map fix)) 0]):=by
 have hend:ce (l.map fix)=zey (λc=>(fix c).d) l l.length:=by
  rw[zbw (yag _)]
  show (l.map fix).map Cel.d=_
  rw[ya3];rfl
 rw[hend];refine rg b38 rfl ?_;intro T hT;simp -dsimp -implicitDefEqProofs (disch:=first|omega|assumption)
 generalize hz:zak _ _ _ _ _ _=z;revert z;refine zaa (σ:=Nat) (λi=>[(0,.d (.list (ce l))),(3,.arr 0 i),(4,.d (.int .i64 i))]) (λi=>[.arr 3 (zey (λc=>(fix c).d) l i) 0]) (λi=>i<=l.length) (λi=>l.length - i) 0 ?_ ?_ ?_
 ·exact yaj _
 ·simp -dsimp -implicitDefEqProofs (disch:=first|omega|assumption) [zaR]
 intro T' f hT' i hi ih
 by_cases h1:i<l.length
 ·have hc:=hl l[i] (yar _)
  have h:=znT l[i] hc.1 hc.2;rw[zDn]at h;have hcc:=znS l[i];have hsz:(fix l[i]).d.cells.length=3:=rfl;have htk:=zaS (g:=λc=>(fix c).d) h1
  have hlen:=zam (g:=λc=>(fix c).d) hi
  simp -dsimp -implicitDefEqProofs (disch:=first|omega|assumption) [h1,h,hlen,hcc,hsz]
  refine ih (i+1) _ _ h1 (by omega) ?_
  rw[htk];simp -dsimp -implicitDefEqProofs (disch:=first|omega|assumption)
 ·have e:i=l.length:=by omega
  subst e;subst hT';simp -dsimp -implicitDefEqProofs (disch:=first|omega|assumption)
  simpa -dsimp -implicitDefEqProofs (disch:=first|omega|assumption) using hT
def strD (c:Cel):D:= .str c.s
end Go.Am.Ab
namespace Go.Am.Ab
open Go.Proofs
set_option maxHeartbeats 8000000
set_option maxRecDepth 4000
end Go.Am.Ab
namespace Go.Am.Ab
open Go.Proofs
set_option maxHeartbeats 8000000
set_option maxRecDepth 4000
end Go.Am.Ab
namespace Go.Am.Ab
open Go.Proofs
set_option maxHeartbeats 8000000
set_option maxRecDepth 4000
@[simp] def zpY (n:Nat): ∀a b:List D,zao n (a++b)=(zao n a && zao n b)
 |[],b=>by simp[zao]
 |x::a,b=>by
  have:=zpY n a b;simp[zao,this,yd0]
end Go.Am.Ab
