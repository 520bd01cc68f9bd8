/- Columns of the document, written. -/
import Derived.Test.YtibdiacpdmhmnaaGreatDoorRColA
set_option linter.all false
namespace Go.Am.Ab
open Go.Proofs
set_option maxHeartbeats 8000000
set_option maxRecDepth 4000
def zqz (l:List Cel) (hl: ∀c∈l,c.kind<256/\c.s.size<=9223372036854775807) (hn:l.length<=1000000):R 38 [.d (.list (ce l))] []=some ([.arr 0 l.length],[.arr 3 (ce (l.map fix)) 0]):=by
 have hend:ce (l.map fix)=zeo (λc=>(fix c).d) l l.length:=by
  rw[zbg (yaj _)]
  show (l.map fix).map Cel.d=_
  rw[yaQ];rfl
 rw[hend];refine rg b38 rfl ?_;intro T hT;simp -dsimp -implicitDefEqProofs (disch:=omega)
 generalize hz:zaf _ _ _ _ _ _=z;revert z;refine zaa (σ:=Nat) (λi=>[(0,.d (.list (ce l))),(3,.arr 0 i),(4,.d (.int .i64 i))]) (λi=>[.arr 3 (zeo (λc=>(fix c).d) l i) 0]) (λi=>i<=l.length) (λi=>l.length - i) 0 ?_ ?_ ?_
 ·exact yai _
 ·simp -dsimp -implicitDefEqProofs (disch:=omega) [zaO]
 intro T' f hT' i hi ih
 by_cases h1:i<l.length
 ·have hc:=hl l[i] (yam _)
  have h:=zg6 l[i] hc.1 hc.2;rw[zAA]at h;have hcc:=zj5 l[i];have hsz:(fix l[i]).d.cells.length=3:=rfl;have htk:=zaP (g:=λc=>(fix c).d) h1
  have hlen:=zak (g:=λc=>(fix c).d) hi
  simp -dsimp -implicitDefEqProofs (disch:=omega) [h1,h,hlen,hcc,hsz]
  refine ih (i+1) _ _ h1 (by omega) ?_
  rw[htk];simp -dsimp -implicitDefEqProofs (disch:=omega)
 ·have e:i=l.length:=by omega
  subst e;subst hT';simp -dsimp -implicitDefEqProofs (disch:=omega)
  simpa -dsimp -implicitDefEqProofs (disch:=omega) using hT
def strD (c:Cel):D:= .str c.s
end Go.Am.Ab
namespace Go.Am.Ab
open Go.Proofs
set_option maxHeartbeats 8000000
set_option maxRecDepth 4000
end Go.Am.Ab
namespace Go.Am.Ab
open Go.Proofs
set_option maxHeartbeats 8000000
set_option maxRecDepth 4000
end Go.Am.Ab
namespace Go.Am.Ab
open Go.Proofs
set_option maxHeartbeats 8000000
set_option maxRecDepth 4000
@[simp] def zqA (n:Nat): ∀a b:List D,zam n (a++b)=(zam n a && zam n b)
 |[],b=>by simp[zam]
 |x::a,b=>by
  have:=zqA n a b;simp[zam,this,ydW]
end Go.Am.Ab
