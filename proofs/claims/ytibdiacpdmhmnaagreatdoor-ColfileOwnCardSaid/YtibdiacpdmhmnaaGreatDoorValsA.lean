/- Values in their order. -/
import Derived.Test.YtibdiacpdmhmnaaGreatDoorIntsA
import Derived.Test.YtibdiacpdmhmnaaGreatDoorCellsA
import Derived.Test.YtibdiacpdmhmnaaGreatDoorTSortB
import Derived.Test.YtibdiacpdmhmnaaGreatDoorRColA
set_option linter.all false
namespace Go.Am.Ab
open Go.Proofs
set_option maxHeartbeats 4000000
def ltV:Val->Val->Bool
 |.whole a,.whole b=>decide (a<b)
 |.truth a,.truth b=> !a && b
 |.text a,.text b=>lsS a b
 |a,b=>decide (a.kind<b.kind)
def zsO (a:Val):ltV a a=false:=by
 cases a with
 |null=>rfl
 |whole n=>simp[ltV]
 |truth b=>cases b <;> rfl
 |text s=>exact zlw s
def zg6 {a b:Val} (h:ltV a b=true):a.kind<=b.kind:=by
 cases a <;> cases b <;> simp[ltV,Val.kind]at h ⊢
def zeq {a b:Val} (h:a.kind<b.kind):ltV a b=true:=by
 cases a <;> cases b <;> simp[ltV,Val.kind]at h ⊢
def zuU {a b c:Val} (h:ltV a b=true) (g:ltV b c=true):ltV a c=true:=by
 have h1:=zg6 h;have h2:=zg6 g
 by_cases e:a.kind<c.kind
 ·exact zeq e
 ·cases a <;> cases b <;> cases c <;> simp[Val.kind]at h1 h2 e
  all_goals simp only[ltV]at h g ⊢
  ·exact h
  ·simp only[yaA]at h g ⊢;omega
  ·rename_i x y z;cases x <;> cases y <;> cases z <;> simp at h g ⊢
  ·exact zgY h g
structure VMono (wd:Nat->Val):Prop where
 lt: ∀a b,ltV (wd a) (wd b)=decide (a<b)
 inj: ∀a b,wd a=wd b->a=b
def VMono.eq_iff {wd:Nat->Val} (h:VMono wd) {a b:Nat}:wd a=wd b↔a=b:=⟨λe=>h.inj a b e,λe=>by rw[e]⟩
end Go.Am.Ab
namespace Go.Am.Ab
open Go.Proofs
set_option maxHeartbeats 4000000
set_option maxRecDepth 4000
def zj3 (a:Int):R 169 [.d (.int .u8 a)] []=some ([.d (.bool false)],[]):=by
 refine rg zIu rfl ?_;intro T hT;simp -dsimp -implicitDefEqProofs (disch:=first|omega|assumption)
 simpa -dsimp -implicitDefEqProofs (disch:=first|omega|assumption) using hT
def zj4 (a:Int):R 171 [.d (.int .u8 a)] []=some ([.d (.bool false)],[]):=by
 refine rg zIv rfl ?_;intro T hT;simp -dsimp -implicitDefEqProofs (disch:=first|omega|assumption)
 simpa -dsimp -implicitDefEqProofs (disch:=first|omega|assumption) using hT
def zj5 (a:Int):R 170 [.d (.int .i64 a)] []=some ([.d (.bool false)],[]):=by
 refine rg zHl rfl ?_;intro T hT;simp -dsimp -implicitDefEqProofs (disch:=first|omega|assumption)
 simpa -dsimp -implicitDefEqProofs (disch:=first|omega|assumption) using hT
def zj6 (a:ByteArray):R 172 [.d (.str a)] []=some ([.d (.bool false)],[]):=by
 refine rg zHm rfl ?_;intro T hT;simp -dsimp -implicitDefEqProofs (disch:=first|omega|assumption)
 simpa -dsimp -implicitDefEqProofs (disch:=first|omega|assumption) using hT
def sgI (a b:Int):Int:=if a<b then -1 else if b<a then 1 else 0
def zuV (a b:Int):R 136 [.d (.int .u8 a),.d (.int .u8 b)] []=some ([.d (.int .i64 (sgI a b))],[]):=by
 unfold sgI
 by_cases h1:a<b
 ·rw[yai h1]
  refine rg zGx rfl ?_;intro T hT;simp -dsimp -implicitDefEqProofs (disch:=first|omega|assumption) [zj3,h1]
  simpa -dsimp -implicitDefEqProofs (disch:=first|omega|assumption) using hT
 ·rw[yaf h1]
  by_cases h2:b<a
  ·rw[yai h2]
   refine rg zGx rfl ?_;intro T hT;simp -dsimp -implicitDefEqProofs (disch:=first|omega|assumption) [zj3,h1,h2]
   simpa -dsimp -implicitDefEqProofs (disch:=first|omega|assumption) using hT
  ·rw[yaf h2]
   refine rg zGx rfl ?_;intro T hT;simp -dsimp -implicitDefEqProofs (disch:=first|omega|assumption) [zj3,h1,h2]
   simpa -dsimp -implicitDefEqProofs (disch:=first|omega|assumption) using hT
def zuW (a b:Int):R 138 [.d (.int .u8 a),.d (.int .u8 b)] []=some ([.d (.int .i64 (sgI a b))],[]):=by
 unfold sgI
 by_cases h1:a<b
 ·rw[yai h1]
  refine rg zGz rfl ?_;intro T hT;simp -dsimp -implicitDefEqProofs (disch:=first|omega|assumption) [zj4,h1]
  simpa -dsimp -implicitDefEqProofs (disch:=first|omega|assumption) using hT
 ·rw[yaf h1]
  by_cases h2:b<a
  ·rw[yai h2]
   refine rg zGz rfl ?_;intro T hT;simp -dsimp -implicitDefEqProofs (disch:=first|omega|assumption) [zj4,h1,h2]
   simpa -dsimp -implicitDefEqProofs (disch:=first|omega|assumption) using hT
  ·rw[yaf h2]
   refine rg zGz rfl ?_;intro T hT;simp -dsimp -implicitDefEqProofs (disch:=first|omega|assumption) [zj4,h1,h2]
   simpa -dsimp -implicitDefEqProofs (disch:=first|omega|assumption) using hT
def zuX (a b:Int):R 137 [.d (.int .i64 a),.d (.int .i64 b)] []=some ([.d (.int .i64 (sgI a b))],[]):=by
 unfold sgI
 by_cases h1:a<b
 ·rw[yai h1]
  refine rg zGy rfl ?_;intro T hT;simp -dsimp -implicitDefEqProofs (disch:=first|omega|assumption) [zj5,h1]
  simpa -dsimp -implicitDefEqProofs (disch:=first|omega|assumption) using hT
 ·rw[yaf h1]
  by_cases h2:b<a
  ·rw[yai h2]
   refine rg zGy rfl ?_;intro T hT;simp -dsimp -implicitDefEqProofs (disch:=first|omega|assumption) [zj5,h1,h2]
   simpa -dsimp -implicitDefEqProofs (disch:=first|omega|assumption) using hT
  ·rw[yaf h2]
   refine rg zGy rfl ?_;intro T hT;simp -dsimp -implicitDefEqProofs (disch:=first|omega|assumption) [zj5,h1,h2]
   simpa -dsimp -implicitDefEqProofs (disch:=first|omega|assumption) using hT
def sgS (a b:ByteArray):Int:=if lsS a b=true then -1 else if a=b then 0 else 1
def zuY (a b:ByteArray):R 140 [.d (.str a),.d (.str b)] []=some ([.d (.int .i64 (sgS a b))],[]):=by
 unfold sgS;cases h1:lsS a b with
 |true=>
  have h1':Op.bytesLess a.toList b.toList=true:=h1;rw[yai rfl];refine rg zGA rfl ?_;intro T hT;simp -dsimp -implicitDefEqProofs (disch:=first|omega|assumption) [zj6,h1']
  simpa -dsimp -implicitDefEqProofs (disch:=first|omega|assumption) using hT
 |false=>
  have h1':Op.bytesLess a.toList b.toList=false:=h1;rw[yaf (by simp)]
  by_cases h2:a=b
  ·rw[yai h2]
   subst h2;refine rg zGA rfl ?_;intro T hT;simp -dsimp -implicitDefEqProofs (disch:=first|omega|assumption) [zj6,h1',zdH]
   simpa -dsimp -implicitDefEqProofs (disch:=first|omega|assumption) using hT
  ·rw[yaf h2]
   refine rg zGA rfl ?_;intro T hT;simp -dsimp -implicitDefEqProofs (disch:=first|omega|assumption) [zj6,h1',zdH,h2]
   simpa -dsimp -implicitDefEqProofs (disch:=first|omega|assumption) using hT
def zq1 (b:Bool):Int:=if b then 2 else 0
def zzN (b:Bool):R 139 [.d (.bool b)] []=some ([.d (.int .u8 (zq1 b))],[]):=by
 cases b
 all_goals
  refine rg zIl rfl ?_;intro T hT;simp -dsimp -implicitDefEqProofs (disch:=first|omega|assumption)
  simpa -dsimp -implicitDefEqProofs (disch:=first|omega|assumption) [zq1]using hT
def zpG (a b:Val):Int:=if ltV a b=true then -1 else if ltV b a=true then 1 else 0
def zzO {a b:Val} (h:a.kind≠b.kind):zpG a b=sgI a.kind b.kind:=by
 unfold zpG sgI
 by_cases h1:a.kind<b.kind
 ·rw[zeq h1,yai rfl,yai (by omega)]
 ·have h2:b.kind<a.kind:=by omega
  have h3:ltV a b=false:=by
   cases e:ltV a b with
   |false=>rfl
   |true=>have:=zg6 e;omega
  rw[h3,zeq h2,yaf (by simp),yai rfl,yaf (by omega),yai (by omega)]
def ziu (a b:Val):R 95 [.d a.d,.d b.d] []=some ([.d (.int .i64 (zpG a b))],[]):=by
 have ka:=zbL a;have kb:=zbL b
 by_cases hk:a.kind=b.kind
 ·cases a <;> cases b <;> simp[Val.kind]at hk
  ·simp only[Val.d,Val.kind]at ka ⊢
   refine rg b95 rfl ?_;intro T hT;simp -dsimp -implicitDefEqProofs (disch:=first|omega|assumption) [ka]
   simpa -dsimp -implicitDefEqProofs (disch:=first|omega|assumption) [zpG,ltV,Val.kind]using hT
  ·rename_i x y
   have e:zpG (.whole x) (.whole y)=sgI x y:=by simp[zpG,ltV,sgI]
   simp only[Val.d,Val.kind]at ka kb ⊢;rw[e];refine rg b95 rfl ?_;intro T hT;simp -dsimp -implicitDefEqProofs (disch:=first|omega|assumption) [ka,kb,zuX]
   simpa -dsimp -implicitDefEqProofs (disch:=first|omega|assumption) using hT
  ·rename_i x y
   have e:zpG (.truth x) (.truth y)=sgI (zq1 x) (zq1 y):=by cases x <;> cases y <;> rfl
   simp only[Val.d,Val.kind]at ka kb ⊢;rw[e];refine rg b95 rfl ?_;intro T hT;simp -dsimp -implicitDefEqProofs (disch:=first|omega|assumption) [ka,kb,zuW,zzN]
   simpa -dsimp -implicitDefEqProofs (disch:=first|omega|assumption) using hT
  ·rename_i x y
   have e:zpG (.text x) (.text y)=sgS x y:=by
    have e1:ltV (.text x) (.text y)=lsS x y:=rfl;have e2:ltV (.text y) (.text x)=lsS y x:=rfl;unfold zpG sgS;rw[e1,e2]
    by_cases h1:lsS x y=true
    ·rw[yai h1,yai h1]
    ·rw[yaf h1,yaf h1]
     by_cases h2:x=y
     ·subst h2
      rw[yaf h1,yai rfl]
     ·rw[yaf h2,yai (znW (by simpa using h1) h2)]
   simp only[Val.d,Val.kind]at ka kb ⊢;rw[e];refine rg b95 rfl ?_;intro T hT;simp -dsimp -implicitDefEqProofs (disch:=first|omega|assumption) [ka,kb,zuY]
   simpa -dsimp -implicitDefEqProofs (disch:=first|omega|assumption) using hT
 ·have hk': ¬ (a.kind:Int)=b.kind:=by omega
  rw[zzO hk];generalize a.d=x at*;generalize b.d=y at*;refine rg b95 rfl ?_;intro T hT;simp -dsimp -implicitDefEqProofs (disch:=first|omega|assumption) [ka,kb,hk,hk',zuV]
  simpa -dsimp -implicitDefEqProofs (disch:=first|omega|assumption) using hT
end Go.Am.Ab
namespace Go.Am.Ab.Str.Vs
open Go.Proofs
abbrev ws (wd:Nat->Val) (l:List Nat):List D:=l.map λn=>(wd n).d
def ws_set {wd:Nat->Val} (l:List Nat) (i:Nat) (v:Nat):(l.map λn=>(wd n).d).set i (wd v).d=(l.set i v).map λn=>(wd n).d:=by rw[ybY]
@[simp] def allSize_ws (wd:Nat->Val) (l:List Nat):zao 1 (l.map λn=>(wd n).d)=true:=zaJ l λn=>by cases wd n <;> rfl
@[simp] def zob: ∀n,zao 1 (List.replicate n D.nilI)=true
 |0=>rfl
 |n+1=>by simp[yaS,zob n]
end Go.Am.Ab.Str.Vs
namespace Go.Am.Ab
open Go.Proofs
set_option maxHeartbeats 4000000
set_option maxRecDepth 4000
end Go.Am.Ab
