/- Values in their order. -/
import Derived.Test.YtibdiacpdmhmnaaGreatDoorIntsA
import Derived.Test.YtibdiacpdmhmnaaGreatDoorCellsA
import Derived.Test.YtibdiacpdmhmnaaGreatDoorTSortB
import Derived.Test.YtibdiacpdmhmnaaGreatDoorRColA
set_option linter.all false
namespace Go.Am.Ab
open Go.Proofs
set_option maxHeartbeats 4000000
def ltV:Val->Val->Bool
 |.whole a,.whole b=>decide (a<b)
 |.truth a,.truth b=> !a && b
 |.text a,.text b=>lsS a b
 |a,b=>decide (a.kind<b.kind)
def zug (a:Val):ltV a a=false:=by
 cases a with
 |null=>rfl
 |whole n=>simp[ltV]
 |truth b=>cases b <;> rfl
 |text s=>exact zid s
def zhs {a b:Val} (h:ltV a b=true):a.kind<=b.kind:=by
 cases a <;> cases b <;> simp[ltV,Val.kind]at h ⊢
def zeF {a b:Val} (h:a.kind<b.kind):ltV a b=true:=by
 cases a <;> cases b <;> simp[ltV,Val.kind]at h ⊢
def zwd {a b c:Val} (h:ltV a b=true) (g:ltV b c=true):ltV a c=true:=by
 have h1:=zhs h;have h2:=zhs g
 by_cases e:a.kind<c.kind
 ·exact zeF e
 ·cases a <;> cases b <;> cases c <;> simp[Val.kind]at h1 h2 e
  all_goals simp only[ltV]at h g ⊢
  ·exact h
  ·simp only[yaG]at h g ⊢;omega
  ·rename_i x y z;cases x <;> cases y <;> cases z <;> simp at h g ⊢
  ·exact zhn h g
structure VMono (wd:Nat->Val):Prop where
 lt: ∀a b,ltV (wd a) (wd b)=decide (a<b)
 inj: ∀a b,wd a=wd b->a=b
def VMono.eq_iff {wd:Nat->Val} (h:VMono wd) {a b:Nat}:wd a=wd b↔a=b:=⟨λe=>h.inj a b e,λe=>by rw[e]⟩
end Go.Am.Ab
namespace Go.Am.Ab
open Go.Proofs
set_option maxHeartbeats 4000000
set_option maxRecDepth 4000
def zkL (a:Int):R 169 [.d (.int .u8 a)] []=some ([.d (.bool false)],[]):=by
 refine rg zJx rfl ?_;intro T hT;simp -dsimp -implicitDefEqProofs (disch:=first|omega|assumption)
 simpa -dsimp -implicitDefEqProofs (disch:=first|omega|assumption) using hT
def zkM (a:Int):R 171 [.d (.int .u8 a)] []=some ([.d (.bool false)],[]):=by
 refine rg zJy rfl ?_;intro T hT;simp -dsimp -implicitDefEqProofs (disch:=first|omega|assumption)
 simpa -dsimp -implicitDefEqProofs (disch:=first|omega|assumption) using hT
def zkN (a:Int):R 170 [.d (.int .i64 a)] []=some ([.d (.bool false)],[]):=by
 refine rg zIj rfl ?_;intro T hT;simp -dsimp -implicitDefEqProofs (disch:=first|omega|assumption)
 simpa -dsimp -implicitDefEqProofs (disch:=first|omega|assumption) using hT
def zkO (a:ByteArray):R 172 [.d (.str a)] []=some ([.d (.bool false)],[]):=by
 refine rg zIk rfl ?_;intro T hT;simp -dsimp -implicitDefEqProofs (disch:=first|omega|assumption)
 simpa -dsimp -implicitDefEqProofs (disch:=first|omega|assumption) using hT
def sgI (a b:Int):Int:=if a<b then -1 else if b<a then 1 else 0
def zwe (a b:Int):R 136 [.d (.int .u8 a),.d (.int .u8 b)] []=some ([.d (.int .i64 (sgI a b))],[]):=by
 unfold sgI
 by_cases h1:a<b
 ·rw[yaj h1]
  refine rg zHn rfl ?_;intro T hT;simp -dsimp -implicitDefEqProofs (disch:=first|omega|assumption) [zkL,h1]
  simpa -dsimp -implicitDefEqProofs (disch:=first|omega|assumption) using hT
 ·rw[yag h1]
  by_cases h2:b<a
  ·rw[yaj h2]
   refine rg zHn rfl ?_;intro T hT;simp -dsimp -implicitDefEqProofs (disch:=first|omega|assumption) [zkL,h1,h2]
   simpa -dsimp -implicitDefEqProofs (disch:=first|omega|assumption) using hT
  ·rw[yag h2]
   refine rg zHn rfl ?_;intro T hT;simp -dsimp -implicitDefEqProofs (disch:=first|omega|assumption) [zkL,h1,h2]
   simpa -dsimp -implicitDefEqProofs (disch:=first|omega|assumption) using hT
def zwf (a b:Int):R 138 [.d (.int .u8 a),.d (.int .u8 b)] []=some ([.d (.int .i64 (sgI a b))],[]):=by
 unfold sgI
 by_cases h1:a<b
 ·rw[yaj h1]
  refine rg zHp rfl ?_;intro T hT;simp -dsimp -implicitDefEqProofs (disch:=first|omega|assumption) [zkM,h1]
  simpa -dsimp -implicitDefEqProofs (disch:=first|omega|assumption) using hT
 ·rw[yag h1]
  by_cases h2:b<a
  ·rw[yaj h2]
   refine rg zHp rfl ?_;intro T hT;simp -dsimp -implicitDefEqProofs (disch:=first|omega|assumption) [zkM,h1,h2]
   simpa -dsimp -implicitDefEqProofs (disch:=first|omega|assumption) using hT
  ·rw[yag h2]
   refine rg zHp rfl ?_;intro T hT;simp -dsimp -implicitDefEqProofs (disch:=first|omega|assumption) [zkM,h1,h2]
   simpa -dsimp -implicitDefEqProofs (disch:=first|omega|assumption) using hT
def zwg (a b:Int):R 137 [.d (.int .i64 a),.d (.int .i64 b)] []=some ([.d (.int .i64 (sgI a b))],[]):=by
 unfold sgI
 by_cases h1:a<b
 ·rw[yaj h1]
  refine rg zHo rfl ?_;intro T hT;simp -dsimp -implicitDefEqProofs (disch:=first|omega|assumption) [zkN,h1]
  simpa -dsimp -implicitDefEqProofs (disch:=first|omega|assumption) using hT
 ·rw[yag h1]
  by_cases h2:b<a
  ·rw[yaj h2]
   refine rg zHo rfl ?_;intro T hT;simp -dsimp -implicitDefEqProofs (disch:=first|omega|assumption) [zkN,h1,h2]
   simpa -dsimp -implicitDefEqProofs (disch:=first|omega|assumption) using hT
  ·rw[yag h2]
   refine rg zHo rfl ?_;intro T hT;simp -dsimp -implicitDefEqProofs (disch:=first|omega|assumption) [zkN,h1,h2]
   simpa -dsimp -implicitDefEqProofs (disch:=first|omega|assumption) using hT
def sgS (a b:ByteArray):Int:=if lsS a b=true then -1 else if a=b then 0 else 1
def zwh (a b:ByteArray):R 140 [.d (.str a),.d (.str b)] []=some ([.d (.int .i64 (sgS a b))],[]):=by
 unfold sgS;cases h1:lsS a b with
 |true=>
  have h1':Op.bytesLess a.toList b.toList=true:=h1;rw[yaj rfl];refine rg zHq rfl ?_;intro T hT;simp -dsimp -implicitDefEqProofs (disch:=first|omega|assumption) [zkO,h1']
  simpa -dsimp -implicitDefEqProofs (disch:=first|omega|assumption) using hT
 |false=>
  have h1':Op.bytesLess a.toList b.toList=false:=h1;rw[yag (by simp)]
  by_cases h2:a=b
  ·rw[yaj h2]
   subst h2;refine rg zHq rfl ?_;intro T hT;simp -dsimp -implicitDefEqProofs (disch:=first|omega|assumption) [zkO,h1',zbQ]
   simpa -dsimp -implicitDefEqProofs (disch:=first|omega|assumption) using hT
  ·rw[yag h2]
   refine rg zHq rfl ?_;intro T hT;simp -dsimp -implicitDefEqProofs (disch:=first|omega|assumption) [zkO,h1',zbQ,h2]
   simpa -dsimp -implicitDefEqProofs (disch:=first|omega|assumption) using hT
def zsn (b:Bool):Int:=if b then 2 else 0
def zAn (b:Bool):R 139 [.d (.bool b)] []=some ([.d (.int .u8 (zsn b))],[]):=by
 cases b
 all_goals
  refine rg zJm rfl ?_;intro T hT;simp -dsimp -implicitDefEqProofs (disch:=first|omega|assumption)
  simpa -dsimp -implicitDefEqProofs (disch:=first|omega|assumption) [zsn]using hT
def zq0 (a b:Val):Int:=if ltV a b=true then -1 else if ltV b a=true then 1 else 0
def zAo {a b:Val} (h:a.kind≠b.kind):zq0 a b=sgI a.kind b.kind:=by
 unfold zq0 sgI
 by_cases h1:a.kind<b.kind
 ·rw[zeF h1,yaj rfl,yaj (by omega)]
 ·have h2:b.kind<a.kind:=by omega
  have h3:ltV a b=false:=by
   cases e:ltV a b with
   |false=>rfl
   |true=>have:=zhs e;omega
  rw[h3,zeF h2,yag (by simp),yaj rfl,yag (by omega),yaj (by omega)]
def ziX (a b:Val):R 95 [.d a.d,.d b.d] []=some ([.d (.int .i64 (zq0 a b))],[]):=by
 have ka:=zb6 a;have kb:=zb6 b
 by_cases hk:a.kind=b.kind
 ·cases a <;> cases b <;> simp[Val.kind]at hk
  ·simp only[Val.d,Val.kind]at ka ⊢
   refine rg b95 rfl ?_;intro T hT;simp -dsimp -implicitDefEqProofs (disch:=first|omega|assumption) [ka]
   simpa -dsimp -implicitDefEqProofs (disch:=first|omega|assumption) [zq0,ltV,Val.kind]using hT
  ·rename_i x y
   have e:zq0 (.whole x) (.whole y)=sgI x y:=by simp[zq0,ltV,sgI]
   simp only[Val.d,Val.kind]at ka kb ⊢;rw[e];refine rg b95 rfl ?_;intro T hT;simp -dsimp -implicitDefEqProofs (disch:=first|omega|assumption) [ka,kb,zwg]
   simpa -dsimp -implicitDefEqProofs (disch:=first|omega|assumption) using hT
  ·rename_i x y
   have e:zq0 (.truth x) (.truth y)=sgI (zsn x) (zsn y):=by cases x <;> cases y <;> rfl
   simp only[Val.d,Val.kind]at ka kb ⊢;rw[e];refine rg b95 rfl ?_;intro T hT;simp -dsimp -implicitDefEqProofs (disch:=first|omega|assumption) [ka,kb,zwf,zAn]
   simpa -dsimp -implicitDefEqProofs (disch:=first|omega|assumption) using hT
  ·rename_i x y
   have e:zq0 (.text x) (.text y)=sgS x y:=by
    have e1:ltV (.text x) (.text y)=lsS x y:=rfl;have e2:ltV (.text y) (.text x)=lsS y x:=rfl;unfold zq0 sgS;rw[e1,e2]
    by_cases h1:lsS x y=true
    ·rw[yaj h1,yaj h1]
    ·rw[yag h1,yag h1]
     by_cases h2:x=y
     ·subst h2
      rw[yag h1,yaj rfl]
     ·rw[yag h2,yaj (zpc (by simpa using h1) h2)]
   simp only[Val.d,Val.kind]at ka kb ⊢;rw[e];refine rg b95 rfl ?_;intro T hT;simp -dsimp -implicitDefEqProofs (disch:=first|omega|assumption) [ka,kb,zwh]
   simpa -dsimp -implicitDefEqProofs (disch:=first|omega|assumption) using hT
 ·have hk': ¬ (a.kind:Int)=b.kind:=by omega
  rw[zAo hk];generalize a.d=x at*;generalize b.d=y at*;refine rg b95 rfl ?_;intro T hT;simp -dsimp -implicitDefEqProofs (disch:=first|omega|assumption) [ka,kb,hk,hk',zwe]
  simpa -dsimp -implicitDefEqProofs (disch:=first|omega|assumption) using hT
end Go.Am.Ab
namespace Go.Am.Ab.Str.Vs
open Go.Proofs
abbrev ws (wd:Nat->Val) (l:List Nat):List D:=l.map λn=>(wd n).d
def ws_set {wd:Nat->Val} (l:List Nat) (i:Nat) (v:Nat):(l.map λn=>(wd n).d).set i (wd v).d=(l.set i v).map λn=>(wd n).d:=by rw[yb0]
@[simp] def allSize_ws (wd:Nat->Val) (l:List Nat):zaq 1 (l.map λn=>(wd n).d)=true:=zaS l λn=>by cases wd n <;> rfl
@[simp] def zpu: ∀n,zaq 1 (List.replicate n D.nilI)=true
 |0=>rfl
 |n+1=>by simp[yaS,zpu n]
end Go.Am.Ab.Str.Vs
namespace Go.Am.Ab
open Go.Proofs
set_option maxHeartbeats 4000000
set_option maxRecDepth 4000
def ltC (a b:Cel):Bool:=if a.kind≠b.kind then decide (a.kind<b.kind) else decide (a.n<b.n) || (decide (a.n=b.n) && lsS a.s b.s)
def zjt {k:Nat} {x y:Int} {s t:ByteArray}:ltC ⟨k,x,s⟩ ⟨k,y,t⟩=(decide (x<y) || (decide (x=y) && lsS s t)):=by
 unfold ltC;rw[yag (by simp)]
def zyi (a b:Val):ltC (zac a) (zac b)=ltV a b:=by
 have e:lsS noS noS=false:=zid _;cases a with
 |null=>cases b <;> first | rfl | exact zjt.trans (by rw[e];rfl)
 |whole x=>
  cases b with
  |whole y=>
   refine zjt.trans ?_;rw[e,yco,yct];rfl
  |_=>rfl
 |truth x=>
  cases b with
  |truth y=>
   refine zjt.trans ?_;rw[e,yco,yct];cases x <;> cases y <;> rfl
  |_=>rfl
 |text x=>
  cases b with
  |text y=>
   refine zjt.trans ?_;rw[yaM (by omega),yaK rfl,ycY,ycu];rfl
  |_=>rfl
def zmD (a b:Cel):R 72 [.d a.d,.d b.d] []=some ([.d (.bool (ltC a b))],[]):=by
 obtain⟨k,n,s⟩:=a;obtain⟨k',n',s'⟩:=b;simp only[Cel.d]
 by_cases hk:k=k'
 ·subst hk
  have e:ltC ⟨k,n,s⟩ ⟨k,n',s'⟩=(decide (n<n') || (decide (n=n') && lsS s s')):=by simp[ltC]
  rw[e];have hl:Op.bytesLess s.toList s'.toList=lsS s s':=rfl
  by_cases h1:n<n'
  ·have h2: ¬ n=n':=by omega
   refine rg b72 rfl ?_;intro T hT;simp -dsimp -implicitDefEqProofs (disch:=first|omega|assumption) [h1,h2]
   simpa -dsimp -implicitDefEqProofs (disch:=first|omega|assumption) [h1]using hT
  ·by_cases h2:n=n'
   ·subst h2
    refine rg b72 rfl ?_;intro T hT;simp -dsimp -implicitDefEqProofs (disch:=first|omega|assumption) [hl]
    simpa -dsimp -implicitDefEqProofs (disch:=first|omega|assumption) using hT
   ·refine rg b72 rfl ?_
    intro T hT;simp -dsimp -implicitDefEqProofs (disch:=first|omega|assumption) [h1,h2]
    simpa -dsimp -implicitDefEqProofs (disch:=first|omega|assumption) [h1,h2]using hT
 ·have hk': ¬ (k:Int)=k':=by omega
  have e:ltC ⟨k,n,s⟩ ⟨k',n',s'⟩=decide (k<k'):=by simp[ltC,hk]
  rw[e]
  by_cases h1:k<k'
  ·have h1':(k:Int)<k':=by omega
   refine rg b72 rfl ?_;intro T hT;simp -dsimp -implicitDefEqProofs (disch:=first|omega|assumption) [hk,hk',h1,h1']
   simpa -dsimp -implicitDefEqProofs (disch:=first|omega|assumption) [h1]using hT
  ·have h1': ¬ (k:Int)<k':=by omega
   refine rg b72 rfl ?_;intro T hT;simp -dsimp -implicitDefEqProofs (disch:=first|omega|assumption) [hk,hk',h1,h1']
   simpa -dsimp -implicitDefEqProofs (disch:=first|omega|assumption) [h1]using hT
end Go.Am.Ab
