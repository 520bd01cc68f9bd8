/- Values in their order. -/
import Derived.Test.YtibdiacpdmhmnaaGreatDoorIntsA
import Derived.Test.YtibdiacpdmhmnaaGreatDoorCellsA
import Derived.Test.YtibdiacpdmhmnaaGreatDoorTSortB
import Derived.Test.YtibdiacpdmhmnaaGreatDoorRColA
set_option linter.all false
namespace Go.Am.Ab
open Go.Proofs
set_option maxHeartbeats 4000000
def ltV:Val->Val->Bool
 |.whole a,.whole b=>decide (a<b)
 |.truth a,.truth b=> !a && b
 |.text a,.text b=>lsS a b
 |a,b=>decide (a.kind<b.kind)
def zfA (a:Val):ltV a a=false:=by
 cases a with
 |null=>rfl
 |whole n=>simp[ltV]
 |truth b=>cases b <;> rfl
 |text s=>exact zhT s
def zhi {a b:Val} (h:ltV a b=true):a.kind<=b.kind:=by
 cases a <;> cases b <;> simp[ltV,Val.kind]at h ⊢
def zcS {a b:Val} (h:a.kind<b.kind):ltV a b=true:=by
 cases a <;> cases b <;> simp[ltV,Val.kind]at h ⊢
def zcF {a b c:Val} (h:ltV a b=true) (g:ltV b c=true):ltV a c=true:=by
 have h1:=zhi h;have h2:=zhi g
 by_cases e:a.kind<c.kind
 ·exact zcS e
 ·cases a <;> cases b <;> cases c <;> simp[Val.kind]at h1 h2 e
  all_goals simp only[ltV]at h g ⊢
  ·exact h
  ·simp only[yaB]at h g ⊢;omega
  ·rename_i x y z;cases x <;> cases y <;> cases z <;> simp at h g ⊢
  ·exact zha h g
def zd1 {a b:Val} (h:ltV a b=false) (g:a≠b):ltV b a=true:=by
 by_cases e:b.kind<a.kind
 ·exact zcS e
 ·by_cases e2:a.kind<b.kind
  ·rw[zcS e2]at h;cases h
  ·cases a <;> cases b <;> simp[Val.kind]at e e2
   all_goals simp only[ltV]at h g ⊢
   ·exact absurd rfl g
   ·simp only[yaS,yaB,ydG,Val.whole.injEq]at h g ⊢;omega
   ·rename_i x y;cases x <;> cases y <;> simp at h g ⊢
   ·exact zj9 h (λe=>g (by rw[e]))
structure VMono (wd:Nat->Val):Prop where
 lt: ∀a b,ltV (wd a) (wd b)=decide (a<b)
 inj: ∀a b,wd a=wd b->a=b
def VMono.eq_iff {wd:Nat->Val} (h:VMono wd) {a b:Nat}:wd a=wd b↔a=b:=⟨λe=>h.inj a b e,λe=>by rw[e]⟩
end Go.Am.Ab
namespace Go.Am.Ab
open Go.Proofs
set_option maxHeartbeats 4000000
set_option maxRecDepth 4000
def zkj (a:Int):R 169 [.d (.int .u8 a)] []=some ([.d (.bool false)],[]):=by
 refine rg zKg rfl ?_;intro T hT;simp -dsimp -implicitDefEqProofs (disch:=omega)
 simpa -dsimp -implicitDefEqProofs (disch:=omega) using hT
def zkk (a:Int):R 171 [.d (.int .u8 a)] []=some ([.d (.bool false)],[]):=by
 refine rg zKh rfl ?_;intro T hT;simp -dsimp -implicitDefEqProofs (disch:=omega)
 simpa -dsimp -implicitDefEqProofs (disch:=omega) using hT
def zkl (a:Int):R 170 [.d (.int .i64 a)] []=some ([.d (.bool false)],[]):=by
 refine rg zI1 rfl ?_;intro T hT;simp -dsimp -implicitDefEqProofs (disch:=omega)
 simpa -dsimp -implicitDefEqProofs (disch:=omega) using hT
def zkm (a:ByteArray):R 172 [.d (.str a)] []=some ([.d (.bool false)],[]):=by
 refine rg zI2 rfl ?_;intro T hT;simp -dsimp -implicitDefEqProofs (disch:=omega)
 simpa -dsimp -implicitDefEqProofs (disch:=omega) using hT
def sgI (a b:Int):Int:=if a<b then -1 else if b<a then 1 else 0
def zvC (a b:Int):R 136 [.d (.int .u8 a),.d (.int .u8 b)] []=some ([.d (.int .i64 (sgI a b))],[]):=by
 unfold sgI
 by_cases h1:a<b
 ·rw[yag h1]
  refine rg zH5 rfl ?_;intro T hT;simp -dsimp -implicitDefEqProofs (disch:=omega) [zkj,h1]
  simpa -dsimp -implicitDefEqProofs (disch:=omega) using hT
 ·rw[yac h1]
  by_cases h2:b<a
  ·rw[yag h2]
   refine rg zH5 rfl ?_;intro T hT;simp -dsimp -implicitDefEqProofs (disch:=omega) [zkj,h1,h2]
   simpa -dsimp -implicitDefEqProofs (disch:=omega) using hT
  ·rw[yac h2]
   refine rg zH5 rfl ?_;intro T hT;simp -dsimp -implicitDefEqProofs (disch:=omega) [zkj,h1,h2]
   simpa -dsimp -implicitDefEqProofs (disch:=omega) using hT
def zvD (a b:Int):R 138 [.d (.int .u8 a),.d (.int .u8 b)] []=some ([.d (.int .i64 (sgI a b))],[]):=by
 unfold sgI
 by_cases h1:a<b
 ·rw[yag h1]
  refine rg zH7 rfl ?_;intro T hT;simp -dsimp -implicitDefEqProofs (disch:=omega) [zkk,h1]
  simpa -dsimp -implicitDefEqProofs (disch:=omega) using hT
 ·rw[yac h1]
  by_cases h2:b<a
  ·rw[yag h2]
   refine rg zH7 rfl ?_;intro T hT;simp -dsimp -implicitDefEqProofs (disch:=omega) [zkk,h1,h2]
   simpa -dsimp -implicitDefEqProofs (disch:=omega) using hT
  ·rw[yac h2]
   refine rg zH7 rfl ?_;intro T hT;simp -dsimp -implicitDefEqProofs (disch:=omega) [zkk,h1,h2]
   simpa -dsimp -implicitDefEqProofs (disch:=omega) using hT
def zvE (a b:Int):R 137 [.d (.int .i64 a),.d (.int .i64 b)] []=some ([.d (.int .i64 (sgI a b))],[]):=by
 unfold sgI
 by_cases h1:a<b
 ·rw[yag h1]
  refine rg zH6 rfl ?_;intro T hT;simp -dsimp -implicitDefEqProofs (disch:=omega) [zkl,h1]
  simpa -dsimp -implicitDefEqProofs (disch:=omega) using hT
 ·rw[yac h1]
  by_cases h2:b<a
  ·rw[yag h2]
   refine rg zH6 rfl ?_;intro T hT;simp -dsimp -implicitDefEqProofs (disch:=omega) [zkl,h1,h2]
   simpa -dsimp -implicitDefEqProofs (disch:=omega) using hT
  ·rw[yac h2]
   refine rg zH6 rfl ?_;intro T hT;simp -dsimp -implicitDefEqProofs (disch:=omega) [zkl,h1,h2]
   simpa -dsimp -implicitDefEqProofs (disch:=omega) using hT
def sgS (a b:ByteArray):Int:=if lsS a b=true then -1 else if a=b then 0 else 1
def zvF (a b:ByteArray):R 140 [.d (.str a),.d (.str b)] []=some ([.d (.int .i64 (sgS a b))],[]):=by
 unfold sgS;cases h1:lsS a b with
 |true=>
  have h1':Op.bytesLess a.toList b.toList=true:=h1;rw[yag rfl];refine rg zH8 rfl ?_;intro T hT;simp -dsimp -implicitDefEqProofs (disch:=omega) [zkm,h1']
  simpa -dsimp -implicitDefEqProofs (disch:=omega) using hT
 |false=>
  have h1':Op.bytesLess a.toList b.toList=false:=h1;rw[yac (by simp)]
  by_cases h2:a=b
  ·rw[yag h2]
   subst h2;refine rg zH8 rfl ?_;intro T hT;simp -dsimp -implicitDefEqProofs (disch:=omega) [zkm,h1',zaS]
   simpa -dsimp -implicitDefEqProofs (disch:=omega) using hT
  ·rw[yac h2]
   refine rg zH8 rfl ?_;intro T hT;simp -dsimp -implicitDefEqProofs (disch:=omega) [zkm,h1',zaS,h2]
   simpa -dsimp -implicitDefEqProofs (disch:=omega) using hT
def zoB (b:Bool):Int:=if b then 2 else 0
def zqi (b:Bool):R 139 [.d (.bool b)] []=some ([.d (.int .u8 (zoB b))],[]):=by
 cases b
 all_goals
  refine rg zJ4 rfl ?_;intro T hT;simp -dsimp -implicitDefEqProofs (disch:=omega)
  simpa -dsimp -implicitDefEqProofs (disch:=omega) [zoB]using hT
def zht (a b:Val):Int:=if ltV a b=true then -1 else if ltV b a=true then 1 else 0
def zAF {a b:Val} (h:a.kind≠b.kind):zht a b=sgI a.kind b.kind:=by
 unfold zht sgI
 by_cases h1:a.kind<b.kind
 ·rw[zcS h1,yag rfl,yag (by omega)]
 ·have h2:b.kind<a.kind:=by omega
  have h3:ltV a b=false:=by
   cases e:ltV a b with
   |false=>rfl
   |true=>have:=zhi e;omega
  rw[h3,zcS h2,yac (by simp),yag rfl,yac (by omega),yag (by omega)]
def zc2 (a b:Val):R 95 [.d a.d,.d b.d] []=some ([.d (.int .i64 (zht a b))],[]):=by
 have ka:=zbw a;have kb:=zbw b
 by_cases hk:a.kind=b.kind
 ·cases a <;> cases b <;> simp[Val.kind]at hk
  ·simp only[Val.d,Val.kind]at ka ⊢
   refine rg b95 rfl ?_;intro T hT;simp -dsimp -implicitDefEqProofs (disch:=omega) [ka]
   simpa -dsimp -implicitDefEqProofs (disch:=omega) [zht,ltV,Val.kind]using hT
  ·rename_i x y
   have e:zht (.whole x) (.whole y)=sgI x y:=by simp[zht,ltV,sgI]
   simp only[Val.d,Val.kind]at ka kb ⊢;rw[e];refine rg b95 rfl ?_;intro T hT;simp -dsimp -implicitDefEqProofs (disch:=omega) [ka,kb,zvE]
   simpa -dsimp -implicitDefEqProofs (disch:=omega) using hT
  ·rename_i x y
   have e:zht (.truth x) (.truth y)=sgI (zoB x) (zoB y):=by cases x <;> cases y <;> rfl
   simp only[Val.d,Val.kind]at ka kb ⊢;rw[e];refine rg b95 rfl ?_;intro T hT;simp -dsimp -implicitDefEqProofs (disch:=omega) [ka,kb,zvD,zqi]
   simpa -dsimp -implicitDefEqProofs (disch:=omega) using hT
  ·rename_i x y
   have e:zht (.text x) (.text y)=sgS x y:=by
    have e1:ltV (.text x) (.text y)=lsS x y:=rfl;have e2:ltV (.text y) (.text x)=lsS y x:=rfl;unfold zht sgS;rw[e1,e2]
    by_cases h1:lsS x y=true
    ·rw[yag h1,yag h1]
    ·rw[yac h1,yac h1]
     by_cases h2:x=y
     ·subst h2
      rw[yac h1,yag rfl]
     ·rw[yac h2,yag (zj9 (by simpa using h1) h2)]
   simp only[Val.d,Val.kind]at ka kb ⊢;rw[e];refine rg b95 rfl ?_;intro T hT;simp -dsimp -implicitDefEqProofs (disch:=omega) [ka,kb,zvF]
   simpa -dsimp -implicitDefEqProofs (disch:=omega) using hT
 ·have hk': ¬ (a.kind:Int)=b.kind:=by omega
  rw[zAF hk];generalize a.d=x at*;generalize b.d=y at*;refine rg b95 rfl ?_;intro T hT;simp -dsimp -implicitDefEqProofs (disch:=omega) [ka,kb,hk,hk',zvC]
  simpa -dsimp -implicitDefEqProofs (disch:=omega) using hT
def zoC {a b:Val}:zht a b=0↔a=b:=by
 unfold zht;constructor
 ·intro h
  split at h
  ·omega
  ·rename_i h1
   split at h
   ·omega
   ·rename_i h2
    exact yco λe=>h2 (zd1 (by simpa using h1) e)
 ·rintro rfl
  rw[zfA,yac (by simp),yac (by simp)]
end Go.Am.Ab
namespace Go.Am.Ab.Str.Vs
open Go.Proofs
abbrev ws (wd:Nat->Val) (l:List Nat):List D:=l.map λn=>(wd n).d
def ws_set {wd:Nat->Val} (l:List Nat) (i:Nat) (v:Nat):(l.map λn=>(wd n).d).set i (wd v).d=(l.set i v).map λn=>(wd n).d:=by rw[yce]
@[simp] def allSize_ws (wd:Nat->Val) (l:List Nat):zam 1 (l.map λn=>(wd n).d)=true:=zaJ l λn=>by cases wd n <;> rfl
@[simp] def zoD: ∀n,zam 1 (List.replicate n D.nilI)=true
 |0=>rfl
 |n+1=>by simp[yaR,zoD n]
def sg (a b:Nat):Int:=if a<b then -1 else if b<a then 1 else 0
end Go.Am.Ab.Str.Vs
namespace Go.Am.Ab
open Go.Proofs
set_option maxHeartbeats 4000000
set_option maxRecDepth 4000
def ltC (a b:Cel):Bool:=if a.kind≠b.kind then decide (a.kind<b.kind) else decide (a.n<b.n) || (decide (a.n=b.n) && lsS a.s b.s)
def zja {k:Nat} {x y:Int} {s t:ByteArray}:ltC ⟨k,x,s⟩ ⟨k,y,t⟩=(decide (x<y) || (decide (x=y) && lsS s t)):=by
 unfold ltC;rw[yac (by simp)]
def zmU (a b:Val):ltC (cellOf a) (cellOf b)=ltV a b:=by
 have e:lsS noS noS=false:=zhT _;cases a with
 |null=>cases b <;> first | rfl | exact zja.trans (by rw[e];rfl)
 |whole x=>
  cases b with
  |whole y=>
   refine zja.trans ?_;rw[e,ycn,ydn];rfl
  |_=>rfl
 |truth x=>
  cases b with
  |truth y=>
   refine zja.trans ?_;rw[e,ycn,ydn];cases x <;> cases y <;> rfl
  |_=>rfl
 |text x=>
  cases b with
  |text y=>
   refine zja.trans ?_;rw[yaO (by omega),yaI rfl,yck,ybK];rfl
  |_=>rfl
def zcl (a b:Cel):R 72 [.d a.d,.d b.d] []=some ([.d (.bool (ltC a b))],[]):=by
 obtain⟨k,n,s⟩:=a;obtain⟨k',n',s'⟩:=b;simp only[Cel.d]
 by_cases hk:k=k'
 ·subst hk
  have e:ltC ⟨k,n,s⟩ ⟨k,n',s'⟩=(decide (n<n') || (decide (n=n') && lsS s s')):=by simp[ltC]
  rw[e];have hl:Op.bytesLess s.toList s'.toList=lsS s s':=rfl
  by_cases h1:n<n'
  ·have h2: ¬ n=n':=by omega
   refine rg b72 rfl ?_;intro T hT;simp -dsimp -implicitDefEqProofs (disch:=omega) [h1,h2]
   simpa -dsimp -implicitDefEqProofs (disch:=omega) [h1]using hT
  ·by_cases h2:n=n'
   ·subst h2
    refine rg b72 rfl ?_;intro T hT;simp -dsimp -implicitDefEqProofs (disch:=omega) [hl]
    simpa -dsimp -implicitDefEqProofs (disch:=omega) using hT
   ·refine rg b72 rfl ?_
    intro T hT;simp -dsimp -implicitDefEqProofs (disch:=omega) [h1,h2]
    simpa -dsimp -implicitDefEqProofs (disch:=omega) [h1,h2]using hT
 ·have hk': ¬ (k:Int)=k':=by omega
  have e:ltC ⟨k,n,s⟩ ⟨k',n',s'⟩=decide (k<k'):=by simp[ltC,hk]
  rw[e]
  by_cases h1:k<k'
  ·have h1':(k:Int)<k':=by omega
   refine rg b72 rfl ?_;intro T hT;simp -dsimp -implicitDefEqProofs (disch:=omega) [hk,hk',h1,h1']
   simpa -dsimp -implicitDefEqProofs (disch:=omega) [h1]using hT
  ·have h1': ¬ (k:Int)<k':=by omega
   refine rg b72 rfl ?_;intro T hT;simp -dsimp -implicitDefEqProofs (disch:=omega) [hk,hk',h1,h1']
   simpa -dsimp -implicitDefEqProofs (disch:=omega) [h1]using hT
def zfB {a b:Val} (h:cellOf a=cellOf b):a=b:=by
 cases a <;> cases b <;> simp[cellOf,Cel.none]at h ⊢
 ·exact h
 ·rename_i x y
  cases x <;> cases y <;> simp at h ⊢
 ·exact h
end Go.Am.Ab
