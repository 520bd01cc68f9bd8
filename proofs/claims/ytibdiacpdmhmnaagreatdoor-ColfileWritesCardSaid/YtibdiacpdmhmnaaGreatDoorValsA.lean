/- Values in their order. -/
import Derived.Test.YtibdiacpdmhmnaaGreatDoorSortA
import Derived.Test.YtibdiacpdmhmnaaGreatDoorCellsA
import Derived.Test.YtibdiacpdmhmnaaGreatDoorTSortB
import Derived.Test.YtibdiacpdmhmnaaGreatDoorRColA
set_option linter.all false
namespace Go.Am.Ab
open Go.Proofs
set_option maxHeartbeats 4000000
def ltV:Val->Val->Bool
 |.whole a,.whole b=>decide (a<b)
 |.truth a,.truth b=> !a && b
 |.text a,.text b=>lsS a b
 |a,b=>decide (a.kind<b.kind)
def zoc (a:Val):ltV a a=false:=by
 cases a with
 |null=>rfl
 |whole n=>simp[ltV]
 |truth b=>cases b <;> rfl
 |text s=>exact zfN s
def zfi {a b:Val} (h:ltV a b=true):a.kind<=b.kind:=by
 cases a <;> cases b <;> simp[ltV,Val.kind]at h ⊢
def zdB {a b:Val} (h:a.kind<b.kind):ltV a b=true:=by
 cases a <;> cases b <;> simp[ltV,Val.kind]at h ⊢
def zpM {a b c:Val} (h:ltV a b=true) (g:ltV b c=true):ltV a c=true:=by
 have h1:=zfi h;have h2:=zfi g
 by_cases e:a.kind<c.kind
 ·exact zdB e
 ·cases a <;> cases b <;> cases c <;> simp[Val.kind]at h1 h2 e
  all_goals simp only[ltV]at h g ⊢
  ·exact h
  ·simp only[decide_eq_true_eq]at h g ⊢;omega
  ·rename_i x y z;cases x <;> cases y <;> cases z <;> simp at h g ⊢
  ·exact zfd h g
structure VMono (wd:Nat->Val):Prop where
 lt: ∀a b,ltV (wd a) (wd b)=decide (a<b)
 inj: ∀a b,wd a=wd b->a=b
def VMono.eq_iff {wd:Nat->Val} (h:VMono wd) {a b:Nat}:wd a=wd b↔a=b:=⟨λe=>h.inj a b e,λe=>by rw[e]⟩
end Go.Am.Ab
namespace Go.Am.Ab
open Go.Proofs
set_option maxHeartbeats 4000000
set_option maxRecDepth 4000
def zhI (a:Int):R 169 [.d (.int .u8 a)] []=some ([.d (.bool false)],[]):=by
 refine rg zBI rfl ?_;intro T hT;simp -dsimp -implicitDefEqProofs (disch:=first|omega|assumption)
 simpa -dsimp -implicitDefEqProofs (disch:=first|omega|assumption) using hT
def zhJ (a:Int):R 171 [.d (.int .u8 a)] []=some ([.d (.bool false)],[]):=by
 refine rg zBJ rfl ?_;intro T hT;simp -dsimp -implicitDefEqProofs (disch:=first|omega|assumption)
 simpa -dsimp -implicitDefEqProofs (disch:=first|omega|assumption) using hT
def zhK (a:Int):R 170 [.d (.int .i64 a)] []=some ([.d (.bool false)],[]):=by
 refine rg zAE rfl ?_;intro T hT;simp -dsimp -implicitDefEqProofs (disch:=first|omega|assumption)
 simpa -dsimp -implicitDefEqProofs (disch:=first|omega|assumption) using hT
def zhL (a:ByteArray):R 172 [.d (.str a)] []=some ([.d (.bool false)],[]):=by
 refine rg zAF rfl ?_;intro T hT;simp -dsimp -implicitDefEqProofs (disch:=first|omega|assumption)
 simpa -dsimp -implicitDefEqProofs (disch:=first|omega|assumption) using hT
def sgI (a b:Int):Int:=if a<b then -1 else if b<a then 1 else 0
def zpN (a b:Int):R 136 [.d (.int .u8 a),.d (.int .u8 b)] []=some ([.d (.int .i64 (sgI a b))],[]):=by
 unfold sgI
 by_cases h1:a<b
 ·rw[if_pos h1]
  refine rg zzR rfl ?_;intro T hT;simp -dsimp -implicitDefEqProofs (disch:=first|omega|assumption) [zhI,h1]
  simpa -dsimp -implicitDefEqProofs (disch:=first|omega|assumption) using hT
 ·rw[if_neg h1]
  by_cases h2:b<a
  ·rw[if_pos h2]
   refine rg zzR rfl ?_;intro T hT;simp -dsimp -implicitDefEqProofs (disch:=first|omega|assumption) [zhI,h1,h2]
   simpa -dsimp -implicitDefEqProofs (disch:=first|omega|assumption) using hT
  ·rw[if_neg h2]
   refine rg zzR rfl ?_;intro T hT;simp -dsimp -implicitDefEqProofs (disch:=first|omega|assumption) [zhI,h1,h2]
   simpa -dsimp -implicitDefEqProofs (disch:=first|omega|assumption) using hT
def zpO (a b:Int):R 138 [.d (.int .u8 a),.d (.int .u8 b)] []=some ([.d (.int .i64 (sgI a b))],[]):=by
 unfold sgI
 by_cases h1:a<b
 ·rw[if_pos h1]
  refine rg zzT rfl ?_;intro T hT;simp -dsimp -implicitDefEqProofs (disch:=first|omega|assumption) [zhJ,h1]
  simpa -dsimp -implicitDefEqProofs (disch:=first|omega|assumption) using hT
 ·rw[if_neg h1]
  by_cases h2:b<a
  ·rw[if_pos h2]
   refine rg zzT rfl ?_;intro T hT;simp -dsimp -implicitDefEqProofs (disch:=first|omega|assumption) [zhJ,h1,h2]
   simpa -dsimp -implicitDefEqProofs (disch:=first|omega|assumption) using hT
  ·rw[if_neg h2]
   refine rg zzT rfl ?_;intro T hT;simp -dsimp -implicitDefEqProofs (disch:=first|omega|assumption) [zhJ,h1,h2]
   simpa -dsimp -implicitDefEqProofs (disch:=first|omega|assumption) using hT
def zpP (a b:Int):R 137 [.d (.int .i64 a),.d (.int .i64 b)] []=some ([.d (.int .i64 (sgI a b))],[]):=by
 unfold sgI
 by_cases h1:a<b
 ·rw[if_pos h1]
  refine rg zzS rfl ?_;intro T hT;simp -dsimp -implicitDefEqProofs (disch:=first|omega|assumption) [zhK,h1]
  simpa -dsimp -implicitDefEqProofs (disch:=first|omega|assumption) using hT
 ·rw[if_neg h1]
  by_cases h2:b<a
  ·rw[if_pos h2]
   refine rg zzS rfl ?_;intro T hT;simp -dsimp -implicitDefEqProofs (disch:=first|omega|assumption) [zhK,h1,h2]
   simpa -dsimp -implicitDefEqProofs (disch:=first|omega|assumption) using hT
  ·rw[if_neg h2]
   refine rg zzS rfl ?_;intro T hT;simp -dsimp -implicitDefEqProofs (disch:=first|omega|assumption) [zhK,h1,h2]
   simpa -dsimp -implicitDefEqProofs (disch:=first|omega|assumption) using hT
def sgS (a b:ByteArray):Int:=if lsS a b=true then -1 else if a=b then 0 else 1
def zpQ (a b:ByteArray):R 140 [.d (.str a),.d (.str b)] []=some ([.d (.int .i64 (sgS a b))],[]):=by
 unfold sgS;cases h1:lsS a b with
 |true=>
  have h1':Op.bytesLess a.toList b.toList=true:=h1;rw[if_pos rfl];refine rg zzU rfl ?_;intro T hT;simp -dsimp -implicitDefEqProofs (disch:=first|omega|assumption) [zhL,h1']
  simpa -dsimp -implicitDefEqProofs (disch:=first|omega|assumption) using hT
 |false=>
  have h1':Op.bytesLess a.toList b.toList=false:=h1;rw[if_neg (by simp)]
  by_cases h2:a=b
  ·rw[if_pos h2]
   subst h2;refine rg zzU rfl ?_;intro T hT;simp -dsimp -implicitDefEqProofs (disch:=first|omega|assumption) [zhL,h1',zdz]
   simpa -dsimp -implicitDefEqProofs (disch:=first|omega|assumption) using hT
  ·rw[if_neg h2]
   refine rg zzU rfl ?_;intro T hT;simp -dsimp -implicitDefEqProofs (disch:=first|omega|assumption) [zhL,h1',zdz,h2]
   simpa -dsimp -implicitDefEqProofs (disch:=first|omega|assumption) using hT
def zm4 (b:Bool):Int:=if b then 2 else 0
def zto (b:Bool):R 139 [.d (.bool b)] []=some ([.d (.int .u8 (zm4 b))],[]):=by
 cases b
 all_goals
  refine rg zBw rfl ?_;intro T hT;simp -dsimp -implicitDefEqProofs (disch:=first|omega|assumption)
  simpa -dsimp -implicitDefEqProofs (disch:=first|omega|assumption) [zm4]using hT
def zlW (a b:Val):Int:=if ltV a b=true then -1 else if ltV b a=true then 1 else 0
def ztp {a b:Val} (h:a.kind≠b.kind):zlW a b=sgI a.kind b.kind:=by
 unfold zlW sgI
 by_cases h1:a.kind<b.kind
 ·rw[zdB h1,if_pos rfl,if_pos (by omega)]
 ·have h2:b.kind<a.kind:=by omega
  have h3:ltV a b=false:=by
   cases e:ltV a b with
   |false=>rfl
   |true=>have:=zfi e;omega
  rw[h3,zdB h2,if_neg (by simp),if_pos rfl,if_neg (by omega),if_pos (by omega)]
def zgk (a b:Val):R 95 [.d a.d,.d b.d] []=some ([.d (.int .i64 (zlW a b))],[]):=by
 have ka:=zbE a;have kb:=zbE b
 by_cases hk:a.kind=b.kind
 ·cases a <;> cases b <;> simp[Val.kind]at hk
  ·simp only[Val.d,Val.kind]at ka ⊢
   refine rg b95 rfl ?_;intro T hT;simp -dsimp -implicitDefEqProofs (disch:=first|omega|assumption) [ka]
   simpa -dsimp -implicitDefEqProofs (disch:=first|omega|assumption) [zlW,ltV,Val.kind]using hT
  ·rename_i x y
   have e:zlW (.whole x) (.whole y)=sgI x y:=by simp[zlW,ltV,sgI]
   simp only[Val.d,Val.kind]at ka kb ⊢;rw[e];refine rg b95 rfl ?_;intro T hT;simp -dsimp -implicitDefEqProofs (disch:=first|omega|assumption) [ka,kb,zpP]
   simpa -dsimp -implicitDefEqProofs (disch:=first|omega|assumption) using hT
  ·rename_i x y
   have e:zlW (.truth x) (.truth y)=sgI (zm4 x) (zm4 y):=by cases x <;> cases y <;> rfl
   simp only[Val.d,Val.kind]at ka kb ⊢;rw[e];refine rg b95 rfl ?_;intro T hT;simp -dsimp -implicitDefEqProofs (disch:=first|omega|assumption) [ka,kb,zpO,zto]
   simpa -dsimp -implicitDefEqProofs (disch:=first|omega|assumption) using hT
  ·rename_i x y
   have e:zlW (.text x) (.text y)=sgS x y:=by
    have e1:ltV (.text x) (.text y)=lsS x y:=rfl;have e2:ltV (.text y) (.text x)=lsS y x:=rfl;unfold zlW sgS;rw[e1,e2]
    by_cases h1:lsS x y=true
    ·rw[if_pos h1,if_pos h1]
    ·rw[if_neg h1,if_neg h1]
     by_cases h2:x=y
     ·subst h2
      rw[if_neg h1,if_pos rfl]
     ·rw[if_neg h2,if_pos (zkA (by simpa using h1) h2)]
   simp only[Val.d,Val.kind]at ka kb ⊢;rw[e];refine rg b95 rfl ?_;intro T hT;simp -dsimp -implicitDefEqProofs (disch:=first|omega|assumption) [ka,kb,zpQ]
   simpa -dsimp -implicitDefEqProofs (disch:=first|omega|assumption) using hT
 ·have hk': ¬ (a.kind:Int)=b.kind:=by omega
  rw[ztp hk];generalize a.d=x at*;generalize b.d=y at*;refine rg b95 rfl ?_;intro T hT;simp -dsimp -implicitDefEqProofs (disch:=first|omega|assumption) [ka,kb,hk,hk',zpN]
  simpa -dsimp -implicitDefEqProofs (disch:=first|omega|assumption) using hT
end Go.Am.Ab
namespace Go.Am.Ab.Str.Vs
open Go.Proofs
abbrev ws (wd:Nat->Val) (l:List Nat):List D:=l.map λn=>(wd n).d
def ws_set {wd:Nat->Val} (l:List Nat) (i:Nat) (v:Nat):(l.map λn=>(wd n).d).set i (wd v).d=(l.set i v).map λn=>(wd n).d:=by rw[List.map_set]
@[simp] def allSize_ws (wd:Nat->Val) (l:List Nat):zap 1 (l.map λn=>(wd n).d)=true:=zaK l λn=>by cases wd n <;> rfl
@[simp] def zkJ: ∀n,zap 1 (List.replicate n D.nilI)=true
 |0=>rfl
 |n+1=>by simp[List.replicate_succ,zkJ n]
end Go.Am.Ab.Str.Vs
namespace Go.Am.Ab
open Go.Proofs
set_option maxHeartbeats 4000000
set_option maxRecDepth 4000
def ltC (a b:Cel):Bool:=if a.kind≠b.kind then decide (a.kind<b.kind) else decide (a.n<b.n) || (decide (a.n=b.n) && lsS a.s b.s)
def zgC {k:Nat} {x y:Int} {s t:ByteArray}:ltC ⟨k,x,s⟩ ⟨k,y,t⟩=(decide (x<y) || (decide (x=y) && lsS s t)):=by
 unfold ltC;rw[if_neg (by simp)]
def zrz (a b:Val):ltC (zag a) (zag b)=ltV a b:=by
 have e:lsS noS noS=false:=zfN _;cases a with
 |null=>cases b <;> first | rfl | exact zgC.trans (by rw[e];rfl)
 |whole x=>
  cases b with
  |whole y=>
   refine zgC.trans ?_;rw[e,Bool.and_false,Bool.or_false];rfl
  |_=>rfl
 |truth x=>
  cases b with
  |truth y=>
   refine zgC.trans ?_;rw[e,Bool.and_false,Bool.or_false];cases x <;> cases y <;> rfl
  |_=>rfl
 |text x=>
  cases b with
  |text y=>
   refine zgC.trans ?_;rw[decide_eq_false (by omega),decide_eq_true rfl,Bool.false_or,Bool.true_and];rfl
  |_=>rfl
def ziP (a b:Cel):R 72 [.d a.d,.d b.d] []=some ([.d (.bool (ltC a b))],[]):=by
 obtain⟨k,n,s⟩:=a;obtain⟨k',n',s'⟩:=b;simp only[Cel.d]
 by_cases hk:k=k'
 ·subst hk
  have e:ltC ⟨k,n,s⟩ ⟨k,n',s'⟩=(decide (n<n') || (decide (n=n') && lsS s s')):=by simp[ltC]
  rw[e];have hl:Op.bytesLess s.toList s'.toList=lsS s s':=rfl
  by_cases h1:n<n'
  ·have h2: ¬ n=n':=by omega
   refine rg b72 rfl ?_;intro T hT;simp -dsimp -implicitDefEqProofs (disch:=first|omega|assumption) [h1,h2]
   simpa -dsimp -implicitDefEqProofs (disch:=first|omega|assumption) [h1]using hT
  ·by_cases h2:n=n'
   ·subst h2
    refine rg b72 rfl ?_;intro T hT;simp -dsimp -implicitDefEqProofs (disch:=first|omega|assumption) [hl]
    simpa -dsimp -implicitDefEqProofs (disch:=first|omega|assumption) using hT
   ·refine rg b72 rfl ?_
    intro T hT;simp -dsimp -implicitDefEqProofs (disch:=first|omega|assumption) [h1,h2]
    simpa -dsimp -implicitDefEqProofs (disch:=first|omega|assumption) [h1,h2]using hT
 ·have hk': ¬ (k:Int)=k':=by omega
  have e:ltC ⟨k,n,s⟩ ⟨k',n',s'⟩=decide (k<k'):=by simp[ltC,hk]
  rw[e]
  by_cases h1:k<k'
  ·have h1':(k:Int)<k':=by omega
   refine rg b72 rfl ?_;intro T hT;simp -dsimp -implicitDefEqProofs (disch:=first|omega|assumption) [hk,hk',h1,h1']
   simpa -dsimp -implicitDefEqProofs (disch:=first|omega|assumption) [h1]using hT
  ·have h1': ¬ (k:Int)<k':=by omega
   refine rg b72 rfl ?_;intro T hT;simp -dsimp -implicitDefEqProofs (disch:=first|omega|assumption) [hk,hk',h1,h1']
   simpa -dsimp -implicitDefEqProofs (disch:=first|omega|assumption) [h1]using hT
end Go.Am.Ab
