/- Values in their order. -/
import Derived.Test.YtlgdomajdebbdaaGreatDoorSortA
import Derived.Test.YtlgdomajdebbdaaGreatDoorCellsA
import Derived.Test.YtlgdomajdebbdaaGreatDoorTSortB
import Derived.Test.YtlgdomajdebbdaaGreatDoorRColA
set_option linter.all false
namespace Go.Am.Ab
open Go.Proofs
set_option maxHeartbeats 4000000
def ltV:Val->Val->Bool
 |.whole a,.whole b=>decide (a<b)
 |.truth a,.truth b=> !a && b
 |.text a,.text b=>lsS a b
 |a,b=>decide (a.kind<b.kind)
def zbf (a:Val):ltV a a=false:=by
 cases a with
 |null=>rfl
 |whole n=>simp[ltV]
 |truth b=>cases b <;> rfl
 |text s=>exact zgV s
def zln {a b:Val} (h:ltV a b=true):a.kind<=b.kind:=by
 cases a <;> cases b <;> simp[ltV,Val.kind]at h ⊢
def zcX {a b:Val} (h:a.kind<b.kind):ltV a b=true:=by
 cases a <;> cases b <;> simp[ltV,Val.kind]at h ⊢
def zdv {a b c:Val} (h:ltV a b=true) (g:ltV b c=true):ltV a c=true:=by
 have h1:=zln h;have h2:=zln g
 by_cases e:a.kind<c.kind
 ·exact zcX e
 ·cases a <;> cases b <;> cases c <;> simp[Val.kind]at h1 h2 e
  all_goals simp only[ltV]at h g ⊢
  ·exact h
  ·simp only[decide_eq_true_eq]at h g ⊢;omega
  ·rename_i x y z;cases x <;> cases y <;> cases z <;> simp at h g ⊢
  ·exact zgj h g
def zmI {a b:Val} (h:ltV a b=false) (g:a≠b):ltV b a=true:=by
 by_cases e:b.kind<a.kind
 ·exact zcX e
 ·by_cases e2:a.kind<b.kind
  ·rw[zcX e2]at h;cases h
  ·cases a <;> cases b <;> simp[Val.kind]at e e2
   all_goals simp only[ltV]at h g ⊢
   ·exact absurd rfl g
   ·simp only[decide_eq_false_iff_not,decide_eq_true_eq,ne_eq,Val.whole.injEq]at h g ⊢;omega
   ·rename_i x y;cases x <;> cases y <;> simp at h g ⊢
   ·exact ziN h (λe=>g (by rw[e]))
def zmJ (x:Val):List Val->List Val
 |[]=>[x]
 |y::r=>if ltV x y=true then x::y::r else if x=y then y::r else y::zmJ x r
def zdB (l:List Val):List Val:=l.foldl (λu x=>zmJ x u) []
def zdc:List Val->Prop
 |[]=>True
 |x::r=>(∀y∈r,ltV x y=true)/\zdc r
def zlo {x y:Val}: ∀ {l:List Val},y∈zmJ x l↔y=x\/y∈l
 |[]=>by simp[zmJ]
 |z::r=>by
  unfold zmJ;split
  ·simp
  ·split
   ·rename_i h;subst h;simp
   ·simp only[List.mem_cons,zlo (l:=r)]
    constructor
    ·rintro (h | h | h)
     ·exact .inr (.inl h)
     ·exact .inl h
     ·exact .inr (.inr h)
    ·rintro (h | h | h)
     ·exact .inr (.inl h)
     ·exact .inl h
     ·exact .inr (.inr h)
def zg5 {x:Val}: ∀ {l:List Val},zdc l->zdc (zmJ x l)
 |[],_=>⟨by simp,trivial⟩
 |z::r,h=>by
  unfold zmJ;split
  ·rename_i hx
   refine⟨λy hy=> ?_,h⟩
   rcases List.mem_cons.1 hy with rfl | hy
   ·exact hx
   ·exact zdv hx (h.1 y hy)
  ·split
   ·exact h
   ·rename_i h1 h2
    refine⟨λy hy=> ?_,zg5 h.2⟩
    rcases zlo.1 hy with rfl | hy
    ·exact zmI (by simpa using h1) h2
    ·exact h.1 y hy
def zkt {l:List Val}: ∀ {u:List Val},zdc u->zdc (l.foldl (λu x=>zmJ x u) u)/\ ∀y,y∈l.foldl (λu x=>zmJ x u) u↔y∈u\/y∈l:=by
 induction l with
 |nil=>intro u h;exact⟨h,by simp⟩
 |cons x r ih=>
  intro u h;obtain⟨h1,h2⟩:=ih (zg5 (x:=x) h);refine⟨h1,λy=> ?_⟩
  rw[List.foldl_cons,h2,zlo,List.mem_cons];constructor
  ·rintro ((h | h) | h)
   ·exact .inr (.inl h)
   ·exact .inl h
   ·exact .inr (.inr h)
  ·rintro (h | h | h)
   ·exact .inl (.inr h)
   ·exact .inl (.inl h)
   ·exact .inr h
def zku (l:List Val):zdc (zdB l):=(zkt (l:=l) (u:=[]) trivial).1
def zlp {l:List Val} {y:Val}:y∈zdB l↔y∈l:=by
 rw[zdB,(zkt (l:=l) (u:=[]) trivial).2];simp
def zfm: ∀ {l:List Val},zdc l-> ∀i j,(hij:i<j)->(h:j<l.length)->ltV (l[i]'(Nat.lt_trans hij h)) l[j]=true
 |[],_,i,j,_,h=>by simp at h
 |x::r,hr,i,j,hij,hj=>by
  obtain⟨j,rfl⟩: ∃k,j=k+1:=⟨j - 1,by omega⟩
  cases i with
  |zero=>exact hr.1 _ (List.getElem_mem _)
  |succ i=>exact zfm hr.2 i j (by omega) (by simpa using hj)
structure VMono (wd:Nat->Val):Prop where
 lt: ∀a b,ltV (wd a) (wd b)=decide (a<b)
 inj: ∀a b,wd a=wd b->a=b
def zzR:Val->ByteArray
 |.text s=>s
 |_=>noS
def zzS (u:List Val) (i:Nat):Val:=if h:i<u.length then u[i] else .text (zeP (zzR (u.getLastD .null)) (i - u.length+1))
def zqA (v:Val) {k:Nat} (h:0<k):ltV v (.text (zeP (zzR v) k))=true:=by
 cases v with
 |text s=>
  have:=zdJ s (i:=0) (j:=k) h;rw[zhs]at this;exact this
 |_=>exact zcX (by simp[Val.kind])
def zsp {u:List Val} (hu:zdc u) {i j:Nat} (h:i<j):ltV (zzS u i) (zzS u j)=true:=by
 unfold zzS
 by_cases hj:j<u.length
 ·rw[dif_pos hj,dif_pos (show i<u.length by omega)]
  exact zfm hu i j h hj
 ·rw[dif_neg hj]
  by_cases hi:i<u.length
  ·rw[dif_pos hi]
   have hlast:u.getLastD .null=u[u.length - 1]'(by omega):=by
    rw[List.getLastD_eq_getLast?,List.getLast?_eq_getElem?,List.getElem?_eq_getElem (by omega)];rfl
   have h2:=zqA (u.getLastD .null) (k:=j - u.length+1) (by omega)
   by_cases e:i=u.length - 1
   ·subst e
    rw[<- hlast];exact h2
   ·refine zdv ?_ h2
    rw[hlast];exact zfm hu i _ (by omega) (by omega)
  ·rw[dif_neg hi]
   exact zdJ _ (by omega)
def zuk {wd:Nat->Val} (h: ∀i j,i<j->ltV (wd i) (wd j)=true):VMono wd:=by
 have lt: ∀a b,ltV (wd a) (wd b)=decide (a<b):=by
  intro a b
  by_cases c:a<b
  ·rw[decide_eq_true c];exact h a b c
  ·rw[decide_eq_false c]
   by_cases e:a=b
   ·subst e;exact zbf _
   ·have g:=h b a (by omega)
    cases k:ltV (wd a) (wd b) with
    |false=>rfl
    |true=>
     have:=zdv g k;rw[zbf]at this;cases this
 refine⟨lt,λa b e=> ?_⟩
 have h1:=lt a b;have h2:=lt b a;rw[e,zbf]at h1;rw[e,zbf]at h2;have:=of_decide_eq_false h1.symm;have:=of_decide_eq_false h2.symm;omega
def VMono.eq_iff {wd:Nat->Val} (h:VMono wd) {a b:Nat}:wd a=wd b↔a=b:=⟨λe=>h.inj a b e,λe=>by rw[e]⟩
def zpi {wd:Nat->Val} (h:VMono wd) (x:Nat): ∀l:List Nat,zmJ (wd x) (l.map wd)=(Str.ins x l).map wd
 |[]=>rfl
 |y::r=>by
  have h1:ltV (wd x) (wd y)=decide (x<y):=h.lt x y;simp only[List.map_cons,zmJ,Str.ins,h1,decide_eq_true_eq,h.eq_iff];split
  ·rfl
  ·split
   ·rfl
   ·rw[List.map_cons,zpi h x r]
def zpj {wd:Nat->Val} (h:VMono wd) (l:List Nat):zdB (l.map wd)=(Str.uniq l).map wd:=by
 have key: ∀ (l u:List Nat),(l.map wd).foldl (λu x=>zmJ x u) (u.map wd)=(l.foldl (λu x=>Str.ins x u) u).map wd:=by
  intro l
  induction l with
  |nil=>intro u;rfl
  |cons x r ih=>
   intro u;rw[List.map_cons,List.foldl_cons,List.foldl_cons,zpi h];exact ih _
 exact key l []
def ixV (u:List Val) (s:Val):Nat:=u.findIdx λt=>decide (t=s)
def zzT {u:List Val} {s:Val} (h:s∈u):ixV u s<u.length:=List.findIdx_lt_length_of_exists ⟨s,h,by simp⟩
def zvM {u:List Val} {s:Val} (h:ixV u s<u.length):u[ixV u s]=s:=by
 have:=List.findIdx_getElem (p:=λt=>decide (t=s)) (xs:=u) (w:=h)
 exact of_decide_eq_true this
def zsq (l:List Val): ∃ (wd:Nat->Val) (r:List Nat),VMono wd/\r.map wd=l:=by
 refine⟨zzS (zdB l),l.map (ixV (zdB l)),zuk λi j h=>zsp (zku l) h, ?_⟩
 rw[List.map_map]
 conv=>rhs;rw[<- List.map_id l]
 apply List.map_congr_left;intro s hs;have hm:=zzT (zlp.2 hs);simp only[Function.comp,zzS,dif_pos hm,id];exact zvM hm
end Go.Am.Ab
namespace Go.Am.Ab
open Go.Proofs
set_option maxHeartbeats 4000000
set_option maxRecDepth 4000
def zi8 (a:Int):R 172 [.d (.int .u8 a)] []=some ([.d (.bool false)],[]):=by
 refine rg zEt rfl ?_;intro T hT;simp -dsimp -implicitDefEqProofs (disch:=first|omega|assumption)
 simpa -dsimp -implicitDefEqProofs (disch:=first|omega|assumption) using hT
def zi9 (a:Int):R 174 [.d (.int .u8 a)] []=some ([.d (.bool false)],[]):=by
 refine rg zEu rfl ?_;intro T hT;simp -dsimp -implicitDefEqProofs (disch:=first|omega|assumption)
 simpa -dsimp -implicitDefEqProofs (disch:=first|omega|assumption) using hT
def zja (a:Int):R 173 [.d (.int .i64 a)] []=some ([.d (.bool false)],[]):=by
 refine rg zDl rfl ?_;intro T hT;simp -dsimp -implicitDefEqProofs (disch:=first|omega|assumption)
 simpa -dsimp -implicitDefEqProofs (disch:=first|omega|assumption) using hT
def zjb (a:ByteArray):R 175 [.d (.str a)] []=some ([.d (.bool false)],[]):=by
 refine rg zDm rfl ?_;intro T hT;simp -dsimp -implicitDefEqProofs (disch:=first|omega|assumption)
 simpa -dsimp -implicitDefEqProofs (disch:=first|omega|assumption) using hT
def sgI (a b:Int):Int:=if a<b then -1 else if b<a then 1 else 0
def zsr (a b:Int):R 116 [.d (.int .u8 a),.d (.int .u8 b)] []=some ([.d (.int .i64 (sgI a b))],[]):=by
 unfold sgI
 by_cases h1:a<b
 ·rw[if_pos h1]
  refine rg zCy rfl ?_;intro T hT;simp -dsimp -implicitDefEqProofs (disch:=first|omega|assumption) [zi8,h1]
  simpa -dsimp -implicitDefEqProofs (disch:=first|omega|assumption) using hT
 ·rw[if_neg h1]
  by_cases h2:b<a
  ·rw[if_pos h2]
   refine rg zCy rfl ?_;intro T hT;simp -dsimp -implicitDefEqProofs (disch:=first|omega|assumption) [zi8,h1,h2]
   simpa -dsimp -implicitDefEqProofs (disch:=first|omega|assumption) using hT
  ·rw[if_neg h2]
   refine rg zCy rfl ?_;intro T hT;simp -dsimp -implicitDefEqProofs (disch:=first|omega|assumption) [zi8,h1,h2]
   simpa -dsimp -implicitDefEqProofs (disch:=first|omega|assumption) using hT
def zss (a b:Int):R 118 [.d (.int .u8 a),.d (.int .u8 b)] []=some ([.d (.int .i64 (sgI a b))],[]):=by
 unfold sgI
 by_cases h1:a<b
 ·rw[if_pos h1]
  refine rg zCA rfl ?_;intro T hT;simp -dsimp -implicitDefEqProofs (disch:=first|omega|assumption) [zi9,h1]
  simpa -dsimp -implicitDefEqProofs (disch:=first|omega|assumption) using hT
 ·rw[if_neg h1]
  by_cases h2:b<a
  ·rw[if_pos h2]
   refine rg zCA rfl ?_;intro T hT;simp -dsimp -implicitDefEqProofs (disch:=first|omega|assumption) [zi9,h1,h2]
   simpa -dsimp -implicitDefEqProofs (disch:=first|omega|assumption) using hT
  ·rw[if_neg h2]
   refine rg zCA rfl ?_;intro T hT;simp -dsimp -implicitDefEqProofs (disch:=first|omega|assumption) [zi9,h1,h2]
   simpa -dsimp -implicitDefEqProofs (disch:=first|omega|assumption) using hT
def zst (a b:Int):R 117 [.d (.int .i64 a),.d (.int .i64 b)] []=some ([.d (.int .i64 (sgI a b))],[]):=by
 unfold sgI
 by_cases h1:a<b
 ·rw[if_pos h1]
  refine rg zCz rfl ?_;intro T hT;simp -dsimp -implicitDefEqProofs (disch:=first|omega|assumption) [zja,h1]
  simpa -dsimp -implicitDefEqProofs (disch:=first|omega|assumption) using hT
 ·rw[if_neg h1]
  by_cases h2:b<a
  ·rw[if_pos h2]
   refine rg zCz rfl ?_;intro T hT;simp -dsimp -implicitDefEqProofs (disch:=first|omega|assumption) [zja,h1,h2]
   simpa -dsimp -implicitDefEqProofs (disch:=first|omega|assumption) using hT
  ·rw[if_neg h2]
   refine rg zCz rfl ?_;intro T hT;simp -dsimp -implicitDefEqProofs (disch:=first|omega|assumption) [zja,h1,h2]
   simpa -dsimp -implicitDefEqProofs (disch:=first|omega|assumption) using hT
def sgS (a b:ByteArray):Int:=if lsS a b=true then -1 else if a=b then 0 else 1
def zsu (a b:ByteArray):R 120 [.d (.str a),.d (.str b)] []=some ([.d (.int .i64 (sgS a b))],[]):=by
 unfold sgS;cases h1:lsS a b with
 |true=>
  have h1':Op.bytesLess a.toList b.toList=true:=h1;rw[if_pos rfl];refine rg zCB rfl ?_;intro T hT;simp -dsimp -implicitDefEqProofs (disch:=first|omega|assumption) [zjb,h1']
  simpa -dsimp -implicitDefEqProofs (disch:=first|omega|assumption) using hT
 |false=>
  have h1':Op.bytesLess a.toList b.toList=false:=h1;rw[if_neg (by simp)]
  by_cases h2:a=b
  ·rw[if_pos h2]
   subst h2;refine rg zCB rfl ?_;intro T hT;simp -dsimp -implicitDefEqProofs (disch:=first|omega|assumption) [zjb,h1',zel]
   simpa -dsimp -implicitDefEqProofs (disch:=first|omega|assumption) using hT
  ·rw[if_neg h2]
   refine rg zCB rfl ?_;intro T hT;simp -dsimp -implicitDefEqProofs (disch:=first|omega|assumption) [zjb,h1',zel,h2]
   simpa -dsimp -implicitDefEqProofs (disch:=first|omega|assumption) using hT
def zpk (b:Bool):Int:=if b then 2 else 0
def zvN (b:Bool):R 119 [.d (.bool b)] []=some ([.d (.int .u8 (zpk b))],[]):=by
 cases b
 all_goals
  refine rg zEc rfl ?_;intro T hT;simp -dsimp -implicitDefEqProofs (disch:=first|omega|assumption)
  simpa -dsimp -implicitDefEqProofs (disch:=first|omega|assumption) [zpk]using hT
def zqB (a b:Val):Int:=if ltV a b=true then -1 else if ltV b a=true then 1 else 0
def zvO {a b:Val} (h:a.kind≠b.kind):zqB a b=sgI a.kind b.kind:=by
 unfold zqB sgI
 by_cases h1:a.kind<b.kind
 ·rw[zcX h1,if_pos rfl,if_pos (by omega)]
 ·have h2:b.kind<a.kind:=by omega
  have h3:ltV a b=false:=by
   cases e:ltV a b with
   |false=>rfl
   |true=>have:=zln e;omega
  rw[h3,zcX h2,if_neg (by simp),if_pos rfl,if_neg (by omega),if_pos (by omega)]
def zhz (a b:Val):R 61 [.d a.d,.d b.d] []=some ([.d (.int .i64 (zqB a b))],[]):=by
 have ka:=zaO a;have kb:=zaO b
 by_cases hk:a.kind=b.kind
 ·cases a <;> cases b <;> simp[Val.kind]at hk
  ·simp only[Val.d,Val.kind]at ka ⊢
   refine rg b61 rfl ?_;intro T hT;simp -dsimp -implicitDefEqProofs (disch:=first|omega|assumption) [ka]
   simpa -dsimp -implicitDefEqProofs (disch:=first|omega|assumption) [zqB,ltV,Val.kind]using hT
  ·rename_i x y
   have e:zqB (.whole x) (.whole y)=sgI x y:=by simp[zqB,ltV,sgI]
   simp only[Val.d,Val.kind]at ka kb ⊢;rw[e];refine rg b61 rfl ?_;intro T hT;simp -dsimp -implicitDefEqProofs (disch:=first|omega|assumption) [ka,kb,zst]
   simpa -dsimp -implicitDefEqProofs (disch:=first|omega|assumption) using hT
  ·rename_i x y
   have e:zqB (.truth x) (.truth y)=sgI (zpk x) (zpk y):=by cases x <;> cases y <;> rfl
   simp only[Val.d,Val.kind]at ka kb ⊢;rw[e];refine rg b61 rfl ?_;intro T hT;simp -dsimp -implicitDefEqProofs (disch:=first|omega|assumption) [ka,kb,zss,zvN]
   simpa -dsimp -implicitDefEqProofs (disch:=first|omega|assumption) using hT
  ·rename_i x y
   have e:zqB (.text x) (.text y)=sgS x y:=by
    have e1:ltV (.text x) (.text y)=lsS x y:=rfl;have e2:ltV (.text y) (.text x)=lsS y x:=rfl;unfold zqB sgS;rw[e1,e2]
    by_cases h1:lsS x y=true
    ·rw[if_pos h1,if_pos h1]
    ·rw[if_neg h1,if_neg h1]
     by_cases h2:x=y
     ·subst h2
      rw[if_neg h1,if_pos rfl]
     ·rw[if_neg h2,if_pos (ziN (by simpa using h1) h2)]
   simp only[Val.d,Val.kind]at ka kb ⊢;rw[e];refine rg b61 rfl ?_;intro T hT;simp -dsimp -implicitDefEqProofs (disch:=first|omega|assumption) [ka,kb,zsu]
   simpa -dsimp -implicitDefEqProofs (disch:=first|omega|assumption) using hT
 ·have hk': ¬ (a.kind:Int)=b.kind:=by omega
  rw[zvO hk];generalize a.d=x at*;generalize b.d=y at*;refine rg b61 rfl ?_;intro T hT;simp -dsimp -implicitDefEqProofs (disch:=first|omega|assumption) [ka,kb,hk,hk',zsr]
  simpa -dsimp -implicitDefEqProofs (disch:=first|omega|assumption) using hT
def zsv {a b:Val}:zqB a b=0↔a=b:=by
 unfold zqB;constructor
 ·intro h
  split at h
  ·omega
  ·rename_i h1
   split at h
   ·omega
   ·rename_i h2
    exact Classical.byContradiction λe=>h2 (zmI (by simpa using h1) e)
 ·rintro rfl
  rw[zbf,if_neg (by simp),if_neg (by simp)]
def zkv (a b:Val):R 63 [.d a.d,.d b.d] []=some ([.d (.bool (decide (a=b)))],[]):=by
 have h:=zhz a b;have e:decide (a=b)=decide (zqB a b=0):=decide_eq_decide.2 zsv.symm;rw[e];generalize a.d=x at*;generalize b.d=y at*;refine rg b63 rfl ?_;intro T hT;simp -dsimp -implicitDefEqProofs (disch:=first|omega|assumption) [h]
 simpa -dsimp -implicitDefEqProofs (disch:=first|omega|assumption) using hT
def zqC (n:Nat) (hn:n<=1024):R 210 [.d (.int .i64 n)] []=some ([.d (.int .u64 ((2 ^ za9 n:Nat):Int))],[]):=by
 have h:=zgi n (by omega)
 have hb:za9 n<=11:=(zaT (by omega)).2 (by omega)
 have hw:IntKind.u64.wrap (n:Int)=n:=zae (by omega) (by omega)
 obtain⟨k,hk⟩: ∃k,k=za9 n:=⟨_,rfl⟩;rw[<- hk]at h hb ⊢;have hm:min k 64=k:=by omega
 obtain⟨p,hp⟩: ∃p,p=2 ^ k:=⟨_,rfl⟩;have hp2:p<=2048:=by rw[hp];exact (Nat.pow_le_pow_right (by decide) hb:2 ^ k<=2 ^ 11)
 have hpi:(2:Int) ^ k=p:=by rw[hp,Int.natCast_pow];rfl
 have hpw:IntKind.u64.wrap (p:Int)=p:=zae (by omega) (by omega)
 rw[<- hp];refine rg zDs rfl ?_;intro T hT;simp -dsimp -implicitDefEqProofs (disch:=first|omega|assumption) [h,hw,hm,hpi,hpw]
 simpa -dsimp -implicitDefEqProofs (disch:=first|omega|assumption) using hT
end Go.Am.Ab
namespace Go.Am.Ab.Str.Vs
open Go.Proofs
abbrev ws (wd:Nat->Val) (l:List Nat):List D:=l.map λn=>(wd n).d
def ws_set {wd:Nat->Val} (l:List Nat) (i:Nat) (v:Nat):(l.map λn=>(wd n).d).set i (wd v).d=(l.set i v).map λn=>(wd n).d:=by rw[List.map_set]
@[simp] def allSize_ws (wd:Nat->Val) (l:List Nat):zaw 1 (l.map λn=>(wd n).d)=true:=zaN l λn=>by cases wd n <;> rfl
@[simp] def zmK: ∀n,zaw 1 (List.replicate n D.nilI)=true
 |0=>rfl
 |n+1=>by simp[List.replicate_succ,zmK n]
def sg (a b:Nat):Int:=if a<b then -1 else if b<a then 1 else 0
def zbM (a b:Nat):(sg a b<0)=(a<b):=by
 unfold sg
 by_cases h:a<b
 ·simp[h]
 ·by_cases h2:b<a <;> simp[h,h2]
def zap {wd:Nat->Val} (hwd:VMono wd) (a b:Nat):R 61 [.d (wd a).d,.d (wd b).d] []=some ([.d (.int .i64 (sg a b))],[]):=by
 rw[zhz];unfold zqB sg;rw[hwd.lt,hwd.lt];simp
def zd4 {wd:Nat->Val} (hwd:VMono wd) (a b:Nat):R 63 [.d (wd a).d,.d (wd b).d] []=some ([.d (.bool (decide (a=b)))],[]):=by
 rw[zkv,decide_eq_decide.2 hwd.eq_iff]
end Go.Am.Ab.Str.Vs
namespace Go.Am.Ab
open Go.Proofs
set_option maxHeartbeats 4000000
set_option maxRecDepth 4000
def ltC (a b:Cel):Bool:=if a.kind≠b.kind then decide (a.kind<b.kind) else decide (a.n<b.n) || (decide (a.n=b.n) && lsS a.s b.s)
def zh0 {k:Nat} {x y:Int} {s t:ByteArray}:ltC ⟨k,x,s⟩ ⟨k,y,t⟩=(decide (x<y) || (decide (x=y) && lsS s t)):=by
 unfold ltC;rw[if_neg (by simp)]
def zul (a b:Val):ltC (zar a) (zar b)=ltV a b:=by
 have e:lsS noS noS=false:=zgV _;cases a with
 |null=>cases b <;> first | rfl | exact zh0.trans (by rw[e];rfl)
 |whole x=>
  cases b with
  |whole y=>
   refine zh0.trans ?_;rw[e,Bool.and_false,Bool.or_false];rfl
  |_=>rfl
 |truth x=>
  cases b with
  |truth y=>
   refine zh0.trans ?_;rw[e,Bool.and_false,Bool.or_false];cases x <;> cases y <;> rfl
  |_=>rfl
 |text x=>
  cases b with
  |text y=>
   refine zh0.trans ?_;rw[decide_eq_false (by omega),decide_eq_true rfl,Bool.false_or,Bool.true_and];rfl
  |_=>rfl
def zkw (a b:Cel):R 106 [.d a.d,.d b.d] []=some ([.d (.bool (ltC a b))],[]):=by
 obtain⟨k,n,s⟩:=a;obtain⟨k',n',s'⟩:=b;simp only[Cel.d]
 by_cases hk:k=k'
 ·subst hk
  have e:ltC ⟨k,n,s⟩ ⟨k,n',s'⟩=(decide (n<n') || (decide (n=n') && lsS s s')):=by simp[ltC]
  rw[e];have hl:Op.bytesLess s.toList s'.toList=lsS s s':=rfl
  by_cases h1:n<n'
  ·have h2: ¬ n=n':=by omega
   refine rg zzG rfl ?_;intro T hT;simp -dsimp -implicitDefEqProofs (disch:=first|omega|assumption) [h1,h2]
   simpa -dsimp -implicitDefEqProofs (disch:=first|omega|assumption) [h1]using hT
  ·by_cases h2:n=n'
   ·subst h2
    refine rg zzG rfl ?_;intro T hT;simp -dsimp -implicitDefEqProofs (disch:=first|omega|assumption) [hl]
    simpa -dsimp -implicitDefEqProofs (disch:=first|omega|assumption) using hT
   ·refine rg zzG rfl ?_
    intro T hT;simp -dsimp -implicitDefEqProofs (disch:=first|omega|assumption) [h1,h2]
    simpa -dsimp -implicitDefEqProofs (disch:=first|omega|assumption) [h1,h2]using hT
 ·have hk': ¬ (k:Int)=k':=by omega
  have e:ltC ⟨k,n,s⟩ ⟨k',n',s'⟩=decide (k<k'):=by simp[ltC,hk]
  rw[e]
  by_cases h1:k<k'
  ·have h1':(k:Int)<k':=by omega
   refine rg zzG rfl ?_;intro T hT;simp -dsimp -implicitDefEqProofs (disch:=first|omega|assumption) [hk,hk',h1,h1']
   simpa -dsimp -implicitDefEqProofs (disch:=first|omega|assumption) [h1]using hT
  ·have h1': ¬ (k:Int)<k':=by omega
   refine rg zzG rfl ?_;intro T hT;simp -dsimp -implicitDefEqProofs (disch:=first|omega|assumption) [hk,hk',h1,h1']
   simpa -dsimp -implicitDefEqProofs (disch:=first|omega|assumption) [h1]using hT
def zvP (a b:Cel):Int:=if ltC a b=true then -1 else if ltC b a=true then 1 else 0
def zlq (a b:Cel):R 74 [.d a.d,.d b.d] []=some ([.d (.int .i64 (zvP a b))],[]):=by
 have h1:=zkw a b;have h2:=zkw b a;unfold zvP;generalize ltC a b=x at*;generalize ltC b a=y at*;simp only[Cel.d]at h1 h2 ⊢;cases x <;> cases y
 all_goals
  refine rg b74 rfl ?_;intro T hT;simp -dsimp -implicitDefEqProofs (disch:=first|omega|assumption) [h1,h2]
  simpa -dsimp -implicitDefEqProofs (disch:=first|omega|assumption) using hT
def zsw (l:List Cel) (c:Cel) (hn:l.length<=1000000):R 30 [.d (.list (ce l)),.d c.d] []=some ([.d (.bool (decide (c∈l)))],[]):=by
 obtain⟨k,n,s⟩:=c;have hd:(⟨k,n,s⟩:Cel).d= .agg [.int .u8 k,.int .i64 n,.str s]:=rfl;rw[hd];refine rg b30 rfl ?_;intro T hT;simp -dsimp -implicitDefEqProofs (disch:=first|omega|assumption)
 generalize hz:zac _ _ _ _ _ _=z;revert z;refine zaa (σ:=Nat) (λi=>[(0,.d (.list (ce l))),(3,.ptr 0 0),(5,.d (.int .i64 i))]) (λi=>[.box [.d (.int .u8 k),.d (.int .i64 n),.d (.str s)]]) (λi=>i<=l.length/\(⟨k,n,s⟩:Cel)∉l.take i) (λi=>l.length - i) 0 ?_ ?_ ?_
 ·exact⟨Nat.zero_le _,by simp⟩
 ·simp -dsimp -implicitDefEqProofs (disch:=first|omega|assumption)
 intro T' f hT' i ⟨hi,hno⟩ ih
 by_cases h1:i<l.length
 ·obtain⟨⟨k',n',s'⟩,hx⟩: ∃x,x=l[i]:=⟨_,rfl⟩
  have gx:=hx.symm
  by_cases he:(⟨k',n',s'⟩:Cel)=⟨k,n,s⟩
  ·have hm:(⟨k,n,s⟩:Cel)∈l:=by rw[<- he,hx];exact List.getElem_mem _
   rw[decide_eq_true hm]at hT;simp only[Cel.mk.injEq]at he;obtain⟨rfl,rfl,rfl⟩:=he;subst hT';simp -dsimp -implicitDefEqProofs (disch:=first|omega|assumption) [h1,gx,Cel.d,zel]
   simpa -dsimp -implicitDefEqProofs (disch:=first|omega|assumption) using hT
  ·have h4:(decide (k'=k) && (decide (n'=n) && decide (s'=s)))=false:=by
    by_cases c1:k'=k <;> by_cases c2:n'=n <;> by_cases c3:s'=s <;> simp[c1,c2,c3]
    exact he (by rw[c1,c2,c3])
   simp -dsimp -implicitDefEqProofs (disch:=first|omega|assumption) [h1,gx,Cel.d,zel,h4]
   refine ih (i+1) _ _ ⟨h1, ?_⟩ (by omega) (by simp -dsimp -implicitDefEqProofs (disch:=first|omega|assumption))
   rw[zam h1,gx];simp only[List.mem_append,List.mem_singleton,not_or];exact⟨hno,λe=>he e.symm⟩
 ·obtain rfl:i=l.length:=by omega
  rw[List.take_length]at hno;rw[decide_eq_false hno]at hT;subst hT';simp -dsimp -implicitDefEqProofs (disch:=first|omega|assumption) [h1]
  simpa -dsimp -implicitDefEqProofs (disch:=first|omega|assumption) using hT
def zsx (x:Cel):List Cel->List Cel
 |[]=>[x]
 |y::r=>if ltC x y=true then x::y::r else y::zsx x r
def zrc (u:List Cel) (x:Cel):List Cel:=if x∈u then u else zsx x u
def znj (l:List Cel):List Cel:=l.foldl zrc []
def zsy {v:Val}: ∀ {u:List Val},zdc u->v∈u->zmJ v u=u
 |[],_,h=>by cases h
 |y::r,hr,h=>by
  unfold zmJ;rcases List.mem_cons.1 h with rfl | h
  ·rw[zbf,if_neg (by simp),if_pos rfl]
  ·have h1:=hr.1 v h
   have h2:ltV v y=false:=by
    cases e:ltV v y with
    |false=>rfl
    |true=>
     have:=zdv h1 e;rw[zbf]at this;cases this
   have h3: ¬ v=y:=by
    rintro rfl
    rw[zbf]at h1;cases h1
   rw[h2,if_neg (by simp),if_neg h3,zsy hr.2 h]
def zqD {a b:Val} (h:zar a=zar b):a=b:=by
 cases a <;> cases b <;> simp[zar,Cel.none]at h ⊢
 ·exact h
 ·rename_i x y
  cases x <;> cases y <;> simp at h ⊢
 ·exact h
def zpl (v:Val): ∀ {u:List Val},v∉u->zsx (zar v) (u.map zar)=(zmJ v u).map zar
 |[],_=>rfl
 |y::r,h=>by
  simp only[List.mem_cons,not_or]at h;simp only[List.map_cons,zsx,zmJ,zul]
  by_cases h1:ltV v y=true
  ·rw[if_pos h1,if_pos h1];rfl
  ·rw[if_neg h1,if_neg h1,if_neg h.1,List.map_cons,zpl v h.2]
def zlr (l:List Val):znj (l.map zar)=(zdB l).map zar:=by
 have key: ∀ (l u:List Val),zdc u->(l.map zar).foldl zrc (u.map zar)=(l.foldl (λu x=>zmJ x u) u).map zar:=by
  intro l
  induction l with
  |nil=>intro u _;rfl
  |cons x r ih=>
   intro u hu;rw[List.map_cons,List.foldl_cons,List.foldl_cons,<- ih _ (zg5 hu)];congr 1;unfold zrc
   by_cases h:x∈u
   ·rw[if_pos (List.mem_map.2 ⟨x,h,rfl⟩),zsy hu h]
   ·rw[if_neg,zpl x h]
    intro g;obtain⟨y,hy,e⟩:=List.mem_map.1 g;rw[zqD e]at hy;exact h hy
 exact key l [] trivial
def zeq (x:Cel): ∀u:List Cel,(zsx x u).length=u.length+1
 |[]=>rfl
 |y::r=>by
  unfold zsx;split
  ·simp
  ·simp[zeq x r]
def zn2 (u:List Cel) (x:Cel):(zrc u x).length<=u.length+1:=by
 unfold zrc;split
 ·omega
 ·rw[zeq];omega
def zhA: ∀ (l u:List Cel),(l.foldl zrc u).length<=u.length+l.length
 |[],u=>by simp
 |x::r,u=>by
  have:=zhA r (zrc u x);have:=zn2 u x;rw[List.foldl_cons,List.length_cons];omega
def zfT (l:List Cel):(znj l).length<=l.length:=by
 have:=zhA l [];simpa[znj]using this
def zvQ (u:List Cel) (r:Option (List V × List Obj)):Prop:= ∃w,r=some ([.arr 0 u.length],[.arr 3 (ce u) w])
def zsz {u:List Cel}: ¬ zvQ u none:=λ⟨_,h⟩=>by cases h
def zmL (l:List Cel) (hn:l.length<=1000000):zvQ (znj l) (R 24 [.d (.list (ce l))] []):=by
 refine ra b24 rfl zsz ?_;simp -dsimp -implicitDefEqProofs (disch:=first|omega|assumption)
 generalize hT0:zvQ (znj l)=T0;generalize hz:zac _ _ _ _ _ _=z;revert z;refine zaa (σ:=Nat × List Cel × Nat) (λx=>[(0,.d (.list (ce l))),(3,.arr 0 x.2.1.length),(4,.d (.int .i64 x.1))]) (λx=>[.arr 3 (ce x.2.1) x.2.2]) (λx=>x.1<=l.length/\x.2.1.length<=x.1/\x.2.1=(l.take x.1).foldl zrc []) (λx=>l.length - x.1) (0,[],0) ?_ ?_ ?_
 ·exact⟨Nat.zero_le _,Nat.zero_le _,rfl⟩
 ·simp -dsimp -implicitDefEqProofs (disch:=first|omega|assumption)
 intro T' f hT' ⟨i,u,w⟩ ⟨hi,hul,hu⟩ ih;simp only at hi hul hu ih
 by_cases h1:i<l.length
 ·have hstep:(l.take (i+1)).foldl zrc []=zrc u l[i]:=by rw[zam h1,List.foldl_append,<- hu];rfl
  obtain⟨c,hc⟩: ∃c,c=l[i]:=⟨_,rfl⟩;have gx:=hc.symm;rw[<- hc]at hstep;have hh:=zsw u c (by omega)
  have hcmp:=λb=>zlq c b
  obtain⟨k,n,s⟩:=c
  by_cases hm:(⟨k,n,s⟩:Cel)∈u
  ·rw[decide_eq_true hm]at hh
   rw[show zrc u ⟨k,n,s⟩=u from if_pos hm]at hstep
   simp only[Cel.d]at hh;simp -dsimp -implicitDefEqProofs (disch:=first|omega|assumption) [h1,gx,Cel.d,hh]
   refine ih (i+1,u,u.length) _ _ ⟨h1,by simp only;omega,hstep.symm⟩ (by simp only;omega) (by simp -dsimp -implicitDefEqProofs (disch:=first|omega|assumption))
  ·rw[decide_eq_false hm]at hh
   rw[show zrc u ⟨k,n,s⟩=zsx ⟨k,n,s⟩ u from if_neg hm]at hstep
   simp only[Cel.d]at hh hcmp;simp -dsimp -implicitDefEqProofs (disch:=first|omega|assumption) [h1,gx,Cel.d,hh]
   generalize hz:zac _ _ _ _ _ _=z;revert z;refine zaa (σ:=Nat × List Cel × Bool) (λx=>[(0,.d (.list (ce l))),(3,.arr 0 u.length),(4,.d (.int .i64 i)),(5,.arr 1 x.2.1.length),(6,.d (.bool x.2.2)),(7,.d (.int .i64 x.1))]) (λx=>[.arr 3 (ce u) u.length,.arr 3 (ce x.2.1) 0]) (λx=>x.1<=u.length/\x.2.1.length<=x.1+x.2.2.toNat/\zsx ⟨k,n,s⟩ u=x.2.1++(if x.2.2=true then u.drop x.1 else zsx ⟨k,n,s⟩ (u.drop x.1))) (λx=>u.length - x.1) (0,[],false) ?_ ?_ ?_
   ·exact⟨Nat.zero_le _,by simp,by simp⟩
   ·simp -dsimp -implicitDefEqProofs (disch:=first|omega|assumption)
   intro T2 f2 hT2 ⟨j,nx,dn⟩ ⟨hj,hnl,hin⟩ ih2;simp only at hj hnl hin ih2
   by_cases h2:j<u.length
   ·have hdr:u.drop j=u[j]::u.drop (j+1):=List.drop_eq_getElem_cons h2
    obtain⟨d,hd⟩: ∃d,d=u[j]:=⟨_,rfl⟩;have gd:=hd.symm;rw[<- hd]at hdr;have hcd:=hcmp d;obtain⟨k',n',s'⟩:=d;simp only[Cel.d]at hcd;cases dn with
    |true=>
     simp only[Bool.toNat_true]at hnl;rw[if_pos rfl,hdr]at hin;simp -dsimp -implicitDefEqProofs (disch:=first|omega|assumption) [h1,h2,gx,gd,Cel.d]
     refine ih2 (j+1,nx++[⟨k',n',s'⟩],true) _ _ ⟨h2,by simp only[List.length_append,List.length_cons,List.length_nil,Bool.toNat_true,Bool.toNat_false];omega,by rw[hin];simp⟩ (by simp only;omega) (by simp -dsimp -implicitDefEqProofs (disch:=first|omega|assumption) [Cel.d])
    |false=>
     simp only[Bool.toNat_false]at hnl;rw[if_neg (by simp),hdr,zsx]at hin
     by_cases hlt:ltC ⟨k,n,s⟩ ⟨k',n',s'⟩=true
     ·rw[if_pos hlt]at hin
      have e:zvP ⟨k,n,s⟩ ⟨k',n',s'⟩= -1:=by unfold zvP;rw[if_pos hlt]
      rw[e]at hcd;simp -dsimp -implicitDefEqProofs (disch:=first|omega|assumption) [h1,h2,gx,gd,Cel.d,hcd]
      refine ih2 (j+1,nx++[⟨k,n,s⟩,⟨k',n',s'⟩],true) _ _ ⟨h2,by simp only[List.length_append,List.length_cons,List.length_nil,Bool.toNat_true,Bool.toNat_false];omega,by rw[hin];simp⟩ (by simp only;omega) (by simp -dsimp -implicitDefEqProofs (disch:=first|omega|assumption) [Cel.d])
     ·rw[if_neg hlt]at hin
      have e: ¬ zvP ⟨k,n,s⟩ ⟨k',n',s'⟩<0:=by unfold zvP;rw[if_neg hlt];split <;> omega
      obtain⟨z,hz⟩: ∃z,z=zvP ⟨k,n,s⟩ ⟨k',n',s'⟩:=⟨_,rfl⟩;rw[<- hz]at hcd e;simp -dsimp -implicitDefEqProofs (disch:=first|omega|assumption) [h1,h2,gx,gd,Cel.d,hcd,e]
      refine ih2 (j+1,nx++[⟨k',n',s'⟩],false) _ _ ⟨h2,by simp only[List.length_append,List.length_cons,List.length_nil,Bool.toNat_true,Bool.toNat_false];omega,by rw[hin];simp⟩ (by simp only;omega) (by simp -dsimp -implicitDefEqProofs (disch:=first|omega|assumption) [Cel.d])
   ·obtain rfl:j=u.length:=by omega
    rw[List.drop_length]at hin;subst hT2;cases dn with
    |true=>
     rw[if_pos rfl,List.append_nil]at hin;simp -dsimp -implicitDefEqProofs (disch:=first|omega|assumption)
     refine ih (i+1,nx,0) _ _ ⟨h1, ?_,by simp only;rw[hstep,hin]⟩ (by simp only;omega) (by simp -dsimp -implicitDefEqProofs (disch:=first|omega|assumption))
     have:=zeq ⟨k,n,s⟩ u;rw[hin]at this;simp only;omega
    |false=>
     simp only[Bool.toNat_false]at hnl;rw[if_neg (by simp),zsx]at hin
     simp -dsimp -implicitDefEqProofs (disch:=first|omega|assumption) [h1,gx,Cel.d]
     refine ih (i+1,nx++[⟨k,n,s⟩],0) _ _ ⟨h1, ?_,by simp only;rw[hstep,hin]⟩ (by simp only;omega) ?_
     ·have:=zeq ⟨k,n,s⟩ u
      rw[hin]at this;simp only;omega
     ·simp -dsimp -implicitDefEqProofs (disch:=first|omega|assumption) [Cel.d]
 ·obtain rfl:i=l.length:=by omega
  rw[List.take_length]at hu;subst hT';simp -dsimp -implicitDefEqProofs (disch:=first|omega|assumption)
  rw[<- hT0];exact⟨w,by rw[<- show u=znj l from hu]⟩
end Go.Am.Ab
