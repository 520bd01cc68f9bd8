/- Files of keys of the document. -/
import Derived.Test.YtlgdomajdebbdaaGreatDoorKeyA
import Derived.Test.YtlgdomajdebbdaaGreatDoorRColE
import Derived.Test.YtlgdomajdebbdaaGreatDoorWLaw1
set_option linter.all false
namespace Go.Am.Ab
open Go.Proofs
set_option maxHeartbeats 8000000
set_option maxRecDepth 4000
def zsW {k:Nat} (hk:1<=k/\k<=3) {X:List Val} (g:zfs k X):(∀c∈X.map zar,chk c=0)/\(∀c∈X.map zar,zah c.n)/\(X.map zar).map zaq=X:=by
 have key: ∀v∈X,chk (zar v)=0/\zah (zar v).n:=by
  intro v hv;rcases g v hv with rfl | ⟨h1,h2,h3⟩
  ·exact⟨rfl,by unfold zah;decide⟩
  ·cases v with
   |null=>exact⟨rfl,by unfold zah;decide⟩
   |whole n=>
    refine⟨?_,h2 n rfl⟩;unfold chk zar;rw[if_neg (by simp),if_neg (by simp),if_neg (by simp[ByteArray.size])]
   |truth b=>cases b <;> exact⟨by decide,by unfold zah;decide⟩
   |text s=>
    have hs:=h3 s rfl;refine⟨?_,by show zah 0;unfold zah;omega⟩
    unfold chk zar;rw[if_neg (by simp),if_neg (by simp),if_neg (by simp only;omega)]
 refine⟨λc hc=> ?_,λc hc=> ?_, ?_⟩
 ·obtain⟨v,hv,rfl⟩:=List.mem_map.1 hc
  exact (key v hv).1
 ·obtain⟨v,hv,rfl⟩:=List.mem_map.1 hc
  exact (key v hv).2
 ·rw[List.map_map]
  conv=>rhs;rw[<- List.map_id X]
  apply List.map_congr_left;intro v hv;exact (zlC (g v hv)).1
def zjA (v:Val):(zar v).kind=v.kind:=by cases v <;> rfl
def zne (k:Nat) (hk:k<256) (h1: ¬ k=1) (h3: ¬ k=3) (l:List Cel):R 17 [.d (.int .i64 k),.d (.list (ce l))] []=zdA 10:=by
 have h1': ¬ (k:Int)=1:=by omega
 have h3': ¬ (k:Int)=3:=by omega
 unfold zdA;refine rg b17 rfl ?_;intro T hT;simp -dsimp -implicitDefEqProofs (disch:=first|omega|assumption) [h1,h1',h3,h3']
 simpa -dsimp -implicitDefEqProofs (disch:=first|omega|assumption) [E]using hT
def zox (k:Nat) (h13:k=1\/k=3) (l:List Cel) (hl: ∀c∈l,c.kind<256) (hn:l.length<=1000000) (ho: ∃c∈l,c.kind≠k):R 17 [.d (.int .i64 k),.d (.list (ce l))] []=zdA 10:=by
 unfold zdA;obtain⟨kb,hkb⟩: ∃z:Int,z=k:=⟨_,rfl⟩;rw[<- hkb];have hc1:(if kb=1 then false else decide (¬ kb=3))=false:=by rcases h13 with e | e <;> simp[hkb,e]
 have main: ∀k1:Bool,decide (kb=1)=k1->R 17 [.d (.int .i64 kb),.d (.list (ce l))] []=some ([.arr 0 0,E 10],[.arr 1 [] 0]):=by
  intro k1 hk1;cases k1
  all_goals
   simp only[decide_eq_true_eq,decide_eq_false_iff_not]at hk1;have hk3:kb=1\/kb=3:=by omega
  ·have hk3':kb=3:=by omega
   subst hk3';refine rg b17 rfl ?_;intro T hT;simp -dsimp -implicitDefEqProofs (disch:=first|omega|assumption)
   generalize hz:zac _ _ _ _ _ _=z;revert z;refine zaa (σ:=Nat) (λi=>[(0,.d (.int .i64 3)),(1,.d (.list (ce l))),(6,.d (.int .i64 i))]) (λi=>[]) (λi=>i<=l.length/\ ∀j,(hj:j<i)->(hl:j<l.length)->l[j].kind=k) (λi=>l.length - i) 0 ?_ ?_ ?_
   ·exact⟨Nat.zero_le _,λj hj=>by omega⟩
   ·simp -dsimp -implicitDefEqProofs (disch:=first|omega|assumption)
   intro T' f hT' i ⟨hi,hok⟩ ih
   by_cases h1:i<l.length
   ·have hc:=hl l[i] (List.getElem_mem _)
    by_cases hv:l[i].kind=k
    ·have hx0:=hv
     obtain⟨⟨ck,n,s⟩,hx⟩: ∃x,x=l[i]:=⟨_,rfl⟩;have gx:=hx.symm;rw[<- hx]at hc hx0;simp only at hc hx0;have hw:IntKind.i64.wrap (ck:Int)=3:=by rw[wI (by omega) (by omega)];omega
     simp -dsimp -implicitDefEqProofs (disch:=first|omega|assumption) [h1,gx,Cel.d,hw]
     refine ih (i+1) _ _ ⟨h1,λj hj hl2=> ?_⟩ (by omega) (by simp -dsimp -implicitDefEqProofs (disch:=first|omega|assumption))
     by_cases c:j=i
     ·subst c;exact hv
     ·exact hok j (by omega) hl2
    ·have hx0:=hv
     obtain⟨⟨ck,n,s⟩,hx⟩: ∃x,x=l[i]:=⟨_,rfl⟩;have gx:=hx.symm;rw[<- hx]at hc hx0;simp only at hc hx0;have hw:IntKind.i64.wrap (ck:Int)=ck:=wI (by omega) (by omega)
     have hne: ¬ (ck:Int)=3:=by omega
     have hne': ¬ ck=3:=by omega
     subst hT';simp -dsimp -implicitDefEqProofs (disch:=first|omega|assumption) [h1,gx,Cel.d,hw,hne,hne']
     simpa -dsimp -implicitDefEqProofs (disch:=first|omega|assumption) [E]using hT
   ·exfalso
    obtain⟨v,hv,hne⟩:=ho;obtain⟨j,hj,rfl⟩:=List.mem_iff_getElem.1 hv;exact hne (hok j (by omega) hj)
  ·subst hk1
   refine rg b17 rfl ?_;intro T hT;simp -dsimp -implicitDefEqProofs (disch:=first|omega|assumption)
   generalize hz:zac _ _ _ _ _ _=z;revert z;refine zaa (σ:=Nat) (λi=>[(0,.d (.int .i64 1)),(1,.d (.list (ce l))),(6,.d (.int .i64 i))]) (λi=>[]) (λi=>i<=l.length/\ ∀j,(hj:j<i)->(hl:j<l.length)->l[j].kind=k) (λi=>l.length - i) 0 ?_ ?_ ?_
   ·exact⟨Nat.zero_le _,λj hj=>by omega⟩
   ·simp -dsimp -implicitDefEqProofs (disch:=first|omega|assumption)
   intro T' f hT' i ⟨hi,hok⟩ ih
   by_cases h1:i<l.length
   ·have hc:=hl l[i] (List.getElem_mem _)
    by_cases hv:l[i].kind=k
    ·have hx0:=hv
     obtain⟨⟨ck,n,s⟩,hx⟩: ∃x,x=l[i]:=⟨_,rfl⟩;have gx:=hx.symm;rw[<- hx]at hc hx0;simp only at hc hx0;have hw:IntKind.i64.wrap (ck:Int)=1:=by rw[wI (by omega) (by omega)];omega
     simp -dsimp -implicitDefEqProofs (disch:=first|omega|assumption) [h1,gx,Cel.d,hw]
     refine ih (i+1) _ _ ⟨h1,λj hj hl2=> ?_⟩ (by omega) (by simp -dsimp -implicitDefEqProofs (disch:=first|omega|assumption))
     by_cases c:j=i
     ·subst c;exact hv
     ·exact hok j (by omega) hl2
    ·have hx0:=hv
     obtain⟨⟨ck,n,s⟩,hx⟩: ∃x,x=l[i]:=⟨_,rfl⟩;have gx:=hx.symm;rw[<- hx]at hc hx0;simp only at hc hx0;have hw:IntKind.i64.wrap (ck:Int)=ck:=wI (by omega) (by omega)
     have hne: ¬ (ck:Int)=1:=by omega
     have hne': ¬ ck=1:=by omega
     subst hT';simp -dsimp -implicitDefEqProofs (disch:=first|omega|assumption) [h1,gx,Cel.d,hw,hne,hne']
     simpa -dsimp -implicitDefEqProofs (disch:=first|omega|assumption) [E]using hT
   ·exfalso
    obtain⟨v,hv,hne⟩:=ho;obtain⟨j,hj,rfl⟩:=List.mem_iff_getElem.1 hv;exact hne (hok j (by omega) hj)
 exact main _ rfl
end Go.Am.Ab
namespace Go.Am.Ab
open Go.Proofs
set_option maxHeartbeats 8000000
set_option maxRecDepth 4000
def zlD (l:List Cel) (hn:l.length<=1024) (hX: ∀c∈l,c.kind=1) (c:List UInt8) (e:Nat) (hc:c.length<=1000000)
 (hw:R 67 [.d (.int .i64 1),.d (.list (ce (znj l)))] []=some ([.arr 0 c.length,E e],[.arr 1 (bytes c) 0])):
 R 17 [.d (.int .i64 1),.d (.list (ce l))] []=if e≠0 then zdA e else some ([.arr 0 (zbB (zd7 1 (znj l).length c)).length,E 0],[.arr 1 (bytes (zbB (zd7 1 (znj l).length c))) 0]):=by
 obtain⟨w,hs0⟩:=zmL l (by omega)
 have hul0:=zfT l;obtain⟨u,hue⟩: ∃u,u=znj l:=⟨_,rfl⟩;rw[<- hue]at hs0 hw hul0 ⊢;have hp2:=zcJ u.length (by omega)
 have hpl2:=zaZ (n:=u.length) (by omega)
 have hpk:put 1=[1]:=by rw[zc7 (by omega)];rfl
 have hsl:(zd7 1 u.length c).length<1000000000:=by simp only[zd7,hpk,List.length_cons,List.length_append,List.length_nil];omega
 have hs:=zfn (zd7 1 u.length c) hsl;have hw1:IntKind.u8.wrap (1:Int)=1:=znK (by omega) (by omega)
 have hw2:IntKind.u64.wrap (u.length:Int)=u.length:=zae (by omega) (by omega)
 obtain⟨sb,hsb⟩: ∃sb,sb=zbB (zd7 1 u.length c):=⟨_,rfl⟩;rw[<- hsb]at hs ⊢;unfold zd7 at hs;rw[hpk]at hs;obtain⟨pn,hpn⟩: ∃p,p=put u.length:=⟨_,rfl⟩;rw[<- hpn]at hs hp2 hpl2;have hs':R 31 [.d (.list (.int .u8 75:: .int .u8 70:: .int .u8 49:: .int .u8 1::(bytes pn++bytes c)))] []=some ([.arr 0 sb.length],[.arr 1 (bytes sb) 0]):=by
  rw[<- hs];simp[B]
 clear hs hsb hpn hue hsl hpk;unfold zdA;obtain⟨rr,hrr⟩: ∃rr,some rr=(if e≠0 then some ([.arr 0 0,E e],[.arr 1 [] 0]) else some ([.arr 0 sb.length,E 0],[.arr 1 (bytes sb) 0]):Option (List V × List Obj)):=by
  by_cases e0:e≠0
  ·exact⟨_,by rw[if_pos e0]⟩
  ·exact⟨_,by rw[if_neg e0]⟩
 rw[<- hrr];refine rg b17 rfl ?_;intro T hT;simp -dsimp -implicitDefEqProofs (disch:=first|omega|assumption)
 rw[hrr]at hT;generalize hz:zac _ _ _ _ _ _=z;revert z;refine zaa (σ:=Nat) (λi=>[(0,.d (.int .i64 1)),(1,.d (.list (ce l))),(6,.d (.int .i64 i))]) (λi=>[]) (λi=>i<=l.length) (λi=>l.length - i) 0 ?_ ?_ ?_
 ·exact Nat.zero_le _
 ·simp -dsimp -implicitDefEqProofs (disch:=first|omega|assumption)
 intro T' f hT' i hi ih
 by_cases h5:i<l.length
 ·have hk1:=hX l[i] (List.getElem_mem _)
  obtain⟨⟨ck,n,s⟩,hx⟩: ∃x,x=l[i]:=⟨_,rfl⟩;have gx:=hx.symm;rw[<- hx]at hk1;simp only at hk1;subst hk1;have hwk:IntKind.i64.wrap ((1:Nat):Int)=1:=wI (by omega) (by omega)
  have hwk':IntKind.i64.wrap (1:Int)=1:=wI (by omega) (by omega)
  simp -dsimp -implicitDefEqProofs (disch:=first|omega|assumption) [h5,gx,Cel.d,hwk,hwk']
  exact ih (i+1) _ _ h5 (by omega) (by simp -dsimp -implicitDefEqProofs (disch:=first|omega|assumption))
 obtain rfl:i=l.length:=by omega
 subst hT';clear ih hi h5
 by_cases e0:e≠0
 ·have e0': ¬ (e:Int)=0:=by omega
  rw[if_pos e0]at hT;simp -dsimp -implicitDefEqProofs (disch:=first|omega|assumption) [hs0,hw,e0,e0']
  simpa -dsimp -implicitDefEqProofs (disch:=first|omega|assumption) [E]using hT
 ·obtain rfl:e=0:=by omega
  rw[if_neg e0]at hT;simp -dsimp -implicitDefEqProofs (disch:=first|omega|assumption) [hs0,hw,hw1,hw2,hp2,hs']
  simpa -dsimp -implicitDefEqProofs (disch:=first|omega|assumption) [E]using hT
def zlE (l:List Cel) (hn:l.length<=1024) (hX: ∀c∈l,c.kind=3) (c:List UInt8) (e:Nat) (hc:c.length<=1000000)
 (hw:R 67 [.d (.int .i64 3),.d (.list (ce (znj l)))] []=some ([.arr 0 c.length,E e],[.arr 1 (bytes c) 0])):
 R 17 [.d (.int .i64 3),.d (.list (ce l))] []=if e≠0 then zdA e else some ([.arr 0 (zbB (zd7 3 (znj l).length c)).length,E 0],[.arr 1 (bytes (zbB (zd7 3 (znj l).length c))) 0]):=by
 obtain⟨w,hs0⟩:=zmL l (by omega)
 have hul0:=zfT l;obtain⟨u,hue⟩: ∃u,u=znj l:=⟨_,rfl⟩;rw[<- hue]at hs0 hw hul0 ⊢;have hp2:=zcJ u.length (by omega)
 have hpl2:=zaZ (n:=u.length) (by omega)
 have hpk:put 3=[3]:=by rw[zc7 (by omega)];rfl
 have hsl:(zd7 3 u.length c).length<1000000000:=by simp only[zd7,hpk,List.length_cons,List.length_append,List.length_nil];omega
 have hs:=zfn (zd7 3 u.length c) hsl;have hw1:IntKind.u8.wrap (3:Int)=3:=znK (by omega) (by omega)
 have hw2:IntKind.u64.wrap (u.length:Int)=u.length:=zae (by omega) (by omega)
 obtain⟨sb,hsb⟩: ∃sb,sb=zbB (zd7 3 u.length c):=⟨_,rfl⟩;rw[<- hsb]at hs ⊢;unfold zd7 at hs;rw[hpk]at hs;obtain⟨pn,hpn⟩: ∃p,p=put u.length:=⟨_,rfl⟩;rw[<- hpn]at hs hp2 hpl2;have hs':R 31 [.d (.list (.int .u8 75:: .int .u8 70:: .int .u8 49:: .int .u8 3::(bytes pn++bytes c)))] []=some ([.arr 0 sb.length],[.arr 1 (bytes sb) 0]):=by
  rw[<- hs];simp[B]
 clear hs hsb hpn hue hsl hpk;unfold zdA;obtain⟨rr,hrr⟩: ∃rr,some rr=(if e≠0 then some ([.arr 0 0,E e],[.arr 1 [] 0]) else some ([.arr 0 sb.length,E 0],[.arr 1 (bytes sb) 0]):Option (List V × List Obj)):=by
  by_cases e0:e≠0
  ·exact⟨_,by rw[if_pos e0]⟩
  ·exact⟨_,by rw[if_neg e0]⟩
 rw[<- hrr];refine rg b17 rfl ?_;intro T hT;simp -dsimp -implicitDefEqProofs (disch:=first|omega|assumption)
 rw[hrr]at hT;generalize hz:zac _ _ _ _ _ _=z;revert z;refine zaa (σ:=Nat) (λi=>[(0,.d (.int .i64 3)),(1,.d (.list (ce l))),(6,.d (.int .i64 i))]) (λi=>[]) (λi=>i<=l.length) (λi=>l.length - i) 0 ?_ ?_ ?_
 ·exact Nat.zero_le _
 ·simp -dsimp -implicitDefEqProofs (disch:=first|omega|assumption)
 intro T' f hT' i hi ih
 by_cases h5:i<l.length
 ·have hk1:=hX l[i] (List.getElem_mem _)
  obtain⟨⟨ck,n,s⟩,hx⟩: ∃x,x=l[i]:=⟨_,rfl⟩;have gx:=hx.symm;rw[<- hx]at hk1;simp only at hk1;subst hk1;have hwk:IntKind.i64.wrap ((3:Nat):Int)=3:=wI (by omega) (by omega)
  have hwk':IntKind.i64.wrap (3:Int)=3:=wI (by omega) (by omega)
  simp -dsimp -implicitDefEqProofs (disch:=first|omega|assumption) [h5,gx,Cel.d,hwk,hwk']
  exact ih (i+1) _ _ h5 (by omega) (by simp -dsimp -implicitDefEqProofs (disch:=first|omega|assumption))
 obtain rfl:i=l.length:=by omega
 subst hT';clear ih hi h5
 by_cases e0:e≠0
 ·have e0': ¬ (e:Int)=0:=by omega
  rw[if_pos e0]at hT;simp -dsimp -implicitDefEqProofs (disch:=first|omega|assumption) [hs0,hw,e0,e0']
  simpa -dsimp -implicitDefEqProofs (disch:=first|omega|assumption) [E]using hT
 ·obtain rfl:e=0:=by omega
  rw[if_neg e0]at hT;simp -dsimp -implicitDefEqProofs (disch:=first|omega|assumption) [hs0,hw,hw1,hw2,hp2,hs']
  simpa -dsimp -implicitDefEqProofs (disch:=first|omega|assumption) [E]using hT
def zfp {k:Nat} {X:List Val}:zth k X=true↔(k=1\/k=3)/\ ∀v∈X,v.kind=k:=by
 unfold zth;rw[Bool.and_eq_true,decide_eq_true_eq,List.all_eq_true];simp only[decide_eq_true_eq]
def zoy (k:Nat) (hk:k<256) (X:List Val) (g:zfs k X) (hn:X.length<=256):R 17 [.d (.int .i64 k),.d (.list (ce (X.map zar)))] []=if zth k X=true then some ([.arr 0 (zkD k (zdB X)).length,E 0],[.arr 1 (bytes (zkD k (zdB X))) 0]) else zdA 10:=by
 have hul:=zcY X
 by_cases h13:k=1\/k=3
 ·have hk3:1<=k/\k<=3:=by omega
  by_cases ha: ∀v∈X,v.kind=k
  ·rw[if_pos (zfp.2 ⟨h13,ha⟩)]
   obtain⟨q1,q2,q3⟩:=zsW hk3 (zd6 g);obtain⟨b,e,hbl,hp,hr⟩:=zq1 k hk ((zdB X).map zar) q1 q2 (by simp;omega)
   rw[q3,zgt k hk3 (zdB X) (zd6 g) (by omega)]at hp
   simp only[Option.some.injEq,Prod.mk.injEq,List.cons.injEq,and_true,V.arr.injEq,true_and,Obj.arr.injEq]at hp;obtain⟨⟨_,he⟩,hb⟩:=hp;have hbc:zdb k (zdB X)=b:=by
    have:=zaP (zdb k (zdB X));rw[hb,zaP]at this;exact (Option.some.inj this).symm
   have he0:e=0:=by
    simp only[E,V.d.injEq,D.int.injEq,true_and]at he;omega
   subst he0;have hw:R 67 [.d (.int .i64 k),.d (.list (ce (znj (X.map zar))))] []=some ([.arr 0 b.length,E 0],[.arr 1 (bytes b) 0]):=by rw[zlr];exact hr
   have hlen:(znj (X.map zar)).length=(zdB X).length:=by rw[zlr,List.length_map]
   have hkk: ∀c∈X.map zar,c.kind=k:=λc hc=>by
    obtain⟨v,hv,rfl⟩:=List.mem_map.1 hc;rw[zjA];exact ha v hv
   rcases h13 with rfl | rfl
   ·have:=zlD (X.map zar) (by simp;omega) hkk b 0 hbl hw
    rw[hlen,<- hbc]at this;exact this
   ·have:=zlE (X.map zar) (by simp;omega) hkk b 0 hbl hw
    rw[hlen,<- hbc]at this;exact this
  ·rw[if_neg (λh=>ha (zfp.1 h).2)]
   have ho: ∃v∈X,v.kind≠k:=by
    apply Classical.byContradiction;intro h;exact ha λv hv=>Classical.byContradiction λe=>h ⟨v,hv,e⟩
   obtain⟨v,hv,hne⟩:=ho;refine zox k h13 _ (λc hc=> ?_) (by simp;omega) ⟨zar v,List.mem_map.2 ⟨v,hv,rfl⟩,by rw[zjA];exact hne⟩
   obtain⟨v',_,rfl⟩:=List.mem_map.1 hc;rw[zjA];cases v' <;> simp[Val.kind]
 ·rw[if_neg (λh=>h13 (zfp.1 h).1)]
  exact zne k hk (λe=>h13 (.inl e)) (λe=>h13 (.inr e)) _
end Go.Am.Ab
namespace Go.Am.Ab
open Go.Proofs
set_option maxHeartbeats 8000000
set_option maxRecDepth 4000
def zv1 (k:Nat) (b r:List UInt8):Option (Nat × List Val):=
 if (get r).2.2≠0 then none else
 if 256<(get r).1 then none else
 if (za2 k (r.drop (get r).2.1) (get r).1).2≠0 then none else
 if zth k (za2 k (r.drop (get r).2.1) (get r).1).1=true then
  if zkD k (zdB (za2 k (r.drop (get r).2.1) (get r).1).1)=b then some (k,(za2 k (r.drop (get r).2.1) (get r).1).1) else none
 else none
def znf (b r:List UInt8):Option (Nat × List Val):=
 match r with
 |[]=>none
 |c::r=>if c.toNat=1\/c.toNat=3 then zv1 c.toNat b r else none
def zjB: ∀ (r:List UInt8) (i n:Nat),0<i->(zaU i n r).2.2=0->n+2 ^ (7*i)<=(zaU i n r).1
 |[],_,_,_,h=>by simp[zaU]at h
 |c::r,i,n,hi,h=>by
  unfold zaU at h ⊢;split
  ·rename_i h1;rw[if_pos h1]at h;simp at h
  ·rename_i h1
   rw[if_neg h1]at h;split
   ·rename_i h2
    rw[if_pos h2]at h;split
    ·rename_i h3;rw[if_pos h3]at h;simp at h
    ·rename_i h3
     have:1<=c.toNat:=by omega
     have:=Nat.mul_le_mul_right (2 ^ (7*i)) this;simp only;omega
   ·rename_i h2
    rw[if_neg h2]at h;have:=zjB r (i+1) _ (by omega) h
    have hp:2 ^ (7*i)<=2 ^ (7*(i+1)):=Nat.pow_le_pow_right (by decide) (by omega)
    omega
def zsX {c:UInt8} {r:List UInt8} (h:(get (c::r)).2.2=0) (hs:(get (c::r)).1<128):c.toNat=(get (c::r)).1:=by
 unfold get zaU at h hs ⊢;rw[if_neg (by omega)]at h hs ⊢
 by_cases h2:c.toNat<128
 ·rw[if_pos h2,if_neg (by omega)];simp
 ·rw[if_neg h2]at h hs
  have h8:=zjB r (0+1) _ (by omega) h
  have h9:128<=(zaU (0+1) (0+c.toNat % 128*2 ^ (7*0)) r).1:=Nat.le_trans (Nat.le_add_left 128 _) h8;exfalso;omega
def zv2 {c:UInt8} {r:List UInt8} (h:c.toNat<128):get (c::r)=(c.toNat,1,0):=by
 unfold get zaU;rw[if_neg (by omega),if_pos h,if_neg (by omega)]
 simp
def zuw (b r:List UInt8):zlB b r=znf b r:=by
 cases r with
 |nil=>
  have h:get []=(0,0,30):=rfl;unfold zlB znf;rw[h];rfl
 |cons c r=>
  unfold znf;simp only
  by_cases hc:c.toNat=1\/c.toNat=3
  ·rw[if_pos hc]
   have hg:=zv2 (c:=c) (r:=r) (by omega)
   unfold zlB zv1;rw[hg];simp only[ne_eq,not_true_eq_false,if_false,List.drop_succ_cons,List.drop_zero];rw[if_neg (show ¬ 3<c.toNat by omega)]
  ·rw[if_neg hc]
   have hs:=zsX (c:=c) (r:=r);unfold zlB;generalize get (c::r)=g at*;obtain⟨k,u,e⟩:=g;simp only at hs ⊢;split
   ·rfl
   ·rename_i h1
    split
    ·rfl
    ·rename_i h2
     have hk:=hs (by omega) (by omega)
     have hno: ∀X,¬ zth k X=true:=λX h=>hc (by rw[hk];exact (zfp.1 h).1)
     split
     ·rfl
     ·split
      ·rfl
      ·split
       ·rfl
       ·rw[if_neg (hno _)]
def zpA:Nat ⊕ (Nat × List Val)->Option (List V × List Obj)
 |.inl e=>some ([.d (.int .i64 0),.arr 0 0,.d (.int .i64 e)],[.arr 3 [] 0])
 |.inr (k,l)=>some ([.d (.int .i64 k),.arr 0 l.length,.d (.int .i64 0)],[.arr 3 (ce (l.map zar)) l.length])
def zoz (b:List UInt8) (hb:b.length<1000000):R 32 [B b] []=zpA (zjq b):=by
 have ho:=zqL b hb;unfold zjq;cases hp:zhO b with
 |none=>
  rw[hp]at ho;unfold zwU at ho;simp only[zpA];refine rg b32 rfl ?_;intro T hT;simp -dsimp -implicitDefEqProofs (disch:=first|omega|assumption) [ho]
  simpa -dsimp -implicitDefEqProofs (disch:=first|omega|assumption) [E]using hT
 |some t=>
  have htb:t.length<=b.length:=by
   have:=congrArg List.length (zmV hp);rw[zbp]at this;omega
  rw[hp]at ho;unfold zwU at ho;simp only at ho ⊢;clear hp
  by_cases h1:t.length<3
  ·have h1':(t.length:Int)<3:=by omega
   rw[if_pos (.inl h1)];simp only[zpA];refine rg b32 rfl ?_;intro T hT;simp -dsimp -implicitDefEqProofs (disch:=first|omega|assumption) [ho,h1,h1']
   simpa -dsimp -implicitDefEqProofs (disch:=first|omega|assumption) [E]using hT
  have h1': ¬ (t.length:Int)<3:=by omega
  have h1b:3<=t.length:=by omega
  obtain⟨t3,ht3⟩: ∃t3,t3=t.take 3:=⟨_,rfl⟩;have ht3':List.take 3 (bytes t)=bytes t3:=by rw[ht3,bytes,bytes,List.map_take]
  have hM3:=zaP t3;rw[<- ht3]
  by_cases h2:t3=[75,70,49]
  case neg=>
   rw[if_pos (.inr h2)];have h2':(t3 == [75,70,49])=false:=by simpa using h2
   simp only[zpA];refine rg b32 rfl ?_;intro T hT;simp -dsimp -implicitDefEqProofs (disch:=first|omega|assumption) [ho,h1,h1',h1b,ht3',hM3,h2']
   simpa -dsimp -implicitDefEqProofs (disch:=first|omega|assumption) [E]using hT
  have h2':(t3 == [75,70,49])=true:=by simpa using h2
  rw[if_neg (λc=>c.elim h1 (λc=>c h2)),zuw]
  by_cases h4:t.length<4
  ·have h4':(t.length:Int)<4:=by omega
   have hd:t.drop 3=[]:=List.drop_of_length_le (by omega)
   rw[hd];simp only[znf,zpA];refine rg b32 rfl ?_;intro T hT;simp -dsimp -implicitDefEqProofs (disch:=first|omega|assumption) [ho,h1,h1',h1b,ht3',hM3,h2',h4,h4']
   simpa -dsimp -implicitDefEqProofs (disch:=first|omega|assumption) [E]using hT
  have h4': ¬ (t.length:Int)<4:=by omega
  have h4b:3<t.length:=by omega
  have hd:t.drop 3=t[3]::t.drop 4:=List.drop_eq_getElem_cons h4b;obtain⟨c,hc⟩: ∃c,c=t[3]:=⟨_,rfl⟩;have gc:=hc.symm;obtain⟨r,hr⟩: ∃r,r=t.drop 4:=⟨_,rfl⟩;have hr':List.drop 4 (bytes t)=bytes r:=by rw[hr,bytes,bytes,List.map_drop]
  have hrl:r.length<1000000:=by rw[hr,List.length_drop];omega
  have hrk:r.length+4=t.length:=by rw[hr,List.length_drop];omega
  rw[hd,<- hc,<- hr];unfold znf;simp only;obtain⟨k,hk⟩: ∃k,k=c.toNat:=⟨_,rfl⟩;have hk':=hk.symm;have hk256:k<256:=by rw[hk];exact c.toNat_lt
  rw[hk']
  by_cases hkk:k=1\/k=3
  case neg=>
   have q1: ¬ (k:Int)=1:=by omega
   have q3: ¬ (k:Int)=3:=by omega
   have q1': ¬ k=1:=by omega
   have q3': ¬ k=3:=by omega
   rw[if_neg hkk];simp only[zpA];refine rg b32 rfl ?_;intro T hT;simp -dsimp -implicitDefEqProofs (disch:=first|omega|assumption) [ho,h1,h1',h1b,ht3',hM3,h2',h4,h4',h4b,gc,hk',q1,q1',q3,q3']
   simpa -dsimp -implicitDefEqProofs (disch:=first|omega|assumption) [E]using hT
  rw[if_pos hkk];have hk3:1<=k/\k<=3:=by omega
  have hg:=zeL r (by omega)
  rw[ziJ]at hg;have hgu:=zcL r;have hgl:=zbq r;unfold zv1;obtain⟨n,hn⟩: ∃g,g=(get r).1:=⟨_,rfl⟩;obtain⟨u,hu⟩: ∃g,g=(get r).2.1:=⟨_,rfl⟩;obtain⟨e1,he1⟩: ∃g,g=(get r).2.2:=⟨_,rfl⟩;rw[<- hn,<- hu,<- he1]at hg;rw[<- hu]at hgu;rw[<- hn]at hgl;rw[<- hn,<- hu,<- he1];have wn:IntKind.i64.wrap (k:Int)=k:=wI (by omega) (by omega)
  have hcase: ∀q:Bool,decide (k=1)=q->_:=λq hq=>(hq:decide (k=1)=q)
  by_cases c1:e1≠0
  ·have c1': ¬ (e1:Int)=0:=by omega
   rw[if_pos c1];simp only[zpA];rcases hkk with e | e
   all_goals
    rw[e]at hk';refine rg b32 rfl ?_;intro T hT;simp -dsimp -implicitDefEqProofs (disch:=first|omega|assumption) [ho,h1,h1',h1b,ht3',hM3,h2',h4,h4',h4b,gc,hk',hr',hg,c1,c1']
    simpa -dsimp -implicitDefEqProofs (disch:=first|omega|assumption) [E]using hT
  rw[if_neg c1];obtain rfl:e1=0:=by omega
  by_cases c2:256<n
  ·have c2':(256:Int)<n:=by omega
   rw[if_pos c2];simp only[zpA];rcases hkk with e | e
   all_goals
    rw[e]at hk';refine rg b32 rfl ?_;intro T hT;simp -dsimp -implicitDefEqProofs (disch:=first|omega|assumption) [ho,h1,h1',h1b,ht3',hM3,h2',h4,h4',h4b,gc,hk',hr',hg,c2,c2']
    simpa -dsimp -implicitDefEqProofs (disch:=first|omega|assumption) [E]using hT
  rw[if_neg c2];have c2': ¬ (256:Int)<n:=by omega
  obtain⟨r2,hr2⟩: ∃r2,r2=r.drop u:=⟨_,rfl⟩;have hr2':List.drop (4+u) (bytes t)=bytes r2:=by rw[hr2,hr,List.drop_drop,bytes,bytes,List.map_drop]
  have hr2l:r2.length<1000000:=by rw[hr2,List.length_drop];omega
  have x1:((4:Int)+u).toNat=4+u:=by omega
  have hb1:4+u<=t.length:=by omega
  have wn2:IntKind.i64.wrap (n:Int)=n:=wI (by omega) (by omega)
  rw[<- hr2];have hrd:=znd k n hk3 r2 (by omega) hr2l
  unfold RdR at hrd;cases hpr:(zdz k n r2).2 with
  |false=>
   obtain⟨he,_⟩:=zv0 hk3 (by omega) hpr
   rw[hpr]at hrd;have he0:(za2 k r2 n).2≠0:=by unfold okE at he;omega
   rw[if_pos he0];generalize (zdz k n r2).1=cl at hrd;simp only[zpA];clear hk;rcases hkk with e | e
   all_goals
    subst e;simp only[Int.cast_ofNat_Int]at hrd;refine rg b32 rfl ?_;intro T hT;simp -dsimp -implicitDefEqProofs (disch:=first|omega|assumption) [ho,h1,h1',h1b,ht3',hM3,h2',h4,h4',h4b,gc,hk',hr',hg,c2,c2',x1,hb1,hr2',wn2,hrd]
    simpa -dsimp -implicitDefEqProofs (disch:=first|omega|assumption) [E]using hT
  |true=>
   obtain⟨l,g,hl,ht,hm⟩:=zuv hk3 (by omega) hpr
   rw[hpr,hm,List.length_map]at hrd;rw[ht];simp only[ne_eq,not_true_eq_false,if_false];have hkw:=zoy k hk256 l g (by omega)
   have hul:=zcY l;have hfl:(zkD k (zdB l)).length<1000000:=by
    have h5:=zgu hk3 (zd6 g) (by omega)
    have h6:=zpy (k:=k) (n:=(zdB l).length) (c:=zdb k (zdB l)) (by omega) (by omega) h5
    unfold zkD;rw[zbp];omega
   obtain⟨cl,hcl⟩: ∃cl,cl=ce (l.map zar):=⟨_,rfl⟩;have hcll:cl.length=l.length:=by rw[hcl];simp
   have hMb:=zaP b
   by_cases c6:zth k l=true
   case neg=>
    rw[if_neg c6]at hkw ⊢;unfold zdA at hkw;rw[<- hcl]at hrd hkw;simp only[zpA];clear hk;rcases hkk with e | e
    all_goals
     subst e;simp only[Int.cast_ofNat_Int]at hrd hkw;refine rg b32 rfl ?_;intro T hT;simp -dsimp -implicitDefEqProofs (disch:=first|omega|assumption) [ho,h1,h1',h1b,ht3',hM3,h2',h4,h4',h4b,gc,hk',hr',hg,c2,c2',x1,hb1,hr2',wn2,hrd,hcll,hkw]
     simpa -dsimp -implicitDefEqProofs (disch:=first|omega|assumption) [E]using hT
   rw[if_pos c6]at hkw ⊢;have hMw:=zaP (zkD k (zdB l));generalize zkD k (zdB l)=w at*
   by_cases c7:w=b
   ·rw[if_pos c7]
    have hwb:(w == b)=true:=by simpa using c7
    simp only[zpA];rw[<- hcl]at hrd hkw ⊢;clear hk;rcases hkk with e | e
    all_goals
     subst e;simp only[Int.cast_ofNat_Int]at hrd hkw;refine rg b32 rfl ?_;intro T hT;simp -dsimp -implicitDefEqProofs (disch:=first|omega|assumption) [ho,h1,h1',h1b,ht3',hM3,h2',h4,h4',h4b,gc,hk',hr',hg,c2,c2',x1,hb1,hr2',wn2,hrd,hcll,hkw,hMw,hMb,hwb]
     simpa -dsimp -implicitDefEqProofs (disch:=first|omega|assumption) [E]using hT
   ·rw[if_neg c7]
    have hwb:(w == b)=false:=by simpa using c7
    simp only[zpA];rw[<- hcl]at hrd hkw;clear hk;rcases hkk with e | e
    all_goals
     subst e;simp only[Int.cast_ofNat_Int]at hrd hkw;refine rg b32 rfl ?_;intro T hT;simp -dsimp -implicitDefEqProofs (disch:=first|omega|assumption) [ho,h1,h1',h1b,ht3',hM3,h2',h4,h4',h4b,gc,hk',hr',hg,c2,c2',x1,hb1,hr2',wn2,hrd,hcll,hkw,hMw,hMb,hwb]
     simpa -dsimp -implicitDefEqProofs (disch:=first|omega|assumption) [E]using hT
end Go.Am.Ab
