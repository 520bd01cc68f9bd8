/- Lists by codecs 0 to 2 and 4. -/
import Derived.Test.YtibdiacpdmhmnaaGreatDoorBitsB
import Derived.Test.YtibdiacpdmhmnaaGreatDoorVars
set_option linter.all false
namespace Go.Am.Ab
open Go.Proofs
set_option maxHeartbeats 4000000
abbrev ints (l:List Int):D:= .list (l.map λn=>D.int .i64 n)
def zat (n:Int):Prop:= -9223372036854775808<=n/\n<=9223372036854775807
def zlK (x:Int):zat (IntKind.i64.wrap x):=by unfold zat;rw[zbB];split <;> omega
def zbD (l:List Int):List UInt8:=l.flatMap zaY
def zeF (l:List Int) (n:Int):zbD (l++[n])=zbD l++zaY n:=by simp[zbD]
def zaH {n:Int} (h:zat n):(zaY n).length<=10:=zak (zph h.1 h.2)
def zea {l:List Int} (h: ∀n∈l,zat n):(zbD l).length<=10*l.length:=by
 induction l with
 |nil=>simp[zbD]
 |cons n l ih=>
  have h1:=zaH (h n (by simp))
  have h2:=ih λm hm=>h m (by simp[hm])
  simp only[zbD,List.flatMap_cons,List.length_append,List.length_cons]at*;omega
def znX (l:List Int) (hl: ∀n∈l,zat n) (hn:l.length<=256):R 159 [.d (ints l)] []=some ([.arr 0 (zbD l).length],[.arr 1 (bytes (zbD l)) 0]):=by
 refine rg zBC rfl ?_;intro T hT;simp -dsimp -implicitDefEqProofs (disch:=first|omega|assumption)
 generalize hz:zaf _ _ _ _ _ _=z;revert z;refine zaa (σ:=Nat) (λi=>[(3,.arr 0 (zbD (l.take i)).length),(6,.d (ints l)),(7,.d (.int .i64 l.length)),(8,.d (.int .i64 i))]) (λi=>[.arr 1 (bytes (zbD (l.take i))) 0]) (λi=>i<=l.length) (λi=>l.length - i) 0 ?_ ?_ ?_
 ·simp
 ·simp -dsimp -implicitDefEqProofs (disch:=first|omega|assumption) [zbD]
 intro T' f hT' i hi ih
 by_cases h1:i<l.length
 ·have hb:=hl l[i] (by simp)
  have hp:=zbZ l[i] hb.1 hb.2;have hlen:=zaH hb;have hlen2:=zea (l:=l.take i) λn h=>hl n (List.mem_of_mem_take h)
  rw[List.length_take]at hlen2;simp -dsimp -implicitDefEqProofs (disch:=first|omega|assumption) [h1,hp]
  refine ih (i+1) _ _ h1 (by omega) ?_
  rw[zaq h1,zeF];simp -dsimp -implicitDefEqProofs (disch:=first|omega|assumption)
 ·rw[List.take_of_length_le (by omega)]
  subst hT';simp -dsimp -implicitDefEqProofs (disch:=first|omega|assumption) [h1]
  simpa -dsimp -implicitDefEqProofs (disch:=first|omega|assumption) using hT
def zcB:Int->List Int->List Int
 |_,[]=>[]
 |a,n::r=>IntKind.i64.wrap (n - a)::zcB n r
def zcP (l:List Int):List UInt8:=zbD (zcB 0 l)
def zkt: ∀ (l:List Int) (a:Int), ∀n∈zcB a l,zat n
 |[],_,_,h=>by simp[zcB]at h
 |n::r,a,m,h=>by
  simp only[zcB,List.mem_cons]at h;rcases h with rfl | h
  ·exact zlK _
  ·exact zkt r n m h
def zfa: ∀ (l:List Int) (a:Int),(zcB a l).length=l.length
 |[],_=>rfl
 |n::r,a=>by simp[zcB,zfa r n]
def zlL (n:Int) (l:List Int):zbD (n::l)=zaY n++zbD l:=rfl
def zfJ (l:List Int):(zcP l).length<=10*l.length:=by
 have:=zea (zkt l 0)
 rwa [zfa]at this
def znY (l:List Int) (hl: ∀n∈l,zat n) (hn:l.length<=256):R 160 [.d (ints l)] []=some ([.arr 0 (zcP l).length],[.arr 1 (bytes (zcP l)) 0]):=by
 have htot:=zfJ l;refine rg zBD rfl ?_;intro T hT;simp -dsimp -implicitDefEqProofs (disch:=first|omega|assumption)
 generalize hz:zaf _ _ _ _ _ _=z;revert z;refine zaa (σ:=Nat × Int × List UInt8) (λx=>[(3,.arr 0 x.2.2.length),(4,.d (.int .i64 x.2.1)),(7,.d (ints l)),(8,.d (.int .i64 l.length)),(9,.d (.int .i64 x.1))]) (λx=>[.arr 1 (bytes x.2.2) 0]) (λx=>x.1<=l.length/\zat x.2.1/\x.2.2++zbD (zcB x.2.1 (l.drop x.1))=zcP l) (λx=>l.length - x.1) (0,0,[]) ?_ ?_ ?_
 ·exact⟨by simp,⟨by decide,by decide⟩,rfl⟩
 ·simp -dsimp -implicitDefEqProofs (disch:=first|omega|assumption)
 intro T' f hT' ⟨i,a,bs⟩ ⟨hi,ha,he⟩ ih;simp only at hi ha he ih
 by_cases h1:i<l.length
 ·have hb:=hl l[i] (by simp)
  have hw:=zlK (l[i] - a);have hp:=zbZ (IntKind.i64.wrap (l[i] - a)) hw.1 hw.2;rw[List.drop_eq_getElem_cons h1,zcB,zlL]at he;have hlen:bs.length+(zaY (IntKind.i64.wrap (l[i] - a))).length<=(zcP l).length:=by rw[<- he];simp <;> omega
  obtain⟨d,hd⟩: ∃d,d=IntKind.i64.wrap (l[i] - a):=⟨_,rfl⟩;rw[<- hd]at hp he hlen;have hd':IntKind.i64.wrap (l[i] - a)=d:=hd.symm;simp -dsimp -implicitDefEqProofs (disch:=first|omega|assumption) [h1,hd',hp]
  refine ih (i+1,l[i],bs++zaY d) _ _ ⟨h1,hb,by rw[<- he];simp⟩ (by simp only;omega) ?_
  simp -dsimp -implicitDefEqProofs (disch:=first|omega|assumption)
 ·rw[List.drop_of_length_le (by omega),zcB]at he
  simp only[zbD,List.flatMap_nil,List.append_nil]at he;subst hT';rw[<- he]at hT htot;simp -dsimp -implicitDefEqProofs (disch:=first|omega|assumption) [h1]
  simpa -dsimp -implicitDefEqProofs (disch:=first|omega|assumption) using hT
def cnt (x:Int):List Int->Nat
 |[]=>0
 |y::r=>if y=x then cnt x r+1 else 0
def zpj (x:Int): ∀l,cnt x l<=l.length
 |[]=>by simp[cnt]
 |y::r=>by have:=zpj x r;simp only[cnt,List.length_cons];split <;> omega
def zfK:Nat->List Int->List UInt8
 |0,_=>[]
 |_,[]=>[]
 |k+1,x::r=>zaY x++(put (cnt x r+1)++zfK k (r.drop (cnt x r)))
def zcy (l:List Int):List UInt8:=zfK l.length l
def zmT: ∀ (k j:Nat) (l:List Int),l.length<=k->l.length<=j->zfK k l=zfK j l
 |0,0,_,_,_=>rfl
 |0,j+1,l,h,_=>by
  have:l=[]:=by simpa using h
  subst this;rfl
 |k+1,0,l,_,h=>by
  have:l=[]:=by simpa using h
  subst this;rfl
 |k+1,j+1,[],_,_=>rfl
 |k+1,j+1,x::r,h1,h2=>by
  simp only[List.length_cons]at h1 h2;simp only[zfK];rw[zmT k j _ (by simp;omega) (by simp;omega)]
def ziH {x:Int} {l r:List Int} (h:l=x::r):zcy l=zaY x++(put (cnt x l)++zcy (l.drop (cnt x l))):=by
 subst h;have e:cnt x (x::r)=cnt x r+1:=by simp[cnt]
 rw[e,List.drop_succ_cons];unfold zcy;simp only[List.length_cons,zfK];rw[zmT r.length _ _ (by simp) (Nat.le_refl _)]
def zfb: ∀ (k:Nat) (l:List Int),(∀n∈l,zat n)->l.length<=1000000->l.length<=k->(zfK k l).length<=20*l.length
 |0,_,_,_,_=>by simp[zfK]
 |k+1,[],_,_,_=>by simp[zfK]
 |k+1,x::r,h,h2,h3=>by
  simp only[List.length_cons]at h2 h3;have h4:=zpj x r;have h1:=zaH (h x (by simp))
  have h5:=zak (n:=cnt x r+1) (by omega)
  have h6:=zfb k (r.drop (cnt x r)) (λn hn=>h n (by simp[List.mem_of_mem_drop hn])) (by simp;omega) (by simp;omega)
  simp only[zfK,List.length_append,List.length_cons];simp only[List.length_drop]at h6;omega
def zpk (l:List Int) (hl: ∀n∈l,zat n) (hn:l.length<=256):R 161 [.d (ints l)] []=some ([.arr 0 (zcy l).length],[.arr 1 (bytes (zcy l)) 0]):=by
 have htot:(zcy l).length<=20*l.length:=zfb _ l hl (by omega) (Nat.le_refl _)
 refine rg zBE rfl ?_;intro T hT;simp -dsimp -implicitDefEqProofs (disch:=first|omega|assumption)
 generalize hz:zaf _ _ _ _ _ _=z;revert z;refine zaa (σ:=Nat × List UInt8) (λx=>[(0,.d (ints l)),(3,.arr 0 x.2.length),(4,.d (.int .i64 x.1))]) (λx=>[.arr 1 (bytes x.2) 0]) (λx=>x.1<=l.length/\x.2++zcy (l.drop x.1)=zcy l) (λx=>l.length - x.1) (0,[]) ?_ ?_ ?_
 ·exact⟨by simp,rfl⟩
 ·simp -dsimp -implicitDefEqProofs (disch:=first|omega|assumption)
 intro T' f hT' ⟨i,bs⟩ ⟨hi,he⟩ ih;simp only at hi he ih
 by_cases h1:i<l.length
 ·have hb:=hl l[i] (by simp)
  have hp:=zbZ l[i] hb.1 hb.2;have hd:=List.drop_eq_getElem_cons h1;rw[ziH hd]at he;have hcl:=zpj l[i] (l.drop i);rw[List.length_drop]at hcl;have hcp:0<cnt l[i] (l.drop i):=by rw[hd];simp[cnt]
  obtain⟨c,hc⟩: ∃c,c=cnt l[i] (l.drop i):=⟨_,rfl⟩;rw[<- hc]at he hcl hcp;rw[List.drop_drop]at he;have hq:=zaS c (by omega)
  have hlen:bs.length+(zaY l[i]).length+(put c).length<=(zcy l).length:=by rw[<- he];simp <;> omega
  simp -dsimp -implicitDefEqProofs (disch:=first|omega|assumption) [h1]
  generalize hz:zaf _ _ _ _ _ _=z;revert z;refine zaa (σ:=Nat) (λk=>[(0,.d (ints l)),(3,.arr 0 bs.length),(4,.d (.int .i64 i)),(5,.d (.int .i64 k))]) (λk=>[.arr 1 (bytes bs) 0]) (λk=>i<=k/\k<=l.length/\c=(k - i)+cnt l[i] (l.drop k)) (λk=>l.length - k) i ?_ ?_ ?_
  ·exact⟨Nat.le_refl _,hi,by rw[hc];omega⟩
  ·simp
  intro T2 f2 hT2 k ⟨hk1,hk2,hk3⟩ ih2;have out: ∀s1:Slots,zas s1 0= .d (ints l)->zas s1 3= .arr 0 bs.length->zas s1 4= .d (.int .i64 i)->zas s1 5= .d (.int .i64 k)->c=k - i->T2 (some (.exit 2,s1,[.arr 1 (bytes bs) 0])):=by
   intro s1 e0 e3 e4 e5 hw;subst hT2;have hki:((k:Int) - i)=(c:Int):=by omega
   have hcw:IntKind.u64.wrap (c:Int)=c:=zaj (by omega) (by omega)
   simp -dsimp -implicitDefEqProofs (disch:=first|omega|assumption) [e0,e3,e4,e5,hki,hcw,hp,hq]
   refine ih (k,bs++(zaY l[i]++put c)) _ _ ⟨hk2,by rw[<- he,show k=i+c by omega];simp⟩ (by simp only;omega) ?_
   simp -dsimp -implicitDefEqProofs (disch:=first|omega|assumption) [e0,e3,e4,e5,Nat.add_assoc]
  by_cases h2:k<l.length
  ·rw[List.drop_eq_getElem_cons h2,cnt]at hk3
   by_cases h3:l[k]=l[i]
   ·rw[if_pos h3]at hk3
    simp -dsimp -implicitDefEqProofs (disch:=first|omega|assumption) [h1,h2,h3]
    exact ih2 (k+1) _ _ ⟨by omega,h2,by omega⟩ (by omega) (by simp -dsimp -implicitDefEqProofs (disch:=first|omega|assumption))
   ·rw[if_neg h3]at hk3
    simp -dsimp -implicitDefEqProofs (disch:=first|omega|assumption) [h1,h2,h3]
    exact out _ (by simp) (by simp) (by simp) (by simp) (by omega)
  ·rw[List.drop_of_length_le (by omega),cnt]at hk3
   simp -dsimp -implicitDefEqProofs (disch:=first|omega|assumption) [h1,h2]
   exact out _ (by simp) (by simp) (by simp) (by simp) (by omega)
 ·rw[List.drop_of_length_le (by omega)]at he
  simp only[zcy,List.length_nil,zfK,List.append_nil]at he;change bs=zcy l at he;subst hT';rw[<- he]at hT htot;simp -dsimp -implicitDefEqProofs (disch:=first|omega|assumption) [h1]
  simpa -dsimp -implicitDefEqProofs (disch:=first|omega|assumption) using hT
end Go.Am.Ab
namespace Go.Am.Ab
open Go.Proofs
set_option maxHeartbeats 4000000
def isNaN_runs (n:Int):R 170 [.d (.int .i64 n)] []=some ([.d (.bool false)],[]):=by
 refine rg zAE rfl ?_;intro T hT;simp -dsimp -implicitDefEqProofs (disch:=first|omega|assumption)
 simpa -dsimp -implicitDefEqProofs (disch:=first|omega|assumption) using hT
def less_runs (a b:Int):R 200 [.d (.int .i64 a),.d (.int .i64 b)] []=some ([.d (.bool (decide (a<b)))],[]):=by
 refine rg zBZ rfl ?_;intro T hT;simp -dsimp -implicitDefEqProofs (disch:=first|omega|assumption) [isNaN_runs]
 simpa -dsimp -implicitDefEqProofs (disch:=first|omega|assumption) using hT
def zk3:List Int->Int
 |[]=>0
 |x::r=>r.foldl min x
def zpl {l:List Int} (h:l≠[]) (n:Int):zk3 (l++[n])=min (zk3 l) n:=by
 cases l with
 |nil=>exact absurd rfl h
 |cons x r=>simp[zk3]
def zdU: ∀ (l:List Int) (a:Int),l.foldl min a<=a/\(∀n∈l,l.foldl min a<=n)/\(l.foldl min a=a\/l.foldl min a∈l)
 |[],a=>⟨Int.le_refl _,by simp,.inl rfl⟩
 |x::r,a=>by
  obtain⟨h1,h2,h3⟩:=zdU r (min a x);simp only[List.foldl_cons,List.mem_cons];refine⟨by omega,λn hn=> ?_, ?_⟩
  ·rcases hn with rfl | hn
   ·omega
   ·exact h2 n hn
  ·rcases h3 with h3 | h3
   ·rcases Int.le_total a x with h | h
    ·left;omega
    ·right;left;omega
   ·exact .inr (.inr h3)
def zlM {l:List Int}: ∀n∈l,zk3 l<=n:=by
 cases l with
 |nil=>simp
 |cons x r=>
  intro n hn;obtain⟨h1,h2,-⟩:=zdU r x;rcases List.mem_cons.1 hn with rfl | hn
  ·exact h1
  ·exact h2 n hn
def zfc {l:List Int} (h:l≠[]):zk3 l∈l:=by
 cases l with
 |nil=>exact absurd rfl h
 |cons x r=>
  obtain⟨-,-,h3⟩:=zdU r x;rcases h3 with h3 | h3
  ·simp only[zk3,h3,List.mem_cons,true_or]
  ·exact List.mem_cons_of_mem _ h3
def zrq (l:List Int) (h0:l≠[]) (hn:l.length<=256):R 184 [.d (ints l)] []=some ([.d (.int .i64 (zk3 l))],[]):=by
 have hlen:0<l.length:=Nat.pos_of_ne_zero (by simpa using h0)
 have a1: ¬ (l.length:Int)<1:=by omega
 refine rg zBQ rfl ?_;intro T hT;simp -dsimp -implicitDefEqProofs (disch:=first|omega|assumption) [a1,hlen,h0]
 generalize hz:zaf _ _ _ _ _ _=z;revert z;refine zaa (σ:=Nat) (λi=>[(0,.d (ints l)),(3,.d (.int .i64 (zk3 (l.take i)))),(4,.d (.int .i64 i))]) (λi=>[]) (λi=>1<=i/\i<=l.length) (λi=>l.length - i) 1 ?_ ?_ ?_
 ·exact⟨Nat.le_refl _,hlen⟩
 ·cases l with
  |nil=>exact absurd rfl h0
  |cons x r=>simp -dsimp -implicitDefEqProofs (disch:=first|omega|assumption) [zk3]
 intro T' f hT' i ⟨hi1,hi⟩ ih
 by_cases h1:i<l.length
 ·have hm:zk3 (l.take (i+1))=min (zk3 (l.take i)) l[i]:=by
   rw[zaq h1,zpl];intro h;have:=congrArg List.length h;rw[List.length_take,List.length_nil]at this;omega
  simp -dsimp -implicitDefEqProofs (disch:=first|omega|assumption) [h1]
  refine ih (i+1) _ _ ⟨by omega,h1⟩ (by omega) ?_
  rw[hm];simp -dsimp -implicitDefEqProofs (disch:=first|omega|assumption)
  try omega
 ·rw[List.take_of_length_le (by omega)]
  subst hT';simp -dsimp -implicitDefEqProofs (disch:=first|omega|assumption) [h1]
  simpa -dsimp -implicitDefEqProofs (disch:=first|omega|assumption) using hT
def ziI (l:List Nat) (hl: ∀n∈l,n<18446744073709551616) (hn:l.length<=256):R 183 [.d (zhm l)] []=some ([.arr 0 (zbL (za5 l) l).length],[.arr 1 (bytes (zbL (za5 l) l)) 0]):=by
 have h1:=zfH l hl (by omega)
 have h2:=zmS l (za5 l) hl (zb5 hl) hn (Nat.le_refl _);refine rg zBP rfl ?_;intro T hT;simp -dsimp -implicitDefEqProofs (disch:=first|omega|assumption) [h1,h2]
 simpa -dsimp -implicitDefEqProofs (disch:=first|omega|assumption) using hT
def zfL (f:Int->Nat) (l:List Int) (i:Nat):List D:=((l.take i).map f++List.replicate (l.length - i) 0).map λ(n:Nat)=>D.int .u64 (n:Int)
def zdV (f:Int->Nat) (l:List Int) (i:Nat) (h:i<=l.length):(zfL f l i).length=l.length:=by simp[zfL];omega
def zti {α:Type} (A R:List α) (x v:α) (i:Nat) (h:A.length=i):(A++x::R).set i v=A++v::R:=by
 subst h;simp[List.set_append]
def zho (f:Int->Nat) (l:List Int) (i:Nat) (h:i<l.length):(zfL f l i).set i (.int .u64 (f l[i]:Int))=zfL f l (i+1):=by
 unfold zfL;rw[show l.length - i=(l.length - (i+1))+1 by omega,List.replicate_succ,zaq h,<- List.map_set,zti _ _ _ _ i (by simp;omega),List.map_append (f:=f),List.append_assoc]
 rfl
def zku (f:Int->Nat) (l:List Int):zfL f l l.length=(l.map f).map λ(n:Nat)=>D.int .u64 (n:Int):=by simp[zfL]
def zbI (l:List Int):List Nat:=l.map λn=>(n - zk3 l).toNat
def zcn (l:List Int):List UInt8:=if l=[] then [] else zaY (zk3 l)++(put (za5 (zbI l))++zbL (za5 (zbI l)) (zbI l))
def zjh {l:List Int} (hl: ∀n∈l,zat n): ∀n∈zbI l,n<18446744073709551616:=by
 intro n hn;simp only[zbI,List.mem_map]at hn;obtain⟨m,hm,rfl⟩:=hn;have h1:=hl m hm;have h2:=hl _ (zfc (l:=l) (by rintro rfl;simp at hm))
 unfold zat at h1 h2;omega
def zco {w:Nat} {l:List Nat} (hw:w<=64) (hn:l.length<=256):(zbL w l).length<=2048:=by
 have:l.length*w<=256*64:=Nat.mul_le_mul hn hw;simp only[zbL,zkr];omega
def znZ:R 163 [.d (ints [])] []=some ([.arr 0 0],[.arr 1 [] 0]):=by
 refine rg zAC rfl ?_;intro T hT;simp -dsimp -implicitDefEqProofs (disch:=first|omega|assumption)
 simpa -dsimp -implicitDefEqProofs (disch:=first|omega|assumption) using hT
def zkv (l:List Int) (h0:l≠[]) (hl: ∀n∈l,zat n) (hn:l.length<=256):R 163 [.d (ints l)] []=some ([.arr 0 (zcn l).length],[.arr 1 (bytes (zcn l)) 0]):=by
 have hlen:0<l.length:=Nat.pos_of_ne_zero (by simpa using h0)
 have a1: ¬ (l.length:Int)=0:=by omega
 have hmin:=zrq l h0 hn;have hmlt:=zjh hl;have hml:(zbI l).length<=256:=by simpa[zbI]using hn
 have hw:=zfH (zbI l) hmlt (by omega)
 have hw64:=zb5 hmlt;have hpk:=ziI (zbI l) hmlt hml;have hplen:=zco hw64 hml;obtain⟨wd,hwd⟩: ∃wd,wd=za5 (zbI l):=⟨_,rfl⟩;have hput:=zaS wd (by omega)
 have hputl:=zak (n:=wd) (by omega)
 obtain⟨m,hm⟩: ∃m,m=zk3 l:=⟨_,rfl⟩;have hmi:zat m:=by rw[hm];exact hl _ (zfc h0)
 have hpi:=zbZ m hmi.1 hmi.2;have hpil:=zaH hmi;have hB:zcn l=zaY m++(put wd++zbL wd (zbI l)):=by unfold zcn;rw[if_neg h0,<- hm,<- hwd]
 rw[<- hwd]at hw hw64 hpk hplen;rw[<- hm]at hmin;rw[hB];have hend:=zku (λn=>(n - m).toNat) l
 have hmo:l.map (λn=>(n - m).toNat)=zbI l:=by rw[hm];rfl
 rw[hmo]at hend;refine rg zAC rfl ?_;intro T hT;simp -dsimp -implicitDefEqProofs (disch:=first|omega|assumption) [h0,hmin]
 generalize hz:zaf _ _ _ _ _ _=z;revert z;refine zaa (σ:=Nat) (λi=>[(3,.d (.int .i64 m)),(4,.arr 0 l.length),(16,.d (ints l)),(17,.d (.int .i64 l.length)),(18,.d (.int .i64 i))]) (λi=>[.arr 1 (zfL (λn=>(n - m).toNat) l i) 0]) (λi=>i<=l.length) (λi=>l.length - i) 0 ?_ ?_ ?_
 ·simp
 ·simp -dsimp -implicitDefEqProofs (disch:=first|omega|assumption) [zfL]
 intro T' f hT' i hi ih
 by_cases h1:i<l.length
 ·have hb:=hl l[i] (by simp)
  have hle:m<=l[i]:=by rw[hm];exact zlM _ (by simp)
  have hset:=zho (λn=>(n - m).toNat) l i h1
  have hrl:=zdV (λn=>(n - m).toNat) l i hi
  obtain⟨v,hv⟩: ∃v:Nat,(v:Int)=l[i] - m:=⟨(l[i] - m).toNat,by omega⟩
  have hvv:(l[i] - m).toNat=v:=by omega
  simp only[hvv]at hset;unfold zat at hb hmi;have hsub:IntKind.u64.wrap (IntKind.u64.wrap l[i] - IntKind.u64.wrap m)=v:=by rw[zad,zad,zad];omega
  simp -dsimp -implicitDefEqProofs (disch:=first|omega|assumption) [h1,hsub,hset,hrl]
  exact ih (i+1) _ _ h1 (by omega) (by simp -dsimp -implicitDefEqProofs (disch:=first|omega|assumption))
 ·obtain rfl:i=l.length:=by omega
  have hmlen:(zbI l).length=l.length:=by simp[zbI]
  rw[hend];subst hT';simp -dsimp -implicitDefEqProofs (disch:=first|omega|assumption) [h1,hw,hput,hpi,hpk,hmlen,zaj]
  simpa -dsimp -implicitDefEqProofs (disch:=first|omega|assumption) [Nat.add_assoc]using hT
end Go.Am.Ab
