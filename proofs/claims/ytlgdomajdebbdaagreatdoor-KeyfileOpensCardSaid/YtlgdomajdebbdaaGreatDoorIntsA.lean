/- Lists by codecs 0 to 2 and 4. -/
import Derived.Test.YtlgdomajdebbdaaGreatDoorBitsB
import Derived.Test.YtlgdomajdebbdaaGreatDoorVars
set_option linter.all false
namespace Go.Am.Ab
open Go.Proofs
set_option maxHeartbeats 4000000
abbrev ints (l:List Int):D:= .list (l.map λn=>D.int .i64 n)
def zah (n:Int):Prop:= -9223372036854775808<=n/\n<=9223372036854775807
def zcS (x:Int):zah (IntKind.i64.wrap x):=by unfold zah;rw[zat];split <;> omega
def zbv (l:List Int):List UInt8:=l.flatMap za1
def zfM (l:List Int) (n:Int):zbv (l++[n])=zbv l++za1 n:=by simp[zbv]
def za4 {n:Int} (h:zah n):(za1 n).length<=10:=zaZ (zoZ h.1 h.2)
def zfb {l:List Int} (h: ∀n∈l,zah n):(zbv l).length<=10*l.length:=by
 induction l with
 |nil=>simp[zbv]
 |cons n l ih=>
  have h1:=za4 (h n (by simp))
  have h2:=ih λm hm=>h m (by simp[hm])
  simp only[zbv,List.flatMap_cons,List.length_append,List.length_cons]at*;omega
def zqa (l:List Int) (hl: ∀n∈l,zah n) (hn:l.length<=256):R 215 [.d (ints l)] []=some ([.arr 0 (zbv l).length],[.arr 1 (bytes (zbv l)) 0]):=by
 refine rg zEI rfl ?_;intro T hT;simp -dsimp -implicitDefEqProofs (disch:=first|omega|assumption)
 generalize hz:zac _ _ _ _ _ _=z;revert z;refine zaa (σ:=Nat) (λi=>[(3,.arr 0 (zbv (l.take i)).length),(6,.d (ints l)),(7,.d (.int .i64 l.length)),(8,.d (.int .i64 i))]) (λi=>[.arr 1 (bytes (zbv (l.take i))) 0]) (λi=>i<=l.length) (λi=>l.length - i) 0 ?_ ?_ ?_
 ·simp
 ·simp -dsimp -implicitDefEqProofs (disch:=first|omega|assumption) [zbv]
 intro T' f hT' i hi ih
 by_cases h1:i<l.length
 ·have hb:=hl l[i] (by simp)
  have hp:=zcR l[i] hb.1 hb.2;have hlen:=za4 hb;have hlen2:=zfb (l:=l.take i) λn h=>hl n (List.mem_of_mem_take h)
  rw[List.length_take]at hlen2;simp -dsimp -implicitDefEqProofs (disch:=first|omega|assumption) [h1,hp]
  refine ih (i+1) _ _ h1 (by omega) ?_
  rw[zam h1,zfM];simp -dsimp -implicitDefEqProofs (disch:=first|omega|assumption)
 ·rw[List.take_of_length_le (by omega)]
  subst hT';simp -dsimp -implicitDefEqProofs (disch:=first|omega|assumption) [h1]
  simpa -dsimp -implicitDefEqProofs (disch:=first|omega|assumption) using hT
def zcK:Int->List Int->List Int
 |_,[]=>[]
 |a,n::r=>IntKind.i64.wrap (n - a)::zcK n r
def zdi (l:List Int):List UInt8:=zbv (zcK 0 l)
def zmq: ∀ (l:List Int) (a:Int), ∀n∈zcK a l,zah n
 |[],_,_,h=>by simp[zcK]at h
 |n::r,a,m,h=>by
  simp only[zcK,List.mem_cons]at h;rcases h with rfl | h
  ·exact zcS _
  ·exact zmq r n m h
def zgf: ∀ (l:List Int) (a:Int),(zcK a l).length=l.length
 |[],_=>rfl
 |n::r,a=>by simp[zcK,zgf r n]
def zfN (n:Int) (l:List Int):zbv (n::l)=za1 n++zbv l:=rfl
def zgS (l:List Int):(zdi l).length<=10*l.length:=by
 have:=zfb (zmq l 0)
 rwa [zgf]at this
def zqb (l:List Int) (hl: ∀n∈l,zah n) (hn:l.length<=256):R 216 [.d (ints l)] []=some ([.arr 0 (zdi l).length],[.arr 1 (bytes (zdi l)) 0]):=by
 have htot:=zgS l;refine rg zEJ rfl ?_;intro T hT;simp -dsimp -implicitDefEqProofs (disch:=first|omega|assumption)
 generalize hz:zac _ _ _ _ _ _=z;revert z;refine zaa (σ:=Nat × Int × List UInt8) (λx=>[(3,.arr 0 x.2.2.length),(4,.d (.int .i64 x.2.1)),(7,.d (ints l)),(8,.d (.int .i64 l.length)),(9,.d (.int .i64 x.1))]) (λx=>[.arr 1 (bytes x.2.2) 0]) (λx=>x.1<=l.length/\zah x.2.1/\x.2.2++zbv (zcK x.2.1 (l.drop x.1))=zdi l) (λx=>l.length - x.1) (0,0,[]) ?_ ?_ ?_
 ·exact⟨by simp,⟨by decide,by decide⟩,rfl⟩
 ·simp -dsimp -implicitDefEqProofs (disch:=first|omega|assumption)
 intro T' f hT' ⟨i,a,bs⟩ ⟨hi,ha,he⟩ ih;simp only at hi ha he ih
 by_cases h1:i<l.length
 ·have hb:=hl l[i] (by simp)
  have hw:=zcS (l[i] - a);have hp:=zcR (IntKind.i64.wrap (l[i] - a)) hw.1 hw.2;rw[List.drop_eq_getElem_cons h1,zcK,zfN]at he;have hlen:bs.length+(za1 (IntKind.i64.wrap (l[i] - a))).length<=(zdi l).length:=by rw[<- he];simp <;> omega
  obtain⟨d,hd⟩: ∃d,d=IntKind.i64.wrap (l[i] - a):=⟨_,rfl⟩;rw[<- hd]at hp he hlen;have hd':IntKind.i64.wrap (l[i] - a)=d:=hd.symm;simp -dsimp -implicitDefEqProofs (disch:=first|omega|assumption) [h1,hd',hp]
  refine ih (i+1,l[i],bs++za1 d) _ _ ⟨h1,hb,by rw[<- he];simp⟩ (by simp only;omega) ?_
  simp -dsimp -implicitDefEqProofs (disch:=first|omega|assumption)
 ·rw[List.drop_of_length_le (by omega),zcK]at he
  simp only[zbv,List.flatMap_nil,List.append_nil]at he;subst hT';rw[<- he]at hT htot;simp -dsimp -implicitDefEqProofs (disch:=first|omega|assumption) [h1]
  simpa -dsimp -implicitDefEqProofs (disch:=first|omega|assumption) using hT
def cnt (x:Int):List Int->Nat
 |[]=>0
 |y::r=>if y=x then cnt x r+1 else 0
def zo1 (x:Int): ∀l,cnt x l<=l.length
 |[]=>by simp[cnt]
 |y::r=>by have:=zo1 x r;simp only[cnt,List.length_cons];split <;> omega
def zgg:Nat->List Int->List UInt8
 |0,_=>[]
 |_,[]=>[]
 |k+1,x::r=>za1 x++(put (cnt x r+1)++zgg k (r.drop (cnt x r)))
def zcT (l:List Int):List UInt8:=zgg l.length l
def zo2: ∀ (k j:Nat) (l:List Int),l.length<=k->l.length<=j->zgg k l=zgg j l
 |0,0,_,_,_=>rfl
 |0,j+1,l,h,_=>by
  have:l=[]:=by simpa using h
  subst this;rfl
 |k+1,0,l,_,h=>by
  have:l=[]:=by simpa using h
  subst this;rfl
 |k+1,j+1,[],_,_=>rfl
 |k+1,j+1,x::r,h1,h2=>by
  simp only[List.length_cons]at h1 h2;simp only[zgg];rw[zo2 k j _ (by simp;omega) (by simp;omega)]
def zgT {x:Int} {l r:List Int} (h:l=x::r):zcT l=za1 x++(put (cnt x l)++zcT (l.drop (cnt x l))):=by
 subst h;have e:cnt x (x::r)=cnt x r+1:=by simp[cnt]
 rw[e,List.drop_succ_cons];unfold zcT;simp only[List.length_cons,zgg];rw[zo2 r.length _ _ (by simp) (Nat.le_refl _)]
def zgh: ∀ (k:Nat) (l:List Int),(∀n∈l,zah n)->l.length<=1000000->l.length<=k->(zgg k l).length<=20*l.length
 |0,_,_,_,_=>by simp[zgg]
 |k+1,[],_,_,_=>by simp[zgg]
 |k+1,x::r,h,h2,h3=>by
  simp only[List.length_cons]at h2 h3;have h4:=zo1 x r;have h1:=za4 (h x (by simp))
  have h5:=zaZ (n:=cnt x r+1) (by omega)
  have h6:=zgh k (r.drop (cnt x r)) (λn hn=>h n (by simp[List.mem_of_mem_drop hn])) (by simp;omega) (by simp;omega)
  simp only[zgg,List.length_append,List.length_cons];simp only[List.length_drop]at h6;omega
def zrP (l:List Int) (hl: ∀n∈l,zah n) (hn:l.length<=256):R 217 [.d (ints l)] []=some ([.arr 0 (zcT l).length],[.arr 1 (bytes (zcT l)) 0]):=by
 have htot:(zcT l).length<=20*l.length:=zgh _ l hl (by omega) (Nat.le_refl _)
 refine rg zEK rfl ?_;intro T hT;simp -dsimp -implicitDefEqProofs (disch:=first|omega|assumption)
 generalize hz:zac _ _ _ _ _ _=z;revert z;refine zaa (σ:=Nat × List UInt8) (λx=>[(0,.d (ints l)),(3,.arr 0 x.2.length),(4,.d (.int .i64 x.1))]) (λx=>[.arr 1 (bytes x.2) 0]) (λx=>x.1<=l.length/\x.2++zcT (l.drop x.1)=zcT l) (λx=>l.length - x.1) (0,[]) ?_ ?_ ?_
 ·exact⟨by simp,rfl⟩
 ·simp -dsimp -implicitDefEqProofs (disch:=first|omega|assumption)
 intro T' f hT' ⟨i,bs⟩ ⟨hi,he⟩ ih;simp only at hi he ih
 by_cases h1:i<l.length
 ·have hb:=hl l[i] (by simp)
  have hp:=zcR l[i] hb.1 hb.2;have hd:=List.drop_eq_getElem_cons h1;rw[zgT hd]at he;have hcl:=zo1 l[i] (l.drop i);rw[List.length_drop]at hcl;have hcp:0<cnt l[i] (l.drop i):=by rw[hd];simp[cnt]
  obtain⟨c,hc⟩: ∃c,c=cnt l[i] (l.drop i):=⟨_,rfl⟩;rw[<- hc]at he hcl hcp;rw[List.drop_drop]at he;have hq:=zcl c (by omega)
  have hlen:bs.length+(za1 l[i]).length+(put c).length<=(zcT l).length:=by rw[<- he];simp <;> omega
  simp -dsimp -implicitDefEqProofs (disch:=first|omega|assumption) [h1]
  generalize hz:zac _ _ _ _ _ _=z;revert z;refine zaa (σ:=Nat) (λk=>[(0,.d (ints l)),(3,.arr 0 bs.length),(4,.d (.int .i64 i)),(5,.d (.int .i64 k))]) (λk=>[.arr 1 (bytes bs) 0]) (λk=>i<=k/\k<=l.length/\c=(k - i)+cnt l[i] (l.drop k)) (λk=>l.length - k) i ?_ ?_ ?_
  ·exact⟨Nat.le_refl _,hi,by rw[hc];omega⟩
  ·simp
  intro T2 f2 hT2 k ⟨hk1,hk2,hk3⟩ ih2;have out: ∀s1:Slots,zak s1 0= .d (ints l)->zak s1 3= .arr 0 bs.length->zak s1 4= .d (.int .i64 i)->zak s1 5= .d (.int .i64 k)->c=k - i->T2 (some (.exit 2,s1,[.arr 1 (bytes bs) 0])):=by
   intro s1 e0 e3 e4 e5 hw;subst hT2;have hki:((k:Int) - i)=(c:Int):=by omega
   have hcw:IntKind.u64.wrap (c:Int)=c:=zae (by omega) (by omega)
   simp -dsimp -implicitDefEqProofs (disch:=first|omega|assumption) [e0,e3,e4,e5,hki,hcw,hp,hq]
   refine ih (k,bs++(za1 l[i]++put c)) _ _ ⟨hk2,by rw[<- he,show k=i+c by omega];simp⟩ (by simp only;omega) ?_
   simp -dsimp -implicitDefEqProofs (disch:=first|omega|assumption) [e0,e3,e4,e5,Nat.add_assoc]
  by_cases h2:k<l.length
  ·rw[List.drop_eq_getElem_cons h2,cnt]at hk3
   by_cases h3:l[k]=l[i]
   ·rw[if_pos h3]at hk3
    simp -dsimp -implicitDefEqProofs (disch:=first|omega|assumption) [h1,h2,h3]
    exact ih2 (k+1) _ _ ⟨by omega,h2,by omega⟩ (by omega) (by simp -dsimp -implicitDefEqProofs (disch:=first|omega|assumption))
   ·rw[if_neg h3]at hk3
    simp -dsimp -implicitDefEqProofs (disch:=first|omega|assumption) [h1,h2,h3]
    exact out _ (by simp) (by simp) (by simp) (by simp) (by omega)
  ·rw[List.drop_of_length_le (by omega),cnt]at hk3
   simp -dsimp -implicitDefEqProofs (disch:=first|omega|assumption) [h1,h2]
   exact out _ (by simp) (by simp) (by simp) (by simp) (by omega)
 ·rw[List.drop_of_length_le (by omega)]at he
  simp only[zcT,List.length_nil,zgg,List.append_nil]at he;change bs=zcT l at he;subst hT';rw[<- he]at hT htot;simp -dsimp -implicitDefEqProofs (disch:=first|omega|assumption) [h1]
  simpa -dsimp -implicitDefEqProofs (disch:=first|omega|assumption) using hT
end Go.Am.Ab
namespace Go.Am.Ab
open Go.Proofs
set_option maxHeartbeats 4000000
def isNaN_runs (n:Int):R 173 [.d (.int .i64 n)] []=some ([.d (.bool false)],[]):=by
 refine rg zDl rfl ?_;intro T hT;simp -dsimp -implicitDefEqProofs (disch:=first|omega|assumption)
 simpa -dsimp -implicitDefEqProofs (disch:=first|omega|assumption) using hT
def less_runs (a b:Int):R 259 [.d (.int .i64 a),.d (.int .i64 b)] []=some ([.d (.bool (decide (a<b)))],[]):=by
 refine rg zE6 rfl ?_;intro T hT;simp -dsimp -implicitDefEqProofs (disch:=first|omega|assumption) [isNaN_runs]
 simpa -dsimp -implicitDefEqProofs (disch:=first|omega|assumption) using hT
def zk7:List Int->Int
 |[]=>0
 |x::r=>r.foldl min x
def zrQ {l:List Int} (h:l≠[]) (n:Int):zk7 (l++[n])=min (zk7 l) n:=by
 cases l with
 |nil=>exact absurd rfl h
 |cons x r=>simp[zk7]
def zeM: ∀ (l:List Int) (a:Int),l.foldl min a<=a/\(∀n∈l,l.foldl min a<=n)/\(l.foldl min a=a\/l.foldl min a∈l)
 |[],a=>⟨Int.le_refl _,by simp,.inl rfl⟩
 |x::r,a=>by
  obtain⟨h1,h2,h3⟩:=zeM r (min a x);simp only[List.foldl_cons,List.mem_cons];refine⟨by omega,λn hn=> ?_, ?_⟩
  ·rcases hn with rfl | hn
   ·omega
   ·exact h2 n hn
  ·rcases h3 with h3 | h3
   ·rcases Int.le_total a x with h | h
    ·left;omega
    ·right;left;omega
   ·exact .inr (.inr h3)
def zk8 {l:List Int}: ∀n∈l,zk7 l<=n:=by
 cases l with
 |nil=>simp
 |cons x r=>
  intro n hn;obtain⟨h1,h2,-⟩:=zeM r x;rcases List.mem_cons.1 hn with rfl | hn
  ·exact h1
  ·exact h2 n hn
def zek {l:List Int} (h:l≠[]):zk7 l∈l:=by
 cases l with
 |nil=>exact absurd rfl h
 |cons x r=>
  obtain⟨-,-,h3⟩:=zeM r x;rcases h3 with h3 | h3
  ·simp only[zk7,h3,List.mem_cons,true_or]
  ·exact List.mem_cons_of_mem _ h3
def zt7 (l:List Int) (h0:l≠[]) (hn:l.length<=256):R 238 [.d (ints l)] []=some ([.d (.int .i64 (zk7 l))],[]):=by
 have hlen:0<l.length:=Nat.pos_of_ne_zero (by simpa using h0)
 have a1: ¬ (l.length:Int)<1:=by omega
 refine rg zEU rfl ?_;intro T hT;simp -dsimp -implicitDefEqProofs (disch:=first|omega|assumption) [a1,hlen,h0]
 generalize hz:zac _ _ _ _ _ _=z;revert z;refine zaa (σ:=Nat) (λi=>[(0,.d (ints l)),(3,.d (.int .i64 (zk7 (l.take i)))),(4,.d (.int .i64 i))]) (λi=>[]) (λi=>1<=i/\i<=l.length) (λi=>l.length - i) 1 ?_ ?_ ?_
 ·exact⟨Nat.le_refl _,hlen⟩
 ·cases l with
  |nil=>exact absurd rfl h0
  |cons x r=>simp -dsimp -implicitDefEqProofs (disch:=first|omega|assumption) [zk7]
 intro T' f hT' i ⟨hi1,hi⟩ ih
 by_cases h1:i<l.length
 ·have hm:zk7 (l.take (i+1))=min (zk7 (l.take i)) l[i]:=by
   rw[zam h1,zrQ];intro h;have:=congrArg List.length h;rw[List.length_take,List.length_nil]at this;omega
  simp -dsimp -implicitDefEqProofs (disch:=first|omega|assumption) [h1]
  refine ih (i+1) _ _ ⟨by omega,h1⟩ (by omega) ?_
  rw[hm];simp -dsimp -implicitDefEqProofs (disch:=first|omega|assumption)
  try omega
 ·rw[List.take_of_length_le (by omega)]
  subst hT';simp -dsimp -implicitDefEqProofs (disch:=first|omega|assumption) [h1]
  simpa -dsimp -implicitDefEqProofs (disch:=first|omega|assumption) using hT
def zkh (l:List Nat) (hl: ∀n∈l,n<18446744073709551616) (hn:l.length<=256):R 237 [.d (ziE l)] []=some ([.arr 0 (zbd (zba l) l).length],[.arr 1 (bytes (zbd (zba l) l)) 0]):=by
 have h1:=ze8 l hl (by omega)
 have h2:=zoW l (zba l) hl (zbN hl) hn (Nat.le_refl _);refine rg zET rfl ?_;intro T hT;simp -dsimp -implicitDefEqProofs (disch:=first|omega|assumption) [h1,h2]
 simpa -dsimp -implicitDefEqProofs (disch:=first|omega|assumption) using hT
def zgU (f:Int->Nat) (l:List Int) (i:Nat):List D:=((l.take i).map f++List.replicate (l.length - i) 0).map λ(n:Nat)=>D.int .u64 (n:Int)
def zeN (f:Int->Nat) (l:List Int) (i:Nat) (h:i<=l.length):(zgU f l i).length=l.length:=by simp[zgU];omega
def zvH {α:Type} (A R:List α) (x v:α) (i:Nat) (h:A.length=i):(A++x::R).set i v=A++v::R:=by
 subst h;simp[List.set_append]
def ziK (f:Int->Nat) (l:List Int) (i:Nat) (h:i<l.length):(zgU f l i).set i (.int .u64 (f l[i]:Int))=zgU f l (i+1):=by
 unfold zgU;rw[show l.length - i=(l.length - (i+1))+1 by omega,List.replicate_succ,zam h,<- List.map_set,zvH _ _ _ _ i (by simp;omega),List.map_append (f:=f),List.append_assoc]
 rfl
def zmr (f:Int->Nat) (l:List Int):zgU f l l.length=(l.map f).map λ(n:Nat)=>D.int .u64 (n:Int):=by simp[zgU]
def zbA (l:List Int):List Nat:=l.map λn=>(n - zk7 l).toNat
def zbO (l:List Int):List UInt8:=if l=[] then [] else za1 (zk7 l)++(put (zba (zbA l))++zbd (zba (zbA l)) (zbA l))
def zfc {l:List Int} (hl: ∀n∈l,zah n): ∀n∈zbA l,n<18446744073709551616:=by
 intro n hn;simp only[zbA,List.mem_map]at hn;obtain⟨m,hm,rfl⟩:=hn;have h1:=hl m hm;have h2:=hl _ (zek (l:=l) (by rintro rfl;simp at hm))
 unfold zah at h1 h2;omega
def zcU {w:Nat} {l:List Nat} (hw:w<=64) (hn:l.length<=256):(zbd w l).length<=2048:=by
 have:l.length*w<=256*64:=Nat.mul_le_mul hn hw;simp only[zbd,ziF];omega
def zqc:R 219 [.d (ints [])] []=some ([.arr 0 0],[.arr 1 [] 0]):=by
 refine rg zDu rfl ?_;intro T hT;simp -dsimp -implicitDefEqProofs (disch:=first|omega|assumption)
 simpa -dsimp -implicitDefEqProofs (disch:=first|omega|assumption) using hT
def zms (l:List Int) (h0:l≠[]) (hl: ∀n∈l,zah n) (hn:l.length<=256):R 219 [.d (ints l)] []=some ([.arr 0 (zbO l).length],[.arr 1 (bytes (zbO l)) 0]):=by
 have hlen:0<l.length:=Nat.pos_of_ne_zero (by simpa using h0)
 have a1: ¬ (l.length:Int)=0:=by omega
 have hmin:=zt7 l h0 hn;have hmlt:=zfc hl;have hml:(zbA l).length<=256:=by simpa[zbA]using hn
 have hw:=ze8 (zbA l) hmlt (by omega)
 have hw64:=zbN hmlt;have hpk:=zkh (zbA l) hmlt hml;have hplen:=zcU hw64 hml;obtain⟨wd,hwd⟩: ∃wd,wd=zba (zbA l):=⟨_,rfl⟩;have hput:=zcl wd (by omega)
 have hputl:=zaZ (n:=wd) (by omega)
 obtain⟨m,hm⟩: ∃m,m=zk7 l:=⟨_,rfl⟩;have hmi:zah m:=by rw[hm];exact hl _ (zek h0)
 have hpi:=zcR m hmi.1 hmi.2;have hpil:=za4 hmi;have hB:zbO l=za1 m++(put wd++zbd wd (zbA l)):=by unfold zbO;rw[if_neg h0,<- hm,<- hwd]
 rw[<- hwd]at hw hw64 hpk hplen;rw[<- hm]at hmin;rw[hB];have hend:=zmr (λn=>(n - m).toNat) l
 have hmo:l.map (λn=>(n - m).toNat)=zbA l:=by rw[hm];rfl
 rw[hmo]at hend;refine rg zDu rfl ?_;intro T hT;simp -dsimp -implicitDefEqProofs (disch:=first|omega|assumption) [h0,hmin]
 generalize hz:zac _ _ _ _ _ _=z;revert z;refine zaa (σ:=Nat) (λi=>[(3,.d (.int .i64 m)),(4,.arr 0 l.length),(16,.d (ints l)),(17,.d (.int .i64 l.length)),(18,.d (.int .i64 i))]) (λi=>[.arr 1 (zgU (λn=>(n - m).toNat) l i) 0]) (λi=>i<=l.length) (λi=>l.length - i) 0 ?_ ?_ ?_
 ·simp
 ·simp -dsimp -implicitDefEqProofs (disch:=first|omega|assumption) [zgU]
 intro T' f hT' i hi ih
 by_cases h1:i<l.length
 ·have hb:=hl l[i] (by simp)
  have hle:m<=l[i]:=by rw[hm];exact zk8 _ (by simp)
  have hset:=ziK (λn=>(n - m).toNat) l i h1
  have hrl:=zeN (λn=>(n - m).toNat) l i hi
  obtain⟨v,hv⟩: ∃v:Nat,(v:Int)=l[i] - m:=⟨(l[i] - m).toNat,by omega⟩
  have hvv:(l[i] - m).toNat=v:=by omega
  simp only[hvv]at hset;unfold zah at hb hmi;have hsub:IntKind.u64.wrap (IntKind.u64.wrap l[i] - IntKind.u64.wrap m)=v:=by rw[zab,zab,zab];omega
  simp -dsimp -implicitDefEqProofs (disch:=first|omega|assumption) [h1,hsub,hset,hrl]
  exact ih (i+1) _ _ h1 (by omega) (by simp -dsimp -implicitDefEqProofs (disch:=first|omega|assumption))
 ·obtain rfl:i=l.length:=by omega
  have hmlen:(zbA l).length=l.length:=by simp[zbA]
  rw[hend];subst hT';simp -dsimp -implicitDefEqProofs (disch:=first|omega|assumption) [h1,hw,hput,hpi,hpk,hmlen,zae]
  simpa -dsimp -implicitDefEqProofs (disch:=first|omega|assumption) [Nat.add_assoc]using hT
end Go.Am.Ab
