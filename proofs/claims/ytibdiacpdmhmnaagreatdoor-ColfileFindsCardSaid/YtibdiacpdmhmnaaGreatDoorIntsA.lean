/- Lists by codecs 0 to 2 and 4. -/
import Derived.Test.YtibdiacpdmhmnaaGreatDoorVars
import Derived.Test.YtibdiacpdmhmnaaGreatDoorBitsB
set_option linter.all false
namespace Go.Am.Ab
open Go.Proofs
set_option maxHeartbeats 4000000
abbrev ints (l:List Int):D:= .list (l.map λn=>D.int .i64 n)
def zah (n:Int):Prop:= -9223372036854775808<=n/\n<=9223372036854775807
def zen (x:Int):zah (IntKind.i64.wrap x):=by unfold zah;rw[za0];split <;> omega
def zbC (l:List Int):List UInt8:=l.flatMap zbe
def zp4 (l:List Int) (n:Int):zbC (l++[n])=zbC l++zbe n:=by simp[zbC]
def zbp {n:Int} (h:zah n):(zbe n).length<=10:=zaq (zre h.1 h.2)
def zfr {l:List Int} (h: ∀n∈l,zah n):(zbC l).length<=10*l.length:=by
 induction l with
 |nil=>simp[zbC]
 |cons n l ih=>
  have h1:=zbp (h n (by simp))
  have h2:=ih λm hm=>h m (by simp[hm])
  simp only[zbC,ya5,yae,yaf]at*;omega
def zsY (l:List Int) (hl: ∀n∈l,zah n) (hn:l.length<=256):R 159 [.d (ints l)] []=some ([.arr 0 (zbC l).length],[.arr 1 (bytes (zbC l)) 0]):=by
 refine rg zKc rfl ?_;intro T hT;simp -dsimp -implicitDefEqProofs (disch:=omega)
 generalize hz:zaf _ _ _ _ _ _=z;revert z;refine zaa (σ:=Nat) (λi=>[(3,.arr 0 (zbC (l.take i)).length),(6,.d (ints l)),(7,.d (.int .i64 l.length)),(8,.d (.int .i64 i))]) (λi=>[.arr 1 (bytes (zbC (l.take i))) 0]) (λi=>i<=l.length) (λi=>l.length - i) 0 ?_ ?_ ?_
 ·simp
 ·simp -dsimp -implicitDefEqProofs (disch:=omega) [zbC]
 intro T' f hT' i hi ih
 by_cases h1:i<l.length
 ·have hb:=hl l[i] (by simp)
  have hp:=zcc l[i] hb.1 hb.2;have hlen:=zbp hb;have hlen2:=zfr (l:=l.take i) λn h=>hl n (yaH h)
  rw[yaq]at hlen2;simp -dsimp -implicitDefEqProofs (disch:=omega) [h1,hp]
  refine ih (i+1) _ _ h1 (by omega) ?_
  rw[zaN h1,zp4];simp -dsimp -implicitDefEqProofs (disch:=omega)
 ·rw[yaA (by omega)]
  subst hT';simp -dsimp -implicitDefEqProofs (disch:=omega) [h1]
  simpa -dsimp -implicitDefEqProofs (disch:=omega) using hT
def zey:Int->List Int->List Int
 |_,[]=>[]
 |a,n::r=>IntKind.i64.wrap (n - a)::zey n r
def zlJ (l:List Int):List UInt8:=zbC (zey 0 l)
def zof: ∀ (l:List Int) (a:Int), ∀n∈zey a l,zah n
 |[],_,_,h=>by simp[zey]at h
 |n::r,a,m,h=>by
  simp only[zey,ybI]at h;rcases h with rfl | h
  ·exact zen _
  ·exact zof r n m h
def zg2: ∀ (l:List Int) (a:Int),(zey a l).length=l.length
 |[],_=>rfl
 |n::r,a=>by simp[zey,zg2 r n]
def zgh (n:Int) (l:List Int):zbC (n::l)=zbe n++zbC l:=rfl
def zlK (l:List Int):(zlJ l).length<=10*l.length:=by
 have:=zfr (zof l 0)
 rwa [zg2]at this
def zsZ (l:List Int) (hl: ∀n∈l,zah n) (hn:l.length<=256):R 160 [.d (ints l)] []=some ([.arr 0 (zlJ l).length],[.arr 1 (bytes (zlJ l)) 0]):=by
 have htot:=zlK l;refine rg zKd rfl ?_;intro T hT;simp -dsimp -implicitDefEqProofs (disch:=omega)
 generalize hz:zaf _ _ _ _ _ _=z;revert z;refine zaa (σ:=Nat × Int × List UInt8) (λx=>[(3,.arr 0 x.2.2.length),(4,.d (.int .i64 x.2.1)),(7,.d (ints l)),(8,.d (.int .i64 l.length)),(9,.d (.int .i64 x.1))]) (λx=>[.arr 1 (bytes x.2.2) 0]) (λx=>x.1<=l.length/\zah x.2.1/\x.2.2++zbC (zey x.2.1 (l.drop x.1))=zlJ l) (λx=>l.length - x.1) (0,0,[]) ?_ ?_ ?_
 ·exact⟨by simp,⟨by decide,by decide⟩,rfl⟩
 ·simp -dsimp -implicitDefEqProofs (disch:=omega)
 intro T' f hT' ⟨i,a,bs⟩ ⟨hi,ha,he⟩ ih;simp only at hi ha he ih
 by_cases h1:i<l.length
 ·have hb:=hl l[i] (by simp)
  have hw:=zen (l[i] - a);have hp:=zcc (IntKind.i64.wrap (l[i] - a)) hw.1 hw.2;rw[yao h1,zey,zgh]at he;have hlen:bs.length+(zbe (IntKind.i64.wrap (l[i] - a))).length<=(zlJ l).length:=by rw[<- he];simp <;> omega
  obtain⟨d,hd⟩: ∃d,d=IntKind.i64.wrap (l[i] - a):=⟨_,rfl⟩;rw[<- hd]at hp he hlen;have hd':IntKind.i64.wrap (l[i] - a)=d:=hd.symm;simp -dsimp -implicitDefEqProofs (disch:=omega) [h1,hd',hp]
  refine ih (i+1,l[i],bs++zbe d) _ _ ⟨h1,hb,by rw[<- he];simp⟩ (by simp only;omega) ?_
  simp -dsimp -implicitDefEqProofs (disch:=omega)
 ·rw[yaJ (by omega),zey]at he
  simp only[zbC,List.flatMap_nil,yap]at he;subst hT';rw[<- he]at hT htot;simp -dsimp -implicitDefEqProofs (disch:=omega) [h1]
  simpa -dsimp -implicitDefEqProofs (disch:=omega) using hT
def cnt (x:Int):List Int->Nat
 |[]=>0
 |y::r=>if y=x then cnt x r+1 else 0
def zri (x:Int): ∀l,cnt x l<=l.length
 |[]=>by simp[cnt]
 |y::r=>by have:=zri x r;simp only[cnt,yaf];split <;> omega
def zj0:Nat->List Int->List UInt8
 |0,_=>[]
 |_,[]=>[]
 |k+1,x::r=>zbe x++(put (cnt x r+1)++zj0 k (r.drop (cnt x r)))
def zg3 (l:List Int):List UInt8:=zj0 l.length l
def zrj: ∀ (k j:Nat) (l:List Int),l.length<=k->l.length<=j->zj0 k l=zj0 j l
 |0,0,_,_,_=>rfl
 |0,j+1,l,h,_=>by
  have:l=[]:=by simpa using h
  subst this;rfl
 |k+1,0,l,_,h=>by
  have:l=[]:=by simpa using h
  subst this;rfl
 |k+1,j+1,[],_,_=>rfl
 |k+1,j+1,x::r,h1,h2=>by
  simp only[yaf]at h1 h2;simp only[zj0];rw[zrj k j _ (by simp;omega) (by simp;omega)]
def zlL {x:Int} {l r:List Int} (h:l=x::r):zg3 l=zbe x++(put (cnt x l)++zg3 (l.drop (cnt x l))):=by
 subst h;have e:cnt x (x::r)=cnt x r+1:=by simp[cnt]
 rw[e,List.drop_succ_cons];unfold zg3;simp only[yaf,zj0];rw[zrj r.length _ _ (by simp) (yaj _)]
def zj1: ∀ (k:Nat) (l:List Int),(∀n∈l,zah n)->l.length<=1000000->l.length<=k->(zj0 k l).length<=20*l.length
 |0,_,_,_,_=>by simp[zj0]
 |k+1,[],_,_,_=>by simp[zj0]
 |k+1,x::r,h,h2,h3=>by
  simp only[yaf]at h2 h3;have h4:=zri x r;have h1:=zbp (h x (by simp))
  have h5:=zaq (n:=cnt x r+1) (by omega)
  have h6:=zj1 k (r.drop (cnt x r)) (λn hn=>h n (by simp[ybF hn])) (by simp;omega) (by simp;omega)
  simp only[zj0,yae,yaf];simp only[yax]at h6;omega
def zu2 (l:List Int) (hl: ∀n∈l,zah n) (hn:l.length<=256):R 161 [.d (ints l)] []=some ([.arr 0 (zg3 l).length],[.arr 1 (bytes (zg3 l)) 0]):=by
 have htot:(zg3 l).length<=20*l.length:=zj1 _ l hl (by omega) (yaj _)
 refine rg zKe rfl ?_;intro T hT;simp -dsimp -implicitDefEqProofs (disch:=omega)
 generalize hz:zaf _ _ _ _ _ _=z;revert z;refine zaa (σ:=Nat × List UInt8) (λx=>[(0,.d (ints l)),(3,.arr 0 x.2.length),(4,.d (.int .i64 x.1))]) (λx=>[.arr 1 (bytes x.2) 0]) (λx=>x.1<=l.length/\x.2++zg3 (l.drop x.1)=zg3 l) (λx=>l.length - x.1) (0,[]) ?_ ?_ ?_
 ·exact⟨by simp,rfl⟩
 ·simp -dsimp -implicitDefEqProofs (disch:=omega)
 intro T' f hT' ⟨i,bs⟩ ⟨hi,he⟩ ih;simp only at hi he ih
 by_cases h1:i<l.length
 ·have hb:=hl l[i] (by simp)
  have hp:=zcc l[i] hb.1 hb.2;have hd:=yao h1;rw[zlL hd]at he;have hcl:=zri l[i] (l.drop i);rw[yax]at hcl;have hcp:0<cnt l[i] (l.drop i):=by rw[hd];simp[cnt]
  obtain⟨c,hc⟩: ∃c,c=cnt l[i] (l.drop i):=⟨_,rfl⟩;rw[<- hc]at he hcl hcp;rw[ycI]at he;have hq:=zaZ c (by omega)
  have hlen:bs.length+(zbe l[i]).length+(put c).length<=(zg3 l).length:=by rw[<- he];simp <;> omega
  simp -dsimp -implicitDefEqProofs (disch:=omega) [h1]
  generalize hz:zaf _ _ _ _ _ _=z;revert z;refine zaa (σ:=Nat) (λk=>[(0,.d (ints l)),(3,.arr 0 bs.length),(4,.d (.int .i64 i)),(5,.d (.int .i64 k))]) (λk=>[.arr 1 (bytes bs) 0]) (λk=>i<=k/\k<=l.length/\c=(k - i)+cnt l[i] (l.drop k)) (λk=>l.length - k) i ?_ ?_ ?_
  ·exact⟨yaj _,hi,by rw[hc];omega⟩
  ·simp
  intro T2 f2 hT2 k ⟨hk1,hk2,hk3⟩ ih2;have out: ∀s1:Slots,zbF s1 0= .d (ints l)->zbF s1 3= .arr 0 bs.length->zbF s1 4= .d (.int .i64 i)->zbF s1 5= .d (.int .i64 k)->c=k - i->T2 (some (.exit 2,s1,[.arr 1 (bytes bs) 0])):=by
   intro s1 e0 e3 e4 e5 hw;subst hT2;have hki:((k:Int) - i)=(c:Int):=by omega
   have hcw:IntKind.u64.wrap (c:Int)=c:=zal (by omega) (by omega)
   simp -dsimp -implicitDefEqProofs (disch:=omega) [e0,e3,e4,e5,hki,hcw,hp,hq]
   refine ih (k,bs++(zbe l[i]++put c)) _ _ ⟨hk2,by rw[<- he,show k=i+c by omega];simp⟩ (by simp only;omega) ?_
   simp -dsimp -implicitDefEqProofs (disch:=omega) [e0,e3,e4,e5,yaY]
  by_cases h2:k<l.length
  ·rw[yao h2,cnt]at hk3
   by_cases h3:l[k]=l[i]
   ·rw[yag h3]at hk3
    simp -dsimp -implicitDefEqProofs (disch:=omega) [h1,h2,h3]
    exact ih2 (k+1) _ _ ⟨by omega,h2,by omega⟩ (by omega) (by simp -dsimp -implicitDefEqProofs (disch:=omega))
   ·rw[yac h3]at hk3
    simp -dsimp -implicitDefEqProofs (disch:=omega) [h1,h2,h3]
    exact out _ (by simp) (by simp) (by simp) (by simp) (by omega)
  ·rw[yaJ (by omega),cnt]at hk3
   simp -dsimp -implicitDefEqProofs (disch:=omega) [h1,h2]
   exact out _ (by simp) (by simp) (by simp) (by simp) (by omega)
 ·rw[yaJ (by omega)]at he
  simp only[zg3,yaz,zj0,yap]at he;change bs=zg3 l at he;subst hT';rw[<- he]at hT htot;simp -dsimp -implicitDefEqProofs (disch:=omega) [h1]
  simpa -dsimp -implicitDefEqProofs (disch:=omega) using hT
end Go.Am.Ab
namespace Go.Am.Ab
open Go.Proofs
set_option maxHeartbeats 4000000
def isNaN_runs (n:Int):R 170 [.d (.int .i64 n)] []=some ([.d (.bool false)],[]):=by
 refine rg zI1 rfl ?_;intro T hT;simp -dsimp -implicitDefEqProofs (disch:=omega)
 simpa -dsimp -implicitDefEqProofs (disch:=omega) using hT
def less_runs (a b:Int):R 200 [.d (.int .i64 a),.d (.int .i64 b)] []=some ([.d (.bool (decide (a<b)))],[]):=by
 refine rg zKn rfl ?_;intro T hT;simp -dsimp -implicitDefEqProofs (disch:=omega) [isNaN_runs]
 simpa -dsimp -implicitDefEqProofs (disch:=omega) using hT
def zpj:List Int->Int
 |[]=>0
 |x::r=>r.foldl min x
def zu3 {l:List Int} (h:l≠[]) (n:Int):zpj (l++[n])=min (zpj l) n:=by
 cases l with
 |nil=>exact absurd rfl h
 |cons x r=>simp[zpj]
def zeU: ∀ (l:List Int) (a:Int),l.foldl min a<=a/\(∀n∈l,l.foldl min a<=n)/\(l.foldl min a=a\/l.foldl min a∈l)
 |[],a=>⟨ydL _,by simp,.inl rfl⟩
 |x::r,a=>by
  obtain⟨h1,h2,h3⟩:=zeU r (min a x);simp only[ybc,ybI];refine⟨by omega,λn hn=> ?_, ?_⟩
  ·rcases hn with rfl | hn
   ·omega
   ·exact h2 n hn
  ·rcases h3 with h3 | h3
   ·rcases Int.le_total a x with h | h
    ·left;omega
    ·right;left;omega
   ·exact .inr (.inr h3)
def zu4 {l:List Int}: ∀n∈l,zpj l<=n:=by
 cases l with
 |nil=>simp
 |cons x r=>
  intro n hn;obtain⟨h1,h2,-⟩:=zeU r x;rcases List.mem_cons.1 hn with rfl | hn
  ·exact h1
  ·exact h2 n hn
def zg4 {l:List Int} (h:l≠[]):zpj l∈l:=by
 cases l with
 |nil=>exact absurd rfl h
 |cons x r=>
  obtain⟨-,-,h3⟩:=zeU r x;rcases h3 with h3 | h3
  ·simp only[zpj,h3,ybI,true_or]
  ·exact yaZ _ h3
def zx7 (l:List Int) (h0:l≠[]) (hn:l.length<=256):R 184 [.d (ints l)] []=some ([.d (.int .i64 (zpj l))],[]):=by
 have hlen:0<l.length:=Nat.pos_of_ne_zero (by simpa using h0)
 have a1: ¬ (l.length:Int)<1:=by omega
 refine rg zKl rfl ?_;intro T hT;simp -dsimp -implicitDefEqProofs (disch:=omega) [a1,hlen,h0]
 generalize hz:zaf _ _ _ _ _ _=z;revert z;refine zaa (σ:=Nat) (λi=>[(0,.d (ints l)),(3,.d (.int .i64 (zpj (l.take i)))),(4,.d (.int .i64 i))]) (λi=>[]) (λi=>1<=i/\i<=l.length) (λi=>l.length - i) 1 ?_ ?_ ?_
 ·exact⟨yaj _,hlen⟩
 ·cases l with
  |nil=>exact absurd rfl h0
  |cons x r=>simp -dsimp -implicitDefEqProofs (disch:=omega) [zpj]
 intro T' f hT' i ⟨hi1,hi⟩ ih
 by_cases h1:i<l.length
 ·have hm:zpj (l.take (i+1))=min (zpj (l.take i)) l[i]:=by
   rw[zaN h1,zu3];intro h;have:=congrArg List.length h;rw[yaq,yaz]at this;omega
  simp -dsimp -implicitDefEqProofs (disch:=omega) [h1]
  refine ih (i+1) _ _ ⟨by omega,h1⟩ (by omega) ?_
  rw[hm];simp -dsimp -implicitDefEqProofs (disch:=omega)
  try omega
 ·rw[yaA (by omega)]
  subst hT';simp -dsimp -implicitDefEqProofs (disch:=omega) [h1]
  simpa -dsimp -implicitDefEqProofs (disch:=omega) using hT
def zlM (l:List Nat) (hl: ∀n∈l,n<18446744073709551616) (hn:l.length<=256):R 183 [.d (zBP l)] []=some ([.arr 0 (zbB (zcM l) l).length],[.arr 1 (bytes (zbB (zcM l) l)) 0]):=by
 have h1:=zfp l hl (by omega)
 have h2:=zrh l (zcM l) hl (zcQ hl) hn (yaj _);refine rg zKk rfl ?_;intro T hT;simp -dsimp -implicitDefEqProofs (disch:=omega) [h1,h2]
 simpa -dsimp -implicitDefEqProofs (disch:=omega) using hT
def zhS (f:Int->Nat) (l:List Int) (i:Nat):List D:=((l.take i).map f++List.replicate (l.length - i) 0).map λ(n:Nat)=>D.int .u64 (n:Int)
def zeV (f:Int->Nat) (l:List Int) (i:Nat) (h:i<=l.length):(zhS f l i).length=l.length:=by simp[zhS];omega
def zAz {α:Type} (A R:List α) (x v:α) (i:Nat) (h:A.length=i):(A++x::R).set i v=A++v::R:=by
 subst h;simp[List.set_append]
def zj2 (f:Int->Nat) (l:List Int) (i:Nat) (h:i<l.length):(zhS f l i).set i (.int .u64 (f l[i]:Int))=zhS f l (i+1):=by
 unfold zhS;rw[show l.length - i=(l.length - (i+1))+1 by omega,yaR,zaN h,<- yce,zAz _ _ _ _ i (by simp;omega),ya7 (f:=f),yan]
 rfl
def zog (f:Int->Nat) (l:List Int):zhS f l l.length=(l.map f).map λ(n:Nat)=>D.int .u64 (n:Int):=by simp[zhS]
def zdq (l:List Int):List Nat:=l.map λn=>(n - zpj l).toNat
def zcR (l:List Int):List UInt8:=if l=[] then [] else zbe (zpj l)++(put (zcM (zdq l))++zbB (zcM (zdq l)) (zdq l))
def zg5 {l:List Int} (hl: ∀n∈l,zah n): ∀n∈zdq l,n<18446744073709551616:=by
 intro n hn;simp only[zdq,ycd]at hn;obtain⟨m,hm,rfl⟩:=hn;have h1:=hl m hm;have h2:=hl _ (zg4 (l:=l) (by rintro rfl;simp at hm))
 unfold zah at h1 h2;omega
def zdX {w:Nat} {l:List Nat} (hw:w<=64) (hn:l.length<=256):(zbB w l).length<=2048:=by
 have:l.length*w<=256*64:=ybA hn hw;simp only[zbB,zjY];omega
def zs0:R 163 [.d (ints [])] []=some ([.arr 0 0],[.arr 1 [] 0]):=by
 refine rg zIZ rfl ?_;intro T hT;simp -dsimp -implicitDefEqProofs (disch:=omega)
 simpa -dsimp -implicitDefEqProofs (disch:=omega) using hT
def zoh (l:List Int) (h0:l≠[]) (hl: ∀n∈l,zah n) (hn:l.length<=256):R 163 [.d (ints l)] []=some ([.arr 0 (zcR l).length],[.arr 1 (bytes (zcR l)) 0]):=by
 have hlen:0<l.length:=Nat.pos_of_ne_zero (by simpa using h0)
 have a1: ¬ (l.length:Int)=0:=by omega
 have hmin:=zx7 l h0 hn;have hmlt:=zg5 hl;have hml:(zdq l).length<=256:=by simpa[zdq]using hn
 have hw:=zfp (zdq l) hmlt (by omega)
 have hw64:=zcQ hmlt;have hpk:=zlM (zdq l) hmlt hml;have hplen:=zdX hw64 hml;obtain⟨wd,hwd⟩: ∃wd,wd=zcM (zdq l):=⟨_,rfl⟩;have hput:=zaZ wd (by omega)
 have hputl:=zaq (n:=wd) (by omega)
 obtain⟨m,hm⟩: ∃m,m=zpj l:=⟨_,rfl⟩;have hmi:zah m:=by rw[hm];exact hl _ (zg4 h0)
 have hpi:=zcc m hmi.1 hmi.2;have hpil:=zbp hmi;have hB:zcR l=zbe m++(put wd++zbB wd (zdq l)):=by unfold zcR;rw[yac h0,<- hm,<- hwd]
 rw[<- hwd]at hw hw64 hpk hplen;rw[<- hm]at hmin;rw[hB];have hend:=zog (λn=>(n - m).toNat) l
 have hmo:l.map (λn=>(n - m).toNat)=zdq l:=by rw[hm];rfl
 rw[hmo]at hend;refine rg zIZ rfl ?_;intro T hT;simp -dsimp -implicitDefEqProofs (disch:=omega) [h0,hmin]
 generalize hz:zaf _ _ _ _ _ _=z;revert z;refine zaa (σ:=Nat) (λi=>[(3,.d (.int .i64 m)),(4,.arr 0 l.length),(16,.d (ints l)),(17,.d (.int .i64 l.length)),(18,.d (.int .i64 i))]) (λi=>[.arr 1 (zhS (λn=>(n - m).toNat) l i) 0]) (λi=>i<=l.length) (λi=>l.length - i) 0 ?_ ?_ ?_
 ·simp
 ·simp -dsimp -implicitDefEqProofs (disch:=omega) [zhS]
 intro T' f hT' i hi ih
 by_cases h1:i<l.length
 ·have hb:=hl l[i] (by simp)
  have hle:m<=l[i]:=by rw[hm];exact zu4 _ (by simp)
  have hset:=zj2 (λn=>(n - m).toNat) l i h1
  have hrl:=zeV (λn=>(n - m).toNat) l i hi
  obtain⟨v,hv⟩: ∃v:Nat,(v:Int)=l[i] - m:=⟨(l[i] - m).toNat,by omega⟩
  have hvv:(l[i] - m).toNat=v:=by omega
  simp only[hvv]at hset;unfold zah at hb hmi;have hsub:IntKind.u64.wrap (IntKind.u64.wrap l[i] - IntKind.u64.wrap m)=v:=by rw[zai,zai,zai];omega
  simp -dsimp -implicitDefEqProofs (disch:=omega) [h1,hsub,hset,hrl]
  exact ih (i+1) _ _ h1 (by omega) (by simp -dsimp -implicitDefEqProofs (disch:=omega))
 ·obtain rfl:i=l.length:=by omega
  have hmlen:(zdq l).length=l.length:=by simp[zdq]
  rw[hend];subst hT';simp -dsimp -implicitDefEqProofs (disch:=omega) [h1,hw,hput,hpi,hpk,hmlen,zal]
  simpa -dsimp -implicitDefEqProofs (disch:=omega) [yaY]using hT
end Go.Am.Ab
