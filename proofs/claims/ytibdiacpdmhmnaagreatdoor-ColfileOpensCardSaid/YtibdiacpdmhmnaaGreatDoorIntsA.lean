/- Lists by codecs 0 to 2 and 4. -/
import Derived.Test.YtibdiacpdmhmnaaGreatDoorBitsB
import Derived.Test.YtibdiacpdmhmnaaGreatDoorVars
set_option linter.all false
namespace Go.Am.Ab
open Go.Proofs
set_option maxHeartbeats 4000000
abbrev ints (l:List Int):D:= .list (l.map λn=>D.int .i64 n)
def zal (n:Int):Prop:= -9223372036854775808<=n/\n<=9223372036854775807
def zec (x:Int):zal (IntKind.i64.wrap x):=by unfold zal;rw[zaZ];split <;> omega
def zbO (l:List Int):List UInt8:=l.flatMap za5
def zfO (l:List Int) (n:Int):zbO (l++[n])=zbO l++za5 n:=by simp[zbO]
def zaP {n:Int} (h:zal n):(za5 n).length<=10:=zan (zsv h.1 h.2)
def ze7 {l:List Int} (h: ∀n∈l,zal n):(zbO l).length<=10*l.length:=by
 induction l with
 |nil=>simp[zbO]
 |cons n l ih=>
  have h1:=zaP (h n (by simp))
  have h2:=ih λm hm=>h m (by simp[hm])
  simp only[zbO,ybB,yaf,yag]at*;omega
def zq0 (l:List Int) (hl: ∀n∈l,zal n) (hn:l.length<=256):R 159 [.d (ints l)] []=some ([.arr 0 (zbO l).length],[.arr 1 (bytes (zbO l)) 0]):=by
 refine rg zGo rfl ?_;intro T hT;simp -dsimp -implicitDefEqProofs (disch:=first|omega|assumption)
 generalize hz:zad _ _ _ _ _ _=z;revert z;refine zaa (σ:=Nat) (λi=>[(3,.arr 0 (zbO (l.take i)).length),(6,.d (ints l)),(7,.d (.int .i64 l.length)),(8,.d (.int .i64 i))]) (λi=>[.arr 1 (bytes (zbO (l.take i))) 0]) (λi=>i<=l.length) (λi=>l.length - i) 0 ?_ ?_ ?_
 ·simp
 ·simp -dsimp -implicitDefEqProofs (disch:=first|omega|assumption) [zbO]
 intro T' f hT' i hi ih
 by_cases h1:i<l.length
 ·have hb:=hl l[i] (by simp)
  have hp:=zce l[i] hb.1 hb.2;have hlen:=zaP hb;have hlen2:=ze7 (l:=l.take i) λn h=>hl n (yaH h)
  rw[yao]at hlen2;simp -dsimp -implicitDefEqProofs (disch:=first|omega|assumption) [h1,hp]
  refine ih (i+1) _ _ h1 (by omega) ?_
  rw[zap h1,zfO];simp -dsimp -implicitDefEqProofs (disch:=first|omega|assumption)
 ·rw[yaw (by omega)]
  subst hT';simp -dsimp -implicitDefEqProofs (disch:=first|omega|assumption) [h1]
  simpa -dsimp -implicitDefEqProofs (disch:=first|omega|assumption) using hT
def zcX:Int->List Int->List Int
 |_,[]=>[]
 |a,n::r=>IntKind.i64.wrap (n - a)::zcX n r
def zdf (l:List Int):List UInt8:=zbO (zcX 0 l)
def zmH: ∀ (l:List Int) (a:Int), ∀n∈zcX a l,zal n
 |[],_,_,h=>by simp[zcX]at h
 |n::r,a,m,h=>by
  simp only[zcX,ybI]at h;rcases h with rfl | h
  ·exact zec _
  ·exact zmH r n m h
def zgn: ∀ (l:List Int) (a:Int),(zcX a l).length=l.length
 |[],_=>rfl
 |n::r,a=>by simp[zcX,zgn r n]
def zok (n:Int) (l:List Int):zbO (n::l)=za5 n++zbO l:=rfl
def zg6 (l:List Int):(zdf l).length<=10*l.length:=by
 have:=ze7 (zmH l 0)
 rwa [zgn]at this
def zq1 (l:List Int) (hl: ∀n∈l,zal n) (hn:l.length<=256):R 160 [.d (ints l)] []=some ([.arr 0 (zdf l).length],[.arr 1 (bytes (zdf l)) 0]):=by
 have htot:=zg6 l;refine rg zGp rfl ?_;intro T hT;simp -dsimp -implicitDefEqProofs (disch:=first|omega|assumption)
 generalize hz:zad _ _ _ _ _ _=z;revert z;refine zaa (σ:=Nat × Int × List UInt8) (λx=>[(3,.arr 0 x.2.2.length),(4,.d (.int .i64 x.2.1)),(7,.d (ints l)),(8,.d (.int .i64 l.length)),(9,.d (.int .i64 x.1))]) (λx=>[.arr 1 (bytes x.2.2) 0]) (λx=>x.1<=l.length/\zal x.2.1/\x.2.2++zbO (zcX x.2.1 (l.drop x.1))=zdf l) (λx=>l.length - x.1) (0,0,[]) ?_ ?_ ?_
 ·exact⟨by simp,⟨by decide,by decide⟩,rfl⟩
 ·simp -dsimp -implicitDefEqProofs (disch:=first|omega|assumption)
 intro T' f hT' ⟨i,a,bs⟩ ⟨hi,ha,he⟩ ih;simp only at hi ha he ih
 by_cases h1:i<l.length
 ·have hb:=hl l[i] (by simp)
  have hw:=zec (l[i] - a);have hp:=zce (IntKind.i64.wrap (l[i] - a)) hw.1 hw.2;rw[yaA h1,zcX,zok]at he;have hlen:bs.length+(za5 (IntKind.i64.wrap (l[i] - a))).length<=(zdf l).length:=by rw[<- he];simp <;> omega
  obtain⟨d,hd⟩: ∃d,d=IntKind.i64.wrap (l[i] - a):=⟨_,rfl⟩;rw[<- hd]at hp he hlen;have hd':IntKind.i64.wrap (l[i] - a)=d:=hd.symm;simp -dsimp -implicitDefEqProofs (disch:=first|omega|assumption) [h1,hd',hp]
  refine ih (i+1,l[i],bs++za5 d) _ _ ⟨h1,hb,by rw[<- he];simp⟩ (by simp only;omega) ?_
  simp -dsimp -implicitDefEqProofs (disch:=first|omega|assumption)
 ·rw[ybj (by omega),zcX]at he
  simp only[zbO,List.flatMap_nil,yau]at he;subst hT';rw[<- he]at hT htot;simp -dsimp -implicitDefEqProofs (disch:=first|omega|assumption) [h1]
  simpa -dsimp -implicitDefEqProofs (disch:=first|omega|assumption) using hT
def cnt (x:Int):List Int->Nat
 |[]=>0
 |y::r=>if y=x then cnt x r+1 else 0
def zsw (x:Int): ∀l,cnt x l<=l.length
 |[]=>by simp[cnt]
 |y::r=>by have:=zsw x r;simp only[cnt,yag];split <;> omega
def zg7:Nat->List Int->List UInt8
 |0,_=>[]
 |_,[]=>[]
 |k+1,x::r=>za5 x++(put (cnt x r+1)++zg7 k (r.drop (cnt x r)))
def zcQ (l:List Int):List UInt8:=zg7 l.length l
def zpv: ∀ (k j:Nat) (l:List Int),l.length<=k->l.length<=j->zg7 k l=zg7 j l
 |0,0,_,_,_=>rfl
 |0,j+1,l,h,_=>by
  have:l=[]:=by simpa using h
  subst this;rfl
 |k+1,0,l,_,h=>by
  have:l=[]:=by simpa using h
  subst this;rfl
 |k+1,j+1,[],_,_=>rfl
 |k+1,j+1,x::r,h1,h2=>by
  simp only[yag]at h1 h2;simp only[zg7];rw[zpv k j _ (by simp;omega) (by simp;omega)]
def zkC {x:Int} {l r:List Int} (h:l=x::r):zcQ l=za5 x++(put (cnt x l)++zcQ (l.drop (cnt x l))):=by
 subst h;have e:cnt x (x::r)=cnt x r+1:=by simp[cnt]
 rw[e,List.drop_succ_cons];unfold zcQ;simp only[yag,zg7];rw[zpv r.length _ _ (by simp) (yab _)]
def zgo: ∀ (k:Nat) (l:List Int),(∀n∈l,zal n)->l.length<=1000000->l.length<=k->(zg7 k l).length<=20*l.length
 |0,_,_,_,_=>by simp[zg7]
 |k+1,[],_,_,_=>by simp[zg7]
 |k+1,x::r,h,h2,h3=>by
  simp only[yag]at h2 h3;have h4:=zsw x r;have h1:=zaP (h x (by simp))
  have h5:=zan (n:=cnt x r+1) (by omega)
  have h6:=zgo k (r.drop (cnt x r)) (λn hn=>h n (by simp[ycm hn])) (by simp;omega) (by simp;omega)
  simp only[zg7,yaf,yag];simp only[yay]at h6;omega
def zsx (l:List Int) (hl: ∀n∈l,zal n) (hn:l.length<=256):R 161 [.d (ints l)] []=some ([.arr 0 (zcQ l).length],[.arr 1 (bytes (zcQ l)) 0]):=by
 have htot:(zcQ l).length<=20*l.length:=zgo _ l hl (by omega) (yab _)
 refine rg zGq rfl ?_;intro T hT;simp -dsimp -implicitDefEqProofs (disch:=first|omega|assumption)
 generalize hz:zad _ _ _ _ _ _=z;revert z;refine zaa (σ:=Nat × List UInt8) (λx=>[(0,.d (ints l)),(3,.arr 0 x.2.length),(4,.d (.int .i64 x.1))]) (λx=>[.arr 1 (bytes x.2) 0]) (λx=>x.1<=l.length/\x.2++zcQ (l.drop x.1)=zcQ l) (λx=>l.length - x.1) (0,[]) ?_ ?_ ?_
 ·exact⟨by simp,rfl⟩
 ·simp -dsimp -implicitDefEqProofs (disch:=first|omega|assumption)
 intro T' f hT' ⟨i,bs⟩ ⟨hi,he⟩ ih;simp only at hi he ih
 by_cases h1:i<l.length
 ·have hb:=hl l[i] (by simp)
  have hp:=zce l[i] hb.1 hb.2;have hd:=yaA h1;rw[zkC hd]at he;have hcl:=zsw l[i] (l.drop i);rw[yay]at hcl;have hcp:0<cnt l[i] (l.drop i):=by rw[hd];simp[cnt]
  obtain⟨c,hc⟩: ∃c,c=cnt l[i] (l.drop i):=⟨_,rfl⟩;rw[<- hc]at he hcl hcp;rw[ycK]at he;have hq:=zaY c (by omega)
  have hlen:bs.length+(za5 l[i]).length+(put c).length<=(zcQ l).length:=by rw[<- he];simp <;> omega
  simp -dsimp -implicitDefEqProofs (disch:=first|omega|assumption) [h1]
  generalize hz:zad _ _ _ _ _ _=z;revert z;refine zaa (σ:=Nat) (λk=>[(0,.d (ints l)),(3,.arr 0 bs.length),(4,.d (.int .i64 i)),(5,.d (.int .i64 k))]) (λk=>[.arr 1 (bytes bs) 0]) (λk=>i<=k/\k<=l.length/\c=(k - i)+cnt l[i] (l.drop k)) (λk=>l.length - k) i ?_ ?_ ?_
  ·exact⟨yab _,hi,by rw[hc];omega⟩
  ·simp
  intro T2 f2 hT2 k ⟨hk1,hk2,hk3⟩ ih2;have out: ∀s1:Slots,zar s1 0= .d (ints l)->zar s1 3= .arr 0 bs.length->zar s1 4= .d (.int .i64 i)->zar s1 5= .d (.int .i64 k)->c=k - i->T2 (some (.exit 2,s1,[.arr 1 (bytes bs) 0])):=by
   intro s1 e0 e3 e4 e5 hw;subst hT2;have hki:((k:Int) - i)=(c:Int):=by omega
   have hcw:IntKind.u64.wrap (c:Int)=c:=zai (by omega) (by omega)
   simp -dsimp -implicitDefEqProofs (disch:=first|omega|assumption) [e0,e3,e4,e5,hki,hcw,hp,hq]
   refine ih (k,bs++(za5 l[i]++put c)) _ _ ⟨hk2,by rw[<- he,show k=i+c by omega];simp⟩ (by simp only;omega) ?_
   simp -dsimp -implicitDefEqProofs (disch:=first|omega|assumption) [e0,e3,e4,e5,yaC]
  by_cases h2:k<l.length
  ·rw[yaA h2,cnt]at hk3
   by_cases h3:l[k]=l[i]
   ·rw[yah h3]at hk3
    simp -dsimp -implicitDefEqProofs (disch:=first|omega|assumption) [h1,h2,h3]
    exact ih2 (k+1) _ _ ⟨by omega,h2,by omega⟩ (by omega) (by simp -dsimp -implicitDefEqProofs (disch:=first|omega|assumption))
   ·rw[yae h3]at hk3
    simp -dsimp -implicitDefEqProofs (disch:=first|omega|assumption) [h1,h2,h3]
    exact out _ (by simp) (by simp) (by simp) (by simp) (by omega)
  ·rw[ybj (by omega),cnt]at hk3
   simp -dsimp -implicitDefEqProofs (disch:=first|omega|assumption) [h1,h2]
   exact out _ (by simp) (by simp) (by simp) (by simp) (by omega)
 ·rw[ybj (by omega)]at he
  simp only[zcQ,yat,zg7,yau]at he;change bs=zcQ l at he;subst hT';rw[<- he]at hT htot;simp -dsimp -implicitDefEqProofs (disch:=first|omega|assumption) [h1]
  simpa -dsimp -implicitDefEqProofs (disch:=first|omega|assumption) using hT
end Go.Am.Ab
namespace Go.Am.Ab
open Go.Proofs
set_option maxHeartbeats 4000000
def isNaN_runs (n:Int):R 170 [.d (.int .i64 n)] []=some ([.d (.bool false)],[]):=by
 refine rg zFf rfl ?_;intro T hT;simp -dsimp -implicitDefEqProofs (disch:=first|omega|assumption)
 simpa -dsimp -implicitDefEqProofs (disch:=first|omega|assumption) using hT
def less_runs (a b:Int):R 200 [.d (.int .i64 a),.d (.int .i64 b)] []=some ([.d (.bool (decide (a<b)))],[]):=by
 refine rg zGM rfl ?_;intro T hT;simp -dsimp -implicitDefEqProofs (disch:=first|omega|assumption) [isNaN_runs]
 simpa -dsimp -implicitDefEqProofs (disch:=first|omega|assumption) using hT
def znG:List Int->Int
 |[]=>0
 |x::r=>r.foldl min x
def zsy {l:List Int} (h:l≠[]) (n:Int):znG (l++[n])=min (znG l) n:=by
 cases l with
 |nil=>exact absurd rfl h
 |cons x r=>simp[znG]
def zeH: ∀ (l:List Int) (a:Int),l.foldl min a<=a/\(∀n∈l,l.foldl min a<=n)/\(l.foldl min a=a\/l.foldl min a∈l)
 |[],a=>⟨ycB _,by simp,.inl rfl⟩
 |x::r,a=>by
  obtain⟨h1,h2,h3⟩:=zeH r (min a x);simp only[ybc,ybI];refine⟨by omega,λn hn=> ?_, ?_⟩
  ·rcases hn with rfl | hn
   ·omega
   ·exact h2 n hn
  ·rcases h3 with h3 | h3
   ·rcases Int.le_total a x with h | h
    ·left;omega
    ·right;left;omega
   ·exact .inr (.inr h3)
def zol {l:List Int}: ∀n∈l,znG l<=n:=by
 cases l with
 |nil=>simp
 |cons x r=>
  intro n hn;obtain⟨h1,h2,-⟩:=zeH r x;rcases List.mem_cons.1 hn with rfl | hn
  ·exact h1
  ·exact h2 n hn
def zgp {l:List Int} (h:l≠[]):znG l∈l:=by
 cases l with
 |nil=>exact absurd rfl h
 |cons x r=>
  obtain⟨-,-,h3⟩:=zeH r x;rcases h3 with h3 | h3
  ·simp only[znG,h3,ybI,true_or]
  ·exact ya6 _ h3
def zu3 (l:List Int) (h0:l≠[]) (hn:l.length<=256):R 184 [.d (ints l)] []=some ([.d (.int .i64 (znG l))],[]):=by
 have hlen:0<l.length:=ydv (by simpa using h0)
 have a1: ¬ (l.length:Int)<1:=by omega
 refine rg zGC rfl ?_;intro T hT;simp -dsimp -implicitDefEqProofs (disch:=first|omega|assumption) [a1,hlen,h0]
 generalize hz:zad _ _ _ _ _ _=z;revert z;refine zaa (σ:=Nat) (λi=>[(0,.d (ints l)),(3,.d (.int .i64 (znG (l.take i)))),(4,.d (.int .i64 i))]) (λi=>[]) (λi=>1<=i/\i<=l.length) (λi=>l.length - i) 1 ?_ ?_ ?_
 ·exact⟨yab _,hlen⟩
 ·cases l with
  |nil=>exact absurd rfl h0
  |cons x r=>simp -dsimp -implicitDefEqProofs (disch:=first|omega|assumption) [znG]
 intro T' f hT' i ⟨hi1,hi⟩ ih
 by_cases h1:i<l.length
 ·have hm:znG (l.take (i+1))=min (znG (l.take i)) l[i]:=by
   rw[zap h1,zsy];intro h;have:=congrArg List.length h;rw[yao,yat]at this;omega
  simp -dsimp -implicitDefEqProofs (disch:=first|omega|assumption) [h1]
  refine ih (i+1) _ _ ⟨by omega,h1⟩ (by omega) ?_
  rw[hm];simp -dsimp -implicitDefEqProofs (disch:=first|omega|assumption)
  try omega
 ·rw[yaw (by omega)]
  subst hT';simp -dsimp -implicitDefEqProofs (disch:=first|omega|assumption) [h1]
  simpa -dsimp -implicitDefEqProofs (disch:=first|omega|assumption) using hT
def zkD (l:List Nat) (hl: ∀n∈l,n<18446744073709551616) (hn:l.length<=256):R 183 [.d (ziS l)] []=some ([.arr 0 (zbY (zbd l) l).length],[.arr 1 (bytes (zbY (zbd l) l)) 0]):=by
 have h1:=ze4 l hl (by omega)
 have h2:=zpu l (zbd l) hl (zcm hl) hn (yab _);refine rg zGB rfl ?_;intro T hT;simp -dsimp -implicitDefEqProofs (disch:=first|omega|assumption) [h1,h2]
 simpa -dsimp -implicitDefEqProofs (disch:=first|omega|assumption) using hT
def zg8 (f:Int->Nat) (l:List Int) (i:Nat):List D:=((l.take i).map f++List.replicate (l.length - i) 0).map λ(n:Nat)=>D.int .u64 (n:Int)
def zeI (f:Int->Nat) (l:List Int) (i:Nat) (h:i<=l.length):(zg8 f l i).length=l.length:=by simp[zg8];omega
def zwW {α:Type} (A R:List α) (x v:α) (i:Nat) (h:A.length=i):(A++x::R).set i v=A++v::R:=by
 subst h;simp[List.set_append]
def ziW (f:Int->Nat) (l:List Int) (i:Nat) (h:i<l.length):(zg8 f l i).set i (.int .u64 (f l[i]:Int))=zg8 f l (i+1):=by
 unfold zg8;rw[show l.length - i=(l.length - (i+1))+1 by omega,yaN,zap h,<- yb0,zwW _ _ _ _ i (by simp;omega),ya7 (f:=f),yaq]
 rfl
def zmI (f:Int->Nat) (l:List Int):zg8 f l l.length=(l.map f).map λ(n:Nat)=>D.int .u64 (n:Int):=by simp[zg8]
def zbU (l:List Int):List Nat:=l.map λn=>(n - znG l).toNat
def zcG (l:List Int):List UInt8:=if l=[] then [] else za5 (znG l)++(put (zbd (zbU l))++zbY (zbd (zbU l)) (zbU l))
def zlo {l:List Int} (hl: ∀n∈l,zal n): ∀n∈zbU l,n<18446744073709551616:=by
 intro n hn;simp only[zbU,ycR]at hn;obtain⟨m,hm,rfl⟩:=hn;have h1:=hl m hm;have h2:=hl _ (zgp (l:=l) (by rintro rfl;simp at hm))
 unfold zal at h1 h2;omega
def zcH {w:Nat} {l:List Nat} (hw:w<=64) (hn:l.length<=256):(zbY w l).length<=2048:=by
 have:l.length*w<=256*64:=ybG hn hw;simp only[zbY,zmE];omega
def zq2:R 163 [.d (ints [])] []=some ([.arr 0 0],[.arr 1 [] 0]):=by
 refine rg zFd rfl ?_;intro T hT;simp -dsimp -implicitDefEqProofs (disch:=first|omega|assumption)
 simpa -dsimp -implicitDefEqProofs (disch:=first|omega|assumption) using hT
def zmJ (l:List Int) (h0:l≠[]) (hl: ∀n∈l,zal n) (hn:l.length<=256):R 163 [.d (ints l)] []=some ([.arr 0 (zcG l).length],[.arr 1 (bytes (zcG l)) 0]):=by
 have hlen:0<l.length:=ydv (by simpa using h0)
 have a1: ¬ (l.length:Int)=0:=by omega
 have hmin:=zu3 l h0 hn;have hmlt:=zlo hl;have hml:(zbU l).length<=256:=by simpa[zbU]using hn
 have hw:=ze4 (zbU l) hmlt (by omega)
 have hw64:=zcm hmlt;have hpk:=zkD (zbU l) hmlt hml;have hplen:=zcH hw64 hml;obtain⟨wd,hwd⟩: ∃wd,wd=zbd (zbU l):=⟨_,rfl⟩;have hput:=zaY wd (by omega)
 have hputl:=zan (n:=wd) (by omega)
 obtain⟨m,hm⟩: ∃m,m=znG l:=⟨_,rfl⟩;have hmi:zal m:=by rw[hm];exact hl _ (zgp h0)
 have hpi:=zce m hmi.1 hmi.2;have hpil:=zaP hmi;have hB:zcG l=za5 m++(put wd++zbY wd (zbU l)):=by unfold zcG;rw[yae h0,<- hm,<- hwd]
 rw[<- hwd]at hw hw64 hpk hplen;rw[<- hm]at hmin;rw[hB];have hend:=zmI (λn=>(n - m).toNat) l
 have hmo:l.map (λn=>(n - m).toNat)=zbU l:=by rw[hm];rfl
 rw[hmo]at hend;refine rg zFd rfl ?_;intro T hT;simp -dsimp -implicitDefEqProofs (disch:=first|omega|assumption) [h0,hmin]
 generalize hz:zad _ _ _ _ _ _=z;revert z;refine zaa (σ:=Nat) (λi=>[(3,.d (.int .i64 m)),(4,.arr 0 l.length),(16,.d (ints l)),(17,.d (.int .i64 l.length)),(18,.d (.int .i64 i))]) (λi=>[.arr 1 (zg8 (λn=>(n - m).toNat) l i) 0]) (λi=>i<=l.length) (λi=>l.length - i) 0 ?_ ?_ ?_
 ·simp
 ·simp -dsimp -implicitDefEqProofs (disch:=first|omega|assumption) [zg8]
 intro T' f hT' i hi ih
 by_cases h1:i<l.length
 ·have hb:=hl l[i] (by simp)
  have hle:m<=l[i]:=by rw[hm];exact zol _ (by simp)
  have hset:=ziW (λn=>(n - m).toNat) l i h1
  have hrl:=zeI (λn=>(n - m).toNat) l i hi
  obtain⟨v,hv⟩: ∃v:Nat,(v:Int)=l[i] - m:=⟨(l[i] - m).toNat,by omega⟩
  have hvv:(l[i] - m).toNat=v:=by omega
  simp only[hvv]at hset;unfold zal at hb hmi;have hsub:IntKind.u64.wrap (IntKind.u64.wrap l[i] - IntKind.u64.wrap m)=v:=by rw[zac,zac,zac];omega
  simp -dsimp -implicitDefEqProofs (disch:=first|omega|assumption) [h1,hsub,hset,hrl]
  exact ih (i+1) _ _ h1 (by omega) (by simp -dsimp -implicitDefEqProofs (disch:=first|omega|assumption))
 ·obtain rfl:i=l.length:=by omega
  have hmlen:(zbU l).length=l.length:=by simp[zbU]
  rw[hend];subst hT';simp -dsimp -implicitDefEqProofs (disch:=first|omega|assumption) [h1,hw,hput,hpi,hpk,hmlen,zai]
  simpa -dsimp -implicitDefEqProofs (disch:=first|omega|assumption) [yaC]using hT
end Go.Am.Ab
