/- Lists by codecs 0 to 2 and 4. -/
import Derived.Test.YtibdiacpdmhmnaaGreatDoorBitsB
import Derived.Test.YtibdiacpdmhmnaaGreatDoorVars
set_option linter.all false
namespace Go.Am.Ab
open Go.Proofs
set_option maxHeartbeats 4000000
abbrev ints (l:List Int):D:= .list (l.map λn=>D.int .i64 n)
def zai (n:Int):Prop:= -9223372036854775808<=n/\n<=9223372036854775807
def zdQ (x:Int):zai (IntKind.i64.wrap x):=by unfold zai;rw[za0];split <;> omega
def zbj (l:List Int):List UInt8:=l.flatMap za1
def zgy (l:List Int) (n:Int):zbj (l++[n])=zbj l++za1 n:=by simp[zbj]
def zaK {n:Int} (h:zai n):(za1 n).length<=10:=zam (zoN h.1 h.2)
def zd4 {l:List Int} (h: ∀n∈l,zai n):(zbj l).length<=10*l.length:=by
 induction l with
 |nil=>simp[zbj]
 |cons n l ih=>
  have h1:=zaK (h n (by simp))
  have h2:=ih λm hm=>h m (by simp[hm])
  simp only[zbj,ya3,yab,yad]at*;omega
def zty (l:List Int) (hl: ∀n∈l,zai n) (hn:l.length<=256):R 159 [.d (ints l)] []=some ([.arr 0 (zbj l).length],[.arr 1 (bytes (zbj l)) 0]):=by
 refine rg zJt rfl ?_;intro T hT;simp -dsimp -implicitDefEqProofs (disch:=first|omega|assumption)
 generalize hz:zaj _ _ _ _ _ _=z;revert z;refine zaa (σ:=Nat) (λi=>[(3,.arr 0 (zbj (l.take i)).length),(6,.d (ints l)),(7,.d (.int .i64 l.length)),(8,.d (.int .i64 i))]) (λi=>[.arr 1 (bytes (zbj (l.take i))) 0]) (λi=>i<=l.length) (λi=>l.length - i) 0 ?_ ?_ ?_
 ·simp
 ·simp -dsimp -implicitDefEqProofs (disch:=first|omega|assumption) [zbj]
 intro T' f hT' i hi ih
 by_cases h1:i<l.length
 ·have hb:=hl l[i] (by simp)
  have hp:=zcr l[i] hb.1 hb.2;have hlen:=zaK hb;have hlen2:=zd4 (l:=l.take i) λn h=>hl n (yaD h)
  rw[yan]at hlen2;simp -dsimp -implicitDefEqProofs (disch:=first|omega|assumption) [h1,hp]
  refine ih (i+1) _ _ h1 (by omega) ?_
  rw[zao h1,zgy];simp -dsimp -implicitDefEqProofs (disch:=first|omega|assumption)
 ·rw[yar (by omega)]
  subst hT';simp -dsimp -implicitDefEqProofs (disch:=first|omega|assumption) [h1]
  simpa -dsimp -implicitDefEqProofs (disch:=first|omega|assumption) using hT
def zcU:Int->List Int->List Int
 |_,[]=>[]
 |a,n::r=>IntKind.i64.wrap (n - a)::zcU n r
def zdx (l:List Int):List UInt8:=zbj (zcU 0 l)
def zoO: ∀ (l:List Int) (a:Int), ∀n∈zcU a l,zai n
 |[],_,_,h=>by simp[zcU]at h
 |n::r,a,m,h=>by
  simp only[zcU,ybM]at h;rcases h with rfl | h
  ·exact zdQ _
  ·exact zoO r n m h
def zhd: ∀ (l:List Int) (a:Int),(zcU a l).length=l.length
 |[],_=>rfl
 |n::r,a=>by simp[zcU,zhd r n]
def zgz (n:Int) (l:List Int):zbj (n::l)=za1 n++zbj l:=rfl
def zh2 (l:List Int):(zdx l).length<=10*l.length:=by
 have:=zd4 (zoO l 0)
 rwa [zhd]at this
def ztz (l:List Int) (hl: ∀n∈l,zai n) (hn:l.length<=256):R 160 [.d (ints l)] []=some ([.arr 0 (zdx l).length],[.arr 1 (bytes (zdx l)) 0]):=by
 have htot:=zh2 l;refine rg zJu rfl ?_;intro T hT;simp -dsimp -implicitDefEqProofs (disch:=first|omega|assumption)
 generalize hz:zaj _ _ _ _ _ _=z;revert z;refine zaa (σ:=Nat × Int × List UInt8) (λx=>[(3,.arr 0 x.2.2.length),(4,.d (.int .i64 x.2.1)),(7,.d (ints l)),(8,.d (.int .i64 l.length)),(9,.d (.int .i64 x.1))]) (λx=>[.arr 1 (bytes x.2.2) 0]) (λx=>x.1<=l.length/\zai x.2.1/\x.2.2++zbj (zcU x.2.1 (l.drop x.1))=zdx l) (λx=>l.length - x.1) (0,0,[]) ?_ ?_ ?_
 ·exact⟨by simp,⟨by decide,by decide⟩,rfl⟩
 ·simp -dsimp -implicitDefEqProofs (disch:=first|omega|assumption)
 intro T' f hT' ⟨i,a,bs⟩ ⟨hi,ha,he⟩ ih;simp only at hi ha he ih
 by_cases h1:i<l.length
 ·have hb:=hl l[i] (by simp)
  have hw:=zdQ (l[i] - a);have hp:=zcr (IntKind.i64.wrap (l[i] - a)) hw.1 hw.2;rw[yaC h1,zcU,zgz]at he;have hlen:bs.length+(za1 (IntKind.i64.wrap (l[i] - a))).length<=(zdx l).length:=by rw[<- he];simp <;> omega
  obtain⟨d,hd⟩: ∃d,d=IntKind.i64.wrap (l[i] - a):=⟨_,rfl⟩;rw[<- hd]at hp he hlen;have hd':IntKind.i64.wrap (l[i] - a)=d:=hd.symm;simp -dsimp -implicitDefEqProofs (disch:=first|omega|assumption) [h1,hd',hp]
  refine ih (i+1,l[i],bs++za1 d) _ _ ⟨h1,hb,by rw[<- he];simp⟩ (by simp only;omega) ?_
  simp -dsimp -implicitDefEqProofs (disch:=first|omega|assumption)
 ·rw[ybj (by omega),zcU]at he
  simp only[zbj,List.flatMap_nil,yaq]at he;subst hT';rw[<- he]at hT htot;simp -dsimp -implicitDefEqProofs (disch:=first|omega|assumption) [h1]
  simpa -dsimp -implicitDefEqProofs (disch:=first|omega|assumption) using hT
def cnt (x:Int):List Int->Nat
 |[]=>0
 |y::r=>if y=x then cnt x r+1 else 0
def zrQ (x:Int): ∀l,cnt x l<=l.length
 |[]=>by simp[cnt]
 |y::r=>by have:=zrQ x r;simp only[cnt,yad];split <;> omega
def zh3:Nat->List Int->List UInt8
 |0,_=>[]
 |_,[]=>[]
 |k+1,x::r=>za1 x++(put (cnt x r+1)++zh3 k (r.drop (cnt x r)))
def zc8 (l:List Int):List UInt8:=zh3 l.length l
def zrR: ∀ (k j:Nat) (l:List Int),l.length<=k->l.length<=j->zh3 k l=zh3 j l
 |0,0,_,_,_=>rfl
 |0,j+1,l,h,_=>by
  have:l=[]:=by simpa using h
  subst this;rfl
 |k+1,0,l,_,h=>by
  have:l=[]:=by simpa using h
  subst this;rfl
 |k+1,j+1,[],_,_=>rfl
 |k+1,j+1,x::r,h1,h2=>by
  simp only[yad]at h1 h2;simp only[zh3];rw[zrR k j _ (by simp;omega) (by simp;omega)]
def zh4 {x:Int} {l r:List Int} (h:l=x::r):zc8 l=za1 x++(put (cnt x l)++zc8 (l.drop (cnt x l))):=by
 subst h;have e:cnt x (x::r)=cnt x r+1:=by simp[cnt]
 rw[e,List.drop_succ_cons];unfold zc8;simp only[yad,zh3];rw[zrR r.length _ _ (by simp) (yaf _)]
def zhe: ∀ (k:Nat) (l:List Int),(∀n∈l,zai n)->l.length<=1000000->l.length<=k->(zh3 k l).length<=20*l.length
 |0,_,_,_,_=>by simp[zh3]
 |k+1,[],_,_,_=>by simp[zh3]
 |k+1,x::r,h,h2,h3=>by
  simp only[yad]at h2 h3;have h4:=zrQ x r;have h1:=zaK (h x (by simp))
  have h5:=zam (n:=cnt x r+1) (by omega)
  have h6:=zhe k (r.drop (cnt x r)) (λn hn=>h n (by simp[ybQ hn])) (by simp;omega) (by simp;omega)
  simp only[zh3,yab,yad];simp only[yaw]at h6;omega
def zvg (l:List Int) (hl: ∀n∈l,zai n) (hn:l.length<=256):R 161 [.d (ints l)] []=some ([.arr 0 (zc8 l).length],[.arr 1 (bytes (zc8 l)) 0]):=by
 have htot:(zc8 l).length<=20*l.length:=zhe _ l hl (by omega) (yaf _)
 refine rg zJv rfl ?_;intro T hT;simp -dsimp -implicitDefEqProofs (disch:=first|omega|assumption)
 generalize hz:zaj _ _ _ _ _ _=z;revert z;refine zaa (σ:=Nat × List UInt8) (λx=>[(0,.d (ints l)),(3,.arr 0 x.2.length),(4,.d (.int .i64 x.1))]) (λx=>[.arr 1 (bytes x.2) 0]) (λx=>x.1<=l.length/\x.2++zc8 (l.drop x.1)=zc8 l) (λx=>l.length - x.1) (0,[]) ?_ ?_ ?_
 ·exact⟨by simp,rfl⟩
 ·simp -dsimp -implicitDefEqProofs (disch:=first|omega|assumption)
 intro T' f hT' ⟨i,bs⟩ ⟨hi,he⟩ ih;simp only at hi he ih
 by_cases h1:i<l.length
 ·have hb:=hl l[i] (by simp)
  have hp:=zcr l[i] hb.1 hb.2;have hd:=yaC h1;rw[zh4 hd]at he;have hcl:=zrQ l[i] (l.drop i);rw[yaw]at hcl;have hcp:0<cnt l[i] (l.drop i):=by rw[hd];simp[cnt]
  obtain⟨c,hc⟩: ∃c,c=cnt l[i] (l.drop i):=⟨_,rfl⟩;rw[<- hc]at he hcl hcp;rw[ycK]at he;have hq:=za7 c (by omega)
  have hlen:bs.length+(za1 l[i]).length+(put c).length<=(zc8 l).length:=by rw[<- he];simp <;> omega
  simp -dsimp -implicitDefEqProofs (disch:=first|omega|assumption) [h1]
  generalize hz:zaj _ _ _ _ _ _=z;revert z;refine zaa (σ:=Nat) (λk=>[(0,.d (ints l)),(3,.arr 0 bs.length),(4,.d (.int .i64 i)),(5,.d (.int .i64 k))]) (λk=>[.arr 1 (bytes bs) 0]) (λk=>i<=k/\k<=l.length/\c=(k - i)+cnt l[i] (l.drop k)) (λk=>l.length - k) i ?_ ?_ ?_
  ·exact⟨yaf _,hi,by rw[hc];omega⟩
  ·simp
  intro T2 f2 hT2 k ⟨hk1,hk2,hk3⟩ ih2;have out: ∀s1:Slots,zbS s1 0= .d (ints l)->zbS s1 3= .arr 0 bs.length->zbS s1 4= .d (.int .i64 i)->zbS s1 5= .d (.int .i64 k)->c=k - i->T2 (some (.exit 2,s1,[.arr 1 (bytes bs) 0])):=by
   intro s1 e0 e3 e4 e5 hw;subst hT2;have hki:((k:Int) - i)=(c:Int):=by omega
   have hcw:IntKind.u64.wrap (c:Int)=c:=zak (by omega) (by omega)
   simp -dsimp -implicitDefEqProofs (disch:=first|omega|assumption) [e0,e3,e4,e5,hki,hcw,hp,hq]
   refine ih (k,bs++(za1 l[i]++put c)) _ _ ⟨hk2,by rw[<- he,show k=i+c by omega];simp⟩ (by simp only;omega) ?_
   simp -dsimp -implicitDefEqProofs (disch:=first|omega|assumption) [e0,e3,e4,e5,yaH]
  by_cases h2:k<l.length
  ·rw[yaC h2,cnt]at hk3
   by_cases h3:l[k]=l[i]
   ·rw[yaj h3]at hk3
    simp -dsimp -implicitDefEqProofs (disch:=first|omega|assumption) [h1,h2,h3]
    exact ih2 (k+1) _ _ ⟨by omega,h2,by omega⟩ (by omega) (by simp -dsimp -implicitDefEqProofs (disch:=first|omega|assumption))
   ·rw[yag h3]at hk3
    simp -dsimp -implicitDefEqProofs (disch:=first|omega|assumption) [h1,h2,h3]
    exact out _ (by simp) (by simp) (by simp) (by simp) (by omega)
  ·rw[ybj (by omega),cnt]at hk3
   simp -dsimp -implicitDefEqProofs (disch:=first|omega|assumption) [h1,h2]
   exact out _ (by simp) (by simp) (by simp) (by simp) (by omega)
 ·rw[ybj (by omega)]at he
  simp only[zc8,yat,zh3,yaq]at he;change bs=zc8 l at he;subst hT';rw[<- he]at hT htot;simp -dsimp -implicitDefEqProofs (disch:=first|omega|assumption) [h1]
  simpa -dsimp -implicitDefEqProofs (disch:=first|omega|assumption) using hT
end Go.Am.Ab
namespace Go.Am.Ab
open Go.Proofs
set_option maxHeartbeats 4000000
def isNaN_runs (n:Int):R 170 [.d (.int .i64 n)] []=some ([.d (.bool false)],[]):=by
 refine rg zIj rfl ?_;intro T hT;simp -dsimp -implicitDefEqProofs (disch:=first|omega|assumption)
 simpa -dsimp -implicitDefEqProofs (disch:=first|omega|assumption) using hT
def less_runs (a b:Int):R 200 [.d (.int .i64 a),.d (.int .i64 b)] []=some ([.d (.bool (decide (a<b)))],[]):=by
 refine rg zJH rfl ?_;intro T hT;simp -dsimp -implicitDefEqProofs (disch:=first|omega|assumption) [isNaN_runs]
 simpa -dsimp -implicitDefEqProofs (disch:=first|omega|assumption) using hT
def znU:List Int->Int
 |[]=>0
 |x::r=>r.foldl min x
def zvh {l:List Int} (h:l≠[]) (n:Int):znU (l++[n])=min (znU l) n:=by
 cases l with
 |nil=>exact absurd rfl h
 |cons x r=>simp[znU]
def ze5: ∀ (l:List Int) (a:Int),l.foldl min a<=a/\(∀n∈l,l.foldl min a<=n)/\(l.foldl min a=a\/l.foldl min a∈l)
 |[],a=>⟨ydS _,by simp,.inl rfl⟩
 |x::r,a=>by
  obtain⟨h1,h2,h3⟩:=ze5 r (min a x);simp only[ya7,ybM];refine⟨by omega,λn hn=> ?_, ?_⟩
  ·rcases hn with rfl | hn
   ·omega
   ·exact h2 n hn
  ·rcases h3 with h3 | h3
   ·rcases Int.le_total a x with h | h
    ·left;omega
    ·right;left;omega
   ·exact .inr (.inr h3)
def znl {l:List Int}: ∀n∈l,znU l<=n:=by
 cases l with
 |nil=>simp
 |cons x r=>
  intro n hn;obtain⟨h1,h2,-⟩:=ze5 r x;rcases List.mem_cons.1 hn with rfl | hn
  ·exact h1
  ·exact h2 n hn
def zeA {l:List Int} (h:l≠[]):znU l∈l:=by
 cases l with
 |nil=>exact absurd rfl h
 |cons x r=>
  obtain⟨-,-,h3⟩:=ze5 r x;rcases h3 with h3 | h3
  ·simp only[znU,h3,ybM,true_or]
  ·exact ya9 _ h3
def zxV (l:List Int) (h0:l≠[]) (hn:l.length<=256):R 184 [.d (ints l)] []=some ([.d (.int .i64 (znU l))],[]):=by
 have hlen:0<l.length:=ydF (by simpa using h0)
 have a1: ¬ (l.length:Int)<1:=by omega
 refine rg zJF rfl ?_;intro T hT;simp -dsimp -implicitDefEqProofs (disch:=first|omega|assumption) [a1,hlen,h0]
 generalize hz:zaj _ _ _ _ _ _=z;revert z;refine zaa (σ:=Nat) (λi=>[(0,.d (ints l)),(3,.d (.int .i64 (znU (l.take i)))),(4,.d (.int .i64 i))]) (λi=>[]) (λi=>1<=i/\i<=l.length) (λi=>l.length - i) 1 ?_ ?_ ?_
 ·exact⟨yaf _,hlen⟩
 ·cases l with
  |nil=>exact absurd rfl h0
  |cons x r=>simp -dsimp -implicitDefEqProofs (disch:=first|omega|assumption) [znU]
 intro T' f hT' i ⟨hi1,hi⟩ ih
 by_cases h1:i<l.length
 ·have hm:znU (l.take (i+1))=min (znU (l.take i)) l[i]:=by
   rw[zao h1,zvh];intro h;have:=congrArg List.length h;rw[yan,yat]at this;omega
  simp -dsimp -implicitDefEqProofs (disch:=first|omega|assumption) [h1]
  refine ih (i+1) _ _ ⟨by omega,h1⟩ (by omega) ?_
  rw[hm];simp -dsimp -implicitDefEqProofs (disch:=first|omega|assumption)
  try omega
 ·rw[yar (by omega)]
  subst hT';simp -dsimp -implicitDefEqProofs (disch:=first|omega|assumption) [h1]
  simpa -dsimp -implicitDefEqProofs (disch:=first|omega|assumption) using hT
def zmi (l:List Nat) (hl: ∀n∈l,n<18446744073709551616) (hn:l.length<=256):R 183 [.d (zkd l)] []=some ([.arr 0 (za8 (zbc l) l).length],[.arr 1 (bytes (za8 (zbc l) l)) 0]):=by
 have h1:=zfy l hl (by omega)
 have h2:=zrO l (zbc l) hl (zbN hl) hn (yaf _);refine rg zJE rfl ?_;intro T hT;simp -dsimp -implicitDefEqProofs (disch:=first|omega|assumption) [h1,h2]
 simpa -dsimp -implicitDefEqProofs (disch:=first|omega|assumption) using hT
def zh5 (f:Int->Nat) (l:List Int) (i:Nat):List D:=((l.take i).map f++List.replicate (l.length - i) 0).map λ(n:Nat)=>D.int .u64 (n:Int)
def ze6 (f:Int->Nat) (l:List Int) (i:Nat) (h:i<=l.length):(zh5 f l i).length=l.length:=by simp[zh5];omega
def zz1 {α:Type} (A R:List α) (x v:α) (i:Nat) (h:A.length=i):(A++x::R).set i v=A++v::R:=by
 subst h;simp[List.set_append]
def zki (f:Int->Nat) (l:List Int) (i:Nat) (h:i<l.length):(zh5 f l i).set i (.int .u64 (f l[i]:Int))=zh5 f l (i+1):=by
 unfold zh5;rw[show l.length - i=(l.length - (i+1))+1 by omega,yaS,zao h,<- yb0,zz1 _ _ _ _ i (by simp;omega),ybf (f:=f),yal]
 rfl
def zoP (f:Int->Nat) (l:List Int):zh5 f l l.length=(l.map f).map λ(n:Nat)=>D.int .u64 (n:Int):=by simp[zh5]
def zbI (l:List Int):List Nat:=l.map λn=>(n - znU l).toNat
def zb3 (l:List Int):List UInt8:=if l=[] then [] else za1 (znU l)++(put (zbc (zbI l))++za8 (zbc (zbI l)) (zbI l))
def zfC {l:List Int} (hl: ∀n∈l,zai n): ∀n∈zbI l,n<18446744073709551616:=by
 intro n hn;simp only[zbI,ycf]at hn;obtain⟨m,hm,rfl⟩:=hn;have h1:=hl m hm;have h2:=hl _ (zeA (l:=l) (by rintro rfl;simp at hm))
 unfold zai at h1 h2;omega
def zcX {w:Nat} {l:List Nat} (hw:w<=64) (hn:l.length<=256):(za8 w l).length<=2048:=by
 have:l.length*w<=256*64:=ybK hn hw;simp only[za8,zke];omega
def ztA:R 163 [.d (ints [])] []=some ([.arr 0 0],[.arr 1 [] 0]):=by
 refine rg zIh rfl ?_;intro T hT;simp -dsimp -implicitDefEqProofs (disch:=first|omega|assumption)
 simpa -dsimp -implicitDefEqProofs (disch:=first|omega|assumption) using hT
def zoQ (l:List Int) (h0:l≠[]) (hl: ∀n∈l,zai n) (hn:l.length<=256):R 163 [.d (ints l)] []=some ([.arr 0 (zb3 l).length],[.arr 1 (bytes (zb3 l)) 0]):=by
 have hlen:0<l.length:=ydF (by simpa using h0)
 have a1: ¬ (l.length:Int)=0:=by omega
 have hmin:=zxV l h0 hn;have hmlt:=zfC hl;have hml:(zbI l).length<=256:=by simpa[zbI]using hn
 have hw:=zfy (zbI l) hmlt (by omega)
 have hw64:=zbN hmlt;have hpk:=zmi (zbI l) hmlt hml;have hplen:=zcX hw64 hml;obtain⟨wd,hwd⟩: ∃wd,wd=zbc (zbI l):=⟨_,rfl⟩;have hput:=za7 wd (by omega)
 have hputl:=zam (n:=wd) (by omega)
 obtain⟨m,hm⟩: ∃m,m=znU l:=⟨_,rfl⟩;have hmi:zai m:=by rw[hm];exact hl _ (zeA h0)
 have hpi:=zcr m hmi.1 hmi.2;have hpil:=zaK hmi;have hB:zb3 l=za1 m++(put wd++za8 wd (zbI l)):=by unfold zb3;rw[yag h0,<- hm,<- hwd]
 rw[<- hwd]at hw hw64 hpk hplen;rw[<- hm]at hmin;rw[hB];have hend:=zoP (λn=>(n - m).toNat) l
 have hmo:l.map (λn=>(n - m).toNat)=zbI l:=by rw[hm];rfl
 rw[hmo]at hend;refine rg zIh rfl ?_;intro T hT;simp -dsimp -implicitDefEqProofs (disch:=first|omega|assumption) [h0,hmin]
 generalize hz:zaj _ _ _ _ _ _=z;revert z;refine zaa (σ:=Nat) (λi=>[(3,.d (.int .i64 m)),(4,.arr 0 l.length),(16,.d (ints l)),(17,.d (.int .i64 l.length)),(18,.d (.int .i64 i))]) (λi=>[.arr 1 (zh5 (λn=>(n - m).toNat) l i) 0]) (λi=>i<=l.length) (λi=>l.length - i) 0 ?_ ?_ ?_
 ·simp
 ·simp -dsimp -implicitDefEqProofs (disch:=first|omega|assumption) [zh5]
 intro T' f hT' i hi ih
 by_cases h1:i<l.length
 ·have hb:=hl l[i] (by simp)
  have hle:m<=l[i]:=by rw[hm];exact znl _ (by simp)
  have hset:=zki (λn=>(n - m).toNat) l i h1
  have hrl:=ze6 (λn=>(n - m).toNat) l i hi
  obtain⟨v,hv⟩: ∃v:Nat,(v:Int)=l[i] - m:=⟨(l[i] - m).toNat,by omega⟩
  have hvv:(l[i] - m).toNat=v:=by omega
  simp only[hvv]at hset;unfold zai at hb hmi;have hsub:IntKind.u64.wrap (IntKind.u64.wrap l[i] - IntKind.u64.wrap m)=v:=by rw[zae,zae,zae];omega
  simp -dsimp -implicitDefEqProofs (disch:=first|omega|assumption) [h1,hsub,hset,hrl]
  exact ih (i+1) _ _ h1 (by omega) (by simp -dsimp -implicitDefEqProofs (disch:=first|omega|assumption))
 ·obtain rfl:i=l.length:=by omega
  have hmlen:(zbI l).length=l.length:=by simp[zbI]
  rw[hend];subst hT';simp -dsimp -implicitDefEqProofs (disch:=first|omega|assumption) [h1,hw,hput,hpi,hpk,hmlen,zak]
  simpa -dsimp -implicitDefEqProofs (disch:=first|omega|assumption) [yaH]using hT
end Go.Am.Ab
