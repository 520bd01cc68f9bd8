/- Lists by codecs 0 to 2 and 4. -/
import Derived.Test.YtibdiacpdmhmnaaGreatDoorBitsB
import Derived.Test.YtibdiacpdmhmnaaGreatDoorVars
set_option linter.all false
namespace Go.Am.Ab
open Go.Proofs
set_option maxHeartbeats 4000000
abbrev ints (l:List Int):D:= .list (l.map λn=>D.int .i64 n)
def zaf (n:Int):Prop:= -9223372036854775808<=n/\n<=9223372036854775807
def zeo (x:Int):zaf (IntKind.i64.wrap x):=by unfold zaf;rw[zaX];split <;> omega
def zbC (l:List Int):List UInt8:=l.flatMap zbi
def zpv (l:List Int) (n:Int):zbC (l++[n])=zbC l++zbi n:=by simp[zbC]
def zbo {n:Int} (h:zaf n):(zbi n).length<=10:=zau (zqJ h.1 h.2)
def zfo {l:List Int} (h: ∀n∈l,zaf n):(zbC l).length<=10*l.length:=by
 induction l with
 |nil=>simp[zbC]
 |cons n l ih=>
  have h1:=zbo (h n (by simp))
  have h2:=ih λm hm=>h m (by simp[hm])
  simp only[zbC,yaY,yae,yad]at*;omega
def zsn (l:List Int) (hl: ∀n∈l,zaf n) (hn:l.length<=256):R 159 [.d (ints l)] []=some ([.arr 0 (zbC l).length],[.arr 1 (bytes (zbC l)) 0]):=by
 refine rg zIq rfl ?_;intro T hT;simp -dsimp -implicitDefEqProofs (disch:=first|omega|assumption)
 generalize hz:zak _ _ _ _ _ _=z;revert z;refine zaa (σ:=Nat) (λi=>[(3,.arr 0 (zbC (l.take i)).length),(6,.d (ints l)),(7,.d (.int .i64 l.length)),(8,.d (.int .i64 i))]) (λi=>[.arr 1 (bytes (zbC (l.take i))) 0]) (λi=>i<=l.length) (λi=>l.length - i) 0 ?_ ?_ ?_
 ·simp
 ·simp -dsimp -implicitDefEqProofs (disch:=first|omega|assumption) [zbC]
 intro T' f hT' i hi ih
 by_cases h1:i<l.length
 ·have hb:=hl l[i] (by simp)
  have hp:=zce l[i] hb.1 hb.2;have hlen:=zbo hb;have hlen2:=zfo (l:=l.take i) λn h=>hl n (yaH h)
  rw[yat]at hlen2;simp -dsimp -implicitDefEqProofs (disch:=first|omega|assumption) [h1,hp]
  refine ih (i+1) _ _ h1 (by omega) ?_
  rw[zaM h1,zpv];simp -dsimp -implicitDefEqProofs (disch:=first|omega|assumption)
 ·rw[yaB (by omega)]
  subst hT';simp -dsimp -implicitDefEqProofs (disch:=first|omega|assumption) [h1]
  simpa -dsimp -implicitDefEqProofs (disch:=first|omega|assumption) using hT
def zet:Int->List Int->List Int
 |_,[]=>[]
 |a,n::r=>IntKind.i64.wrap (n - a)::zet n r
def zls (l:List Int):List UInt8:=zbC (zet 0 l)
def znP: ∀ (l:List Int) (a:Int), ∀n∈zet a l,zaf n
 |[],_,_,h=>by simp[zet]at h
 |n::r,a,m,h=>by
  simp only[zet,ybA]at h;rcases h with rfl | h
  ·exact zeo _
  ·exact znP r n m h
def zgU: ∀ (l:List Int) (a:Int),(zet a l).length=l.length
 |[],_=>rfl
 |n::r,a=>by simp[zet,zgU r n]
def zf7 (n:Int) (l:List Int):zbC (n::l)=zbi n++zbC l:=rfl
def zlt (l:List Int):(zls l).length<=10*l.length:=by
 have:=zfo (znP l 0)
 rwa [zgU]at this
def zso (l:List Int) (hl: ∀n∈l,zaf n) (hn:l.length<=256):R 160 [.d (ints l)] []=some ([.arr 0 (zls l).length],[.arr 1 (bytes (zls l)) 0]):=by
 have htot:=zlt l;refine rg zIr rfl ?_;intro T hT;simp -dsimp -implicitDefEqProofs (disch:=first|omega|assumption)
 generalize hz:zak _ _ _ _ _ _=z;revert z;refine zaa (σ:=Nat × Int × List UInt8) (λx=>[(3,.arr 0 x.2.2.length),(4,.d (.int .i64 x.2.1)),(7,.d (ints l)),(8,.d (.int .i64 l.length)),(9,.d (.int .i64 x.1))]) (λx=>[.arr 1 (bytes x.2.2) 0]) (λx=>x.1<=l.length/\zaf x.2.1/\x.2.2++zbC (zet x.2.1 (l.drop x.1))=zls l) (λx=>l.length - x.1) (0,0,[]) ?_ ?_ ?_
 ·exact⟨by simp,⟨by decide,by decide⟩,rfl⟩
 ·simp -dsimp -implicitDefEqProofs (disch:=first|omega|assumption)
 intro T' f hT' ⟨i,a,bs⟩ ⟨hi,ha,he⟩ ih;simp only at hi ha he ih
 by_cases h1:i<l.length
 ·have hb:=hl l[i] (by simp)
  have hw:=zeo (l[i] - a);have hp:=zce (IntKind.i64.wrap (l[i] - a)) hw.1 hw.2;rw[yaG h1,zet,zf7]at he;have hlen:bs.length+(zbi (IntKind.i64.wrap (l[i] - a))).length<=(zls l).length:=by rw[<- he];simp <;> omega
  obtain⟨d,hd⟩: ∃d,d=IntKind.i64.wrap (l[i] - a):=⟨_,rfl⟩;rw[<- hd]at hp he hlen;have hd':IntKind.i64.wrap (l[i] - a)=d:=hd.symm;simp -dsimp -implicitDefEqProofs (disch:=first|omega|assumption) [h1,hd',hp]
  refine ih (i+1,l[i],bs++zbi d) _ _ ⟨h1,hb,by rw[<- he];simp⟩ (by simp only;omega) ?_
  simp -dsimp -implicitDefEqProofs (disch:=first|omega|assumption)
 ·rw[ybQ (by omega),zet]at he
  simp only[zbC,ydR,yaq]at he;subst hT';rw[<- he]at hT htot;simp -dsimp -implicitDefEqProofs (disch:=first|omega|assumption) [h1]
  simpa -dsimp -implicitDefEqProofs (disch:=first|omega|assumption) using hT
def cnt (x:Int):List Int->Nat
 |[]=>0
 |y::r=>if y=x then cnt x r+1 else 0
def zqK (x:Int): ∀l,cnt x l<=l.length
 |[]=>by simp[cnt]
 |y::r=>by have:=zqK x r;simp only[cnt,yad];split <;> omega
def zjQ:Nat->List Int->List UInt8
 |0,_=>[]
 |_,[]=>[]
 |k+1,x::r=>zbi x++(put (cnt x r+1)++zjQ k (r.drop (cnt x r)))
def zgV (l:List Int):List UInt8:=zjQ l.length l
def zqL: ∀ (k j:Nat) (l:List Int),l.length<=k->l.length<=j->zjQ k l=zjQ j l
 |0,0,_,_,_=>rfl
 |0,j+1,l,h,_=>by
  have:l=[]:=by simpa using h
  subst this;rfl
 |k+1,0,l,_,h=>by
  have:l=[]:=by simpa using h
  subst this;rfl
 |k+1,j+1,[],_,_=>rfl
 |k+1,j+1,x::r,h1,h2=>by
  simp only[yad]at h1 h2;simp only[zjQ];rw[zqL k j _ (by simp;omega) (by simp;omega)]
def zlu {x:Int} {l r:List Int} (h:l=x::r):zgV l=zbi x++(put (cnt x l)++zgV (l.drop (cnt x l))):=by
 subst h;have e:cnt x (x::r)=cnt x r+1:=by simp[cnt]
 rw[e,List.drop_succ_cons];unfold zgV;simp only[yad,zjQ];rw[zqL r.length _ _ (by simp) (yag _)]
def zjR: ∀ (k:Nat) (l:List Int),(∀n∈l,zaf n)->l.length<=1000000->l.length<=k->(zjQ k l).length<=20*l.length
 |0,_,_,_,_=>by simp[zjQ]
 |k+1,[],_,_,_=>by simp[zjQ]
 |k+1,x::r,h,h2,h3=>by
  simp only[yad]at h2 h3;have h4:=zqK x r;have h1:=zbo (h x (by simp))
  have h5:=zau (n:=cnt x r+1) (by omega)
  have h6:=zjR k (r.drop (cnt x r)) (λn hn=>h n (by simp[ybO hn])) (by simp;omega) (by simp;omega)
  simp only[zjQ,yae,yad];simp only[yay]at h6;omega
def zuo (l:List Int) (hl: ∀n∈l,zaf n) (hn:l.length<=256):R 161 [.d (ints l)] []=some ([.arr 0 (zgV l).length],[.arr 1 (bytes (zgV l)) 0]):=by
 have htot:(zgV l).length<=20*l.length:=zjR _ l hl (by omega) (yag _)
 refine rg zIs rfl ?_;intro T hT;simp -dsimp -implicitDefEqProofs (disch:=first|omega|assumption)
 generalize hz:zak _ _ _ _ _ _=z;revert z;refine zaa (σ:=Nat × List UInt8) (λx=>[(0,.d (ints l)),(3,.arr 0 x.2.length),(4,.d (.int .i64 x.1))]) (λx=>[.arr 1 (bytes x.2) 0]) (λx=>x.1<=l.length/\x.2++zgV (l.drop x.1)=zgV l) (λx=>l.length - x.1) (0,[]) ?_ ?_ ?_
 ·exact⟨by simp,rfl⟩
 ·simp -dsimp -implicitDefEqProofs (disch:=first|omega|assumption)
 intro T' f hT' ⟨i,bs⟩ ⟨hi,he⟩ ih;simp only at hi he ih
 by_cases h1:i<l.length
 ·have hb:=hl l[i] (by simp)
  have hp:=zce l[i] hb.1 hb.2;have hd:=yaG h1;rw[zlu hd]at he;have hcl:=zqK l[i] (l.drop i);rw[yay]at hcl;have hcp:0<cnt l[i] (l.drop i):=by rw[hd];simp[cnt]
  obtain⟨c,hc⟩: ∃c,c=cnt l[i] (l.drop i):=⟨_,rfl⟩;rw[<- hc]at he hcl hcp;rw[yc7]at he;have hq:=zaW c (by omega)
  have hlen:bs.length+(zbi l[i]).length+(put c).length<=(zgV l).length:=by rw[<- he];simp <;> omega
  simp -dsimp -implicitDefEqProofs (disch:=first|omega|assumption) [h1]
  generalize hz:zak _ _ _ _ _ _=z;revert z;refine zaa (σ:=Nat) (λk=>[(0,.d (ints l)),(3,.arr 0 bs.length),(4,.d (.int .i64 i)),(5,.d (.int .i64 k))]) (λk=>[.arr 1 (bytes bs) 0]) (λk=>i<=k/\k<=l.length/\c=(k - i)+cnt l[i] (l.drop k)) (λk=>l.length - k) i ?_ ?_ ?_
  ·exact⟨yag _,hi,by rw[hc];omega⟩
  ·simp
  intro T2 f2 hT2 k ⟨hk1,hk2,hk3⟩ ih2;have out: ∀s1:Slots,zbE s1 0= .d (ints l)->zbE s1 3= .arr 0 bs.length->zbE s1 4= .d (.int .i64 i)->zbE s1 5= .d (.int .i64 k)->c=k - i->T2 (some (.exit 2,s1,[.arr 1 (bytes bs) 0])):=by
   intro s1 e0 e3 e4 e5 hw;subst hT2;have hki:((k:Int) - i)=(c:Int):=by omega
   have hcw:IntKind.u64.wrap (c:Int)=c:=zan (by omega) (by omega)
   simp -dsimp -implicitDefEqProofs (disch:=first|omega|assumption) [e0,e3,e4,e5,hki,hcw,hp,hq]
   refine ih (k,bs++(zbi l[i]++put c)) _ _ ⟨hk2,by rw[<- he,show k=i+c by omega];simp⟩ (by simp only;omega) ?_
   simp -dsimp -implicitDefEqProofs (disch:=first|omega|assumption) [e0,e3,e4,e5,ya0]
  by_cases h2:k<l.length
  ·rw[yaG h2,cnt]at hk3
   by_cases h3:l[k]=l[i]
   ·rw[yai h3]at hk3
    simp -dsimp -implicitDefEqProofs (disch:=first|omega|assumption) [h1,h2,h3]
    exact ih2 (k+1) _ _ ⟨by omega,h2,by omega⟩ (by omega) (by simp -dsimp -implicitDefEqProofs (disch:=first|omega|assumption))
   ·rw[yaf h3]at hk3
    simp -dsimp -implicitDefEqProofs (disch:=first|omega|assumption) [h1,h2,h3]
    exact out _ (by simp) (by simp) (by simp) (by simp) (by omega)
  ·rw[ybQ (by omega),cnt]at hk3
   simp -dsimp -implicitDefEqProofs (disch:=first|omega|assumption) [h1,h2]
   exact out _ (by simp) (by simp) (by simp) (by simp) (by omega)
 ·rw[ybQ (by omega)]at he
  simp only[zgV,yav,zjQ,yaq]at he;change bs=zgV l at he;subst hT';rw[<- he]at hT htot;simp -dsimp -implicitDefEqProofs (disch:=first|omega|assumption) [h1]
  simpa -dsimp -implicitDefEqProofs (disch:=first|omega|assumption) using hT
end Go.Am.Ab
namespace Go.Am.Ab
open Go.Proofs
set_option maxHeartbeats 4000000
def isNaN_runs (n:Int):R 170 [.d (.int .i64 n)] []=some ([.d (.bool false)],[]):=by
 refine rg zHl rfl ?_;intro T hT;simp -dsimp -implicitDefEqProofs (disch:=first|omega|assumption)
 simpa -dsimp -implicitDefEqProofs (disch:=first|omega|assumption) using hT
def less_runs (a b:Int):R 200 [.d (.int .i64 a),.d (.int .i64 b)] []=some ([.d (.bool (decide (a<b)))],[]):=by
 refine rg zIB rfl ?_;intro T hT;simp -dsimp -implicitDefEqProofs (disch:=first|omega|assumption) [isNaN_runs]
 simpa -dsimp -implicitDefEqProofs (disch:=first|omega|assumption) using hT
def zoO:List Int->Int
 |[]=>0
 |x::r=>r.foldl min x
def zup {l:List Int} (h:l≠[]) (n:Int):zoO (l++[n])=min (zoO l) n:=by
 cases l with
 |nil=>exact absurd rfl h
 |cons x r=>simp[zoO]
def zeO: ∀ (l:List Int) (a:Int),l.foldl min a<=a/\(∀n∈l,l.foldl min a<=n)/\(l.foldl min a=a\/l.foldl min a∈l)
 |[],a=>⟨ydP _,by simp,.inl rfl⟩
 |x::r,a=>by
  obtain⟨h1,h2,h3⟩:=zeO r (min a x);simp only[yba,ybA];refine⟨by omega,λn hn=> ?_, ?_⟩
  ·rcases hn with rfl | hn
   ·omega
   ·exact h2 n hn
  ·rcases h3 with h3 | h3
   ·rcases Int.le_total a x with h | h
    ·left;omega
    ·right;left;omega
   ·exact .inr (.inr h3)
def zuq {l:List Int}: ∀n∈l,zoO l<=n:=by
 cases l with
 |nil=>simp
 |cons x r=>
  intro n hn;obtain⟨h1,h2,-⟩:=zeO r x;rcases List.mem_cons.1 hn with rfl | hn
  ·exact h1
  ·exact h2 n hn
def zgW {l:List Int} (h:l≠[]):zoO l∈l:=by
 cases l with
 |nil=>exact absurd rfl h
 |cons x r=>
  obtain⟨-,-,h3⟩:=zeO r x;rcases h3 with h3 | h3
  ·simp only[zoO,h3,ybA,true_or]
  ·exact ybb _ h3
def zxh (l:List Int) (h0:l≠[]) (hn:l.length<=256):R 184 [.d (ints l)] []=some ([.d (.int .i64 (zoO l))],[]):=by
 have hlen:0<l.length:=Nat.pos_of_ne_zero (by simpa using h0)
 have a1: ¬ (l.length:Int)<1:=by omega
 refine rg zIz rfl ?_;intro T hT;simp -dsimp -implicitDefEqProofs (disch:=first|omega|assumption) [a1,hlen,h0]
 generalize hz:zak _ _ _ _ _ _=z;revert z;refine zaa (σ:=Nat) (λi=>[(0,.d (ints l)),(3,.d (.int .i64 (zoO (l.take i)))),(4,.d (.int .i64 i))]) (λi=>[]) (λi=>1<=i/\i<=l.length) (λi=>l.length - i) 1 ?_ ?_ ?_
 ·exact⟨yag _,hlen⟩
 ·cases l with
  |nil=>exact absurd rfl h0
  |cons x r=>simp -dsimp -implicitDefEqProofs (disch:=first|omega|assumption) [zoO]
 intro T' f hT' i ⟨hi1,hi⟩ ih
 by_cases h1:i<l.length
 ·have hm:zoO (l.take (i+1))=min (zoO (l.take i)) l[i]:=by
   rw[zaM h1,zup];intro h;have:=congrArg List.length h;rw[yat,yav]at this;omega
  simp -dsimp -implicitDefEqProofs (disch:=first|omega|assumption) [h1]
  refine ih (i+1) _ _ ⟨by omega,h1⟩ (by omega) ?_
  rw[hm];simp -dsimp -implicitDefEqProofs (disch:=first|omega|assumption)
  try omega
 ·rw[yaB (by omega)]
  subst hT';simp -dsimp -implicitDefEqProofs (disch:=first|omega|assumption) [h1]
  simpa -dsimp -implicitDefEqProofs (disch:=first|omega|assumption) using hT
def zlv (l:List Nat) (hl: ∀n∈l,n<18446744073709551616) (hn:l.length<=256):R 183 [.d (zA0 l)] []=some ([.arr 0 (zbB (zcI l) l).length],[.arr 1 (bytes (zbB (zcI l) l)) 0]):=by
 have h1:=zfl l hl (by omega)
 have h2:=zqI l (zcI l) hl (zcM hl) hn (yag _);refine rg zIy rfl ?_;intro T hT;simp -dsimp -implicitDefEqProofs (disch:=first|omega|assumption) [h1,h2]
 simpa -dsimp -implicitDefEqProofs (disch:=first|omega|assumption) using hT
def zhJ (f:Int->Nat) (l:List Int) (i:Nat):List D:=((l.take i).map f++List.replicate (l.length - i) 0).map λ(n:Nat)=>D.int .u64 (n:Int)
def zeP (f:Int->Nat) (l:List Int) (i:Nat) (h:i<=l.length):(zhJ f l i).length=l.length:=by simp[zhJ];omega
def zzI {α:Type} (A R:List α) (x v:α) (i:Nat) (h:A.length=i):(A++x::R).set i v=A++v::R:=by
 subst h;simp[List.set_append]
def zjS (f:Int->Nat) (l:List Int) (i:Nat) (h:i<l.length):(zhJ f l i).set i (.int .u64 (f l[i]:Int))=zhJ f l (i+1):=by
 unfold zhJ;rw[show l.length - i=(l.length - (i+1))+1 by omega,yaS,zaM h,<- ybY,zzI _ _ _ _ i (by simp;omega),ybi (f:=f),yam]
 rfl
def znQ (f:Int->Nat) (l:List Int):zhJ f l l.length=(l.map f).map λ(n:Nat)=>D.int .u64 (n:Int):=by simp[zhJ]
def zdi (l:List Int):List Nat:=l.map λn=>(n - zoO l).toNat
def zcN (l:List Int):List UInt8:=if l=[] then [] else zbi (zoO l)++(put (zcI (zdi l))++zbB (zcI (zdi l)) (zdi l))
def zgX {l:List Int} (hl: ∀n∈l,zaf n): ∀n∈zdi l,n<18446744073709551616:=by
 intro n hn;simp only[zdi,ycb]at hn;obtain⟨m,hm,rfl⟩:=hn;have h1:=hl m hm;have h2:=hl _ (zgW (l:=l) (by rintro rfl;simp at hm))
 unfold zaf at h1 h2;omega
def zdY {w:Nat} {l:List Nat} (hw:w<=64) (hn:l.length<=256):(zbB w l).length<=2048:=by
 have:l.length*w<=256*64:=ybL hn hw;simp only[zbB,zjN];omega
def zsp:R 163 [.d (ints [])] []=some ([.arr 0 0],[.arr 1 [] 0]):=by
 refine rg zHj rfl ?_;intro T hT;simp -dsimp -implicitDefEqProofs (disch:=first|omega|assumption)
 simpa -dsimp -implicitDefEqProofs (disch:=first|omega|assumption) using hT
def znR (l:List Int) (h0:l≠[]) (hl: ∀n∈l,zaf n) (hn:l.length<=256):R 163 [.d (ints l)] []=some ([.arr 0 (zcN l).length],[.arr 1 (bytes (zcN l)) 0]):=by
 have hlen:0<l.length:=Nat.pos_of_ne_zero (by simpa using h0)
 have a1: ¬ (l.length:Int)=0:=by omega
 have hmin:=zxh l h0 hn;have hmlt:=zgX hl;have hml:(zdi l).length<=256:=by simpa[zdi]using hn
 have hw:=zfl (zdi l) hmlt (by omega)
 have hw64:=zcM hmlt;have hpk:=zlv (zdi l) hmlt hml;have hplen:=zdY hw64 hml;obtain⟨wd,hwd⟩: ∃wd,wd=zcI (zdi l):=⟨_,rfl⟩;have hput:=zaW wd (by omega)
 have hputl:=zau (n:=wd) (by omega)
 obtain⟨m,hm⟩: ∃m,m=zoO l:=⟨_,rfl⟩;have hmi:zaf m:=by rw[hm];exact hl _ (zgW h0)
 have hpi:=zce m hmi.1 hmi.2;have hpil:=zbo hmi;have hB:zcN l=zbi m++(put wd++zbB wd (zdi l)):=by unfold zcN;rw[yaf h0,<- hm,<- hwd]
 rw[<- hwd]at hw hw64 hpk hplen;rw[<- hm]at hmin;rw[hB];have hend:=znQ (λn=>(n - m).toNat) l
 have hmo:l.map (λn=>(n - m).toNat)=zdi l:=by rw[hm];rfl
 rw[hmo]at hend;refine rg zHj rfl ?_;intro T hT;simp -dsimp -implicitDefEqProofs (disch:=first|omega|assumption) [h0,hmin]
 generalize hz:zak _ _ _ _ _ _=z;revert z;refine zaa (σ:=Nat) (λi=>[(3,.d (.int .i64 m)),(4,.arr 0 l.length),(16,.d (ints l)),(17,.d (.int .i64 l.length)),(18,.d (.int .i64 i))]) (λi=>[.arr 1 (zhJ (λn=>(n - m).toNat) l i) 0]) (λi=>i<=l.length) (λi=>l.length - i) 0 ?_ ?_ ?_
 ·simp
 ·simp -dsimp -implicitDefEqProofs (disch:=first|omega|assumption) [zhJ]
 intro T' f hT' i hi ih
 by_cases h1:i<l.length
 ·have hb:=hl l[i] (by simp)
  have hle:m<=l[i]:=by rw[hm];exact zuq _ (by simp)
  have hset:=zjS (λn=>(n - m).toNat) l i h1
  have hrl:=zeP (λn=>(n - m).toNat) l i hi
  obtain⟨v,hv⟩: ∃v:Nat,(v:Int)=l[i] - m:=⟨(l[i] - m).toNat,by omega⟩
  have hvv:(l[i] - m).toNat=v:=by omega
  simp only[hvv]at hset;unfold zaf at hb hmi;have hsub:IntKind.u64.wrap (IntKind.u64.wrap l[i] - IntKind.u64.wrap m)=v:=by rw[zaj,zaj,zaj];omega
  simp -dsimp -implicitDefEqProofs (disch:=first|omega|assumption) [h1,hsub,hset,hrl]
  exact ih (i+1) _ _ h1 (by omega) (by simp -dsimp -implicitDefEqProofs (disch:=first|omega|assumption))
 ·obtain rfl:i=l.length:=by omega
  have hmlen:(zdi l).length=l.length:=by simp[zdi]
  rw[hend];subst hT';simp -dsimp -implicitDefEqProofs (disch:=first|omega|assumption) [h1,hw,hput,hpi,hpk,hmlen,zan]
  simpa -dsimp -implicitDefEqProofs (disch:=first|omega|assumption) [ya0]using hT
end Go.Am.Ab
