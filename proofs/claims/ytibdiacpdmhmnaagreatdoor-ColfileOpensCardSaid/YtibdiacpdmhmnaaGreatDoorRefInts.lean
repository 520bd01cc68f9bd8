/- Lists of the document. -/
import Derived.Test.YtibdiacpdmhmnaaGreatDoorIntsB
set_option linter.all false
namespace Go.Am.Ab
open Go.Proofs
set_option maxHeartbeats 4000000
def insG (x:Int):Bool->List Int->List Int
 |done,[]=>if done then [] else [x]
 |done,y::r=>if y=x then y::insG x true r else if done then y::insG x true r else if x<y then x::y::insG x true r else y::insG x false r
def insG_true (x:Int): ∀l,insG x true l=l
 |[]=>rfl
 |y::r=>by simp[insG,insG_true x r]
def insG_false (x:Int): ∀l,insG x false l=ins x l
 |[]=>rfl
 |y::r=>by
  simp only[insG,ins,insG_true,insG_false x r,yas,ya8]
  by_cases h1:y=x
  ·subst h1;simp
  ·have h2: ¬ x=y:=λe=>h1 e.symm
   simp[h1,h2]
def insG_step {x:Int} {u:List Int} {k:Nat} (h:k<u.length) (done:Bool):insG x done (u.drop k)=(if at' u k=x then [at' u k] else if done then [at' u k] else if x<at' u k then [x,at' u k] else [at' u k])++insG x (done || decide (x=at' u k) || decide (x<at' u k)) (u.drop (k+1)):=by
 rw[yaA h,get_at h,insG]
 by_cases h1:at' u k=x
 ·have h2:x=at' u k:=h1.symm
  rw[yah h1,yah h1,yaJ h2];simp
 ·have h2: ¬ x=at' u k:=λe=>h1 e.symm
  rw[yae h1,yae h1,yaL h2];cases done with
  |true=>simp
  |false=>
   by_cases h3:x<at' u k
   ·simp[h3]
   ·simp[h3]
def zhI (l:List Int) (hn:l.length<=256):R 174 [.d (ints l)] []=some ([.arr 0 (uniq l).length],[.arr 1 (cs (uniq l)) 0]):=by
 have hsnoc: ∀i,i<l.length->uniq (l.take (i+1))=ins (at' l i) (uniq (l.take i)):=λi hi=>by
  unfold uniq;rw[zap hi,ycp,get_at hi];rfl
 refine rg zGx rfl ?_;intro T hT;simp -dsimp -implicitDefEqProofs (disch:=first|omega|assumption)
 generalize hz:zad _ _ _ _ _ _=z;revert z;refine zaa (σ:=Nat) (λi=>[(0,.d (ints l)),(3,.arr 0 (uniq (l.take i)).length),(4,.d (.int .i64 i))]) (λi=>[.arr 1 (cs (uniq (l.take i))) 0]) (λi=>i<=l.length) (λi=>l.length - i) 0 ?_ ?_ ?_
 ·simp
 ·simp -dsimp -implicitDefEqProofs (disch:=first|omega|assumption) [uniq]
 intro T' f hT' i hi ih
 by_cases h1:i<l.length
 ·have gi:=get_at h1
  have hun:=uniq_length_le (l.take i);rw[yao]at hun;have hins:=ins_length (at' l i) (uniq (l.take i));rw[<- hsnoc i h1]at hins;obtain⟨u,hu⟩: ∃u,u=uniq (l.take i):=⟨_,rfl⟩;obtain⟨x,hx⟩: ∃x,x=at' l i:=⟨_,rfl⟩;have hs:=hsnoc i h1;rw[<- hu,<- hx]at hs;rw[<- hu]at hun hins;rw[<- hx]at gi;rw[<- hu];simp -dsimp -implicitDefEqProofs (disch:=first|omega|assumption) [h1,gi]
  generalize hz:zad _ _ _ _ _ _=z;revert z;refine zaa (σ:=Nat × Bool × List Int) (λy=>[(0,.d (ints l)),(3,.arr 0 u.length),(4,.d (.int .i64 i)),(5,.arr 1 y.2.2.length),(6,.d (.bool y.2.1)),(7,.d (.int .i64 y.1))]) (λy=>[.arr 1 (cs u) 0,.arr 1 (cs y.2.2) 0]) (λy=>y.1<=u.length/\y.2.2.length<=2*y.1/\y.2.2++insG x y.2.1 (u.drop y.1)=uniq (l.take (i+1))) (λy=>u.length - y.1) (0,false,[]) ?_ ?_ ?_
  ·refine⟨yai _,yab _, ?_⟩
   simp only[ybZ,ycv];rw[insG_false,hs]
  ·simp -dsimp -implicitDefEqProofs (disch:=first|omega|assumption)
  intro T2 f2 hT2 ⟨k,done,nx⟩ ⟨k1,k2,k3⟩ ih2;simp only at k1 k2 k3 ih2
  by_cases h2:k<u.length
  ·have gk:=get_at h2
   have hst:=insG_step (x:=x) h2 done;rw[hst,<- yaq]at k3;have nd:u.drop (k+1)=u.drop (k+1):=rfl;have fin: ∀ (d2:Bool) (n2:List Int),n2=nx++(if at' u k=x then [at' u k] else if done then [at' u k] else if x<at' u k then [x,at' u k] else [at' u k])->d2=(done || decide (x=at' u k) || decide (x<at' u k))->(k+1<=u.length/\n2.length<=2*(k+1)/\n2++insG x d2 (u.drop (k+1))=uniq (l.take (i+1))):=by
    intro d2 n2 e1 e2;refine⟨h2, ?_,by rw[e1,e2];exact k3⟩
    rw[e1,yaf];have:(if at' u k=x then [at' u k] else if done then [at' u k] else if x<at' u k then [x,at' u k] else [at' u k]).length<=2:=by split <;> (try split) <;> (try split) <;> simp
    omega
   by_cases c1:at' u k=x
   ·have c1':x=at' u k:=c1.symm
    simp -dsimp -implicitDefEqProofs (disch:=first|omega|assumption) [h1,h2,gi,gk,c1]
    refine ih2 (k+1,true,nx++[x]) _ _ (fin _ _ (by rw[yah c1,c1]) (by rw[yaJ c1'];simp)) (by simp only;omega) ?_
    simp -dsimp -implicitDefEqProofs (disch:=first|omega|assumption) [c1]
   ·have c1': ¬ x=at' u k:=λe=>c1 e.symm
    cases done with
    |true=>
     simp -dsimp -implicitDefEqProofs (disch:=first|omega|assumption) [h1,h2,gi,gk,c1]
     refine ih2 (k+1,true,nx++[at' u k]) _ _ (fin _ _ (by rw[yae c1];rfl) (by simp)) (by simp only;omega) ?_
     simp -dsimp -implicitDefEqProofs (disch:=first|omega|assumption) [c1]
    |false=>
     by_cases c2:x<at' u k
     ·simp -dsimp -implicitDefEqProofs (disch:=first|omega|assumption) [h1,h2,gi,gk,c1,c2]
      refine ih2 (k+1,true,nx++[x,at' u k]) _ _ (fin _ _ (by rw[yae c1,yae (by simp),yah c2]) (by simp[c2])) (by simp only;omega) ?_
      simp -dsimp -implicitDefEqProofs (disch:=first|omega|assumption) [c1]
     ·simp -dsimp -implicitDefEqProofs (disch:=first|omega|assumption) [h1,h2,gi,gk,c1,c2]
      refine ih2 (k+1,false,nx++[at' u k]) _ _ (fin _ _ (by rw[yae c1,yae (by simp),yae c2]) (by simp[c2,c1'])) (by simp only;omega) ?_
      simp -dsimp -implicitDefEqProofs (disch:=first|omega|assumption) [c1]
  ·have h2':k=u.length:=by omega
   rw[ybj (by omega)]at k3
   have hnl:(uniq (l.take (i+1))).length<=257:=by omega
   subst hT2;cases done with
   |true=>
    have k4:nx=uniq (l.take (i+1)):=by rw[<- k3];simp[insG]
    simp -dsimp -implicitDefEqProofs (disch:=first|omega|assumption) [h1,h2,gi]
    refine ih (i+1) _ _ h1 (by omega) ?_
    rw[<- k4];simp -dsimp -implicitDefEqProofs (disch:=first|omega|assumption)
   |false=>
    have k4:nx++[x]=uniq (l.take (i+1)):=by rw[<- k3];simp[insG]
    simp -dsimp -implicitDefEqProofs (disch:=first|omega|assumption) [h1,h2,gi]
    refine ih (i+1) _ _ h1 (by omega) ?_
    rw[<- k4];simp -dsimp -implicitDefEqProofs (disch:=first|omega|assumption)
 ·have hil:i=l.length:=by omega
  rw[yaw (by omega)]
  subst hT';simp -dsimp -implicitDefEqProofs (disch:=first|omega|assumption) [h1]
  simpa -dsimp -implicitDefEqProofs (disch:=first|omega|assumption) using hT
def zq6 (u:List Int) (n:Int) (hu:u.length<=256) (hr:Rises u) (hm:n∈u):R 175 [.d (ints u),.d (.int .i64 n)] []=some ([.d (.int .u64 (idx u n))],[]):=by
 have hk:=zkE hm;have ha:=zsA hm;have hur:=rises_iff.1 hr;obtain⟨k,hkk⟩: ∃k,k=idx u n:=⟨_,rfl⟩;rw[<- hkk]at hk ha ⊢;refine rg zGy rfl ?_;intro T hT;simp -dsimp -implicitDefEqProofs (disch:=first|omega|assumption)
 generalize hz:zad _ _ _ _ _ _=z;revert z;refine zaa (σ:=Nat) (λi=>[(0,.d (ints u)),(1,.d (.int .i64 n)),(5,.d (.int .i64 i))]) (λi=>[]) (λi=>i<=k) (λi=>k - i) 0 ?_ ?_ ?_
 ·simp
 ·simp -dsimp -implicitDefEqProofs (disch:=first|omega|assumption)
 intro T' f hT' i hi ih;have hiu:i<u.length:=by omega
 have gi:=get_at hiu
 by_cases h1:i=k
 ·have gk:=get_at hk
  have hw:IntKind.u64.wrap (k:Int)=k:=zai (by omega) (by omega)
  subst hT';rw[h1];simp -dsimp -implicitDefEqProofs (disch:=first|omega|assumption) [hk,gk,ha,hw]
  simpa -dsimp -implicitDefEqProofs (disch:=first|omega|assumption) [hw]using hT
 ·have h2: ¬ at' u i=n:=by
   have:=hur i k (by omega) hk
   omega
  simp -dsimp -implicitDefEqProofs (disch:=first|omega|assumption) [hiu,gi,h2]
  exact ih (i+1) _ _ (by omega) (by omega) (by simp -dsimp -implicitDefEqProofs (disch:=first|omega|assumption))
end Go.Am.Ab
namespace Go.Am.Ab
open Go.Proofs
set_option maxHeartbeats 4000000
def zEv (l:List Int) (hl: ∀n∈l,zal n) (hn:l.length<=256):R 145 [.d (.int .i64 0),.d (ints l)] []=some ([.arr 0 (zbO l).length,.d (.bool true)],[.arr 1 (bytes (zbO l)) 0]):=by
 have h6: ¬ (256:Int)<l.length:=by omega
 have h6': ¬ 256<l.length:=by omega
 refine rg zx3 rfl ?_;intro T hT;simp -dsimp -implicitDefEqProofs (disch:=first|omega|assumption) [h6,h6']
 generalize hz:zad _ _ _ _ _ _=z;revert z;refine zaa (σ:=Nat) (λi=>[(1,.d (ints l)),(6,.arr 0 (zbO (l.take i)).length),(7,.d (.int .i64 i))]) (λi=>[.arr 1 (bytes (zbO (l.take i))) 0]) (λi=>i<=l.length) (λi=>l.length - i) 0 ?_ ?_ ?_
 ·simp
 ·simp -dsimp -implicitDefEqProofs (disch:=first|omega|assumption) [zbO]
 intro T' f hT' i hi ih
 by_cases h1:i<l.length
 ·have hb:=hl l[i] (by simp)
  have hp:=zbN l[i] hb.1 hb.2;have hlen:=zaP hb;have hlen2:=ze7 (l:=l.take i) λn h=>hl n (yaH h)
  rw[yao]at hlen2;simp -dsimp -implicitDefEqProofs (disch:=first|omega|assumption) [h1,hp]
  refine ih (i+1) _ _ h1 (by omega) ?_
  rw[zap h1,zfO];simp -dsimp -implicitDefEqProofs (disch:=first|omega|assumption)
 ·rw[yaw (by omega)]
  subst hT';simp -dsimp -implicitDefEqProofs (disch:=first|omega|assumption) [h1]
  simpa -dsimp -implicitDefEqProofs (disch:=first|omega|assumption) using hT
def zi0 (x:Int): ∀ (l:List Int) (a:Int),zcX a (l++[x])=zcX a l++[IntKind.i64.wrap (x - l.getLastD a)]
 |[],a=>by simp[zcX]
 |y::r,a=>by rw[ybm,zcX,zi0 x r y,zcX,ybm,List.getLastD_cons]
def zon {l:List Int} {i:Nat} (h:i<l.length):zdf (l.take (i+1))=zdf (l.take i)++za5 (IntKind.i64.wrap (at' l i - if i=0 then 0 else at' l (i - 1))):=by
 unfold zdf;rw[zap h,zi0,zfO,get_at h];congr 3;cases i with
 |zero=>simp
 |succ j=>
  rw[yae (by omega),zap (by omega),get_at]
  simp
def zEw (l:List Int) (hl: ∀n∈l,zal n) (hn:l.length<=256):R 145 [.d (.int .i64 1),.d (ints l)] []=some ([.arr 0 (zdf l).length,.d (.bool true)],[.arr 1 (bytes (zdf l)) 0]):=by
 have h6: ¬ (256:Int)<l.length:=by omega
 have h6': ¬ 256<l.length:=by omega
 refine rg zx3 rfl ?_;intro T hT;simp -dsimp -implicitDefEqProofs (disch:=first|omega|assumption) [h6,h6']
 generalize hz:zad _ _ _ _ _ _=z;revert z;refine zaa (σ:=Nat) (λi=>[(1,.d (ints l)),(6,.arr 0 (zdf (l.take i)).length),(8,.d (.int .i64 i))]) (λi=>[.arr 1 (bytes (zdf (l.take i))) 0]) (λi=>i<=l.length) (λi=>l.length - i) 0 ?_ ?_ ?_
 ·simp
 ·simp -dsimp -implicitDefEqProofs (disch:=first|omega|assumption) [zdf,zcX,zbO]
 intro T' f hT' i hi ih
 by_cases h1:i<l.length
 ·have gi:=get_at h1
  have hb:zal (at' l i):=by rw[<- gi];exact hl _ (yal _)
  have hlen2:=zg6 (l.take i);rw[yao]at hlen2;have hs:=zon h1
  by_cases h0:i=0
  ·subst h0
   have hwr:IntKind.i64.wrap (at' l 0 - 0)=at' l 0:=by unfold zal at hb;rw[wI (by omega) (by omega)];omega
   rw[yah rfl,hwr]at hs;have hp:=zbN (at' l 0) hb.1 hb.2;have hlen:=zaP hb;have hd0:zdf []=[]:=rfl;simp -dsimp -implicitDefEqProofs (disch:=first|omega|assumption) [h1,gi,hp,hd0]
   refine ih (0+1) _ _ h1 (by omega) ?_
   rw[hs];simp -dsimp -implicitDefEqProofs (disch:=first|omega|assumption) [hd0]
  ·obtain⟨w,hw⟩: ∃w,i=w+1:=⟨i - 1,by omega⟩
   have q0:(i:Int) - 1=w:=by omega
   have hwl:w<l.length:=by omega
   have gw:=get_at hwl;have hbw:zal (at' l w):=by rw[<- gw];exact hl _ (yal _)
   rw[yae h0,show i - 1=w by omega]at hs
   obtain⟨v,hv⟩: ∃v,v=IntKind.i64.wrap (at' l i - at' l w):=⟨_,rfl⟩;rw[<- hv]at hs;have hvi:zal v:=by rw[hv];exact zec _
   have hp:=zbN v hvi.1 hvi.2;have hlen:=zaP hvi;have hsub:IntKind.i64.wrap (IntKind.u64.wrap (IntKind.u64.wrap (at' l i) - IntKind.u64.wrap (at' l w)))=v:=by
    rw[hv,zac,zac,zac,zaZ,zaZ];have e:((at' l i % 18446744073709551616 - at' l w % 18446744073709551616) % 18446744073709551616) % 18446744073709551616=(at' l i - at' l w) % 18446744073709551616:=by omega
    rw[e]
   have h0': ¬ (i:Int)=0:=by omega
   simp -dsimp -implicitDefEqProofs (disch:=first|omega|assumption) [h1,gi,gw,hwl,h0,h0',q0,hsub,hp]
   refine ih (i+1) _ _ h1 (by omega) ?_
   rw[hs];simp -dsimp -implicitDefEqProofs (disch:=first|omega|assumption)
 ·rw[yaw (by omega)]
  subst hT';simp -dsimp -implicitDefEqProofs (disch:=first|omega|assumption) [h1]
  simpa -dsimp -implicitDefEqProofs (disch:=first|omega|assumption) using hT
def zsB (x:Int) (r:List Int) (h:r.head?≠some x): ∀k,cnt x (List.replicate k x++r)=k
 |0=>by
  cases r with
  |nil=>rfl
  |cons y r=>
   have: ¬ y=x:=λe=>h (by simp[e])
   simp[cnt,this]
 |k+1=>by rw[yaN,ybm,cnt,yah rfl,zsB x r h k]
def zsC (x:Int) (r:List Int) (k:Nat) (h:r.head?≠some x):zcQ (List.replicate (k+1) x++r)=za5 x++(put (k+1)++zcQ r):=by
 rw[zkC (x:=x) (r:=List.replicate k x++r) (by rw[yaN];rfl),zsB x r h,List.drop_left' (by simp)]
def zsD {l:List Int} {i:Nat} (h:i<l.length):(l.drop i).head?=some (at' l i):=by
 rw[yaA h,get_at h];rfl
def zu4 {l:List Int} {i k:Nat} (h:i<l.length):List.replicate k (at' l i)++l.drop i=List.replicate (k+1) (at' l i)++l.drop (i+1):=by
 rw[yaA h,get_at h,ydf,yaq];rfl
def zEx (l:List Int) (hl: ∀n∈l,zal n) (hn:l.length<=256):R 145 [.d (.int .i64 2),.d (ints l)] []=some ([.arr 0 (zcQ l).length,.d (.bool true)],[.arr 1 (bytes (zcQ l)) 0]):=by
 have h6: ¬ (256:Int)<l.length:=by omega
 have h6': ¬ 256<l.length:=by omega
 have hbnd:=zgo l.length l hl (by omega) (yab _)
 rw[show zg7 l.length l=zcQ l from rfl]at hbnd
 refine rg zx3 rfl ?_;intro T hT;simp -dsimp -implicitDefEqProofs (disch:=first|omega|assumption) [h6,h6']
 generalize hz:zad _ _ _ _ _ _=z;revert z;refine zaa (σ:=Nat × Nat × List UInt8) (λx=>[(1,.d (ints l)),(6,.arr 0 x.2.2.length),(9,.d (.int .i64 x.2.1)),(10,.d (.int .i64 x.1))]) (λx=>[.arr 1 (bytes x.2.2) 0]) (λx=>x.1<=l.length/\x.2.1<=x.1/\(0<x.2.1->x.1<l.length)/\x.2.2++zcQ (List.replicate x.2.1 (at' l x.1)++l.drop x.1)=zcQ l) (λx=>l.length - x.1) (0,0,[]) ?_ ?_ ?_
 ·exact⟨yai _,yab _,λh=>by simp only at h;omega,by simp⟩
 ·simp -dsimp -implicitDefEqProofs (disch:=first|omega|assumption)
 intro T' f hT' ⟨i,c,b⟩ ⟨hi,hc,hc2,hb⟩ ih;simp only at hi hc hc2 hb ih
 by_cases h1:i<l.length
 ·have gi:=get_at h1
  have hbi:zal (at' l i):=by rw[<- gi];exact hl _ (yal _)
  have hp:=zbN (at' l i) hbi.1 hbi.2;have hlen:=zaP hbi;have hp2:=zaV (c+1) (by omega)
  have hlen2:=zan (n:=c+1) (by omega)
  have hc1:((c+1:Nat):Int)=(c:Int)+1:=by omega
  rw[hc1]at hp2;have hw:IntKind.u64.wrap ((c:Int)+1)=(c:Int)+1:=zai (by omega) (by omega)
  rw[zu4 h1]at hb;have emit:(l.drop (i+1)).head?≠some (at' l i)->(b++(za5 (at' l i)++put (c+1)))++zcQ (List.replicate 0 (at' l (i+1))++l.drop (i+1))=zcQ l:=by
   intro h;rw[<- hb,zsC _ _ _ h];simp
  have hbl:b.length<=(zcQ l).length:=by rw[<- hb];simp
  by_cases h2:i+1=l.length
  ·have h2':(l.length:Int) - 1=i:=by omega
   have he:=emit (by rw[ybj (by omega)];simp)
   simp -dsimp -implicitDefEqProofs (disch:=first|omega|assumption) [h1,gi,h2',hp,hp2,hw]
   refine ih (i+1,0,b++(za5 (at' l i)++put (c+1))) _ _ ⟨h1,yai _,λh=>by simp only at h;omega,he⟩ (by simp only;omega) ?_
   simp -dsimp -implicitDefEqProofs (disch:=first|omega|assumption) [h2',yaC]
  ·have h2': ¬ (i:Int)=(l.length:Int) - 1:=by omega
   have h3:i+1<l.length:=by omega
   have gj:=get_at h3
   by_cases h4:at' l (i+1)=at' l i
   ·simp -dsimp -implicitDefEqProofs (disch:=first|omega|assumption) [h1,gi,h2',h3,gj,h4]
    refine ih (i+1,c+1,b) _ _ ⟨h1,by simp only;omega,λ_=>h3,by simp only;rw[h4];exact hb⟩ (by simp only;omega) ?_
    simp -dsimp -implicitDefEqProofs (disch:=first|omega|assumption)
   ·have he:=emit (by rw[zsD h3];intro e;exact h4 (ybd e))
    simp -dsimp -implicitDefEqProofs (disch:=first|omega|assumption) [h1,gi,h2',h3,gj,h4,hp,hp2,hw]
    refine ih (i+1,0,b++(za5 (at' l i)++put (c+1))) _ _ ⟨h1,yai _,λh=>by simp only at h;omega,he⟩ (by simp only;omega) ?_
    simp -dsimp -implicitDefEqProofs (disch:=first|omega|assumption) [yaC]
 ·have hc0:c=0:=by omega
  have hbb:b=zcQ l:=by
   rw[<- hb,hc0,ybj (by omega)]
   simp[zcQ,zg7]
  rw[hbb];subst hT';simp -dsimp -implicitDefEqProofs (disch:=first|omega|assumption) [h1]
  simpa -dsimp -implicitDefEqProofs (disch:=first|omega|assumption) using hT
end Go.Am.Ab
namespace Go.Am.Ab
open Go.Proofs
set_option maxHeartbeats 4000000
def zEy (l:List Int) (hl: ∀n∈l,zal n) (hn:l.length<=256):R 145 [.d (.int .i64 3),.d (ints l)] []=some ([.arr 0 (zmN l).length,.d (.bool true)],[.arr 1 (bytes (zmN l)) 0]):=by
 have h6: ¬ (256:Int)<l.length:=by omega
 have h6': ¬ 256<l.length:=by omega
 have hun:=zhI l hn;have hul:(uniq l).length<=256:=by have:=uniq_length_le l;omega
 have hui: ∀n∈uniq l,zal n:=λn h=>hl n (uniq_mem.1 h)
 have hrs:=uniq_rises l;have hur:=rises_iff.1 hrs;have hum: ∀n∈l,n∈uniq l:=λn h=>uniq_mem.2 h
 have hpm:=ziX hn;have hpl:(za0 (uniq l) l).length=l.length:=by simp[za0]
 have hpw:=zcm hpm;have hwr:=zfN (za0 (uniq l) l) hpm (by omega)
 have hpk:=ziT (za0 (uniq l) l) (zbd (za0 (uniq l) l)) hpm hpw (by omega) (yab _)
 have hplen:=zcH hpw (by omega:(za0 (uniq l) l).length<=256)
 rw[show zmN l=put (uniq l).length++(zbF (uniq l)++zbY (zbd (za0 (uniq l) l)) (za0 (uniq l) l)) from rfl]
 obtain⟨u,hu⟩: ∃u,u=uniq l:=⟨_,rfl⟩;rw[<- hu]at hun hul hui hrs hur hum hpm hpl hpw hwr hpk hplen ⊢;clear hpm hu;have hput:=zaV u.length (by omega)
 have hputl:=zan (n:=u.length) (by omega)
 have hbi:=zdJ hui;obtain⟨wd,hwd⟩: ∃wd,wd=zbd (za0 u l):=⟨_,rfl⟩;rw[<- hwd]at hpw hwr hpk hplen ⊢;obtain⟨pk,hpkd⟩: ∃pk,pk=zbY wd (za0 u l):=⟨_,rfl⟩;rw[<- hpkd]at hpk hplen ⊢;have hw0:IntKind.u64.wrap (u.length:Int)=u.length:=zai (by omega) (by omega)
 refine rg zx3 rfl ?_;intro T hT;simp -dsimp -implicitDefEqProofs (disch:=first|omega|assumption) [h6,h6',hun,hput,hw0]
 generalize hz:zad _ _ _ _ _ _=z;revert z;refine zaa (σ:=Nat) (λi=>[(1,.d (ints l)),(6,.arr 0 (put u.length++zbF (u.take i)).length),(11,.arr 1 u.length),(12,.arr 2 0),(13,.d (.int .i64 i))]) (λi=>[.arr 1 (bytes (put u.length++zbF (u.take i))) 0,.arr 1 (cs u) 0,.arr 1 [] 0]) (λi=>i<=u.length) (λi=>u.length - i) 0 ?_ ?_ ?_
 ·simp
 ·simp -dsimp -implicitDefEqProofs (disch:=first|omega|assumption) [zbF]
 intro T' f hT' i hi ih
 by_cases h1:i<u.length
 ·have hbt:=zdJ (l:=u.take i) λn h=>hui n (yaH h)
  rw[yao]at hbt;have gi':=get_at h1;have hri:=zg9 h1;have hii:zal (at' u i):=by rw[<- get_at h1];exact hui _ (yal _)
  by_cases h0:i=0
  ·subst h0
   have hr0:zbF []=[]:=rfl;have hp:=zbN (at' u 0) hii.1 hii.2;have hlen:=zaP hii;rw[yah rfl]at hri;simp -dsimp -implicitDefEqProofs (disch:=first|omega|assumption) [h1,gi',hp,hr0]
   refine ih (0+1) _ _ h1 (by omega) ?_
   rw[hri];simp -dsimp -implicitDefEqProofs (disch:=first|omega|assumption) [zbF,yaC]
  ·obtain⟨w,hw⟩: ∃w,i=w+1:=⟨i - 1,by omega⟩
   have q0:(i:Int) - 1=w:=by omega
   have hwl:w<u.length:=by omega
   have gw':=get_at hwl;have hjj:zal (at' u w):=by rw[<- get_at hwl];exact hui _ (yal _)
   rw[yae h0,show i - 1=w by omega]at hri
   have hlt:=hur w i (by omega) h1
   unfold zal at hii hjj;obtain⟨v,hv⟩: ∃v:Nat,(v:Int)=at' u i - at' u w:=⟨(at' u i - at' u w).toNat,by omega⟩
   have hvv:(at' u i - at' u w).toNat=v:=by omega
   rw[hvv]at hri;have hp:=zaV v (by omega)
   have hlen:=zan (n:=v) (by omega)
   have hsub:IntKind.u64.wrap (IntKind.u64.wrap (at' u i) - IntKind.u64.wrap (at' u w))=v:=by rw[zac,zac,zac];omega
   have h0': ¬ (i:Int)=0:=by omega
   simp -dsimp -implicitDefEqProofs (disch:=first|omega|assumption) [h1,gi',gw',hwl,h0,h0',q0,hsub,hp]
   refine ih (i+1) _ _ h1 (by omega) ?_
   rw[hri];simp -dsimp -implicitDefEqProofs (disch:=first|omega|assumption) [yaC]
 ·rw[yaw (by omega)]
  subst hT';simp -dsimp -implicitDefEqProofs (disch:=first|omega|assumption) [h1]
  clear ih hi h1;generalize hz:zad _ _ _ _ _ _=z;revert z;refine zaa (σ:=Nat × Nat) (λx=>[(1,.d (ints l)),(6,.arr 0 (put u.length++zbF u).length),(11,.arr 1 u.length),(12,.arr 2 x.1),(14,.d (.int .i64 x.1))]) (λx=>[.arr 1 (bytes (put u.length++zbF u)) 0,.arr 1 (cs u) x.2,.arr 1 ((za0 u (l.take x.1)).map λ(n:Nat)=>D.int .u64 (n:Int)) 0]) (λx=>x.1<=l.length) (λx=>l.length - x.1) (0,0) ?_ ?_ ?_
  ·simp
  ·simp -dsimp -implicitDefEqProofs (disch:=first|omega|assumption) [za0]
  intro T2 f2 hT2 ⟨i,wm⟩ hi ih;simp only at hi ih;have hpi:(za0 u (l.take i)).length=i:=by simp[za0];omega
  by_cases h1:i<l.length
  ·have hmem:=hum l[i] (by simp)
   have hpl:=zq6 u l[i] hul hrs hmem;have hsn:za0 u (l.take (i+1))=za0 u (l.take i)++[idx u l[i]]:=by unfold za0;rw[zap h1,ya7];rfl
   simp -dsimp -implicitDefEqProofs (disch:=first|omega|assumption) [h1,hpl,hpi]
   refine ih (i+1,u.length) _ _ h1 (by simp only;omega) ?_
   simp only;rw[hsn];simp -dsimp -implicitDefEqProofs (disch:=first|omega|assumption)
  ·have hil:i=l.length:=by omega
   subst hT2;rw[hil,yaR];rw[hil,yaR]at hpi;simp -dsimp -implicitDefEqProofs (disch:=first|omega|assumption) [hwr,hpk,hpi]
   simpa -dsimp -implicitDefEqProofs (disch:=first|omega|assumption) [yaC]using hT
end Go.Am.Ab
namespace Go.Am.Ab
open Go.Proofs
set_option maxHeartbeats 4000000
def zsE {l:List Int} (h:l≠[]):0<(uniq l).length:=by
 cases l with
 |nil=>exact absurd rfl h
 |cons x r=>exact List.length_pos_of_mem (uniq_mem.2 (by simp:x∈x::r))
def zsF {l:List Int} (h:l≠[]):at' (uniq l) 0=znG l:=by
 have h0:=zsE h;have hur:=rises_iff.1 (uniq_rises l);have h1:at' (uniq l) 0∈uniq l:=by rw[<- get_at h0];exact yal _
 have h2:=zol _ (uniq_mem.1 h1);obtain⟨i,hi,he⟩:=mem_at.1 (uniq_mem.2 (zgp h))
 by_cases c:i=0
 ·subst c;exact he
 ·have:=hur 0 i (by omega) hi
  omega
def zu5:R 145 [.d (.int .i64 4),.d (ints [])] []=some ([.arr 0 0,.d (.bool true)],[.arr 1 [] 0]):=by
 refine rg zx3 rfl ?_;intro T hT;simp -dsimp -implicitDefEqProofs (disch:=first|omega|assumption)
 simpa -dsimp -implicitDefEqProofs (disch:=first|omega|assumption) using hT
def zEz (l:List Int) (h0:l≠[]) (hl: ∀n∈l,zal n) (hn:l.length<=256):R 145 [.d (.int .i64 4),.d (ints l)] []=some ([.arr 0 (zcG l).length,.d (.bool true)],[.arr 1 (bytes (zcG l)) 0]):=by
 have h6: ¬ (256:Int)<l.length:=by omega
 have h6': ¬ 256<l.length:=by omega
 have hlen:0<l.length:=ydv (by simpa using h0)
 have hun:=zhI l hn;have hul:=uniq_length_le l;have hu0:=zsE h0;have gu:=get_at hu0;rw[zsF h0]at gu;have hmlt:=zlo hl;have hml:(zbU l).length<=256:=by simpa[zbU]using hn
 have hmlen:(zbU l).length=l.length:=by simp[zbU]
 have hw:=zfN (zbU l) hmlt (by omega)
 have hw64:=zcm hmlt;have hpk:=ziT (zbU l) (zbd (zbU l)) hmlt hw64 hml (yab _);have hplen:=zcH hw64 hml;obtain⟨wd,hwd⟩: ∃wd,wd=zbd (zbU l):=⟨_,rfl⟩;obtain⟨m,hm⟩: ∃m,m=znG l:=⟨_,rfl⟩;have hmi:zal m:=by rw[hm];exact hl _ (zgp h0)
 have hpi:=zbN m hmi.1 hmi.2;have hpil:=zaP hmi;have hB:zcG l=za5 m++(put wd++zbY wd (zbU l)):=by unfold zcG;rw[yae h0,<- hm,<- hwd]
 rw[<- hwd]at hw hw64 hpk hplen;rw[<- hm]at gu;have hput1:put wd=[u8n wd]:=zkA (by omega)
 rw[hB,hput1];have hbb:zbb (u8n wd)= .int .u8 (wd:Int):=zgm (by rw[zeG (by omega)])
 have hmod:(wd:Int) % 256=wd:=by omega
 have hne: ¬ (l.length:Int)=0:=by omega
 obtain⟨u,hu⟩: ∃u,u=uniq l:=⟨_,rfl⟩;obtain⟨pk,hpkd⟩: ∃pk,pk=zbY wd (zbU l):=⟨_,rfl⟩;rw[<- hpkd]at hpk hplen ⊢;simp only[<- hu]at hun hul hu0 gu;have hmt: ∀i,i<=l.length->((zbU l).take i).length=i:=λi hi=>by rw[yao];omega
 have hms: ∀i,(h:i<l.length)->(zbU l).take (i+1)=(zbU l).take i++[(l[i] - m).toNat]:=λi h=>by
  rw[zap (by omega:i<(zbU l).length)];simp[zbU,hm]
 refine rg zx3 rfl ?_;intro T hT;simp -dsimp -implicitDefEqProofs (disch:=first|omega|assumption) [h6,h6',h0,hne,hun,hu0,gu]
 generalize hz:zad _ _ _ _ _ _=z;revert z;refine zaa (σ:=Nat) (λi=>[(1,.d (ints l)),(17,.d (.int .i64 m)),(18,.arr 0 i),(19,.d (.int .i64 i))]) (λi=>[.arr 1 (((zbU l).take i).map λ(n:Nat)=>D.int .u64 (n:Int)) 0]) (λi=>i<=l.length) (λi=>l.length - i) 0 ?_ ?_ ?_
 ·simp
 ·simp -dsimp -implicitDefEqProofs (disch:=first|omega|assumption)
 intro T' f hT' i hi ih;have hti:=hmt i hi
 by_cases h1:i<l.length
 ·have hb:=hl l[i] (by simp)
  have hle:m<=l[i]:=by rw[hm];exact zol _ (by simp)
  obtain⟨v,hv⟩: ∃v:Nat,(v:Int)=l[i] - m:=⟨(l[i] - m).toNat,by omega⟩
  have hvv:(l[i] - m).toNat=v:=by omega
  have hs:=hms i h1;rw[hvv]at hs;unfold zal at hb hmi;have hsub:IntKind.u64.wrap (IntKind.u64.wrap l[i] - IntKind.u64.wrap m)=v:=by rw[zac,zac,zac];omega
  simp -dsimp -implicitDefEqProofs (disch:=first|omega|assumption) [h1,hsub,hti]
  refine ih (i+1) _ _ h1 (by omega) ?_
  rw[hs];simp -dsimp -implicitDefEqProofs (disch:=first|omega|assumption)
 ·have hil:i=l.length:=by omega
  rw[yaw (by omega)]
  subst hT';rw[hil];simp -dsimp -implicitDefEqProofs (disch:=first|omega|assumption) [hw,hpk,hpi,hmlen,hmod]
  simpa -dsimp -implicitDefEqProofs (disch:=first|omega|assumption) [yaC,yby]using hT
def zoo (c:Nat) (l:List Int) (hl: ∀n∈l,zal n) (hn:l.length<=256) (hc:c<5):R 145 [.d (.int .i64 c),.d (ints l)] []=some ([.arr 0 (zhH c l).length,.d (.bool true)],[.arr 1 (bytes (zhH c l)) 0]):=by
 have h:c=0\/c=1\/c=2\/c=3\/c=4:=by omega
 rcases h with rfl | rfl | rfl | rfl | rfl
 ·exact zEv l hl hn
 ·exact zEw l hl hn
 ·exact zEx l hl hn
 ·exact zEy l hl hn
 ·by_cases h:l=[]
  ·subst h;exact zu5
  ·exact zEz l h hl hn
def zi1 (l:List Int) (hl: ∀n∈l,zal n) (hn:l.length<=256):R 103 [.d (ints l)] []=some ([.arr 0 (zcs l).length,.d (.bool true)],[.arr 1 (bytes (zcs l)) 0]):=by
 refine rg zF6 rfl ?_;intro T hT;simp -dsimp -implicitDefEqProofs (disch:=first|omega|assumption)
 generalize hz:zad _ _ _ _ _ _=z;revert z;refine zaa (σ:=Nat) (λi=>[(0,.d (ints l)),(4,.arr 0 (za1 l i).length),(5,.d (.int .i64 i))]) (λi=>[.arr 1 (bytes (za1 l i)) 0]) (λi=>i<=5) (λi=>5 - i) 0 ?_ ?_ ?_
 ·simp
 ·simp -dsimp -implicitDefEqProofs (disch:=first|omega|assumption) [za1]
 intro T' f hT' i hi ih;have hbl:=ze8 hl hn i
 by_cases h1:i<5
 ·have h1':(i:Int)<5:=by omega
  have g:=zoo i l hl hn h1;have hel:=zlr i hl hn;have hw:(i:Int) % 256=i:=by omega
  by_cases h0:i=0
  ·subst h0
   have e1:za1 l 1=u8n 0::zhH 0 l:=by rw[za1,yah (.inl rfl)]
   rw[show ((0:Nat):Int)=0 from rfl]at g
   simp -dsimp -implicitDefEqProofs (disch:=first|omega|assumption) [g]
   refine ih (0+1) _ _ (by omega) (by omega) ?_
   rw[yaY,e1];simp -dsimp -implicitDefEqProofs (disch:=first|omega|assumption) [yby]
  ·have h0': ¬ (i:Int)=0:=by omega
   by_cases h2:(zhH i l).length+1<(za1 l i).length
   ·have h2':((zhH i l).length:Int)+1<((za1 l i).length:Int):=by omega
    have e1:za1 l (i+1)=u8n i::zhH i l:=by rw[za1,yah (.inr h2)]
    simp -dsimp -implicitDefEqProofs (disch:=first|omega|assumption) [h1',g,h0,h0',h2',hw]
    refine ih (i+1) _ _ (by omega) (by omega) ?_
    rw[e1];simp -dsimp -implicitDefEqProofs (disch:=first|omega|assumption) [hw,yby]
   ·have h2': ¬ ((zhH i l).length:Int)+1<((za1 l i).length:Int):=by omega
    have e1:za1 l (i+1)=za1 l i:=by rw[za1,yae (by omega)]
    simp -dsimp -implicitDefEqProofs (disch:=first|omega|assumption) [h1',g,h0,h0',h2',hw]
    refine ih (i+1) _ _ (by omega) (by omega) ?_
    rw[e1];simp -dsimp -implicitDefEqProofs (disch:=first|omega|assumption) [hw]
 ·obtain rfl:i=5:=by omega
  subst hT';simp -dsimp -implicitDefEqProofs (disch:=first|omega|assumption)
  simpa -dsimp -implicitDefEqProofs (disch:=first|omega|assumption) [zcs]using hT
end Go.Am.Ab
