/- Lists of the document. -/
import Derived.Test.YtibdiacpdmhmnaaGreatDoorIntsB
set_option linter.all false
namespace Go.Am.Ab
open Go.Proofs
set_option maxHeartbeats 4000000
def insG (x:Int):Bool->List Int->List Int
 |done,[]=>if done then [] else [x]
 |done,y::r=>if y=x then y::insG x true r else if done then y::insG x true r else if x<y then x::y::insG x true r else y::insG x false r
def insG_true (x:Int): ∀l,insG x true l=l
 |[]=>rfl
 |y::r=>by simp[insG,insG_true x r]
def insG_false (x:Int): ∀l,insG x false l=ins x l
 |[]=>rfl
 |y::r=>by
  simp only[insG,ins,insG_true,insG_false x r,yau,yaY]
  by_cases h1:y=x
  ·subst h1;simp
  ·have h2: ¬ x=y:=λe=>h1 e.symm
   simp[h1,h2]
def insG_step {x:Int} {u:List Int} {k:Nat} (h:k<u.length) (done:Bool):insG x done (u.drop k)=(if at' u k=x then [at' u k] else if done then [at' u k] else if x<at' u k then [x,at' u k] else [at' u k])++insG x (done || decide (x=at' u k) || decide (x<at' u k)) (u.drop (k+1)):=by
 rw[yaC h,get_at h,insG]
 by_cases h1:at' u k=x
 ·have h2:x=at' u k:=h1.symm
  rw[yaj h1,yaj h1,yaK h2];simp
 ·have h2: ¬ x=at' u k:=λe=>h1 e.symm
  rw[yag h1,yag h1,yaM h2];cases done with
  |true=>simp
  |false=>
   by_cases h3:x<at' u k
   ·simp[h3]
   ·simp[h3]
def ziN (l:List Int) (hn:l.length<=256):R 174 [.d (ints l)] []=some ([.arr 0 (uniq l).length],[.arr 1 (cs (uniq l)) 0]):=by
 have hsnoc: ∀i,i<l.length->uniq (l.take (i+1))=ins (at' l i) (uniq (l.take i)):=λi hi=>by
  unfold uniq;rw[zao hi,yci,get_at hi];rfl
 refine rg zJA rfl ?_;intro T hT;simp -dsimp -implicitDefEqProofs (disch:=first|omega|assumption)
 generalize hz:zaj _ _ _ _ _ _=z;revert z;refine zaa (σ:=Nat) (λi=>[(0,.d (ints l)),(3,.arr 0 (uniq (l.take i)).length),(4,.d (.int .i64 i))]) (λi=>[.arr 1 (cs (uniq (l.take i))) 0]) (λi=>i<=l.length) (λi=>l.length - i) 0 ?_ ?_ ?_
 ·simp
 ·simp -dsimp -implicitDefEqProofs (disch:=first|omega|assumption) [uniq]
 intro T' f hT' i hi ih
 by_cases h1:i<l.length
 ·have gi:=get_at h1
  have hun:=uniq_length_le (l.take i);rw[yan]at hun;have hins:=ins_length (at' l i) (uniq (l.take i));rw[<- hsnoc i h1]at hins;obtain⟨u,hu⟩: ∃u,u=uniq (l.take i):=⟨_,rfl⟩;obtain⟨x,hx⟩: ∃x,x=at' l i:=⟨_,rfl⟩;have hs:=hsnoc i h1;rw[<- hu,<- hx]at hs;rw[<- hu]at hun hins;rw[<- hx]at gi;rw[<- hu];simp -dsimp -implicitDefEqProofs (disch:=first|omega|assumption) [h1,gi]
  generalize hz:zaj _ _ _ _ _ _=z;revert z;refine zaa (σ:=Nat × Bool × List Int) (λy=>[(0,.d (ints l)),(3,.arr 0 u.length),(4,.d (.int .i64 i)),(5,.arr 1 y.2.2.length),(6,.d (.bool y.2.1)),(7,.d (.int .i64 y.1))]) (λy=>[.arr 1 (cs u) 0,.arr 1 (cs y.2.2) 0]) (λy=>y.1<=u.length/\y.2.2.length<=2*y.1/\y.2.2++insG x y.2.1 (u.drop y.1)=uniq (l.take (i+1))) (λy=>u.length - y.1) (0,false,[]) ?_ ?_ ?_
  ·refine⟨yai _,yaf _, ?_⟩
   simp only[ybH,ycv];rw[insG_false,hs]
  ·simp -dsimp -implicitDefEqProofs (disch:=first|omega|assumption)
  intro T2 f2 hT2 ⟨k,done,nx⟩ ⟨k1,k2,k3⟩ ih2;simp only at k1 k2 k3 ih2
  by_cases h2:k<u.length
  ·have gk:=get_at h2
   have hst:=insG_step (x:=x) h2 done;rw[hst,<- yal]at k3;have nd:u.drop (k+1)=u.drop (k+1):=rfl;have fin: ∀ (d2:Bool) (n2:List Int),n2=nx++(if at' u k=x then [at' u k] else if done then [at' u k] else if x<at' u k then [x,at' u k] else [at' u k])->d2=(done || decide (x=at' u k) || decide (x<at' u k))->(k+1<=u.length/\n2.length<=2*(k+1)/\n2++insG x d2 (u.drop (k+1))=uniq (l.take (i+1))):=by
    intro d2 n2 e1 e2;refine⟨h2, ?_,by rw[e1,e2];exact k3⟩
    rw[e1,yab];have:(if at' u k=x then [at' u k] else if done then [at' u k] else if x<at' u k then [x,at' u k] else [at' u k]).length<=2:=by split <;> (try split) <;> (try split) <;> simp
    omega
   by_cases c1:at' u k=x
   ·have c1':x=at' u k:=c1.symm
    simp -dsimp -implicitDefEqProofs (disch:=first|omega|assumption) [h1,h2,gi,gk,c1]
    refine ih2 (k+1,true,nx++[x]) _ _ (fin _ _ (by rw[yaj c1,c1]) (by rw[yaK c1'];simp)) (by simp only;omega) ?_
    simp -dsimp -implicitDefEqProofs (disch:=first|omega|assumption) [c1]
   ·have c1': ¬ x=at' u k:=λe=>c1 e.symm
    cases done with
    |true=>
     simp -dsimp -implicitDefEqProofs (disch:=first|omega|assumption) [h1,h2,gi,gk,c1]
     refine ih2 (k+1,true,nx++[at' u k]) _ _ (fin _ _ (by rw[yag c1];rfl) (by simp)) (by simp only;omega) ?_
     simp -dsimp -implicitDefEqProofs (disch:=first|omega|assumption) [c1]
    |false=>
     by_cases c2:x<at' u k
     ·simp -dsimp -implicitDefEqProofs (disch:=first|omega|assumption) [h1,h2,gi,gk,c1,c2]
      refine ih2 (k+1,true,nx++[x,at' u k]) _ _ (fin _ _ (by rw[yag c1,yag (by simp),yaj c2]) (by simp[c2])) (by simp only;omega) ?_
      simp -dsimp -implicitDefEqProofs (disch:=first|omega|assumption) [c1]
     ·simp -dsimp -implicitDefEqProofs (disch:=first|omega|assumption) [h1,h2,gi,gk,c1,c2]
      refine ih2 (k+1,false,nx++[at' u k]) _ _ (fin _ _ (by rw[yag c1,yag (by simp),yag c2]) (by simp[c2,c1'])) (by simp only;omega) ?_
      simp -dsimp -implicitDefEqProofs (disch:=first|omega|assumption) [c1]
  ·have h2':k=u.length:=by omega
   rw[ybj (by omega)]at k3
   have hnl:(uniq (l.take (i+1))).length<=257:=by omega
   subst hT2;cases done with
   |true=>
    have k4:nx=uniq (l.take (i+1)):=by rw[<- k3];simp[insG]
    simp -dsimp -implicitDefEqProofs (disch:=first|omega|assumption) [h1,h2,gi]
    refine ih (i+1) _ _ h1 (by omega) ?_
    rw[<- k4];simp -dsimp -implicitDefEqProofs (disch:=first|omega|assumption)
   |false=>
    have k4:nx++[x]=uniq (l.take (i+1)):=by rw[<- k3];simp[insG]
    simp -dsimp -implicitDefEqProofs (disch:=first|omega|assumption) [h1,h2,gi]
    refine ih (i+1) _ _ h1 (by omega) ?_
    rw[<- k4];simp -dsimp -implicitDefEqProofs (disch:=first|omega|assumption)
 ·have hil:i=l.length:=by omega
  rw[yar (by omega)]
  subst hT';simp -dsimp -implicitDefEqProofs (disch:=first|omega|assumption) [h1]
  simpa -dsimp -implicitDefEqProofs (disch:=first|omega|assumption) using hT
def ztF (u:List Int) (n:Int) (hu:u.length<=256) (hr:Rises u) (hm:n∈u):R 175 [.d (ints u),.d (.int .i64 n)] []=some ([.d (.int .u64 (idx u n))],[]):=by
 have hk:=zhf hm;have ha:=zoS hm;have hur:=rises_iff.1 hr;obtain⟨k,hkk⟩: ∃k,k=idx u n:=⟨_,rfl⟩;rw[<- hkk]at hk ha ⊢;refine rg zJB rfl ?_;intro T hT;simp -dsimp -implicitDefEqProofs (disch:=first|omega|assumption)
 generalize hz:zaj _ _ _ _ _ _=z;revert z;refine zaa (σ:=Nat) (λi=>[(0,.d (ints u)),(1,.d (.int .i64 n)),(5,.d (.int .i64 i))]) (λi=>[]) (λi=>i<=k) (λi=>k - i) 0 ?_ ?_ ?_
 ·simp
 ·simp -dsimp -implicitDefEqProofs (disch:=first|omega|assumption)
 intro T' f hT' i hi ih;have hiu:i<u.length:=by omega
 have gi:=get_at hiu
 by_cases h1:i=k
 ·have gk:=get_at hk
  have hw:IntKind.u64.wrap (k:Int)=k:=zak (by omega) (by omega)
  subst hT';rw[h1];simp -dsimp -implicitDefEqProofs (disch:=first|omega|assumption) [hk,gk,ha,hw]
  simpa -dsimp -implicitDefEqProofs (disch:=first|omega|assumption) [hw]using hT
 ·have h2: ¬ at' u i=n:=by
   have:=hur i k (by omega) hk
   omega
  simp -dsimp -implicitDefEqProofs (disch:=first|omega|assumption) [hiu,gi,h2]
  exact ih (i+1) _ _ (by omega) (by omega) (by simp -dsimp -implicitDefEqProofs (disch:=first|omega|assumption))
end Go.Am.Ab
namespace Go.Am.Ab
open Go.Proofs
set_option maxHeartbeats 4000000
def zHw (l:List Int) (hl: ∀n∈l,zai n) (hn:l.length<=256):R 145 [.d (.int .i64 0),.d (ints l)] []=some ([.arr 0 (zbj l).length,.d (.bool true)],[.arr 1 (bytes (zbj l)) 0]):=by
 have h6: ¬ (256:Int)<l.length:=by omega
 have h6': ¬ 256<l.length:=by omega
 refine rg zBk rfl ?_;intro T hT;simp -dsimp -implicitDefEqProofs (disch:=first|omega|assumption) [h6,h6']
 generalize hz:zaj _ _ _ _ _ _=z;revert z;refine zaa (σ:=Nat) (λi=>[(1,.d (ints l)),(6,.arr 0 (zbj (l.take i)).length),(7,.d (.int .i64 i))]) (λi=>[.arr 1 (bytes (zbj (l.take i))) 0]) (λi=>i<=l.length) (λi=>l.length - i) 0 ?_ ?_ ?_
 ·simp
 ·simp -dsimp -implicitDefEqProofs (disch:=first|omega|assumption) [zbj]
 intro T' f hT' i hi ih
 by_cases h1:i<l.length
 ·have hb:=hl l[i] (by simp)
  have hp:=zb2 l[i] hb.1 hb.2;have hlen:=zaK hb;have hlen2:=zd4 (l:=l.take i) λn h=>hl n (yaD h)
  rw[yan]at hlen2;simp -dsimp -implicitDefEqProofs (disch:=first|omega|assumption) [h1,hp]
  refine ih (i+1) _ _ h1 (by omega) ?_
  rw[zao h1,zgy];simp -dsimp -implicitDefEqProofs (disch:=first|omega|assumption)
 ·rw[yar (by omega)]
  subst hT';simp -dsimp -implicitDefEqProofs (disch:=first|omega|assumption) [h1]
  simpa -dsimp -implicitDefEqProofs (disch:=first|omega|assumption) using hT
def zkl (x:Int): ∀ (l:List Int) (a:Int),zcU a (l++[x])=zcU a l++[IntKind.i64.wrap (x - l.getLastD a)]
 |[],a=>by simp[zcU]
 |y::r,a=>by rw[yaV,zcU,zkl x r y,zcU,yaV,List.getLastD_cons]
def zqC {l:List Int} {i:Nat} (h:i<l.length):zdx (l.take (i+1))=zdx (l.take i)++za1 (IntKind.i64.wrap (at' l i - if i=0 then 0 else at' l (i - 1))):=by
 unfold zdx;rw[zao h,zkl,zgy,get_at h];congr 3;cases i with
 |zero=>simp
 |succ j=>
  rw[yag (by omega),zao (by omega),get_at]
  simp
def zHx (l:List Int) (hl: ∀n∈l,zai n) (hn:l.length<=256):R 145 [.d (.int .i64 1),.d (ints l)] []=some ([.arr 0 (zdx l).length,.d (.bool true)],[.arr 1 (bytes (zdx l)) 0]):=by
 have h6: ¬ (256:Int)<l.length:=by omega
 have h6': ¬ 256<l.length:=by omega
 refine rg zBk rfl ?_;intro T hT;simp -dsimp -implicitDefEqProofs (disch:=first|omega|assumption) [h6,h6']
 generalize hz:zaj _ _ _ _ _ _=z;revert z;refine zaa (σ:=Nat) (λi=>[(1,.d (ints l)),(6,.arr 0 (zdx (l.take i)).length),(8,.d (.int .i64 i))]) (λi=>[.arr 1 (bytes (zdx (l.take i))) 0]) (λi=>i<=l.length) (λi=>l.length - i) 0 ?_ ?_ ?_
 ·simp
 ·simp -dsimp -implicitDefEqProofs (disch:=first|omega|assumption) [zdx,zcU,zbj]
 intro T' f hT' i hi ih
 by_cases h1:i<l.length
 ·have gi:=get_at h1
  have hb:zai (at' l i):=by rw[<- gi];exact hl _ (yam _)
  have hlen2:=zh2 (l.take i);rw[yan]at hlen2;have hs:=zqC h1
  by_cases h0:i=0
  ·subst h0
   have hwr:IntKind.i64.wrap (at' l 0 - 0)=at' l 0:=by unfold zai at hb;rw[wI (by omega) (by omega)];omega
   rw[yaj rfl,hwr]at hs;have hp:=zb2 (at' l 0) hb.1 hb.2;have hlen:=zaK hb;have hd0:zdx []=[]:=rfl;simp -dsimp -implicitDefEqProofs (disch:=first|omega|assumption) [h1,gi,hp,hd0]
   refine ih (0+1) _ _ h1 (by omega) ?_
   rw[hs];simp -dsimp -implicitDefEqProofs (disch:=first|omega|assumption) [hd0]
  ·obtain⟨w,hw⟩: ∃w,i=w+1:=⟨i - 1,by omega⟩
   have q0:(i:Int) - 1=w:=by omega
   have hwl:w<l.length:=by omega
   have gw:=get_at hwl;have hbw:zai (at' l w):=by rw[<- gw];exact hl _ (yam _)
   rw[yag h0,show i - 1=w by omega]at hs
   obtain⟨v,hv⟩: ∃v,v=IntKind.i64.wrap (at' l i - at' l w):=⟨_,rfl⟩;rw[<- hv]at hs;have hvi:zai v:=by rw[hv];exact zdQ _
   have hp:=zb2 v hvi.1 hvi.2;have hlen:=zaK hvi;have hsub:IntKind.i64.wrap (IntKind.u64.wrap (IntKind.u64.wrap (at' l i) - IntKind.u64.wrap (at' l w)))=v:=by
    rw[hv,zae,zae,zae,za0,za0];have e:((at' l i % 18446744073709551616 - at' l w % 18446744073709551616) % 18446744073709551616) % 18446744073709551616=(at' l i - at' l w) % 18446744073709551616:=by omega
    rw[e]
   have h0': ¬ (i:Int)=0:=by omega
   simp -dsimp -implicitDefEqProofs (disch:=first|omega|assumption) [h1,gi,gw,hwl,h0,h0',q0,hsub,hp]
   refine ih (i+1) _ _ h1 (by omega) ?_
   rw[hs];simp -dsimp -implicitDefEqProofs (disch:=first|omega|assumption)
 ·rw[yar (by omega)]
  subst hT';simp -dsimp -implicitDefEqProofs (disch:=first|omega|assumption) [h1]
  simpa -dsimp -implicitDefEqProofs (disch:=first|omega|assumption) using hT
def zvi (x:Int) (r:List Int) (h:r.head?≠some x): ∀k,cnt x (List.replicate k x++r)=k
 |0=>by
  cases r with
  |nil=>rfl
  |cons y r=>
   have: ¬ y=x:=λe=>h (by simp[e])
   simp[cnt,this]
 |k+1=>by rw[yaS,yaV,cnt,yaj rfl,zvi x r h k]
def zvj (x:Int) (r:List Int) (k:Nat) (h:r.head?≠some x):zc8 (List.replicate (k+1) x++r)=za1 x++(put (k+1)++zc8 r):=by
 rw[zh4 (x:=x) (r:=List.replicate k x++r) (by rw[yaS];rfl),zvi x r h,ycx (by simp)]
def zvk {l:List Int} {i:Nat} (h:i<l.length):(l.drop i).head?=some (at' l i):=by
 rw[yaC h,get_at h];rfl
def zxW {l:List Int} {i k:Nat} (h:i<l.length):List.replicate k (at' l i)++l.drop i=List.replicate (k+1) (at' l i)++l.drop (i+1):=by
 rw[yaC h,get_at h,ydq,yal];rfl
def zHy (l:List Int) (hl: ∀n∈l,zai n) (hn:l.length<=256):R 145 [.d (.int .i64 2),.d (ints l)] []=some ([.arr 0 (zc8 l).length,.d (.bool true)],[.arr 1 (bytes (zc8 l)) 0]):=by
 have h6: ¬ (256:Int)<l.length:=by omega
 have h6': ¬ 256<l.length:=by omega
 have hbnd:=zhe l.length l hl (by omega) (yaf _)
 rw[show zh3 l.length l=zc8 l from rfl]at hbnd
 refine rg zBk rfl ?_;intro T hT;simp -dsimp -implicitDefEqProofs (disch:=first|omega|assumption) [h6,h6']
 generalize hz:zaj _ _ _ _ _ _=z;revert z;refine zaa (σ:=Nat × Nat × List UInt8) (λx=>[(1,.d (ints l)),(6,.arr 0 x.2.2.length),(9,.d (.int .i64 x.2.1)),(10,.d (.int .i64 x.1))]) (λx=>[.arr 1 (bytes x.2.2) 0]) (λx=>x.1<=l.length/\x.2.1<=x.1/\(0<x.2.1->x.1<l.length)/\x.2.2++zc8 (List.replicate x.2.1 (at' l x.1)++l.drop x.1)=zc8 l) (λx=>l.length - x.1) (0,0,[]) ?_ ?_ ?_
 ·exact⟨yai _,yaf _,λh=>by simp only at h;omega,by simp⟩
 ·simp -dsimp -implicitDefEqProofs (disch:=first|omega|assumption)
 intro T' f hT' ⟨i,c,b⟩ ⟨hi,hc,hc2,hb⟩ ih;simp only at hi hc hc2 hb ih
 by_cases h1:i<l.length
 ·have gi:=get_at h1
  have hbi:zai (at' l i):=by rw[<- gi];exact hl _ (yam _)
  have hp:=zb2 (at' l i) hbi.1 hbi.2;have hlen:=zaK hbi;have hp2:=za3 (c+1) (by omega)
  have hlen2:=zam (n:=c+1) (by omega)
  have hc1:((c+1:Nat):Int)=(c:Int)+1:=by omega
  rw[hc1]at hp2;have hw:IntKind.u64.wrap ((c:Int)+1)=(c:Int)+1:=zak (by omega) (by omega)
  rw[zxW h1]at hb;have emit:(l.drop (i+1)).head?≠some (at' l i)->(b++(za1 (at' l i)++put (c+1)))++zc8 (List.replicate 0 (at' l (i+1))++l.drop (i+1))=zc8 l:=by
   intro h;rw[<- hb,zvj _ _ _ h];simp
  have hbl:b.length<=(zc8 l).length:=by rw[<- hb];simp
  by_cases h2:i+1=l.length
  ·have h2':(l.length:Int) - 1=i:=by omega
   have he:=emit (by rw[ybj (by omega)];simp)
   simp -dsimp -implicitDefEqProofs (disch:=first|omega|assumption) [h1,gi,h2',hp,hp2,hw]
   refine ih (i+1,0,b++(za1 (at' l i)++put (c+1))) _ _ ⟨h1,yai _,λh=>by simp only at h;omega,he⟩ (by simp only;omega) ?_
   simp -dsimp -implicitDefEqProofs (disch:=first|omega|assumption) [h2',yaH]
  ·have h2': ¬ (i:Int)=(l.length:Int) - 1:=by omega
   have h3:i+1<l.length:=by omega
   have gj:=get_at h3
   by_cases h4:at' l (i+1)=at' l i
   ·simp -dsimp -implicitDefEqProofs (disch:=first|omega|assumption) [h1,gi,h2',h3,gj,h4]
    refine ih (i+1,c+1,b) _ _ ⟨h1,by simp only;omega,λ_=>h3,by simp only;rw[h4];exact hb⟩ (by simp only;omega) ?_
    simp -dsimp -implicitDefEqProofs (disch:=first|omega|assumption)
   ·have he:=emit (by rw[zvk h3];intro e;exact h4 (ya8 e))
    simp -dsimp -implicitDefEqProofs (disch:=first|omega|assumption) [h1,gi,h2',h3,gj,h4,hp,hp2,hw]
    refine ih (i+1,0,b++(za1 (at' l i)++put (c+1))) _ _ ⟨h1,yai _,λh=>by simp only at h;omega,he⟩ (by simp only;omega) ?_
    simp -dsimp -implicitDefEqProofs (disch:=first|omega|assumption) [yaH]
 ·have hc0:c=0:=by omega
  have hbb:b=zc8 l:=by
   rw[<- hb,hc0,ybj (by omega)]
   simp[zc8,zh3]
  rw[hbb];subst hT';simp -dsimp -implicitDefEqProofs (disch:=first|omega|assumption) [h1]
  simpa -dsimp -implicitDefEqProofs (disch:=first|omega|assumption) using hT
end Go.Am.Ab
namespace Go.Am.Ab
open Go.Proofs
set_option maxHeartbeats 4000000
def zHz (l:List Int) (hl: ∀n∈l,zai n) (hn:l.length<=256):R 145 [.d (.int .i64 3),.d (ints l)] []=some ([.arr 0 (zi9 l).length,.d (.bool true)],[.arr 1 (bytes (zi9 l)) 0]):=by
 have h6: ¬ (256:Int)<l.length:=by omega
 have h6': ¬ 256<l.length:=by omega
 have hun:=ziN l hn;have hul:(uniq l).length<=256:=by have:=uniq_length_le l;omega
 have hui: ∀n∈uniq l,zai n:=λn h=>hl n (uniq_mem.1 h)
 have hrs:=uniq_rises l;have hur:=rises_iff.1 hrs;have hum: ∀n∈l,n∈uniq l:=λn h=>uniq_mem.2 h
 have hpm:=ze7 hn;have hpl:(zaJ (uniq l) l).length=l.length:=by simp[zaJ]
 have hpw:=zbN hpm;have hwr:=zgx (zaJ (uniq l) l) hpm (by omega)
 have hpk:=zkf (zaJ (uniq l) l) (zbc (zaJ (uniq l) l)) hpm hpw (by omega) (yaf _)
 have hplen:=zcX hpw (by omega:(zaJ (uniq l) l).length<=256)
 rw[show zi9 l=put (uniq l).length++(zbM (uniq l)++za8 (zbc (zaJ (uniq l) l)) (zaJ (uniq l) l)) from rfl]
 obtain⟨u,hu⟩: ∃u,u=uniq l:=⟨_,rfl⟩;rw[<- hu]at hun hul hui hrs hur hum hpm hpl hpw hwr hpk hplen ⊢;clear hpm hu;have hput:=za3 u.length (by omega)
 have hputl:=zam (n:=u.length) (by omega)
 have hbi:=zd5 hui;obtain⟨wd,hwd⟩: ∃wd,wd=zbc (zaJ u l):=⟨_,rfl⟩;rw[<- hwd]at hpw hwr hpk hplen ⊢;obtain⟨pk,hpkd⟩: ∃pk,pk=za8 wd (zaJ u l):=⟨_,rfl⟩;rw[<- hpkd]at hpk hplen ⊢;have hw0:IntKind.u64.wrap (u.length:Int)=u.length:=zak (by omega) (by omega)
 refine rg zBk rfl ?_;intro T hT;simp -dsimp -implicitDefEqProofs (disch:=first|omega|assumption) [h6,h6',hun,hput,hw0]
 generalize hz:zaj _ _ _ _ _ _=z;revert z;refine zaa (σ:=Nat) (λi=>[(1,.d (ints l)),(6,.arr 0 (put u.length++zbM (u.take i)).length),(11,.arr 1 u.length),(12,.arr 2 0),(13,.d (.int .i64 i))]) (λi=>[.arr 1 (bytes (put u.length++zbM (u.take i))) 0,.arr 1 (cs u) 0,.arr 1 [] 0]) (λi=>i<=u.length) (λi=>u.length - i) 0 ?_ ?_ ?_
 ·simp
 ·simp -dsimp -implicitDefEqProofs (disch:=first|omega|assumption) [zbM]
 intro T' f hT' i hi ih
 by_cases h1:i<u.length
 ·have hbt:=zd5 (l:=u.take i) λn h=>hui n (yaD h)
  rw[yan]at hbt;have gi':=get_at h1;have hri:=zh6 h1;have hii:zai (at' u i):=by rw[<- get_at h1];exact hui _ (yam _)
  by_cases h0:i=0
  ·subst h0
   have hr0:zbM []=[]:=rfl;have hp:=zb2 (at' u 0) hii.1 hii.2;have hlen:=zaK hii;rw[yaj rfl]at hri;simp -dsimp -implicitDefEqProofs (disch:=first|omega|assumption) [h1,gi',hp,hr0]
   refine ih (0+1) _ _ h1 (by omega) ?_
   rw[hri];simp -dsimp -implicitDefEqProofs (disch:=first|omega|assumption) [zbM,yaH]
  ·obtain⟨w,hw⟩: ∃w,i=w+1:=⟨i - 1,by omega⟩
   have q0:(i:Int) - 1=w:=by omega
   have hwl:w<u.length:=by omega
   have gw':=get_at hwl;have hjj:zai (at' u w):=by rw[<- get_at hwl];exact hui _ (yam _)
   rw[yag h0,show i - 1=w by omega]at hri
   have hlt:=hur w i (by omega) h1
   unfold zai at hii hjj;obtain⟨v,hv⟩: ∃v:Nat,(v:Int)=at' u i - at' u w:=⟨(at' u i - at' u w).toNat,by omega⟩
   have hvv:(at' u i - at' u w).toNat=v:=by omega
   rw[hvv]at hri;have hp:=za3 v (by omega)
   have hlen:=zam (n:=v) (by omega)
   have hsub:IntKind.u64.wrap (IntKind.u64.wrap (at' u i) - IntKind.u64.wrap (at' u w))=v:=by rw[zae,zae,zae];omega
   have h0': ¬ (i:Int)=0:=by omega
   simp -dsimp -implicitDefEqProofs (disch:=first|omega|assumption) [h1,gi',gw',hwl,h0,h0',q0,hsub,hp]
   refine ih (i+1) _ _ h1 (by omega) ?_
   rw[hri];simp -dsimp -implicitDefEqProofs (disch:=first|omega|assumption) [yaH]
 ·rw[yar (by omega)]
  subst hT';simp -dsimp -implicitDefEqProofs (disch:=first|omega|assumption) [h1]
  clear ih hi h1;generalize hz:zaj _ _ _ _ _ _=z;revert z;refine zaa (σ:=Nat × Nat) (λx=>[(1,.d (ints l)),(6,.arr 0 (put u.length++zbM u).length),(11,.arr 1 u.length),(12,.arr 2 x.1),(14,.d (.int .i64 x.1))]) (λx=>[.arr 1 (bytes (put u.length++zbM u)) 0,.arr 1 (cs u) x.2,.arr 1 ((zaJ u (l.take x.1)).map λ(n:Nat)=>D.int .u64 (n:Int)) 0]) (λx=>x.1<=l.length) (λx=>l.length - x.1) (0,0) ?_ ?_ ?_
  ·simp
  ·simp -dsimp -implicitDefEqProofs (disch:=first|omega|assumption) [zaJ]
  intro T2 f2 hT2 ⟨i,wm⟩ hi ih;simp only at hi ih;have hpi:(zaJ u (l.take i)).length=i:=by simp[zaJ];omega
  by_cases h1:i<l.length
  ·have hmem:=hum l[i] (by simp)
   have hpl:=ztF u l[i] hul hrs hmem;have hsn:zaJ u (l.take (i+1))=zaJ u (l.take i)++[idx u l[i]]:=by unfold zaJ;rw[zao h1,ybf];rfl
   simp -dsimp -implicitDefEqProofs (disch:=first|omega|assumption) [h1,hpl,hpi]
   refine ih (i+1,u.length) _ _ h1 (by simp only;omega) ?_
   simp only;rw[hsn];simp -dsimp -implicitDefEqProofs (disch:=first|omega|assumption)
  ·have hil:i=l.length:=by omega
   subst hT2;rw[hil,yaQ];rw[hil,yaQ]at hpi;simp -dsimp -implicitDefEqProofs (disch:=first|omega|assumption) [hwr,hpk,hpi]
   simpa -dsimp -implicitDefEqProofs (disch:=first|omega|assumption) [yaH]using hT
end Go.Am.Ab
namespace Go.Am.Ab
open Go.Proofs
set_option maxHeartbeats 4000000
def zkm {l:List Int} (h:l≠[]):0<(uniq l).length:=by
 cases l with
 |nil=>exact absurd rfl h
 |cons x r=>exact List.length_pos_of_mem (uniq_mem.2 (by simp:x∈x::r))
def zvl {l:List Int} (h:l≠[]):at' (uniq l) 0=znU l:=by
 have h0:=zkm h;have hur:=rises_iff.1 (uniq_rises l);have h1:at' (uniq l) 0∈uniq l:=by rw[<- get_at h0];exact yam _
 have h2:=znl _ (uniq_mem.1 h1);obtain⟨i,hi,he⟩:=mem_at.1 (uniq_mem.2 (zeA h))
 by_cases c:i=0
 ·subst c;exact he
 ·have:=hur 0 i (by omega) hi
  omega
def zxX:R 145 [.d (.int .i64 4),.d (ints [])] []=some ([.arr 0 0,.d (.bool true)],[.arr 1 [] 0]):=by
 refine rg zBk rfl ?_;intro T hT;simp -dsimp -implicitDefEqProofs (disch:=first|omega|assumption)
 simpa -dsimp -implicitDefEqProofs (disch:=first|omega|assumption) using hT
def zHA (l:List Int) (h0:l≠[]) (hl: ∀n∈l,zai n) (hn:l.length<=256):R 145 [.d (.int .i64 4),.d (ints l)] []=some ([.arr 0 (zb3 l).length,.d (.bool true)],[.arr 1 (bytes (zb3 l)) 0]):=by
 have h6: ¬ (256:Int)<l.length:=by omega
 have h6': ¬ 256<l.length:=by omega
 have hlen:0<l.length:=ydF (by simpa using h0)
 have hun:=ziN l hn;have hul:=uniq_length_le l;have hu0:=zkm h0;have gu:=get_at hu0;rw[zvl h0]at gu;have hmlt:=zfC hl;have hml:(zbI l).length<=256:=by simpa[zbI]using hn
 have hmlen:(zbI l).length=l.length:=by simp[zbI]
 have hw:=zgx (zbI l) hmlt (by omega)
 have hw64:=zbN hmlt;have hpk:=zkf (zbI l) (zbc (zbI l)) hmlt hw64 hml (yaf _);have hplen:=zcX hw64 hml;obtain⟨wd,hwd⟩: ∃wd,wd=zbc (zbI l):=⟨_,rfl⟩;obtain⟨m,hm⟩: ∃m,m=znU l:=⟨_,rfl⟩;have hmi:zai m:=by rw[hm];exact hl _ (zeA h0)
 have hpi:=zb2 m hmi.1 hmi.2;have hpil:=zaK hmi;have hB:zb3 l=za1 m++(put wd++za8 wd (zbI l)):=by unfold zb3;rw[yag h0,<- hm,<- hwd]
 rw[<- hwd]at hw hw64 hpk hplen;rw[<- hm]at gu;have hput1:put wd=[u8n wd]:=zgd (by omega)
 rw[hB,hput1];have hbb:zbi (u8n wd)= .int .u8 (wd:Int):=zjl (by rw[zcM (by omega)])
 have hmod:(wd:Int) % 256=wd:=by omega
 have hne: ¬ (l.length:Int)=0:=by omega
 obtain⟨u,hu⟩: ∃u,u=uniq l:=⟨_,rfl⟩;obtain⟨pk,hpkd⟩: ∃pk,pk=za8 wd (zbI l):=⟨_,rfl⟩;rw[<- hpkd]at hpk hplen ⊢;simp only[<- hu]at hun hul hu0 gu;have hmt: ∀i,i<=l.length->((zbI l).take i).length=i:=λi hi=>by rw[yan];omega
 have hms: ∀i,(h:i<l.length)->(zbI l).take (i+1)=(zbI l).take i++[(l[i] - m).toNat]:=λi h=>by
  rw[zao (by omega:i<(zbI l).length)];simp[zbI,hm]
 refine rg zBk rfl ?_;intro T hT;simp -dsimp -implicitDefEqProofs (disch:=first|omega|assumption) [h6,h6',h0,hne,hun,hu0,gu]
 generalize hz:zaj _ _ _ _ _ _=z;revert z;refine zaa (σ:=Nat) (λi=>[(1,.d (ints l)),(17,.d (.int .i64 m)),(18,.arr 0 i),(19,.d (.int .i64 i))]) (λi=>[.arr 1 (((zbI l).take i).map λ(n:Nat)=>D.int .u64 (n:Int)) 0]) (λi=>i<=l.length) (λi=>l.length - i) 0 ?_ ?_ ?_
 ·simp
 ·simp -dsimp -implicitDefEqProofs (disch:=first|omega|assumption)
 intro T' f hT' i hi ih;have hti:=hmt i hi
 by_cases h1:i<l.length
 ·have hb:=hl l[i] (by simp)
  have hle:m<=l[i]:=by rw[hm];exact znl _ (by simp)
  obtain⟨v,hv⟩: ∃v:Nat,(v:Int)=l[i] - m:=⟨(l[i] - m).toNat,by omega⟩
  have hvv:(l[i] - m).toNat=v:=by omega
  have hs:=hms i h1;rw[hvv]at hs;unfold zai at hb hmi;have hsub:IntKind.u64.wrap (IntKind.u64.wrap l[i] - IntKind.u64.wrap m)=v:=by rw[zae,zae,zae];omega
  simp -dsimp -implicitDefEqProofs (disch:=first|omega|assumption) [h1,hsub,hti]
  refine ih (i+1) _ _ h1 (by omega) ?_
  rw[hs];simp -dsimp -implicitDefEqProofs (disch:=first|omega|assumption)
 ·have hil:i=l.length:=by omega
  rw[yar (by omega)]
  subst hT';rw[hil];simp -dsimp -implicitDefEqProofs (disch:=first|omega|assumption) [hw,hpk,hpi,hmlen,hmod]
  simpa -dsimp -implicitDefEqProofs (disch:=first|omega|assumption) [yaH,ybC]using hT
def zqD (c:Nat) (l:List Int) (hl: ∀n∈l,zai n) (hn:l.length<=256) (hc:c<5):R 145 [.d (.int .i64 c),.d (ints l)] []=some ([.arr 0 (zfD c l).length,.d (.bool true)],[.arr 1 (bytes (zfD c l)) 0]):=by
 have h:c=0\/c=1\/c=2\/c=3\/c=4:=by omega
 rcases h with rfl | rfl | rfl | rfl | rfl
 ·exact zHw l hl hn
 ·exact zHx l hl hn
 ·exact zHy l hl hn
 ·exact zHz l hl hn
 ·by_cases h:l=[]
  ·subst h;exact zxX
  ·exact zHA l h hl hn
def zkn (l:List Int) (hl: ∀n∈l,zai n) (hn:l.length<=256):R 103 [.d (ints l)] []=some ([.arr 0 (zbp l).length,.d (.bool true)],[.arr 1 (bytes (zbp l)) 0]):=by
 refine rg zJc rfl ?_;intro T hT;simp -dsimp -implicitDefEqProofs (disch:=first|omega|assumption)
 generalize hz:zaj _ _ _ _ _ _=z;revert z;refine zaa (σ:=Nat) (λi=>[(0,.d (ints l)),(4,.arr 0 (zaQ l i).length),(5,.d (.int .i64 i))]) (λi=>[.arr 1 (bytes (zaQ l i)) 0]) (λi=>i<=5) (λi=>5 - i) 0 ?_ ?_ ?_
 ·simp
 ·simp -dsimp -implicitDefEqProofs (disch:=first|omega|assumption) [zaQ]
 intro T' f hT' i hi ih;have hbl:=zfE hl hn i
 by_cases h1:i<5
 ·have h1':(i:Int)<5:=by omega
  have g:=zqD i l hl hn h1;have hel:=znm i hl hn;have hw:(i:Int) % 256=i:=by omega
  by_cases h0:i=0
  ·subst h0
   have e1:zaQ l 1=u8n 0::zfD 0 l:=by rw[zaQ,yaj (.inl rfl)]
   rw[show ((0:Nat):Int)=0 from rfl]at g
   simp -dsimp -implicitDefEqProofs (disch:=first|omega|assumption) [g]
   refine ih (0+1) _ _ (by omega) (by omega) ?_
   rw[yaW,e1];simp -dsimp -implicitDefEqProofs (disch:=first|omega|assumption) [ybC]
  ·have h0': ¬ (i:Int)=0:=by omega
   by_cases h2:(zfD i l).length+1<(zaQ l i).length
   ·have h2':((zfD i l).length:Int)+1<((zaQ l i).length:Int):=by omega
    have e1:zaQ l (i+1)=u8n i::zfD i l:=by rw[zaQ,yaj (.inr h2)]
    simp -dsimp -implicitDefEqProofs (disch:=first|omega|assumption) [h1',g,h0,h0',h2',hw]
    refine ih (i+1) _ _ (by omega) (by omega) ?_
    rw[e1];simp -dsimp -implicitDefEqProofs (disch:=first|omega|assumption) [hw,ybC]
   ·have h2': ¬ ((zfD i l).length:Int)+1<((zaQ l i).length:Int):=by omega
    have e1:zaQ l (i+1)=zaQ l i:=by rw[zaQ,yag (by omega)]
    simp -dsimp -implicitDefEqProofs (disch:=first|omega|assumption) [h1',g,h0,h0',h2',hw]
    refine ih (i+1) _ _ (by omega) (by omega) ?_
    rw[e1];simp -dsimp -implicitDefEqProofs (disch:=first|omega|assumption) [hw]
 ·obtain rfl:i=5:=by omega
  subst hT';simp -dsimp -implicitDefEqProofs (disch:=first|omega|assumption)
  simpa -dsimp -implicitDefEqProofs (disch:=first|omega|assumption) [zbp]using hT
end Go.Am.Ab
