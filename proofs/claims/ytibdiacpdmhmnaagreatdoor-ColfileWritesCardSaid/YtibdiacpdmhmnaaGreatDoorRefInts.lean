/- Lists of the document. -/
import Derived.Test.YtibdiacpdmhmnaaGreatDoorIntsB
set_option linter.all false
namespace Go.Am.Ab
open Go.Proofs
set_option maxHeartbeats 4000000
def insG (x:Int):Bool->List Int->List Int
 |done,[]=>if done then [] else [x]
 |done,y::r=>if y=x then y::insG x true r else if done then y::insG x true r else if x<y then x::y::insG x true r else y::insG x false r
def insG_true (x:Int): ∀l,insG x true l=l
 |[]=>rfl
 |y::r=>by simp[insG,insG_true x r]
def insG_false (x:Int): ∀l,insG x false l=ins x l
 |[]=>rfl
 |y::r=>by
  simp only[insG,ins,insG_true,insG_false x r,Bool.false_eq_true,if_false]
  by_cases h1:y=x
  ·subst h1;simp
  ·have h2: ¬ x=y:=λe=>h1 e.symm
   simp[h1,h2]
def insG_step {x:Int} {u:List Int} {k:Nat} (h:k<u.length) (done:Bool):insG x done (u.drop k)=(if at' u k=x then [at' u k] else if done then [at' u k] else if x<at' u k then [x,at' u k] else [at' u k])++insG x (done || decide (x=at' u k) || decide (x<at' u k)) (u.drop (k+1)):=by
 rw[List.drop_eq_getElem_cons h,get_at h,insG]
 by_cases h1:at' u k=x
 ·have h2:x=at' u k:=h1.symm
  rw[if_pos h1,if_pos h1,decide_eq_true h2];simp
 ·have h2: ¬ x=at' u k:=λe=>h1 e.symm
  rw[if_neg h1,if_neg h1,decide_eq_false h2];cases done with
  |true=>simp
  |false=>
   by_cases h3:x<at' u k
   ·simp[h3]
   ·simp[h3]
def zgj (l:List Int) (hn:l.length<=256):R 174 [.d (ints l)] []=some ([.arr 0 (uniq l).length],[.arr 1 (cs (uniq l)) 0]):=by
 have hsnoc: ∀i,i<l.length->uniq (l.take (i+1))=ins (at' l i) (uniq (l.take i)):=λi hi=>by
  unfold uniq;rw[zaq hi,List.foldl_append,get_at hi];rfl
 refine rg zBL rfl ?_;intro T hT;simp -dsimp -implicitDefEqProofs (disch:=first|omega|assumption)
 generalize hz:zaf _ _ _ _ _ _=z;revert z;refine zaa (σ:=Nat) (λi=>[(0,.d (ints l)),(3,.arr 0 (uniq (l.take i)).length),(4,.d (.int .i64 i))]) (λi=>[.arr 1 (cs (uniq (l.take i))) 0]) (λi=>i<=l.length) (λi=>l.length - i) 0 ?_ ?_ ?_
 ·simp
 ·simp -dsimp -implicitDefEqProofs (disch:=first|omega|assumption) [uniq]
 intro T' f hT' i hi ih
 by_cases h1:i<l.length
 ·have gi:=get_at h1
  have hun:=uniq_length_le (l.take i);rw[List.length_take]at hun;have hins:=ins_length (at' l i) (uniq (l.take i));rw[<- hsnoc i h1]at hins;obtain⟨u,hu⟩: ∃u,u=uniq (l.take i):=⟨_,rfl⟩;obtain⟨x,hx⟩: ∃x,x=at' l i:=⟨_,rfl⟩;have hs:=hsnoc i h1;rw[<- hu,<- hx]at hs;rw[<- hu]at hun hins;rw[<- hx]at gi;rw[<- hu];simp -dsimp -implicitDefEqProofs (disch:=first|omega|assumption) [h1,gi]
  generalize hz:zaf _ _ _ _ _ _=z;revert z;refine zaa (σ:=Nat × Bool × List Int) (λy=>[(0,.d (ints l)),(3,.arr 0 u.length),(4,.d (.int .i64 i)),(5,.arr 1 y.2.2.length),(6,.d (.bool y.2.1)),(7,.d (.int .i64 y.1))]) (λy=>[.arr 1 (cs u) 0,.arr 1 (cs y.2.2) 0]) (λy=>y.1<=u.length/\y.2.2.length<=2*y.1/\y.2.2++insG x y.2.1 (u.drop y.1)=uniq (l.take (i+1))) (λy=>u.length - y.1) (0,false,[]) ?_ ?_ ?_
  ·refine⟨Nat.zero_le _,Nat.le_refl _, ?_⟩
   simp only[List.nil_append,List.drop_zero];rw[insG_false,hs]
  ·simp -dsimp -implicitDefEqProofs (disch:=first|omega|assumption)
  intro T2 f2 hT2 ⟨k,done,nx⟩ ⟨k1,k2,k3⟩ ih2;simp only at k1 k2 k3 ih2
  by_cases h2:k<u.length
  ·have gk:=get_at h2
   have hst:=insG_step (x:=x) h2 done;rw[hst,<- List.append_assoc]at k3;have nd:u.drop (k+1)=u.drop (k+1):=rfl;have fin: ∀ (d2:Bool) (n2:List Int),n2=nx++(if at' u k=x then [at' u k] else if done then [at' u k] else if x<at' u k then [x,at' u k] else [at' u k])->d2=(done || decide (x=at' u k) || decide (x<at' u k))->(k+1<=u.length/\n2.length<=2*(k+1)/\n2++insG x d2 (u.drop (k+1))=uniq (l.take (i+1))):=by
    intro d2 n2 e1 e2;refine⟨h2, ?_,by rw[e1,e2];exact k3⟩
    rw[e1,List.length_append];have:(if at' u k=x then [at' u k] else if done then [at' u k] else if x<at' u k then [x,at' u k] else [at' u k]).length<=2:=by split <;> (try split) <;> (try split) <;> simp
    omega
   by_cases c1:at' u k=x
   ·have c1':x=at' u k:=c1.symm
    simp -dsimp -implicitDefEqProofs (disch:=first|omega|assumption) [h1,h2,gi,gk,c1]
    refine ih2 (k+1,true,nx++[x]) _ _ (fin _ _ (by rw[if_pos c1,c1]) (by rw[decide_eq_true c1'];simp)) (by simp only;omega) ?_
    simp -dsimp -implicitDefEqProofs (disch:=first|omega|assumption) [c1]
   ·have c1': ¬ x=at' u k:=λe=>c1 e.symm
    cases done with
    |true=>
     simp -dsimp -implicitDefEqProofs (disch:=first|omega|assumption) [h1,h2,gi,gk,c1]
     refine ih2 (k+1,true,nx++[at' u k]) _ _ (fin _ _ (by rw[if_neg c1];rfl) (by simp)) (by simp only;omega) ?_
     simp -dsimp -implicitDefEqProofs (disch:=first|omega|assumption) [c1]
    |false=>
     by_cases c2:x<at' u k
     ·simp -dsimp -implicitDefEqProofs (disch:=first|omega|assumption) [h1,h2,gi,gk,c1,c2]
      refine ih2 (k+1,true,nx++[x,at' u k]) _ _ (fin _ _ (by rw[if_neg c1,if_neg (by simp),if_pos c2]) (by simp[c2])) (by simp only;omega) ?_
      simp -dsimp -implicitDefEqProofs (disch:=first|omega|assumption) [c1]
     ·simp -dsimp -implicitDefEqProofs (disch:=first|omega|assumption) [h1,h2,gi,gk,c1,c2]
      refine ih2 (k+1,false,nx++[at' u k]) _ _ (fin _ _ (by rw[if_neg c1,if_neg (by simp),if_neg c2]) (by simp[c2,c1'])) (by simp only;omega) ?_
      simp -dsimp -implicitDefEqProofs (disch:=first|omega|assumption) [c1]
  ·have h2':k=u.length:=by omega
   rw[List.drop_of_length_le (by omega)]at k3
   have hnl:(uniq (l.take (i+1))).length<=257:=by omega
   subst hT2;cases done with
   |true=>
    have k4:nx=uniq (l.take (i+1)):=by rw[<- k3];simp[insG]
    simp -dsimp -implicitDefEqProofs (disch:=first|omega|assumption) [h1,h2,gi]
    refine ih (i+1) _ _ h1 (by omega) ?_
    rw[<- k4];simp -dsimp -implicitDefEqProofs (disch:=first|omega|assumption)
   |false=>
    have k4:nx++[x]=uniq (l.take (i+1)):=by rw[<- k3];simp[insG]
    simp -dsimp -implicitDefEqProofs (disch:=first|omega|assumption) [h1,h2,gi]
    refine ih (i+1) _ _ h1 (by omega) ?_
    rw[<- k4];simp -dsimp -implicitDefEqProofs (disch:=first|omega|assumption)
 ·have hil:i=l.length:=by omega
  rw[List.take_of_length_le (by omega)]
  subst hT';simp -dsimp -implicitDefEqProofs (disch:=first|omega|assumption) [h1]
  simpa -dsimp -implicitDefEqProofs (disch:=first|omega|assumption) using hT
def zn8 (u:List Int) (n:Int) (hu:u.length<=256) (hr:Rises u) (hm:n∈u):R 175 [.d (ints u),.d (.int .i64 n)] []=some ([.d (.int .u64 (idx u n))],[]):=by
 have hk:=ziL hm;have ha:=zpr hm;have hur:=rises_iff.1 hr;obtain⟨k,hkk⟩: ∃k,k=idx u n:=⟨_,rfl⟩;rw[<- hkk]at hk ha ⊢;refine rg zBM rfl ?_;intro T hT;simp -dsimp -implicitDefEqProofs (disch:=first|omega|assumption)
 generalize hz:zaf _ _ _ _ _ _=z;revert z;refine zaa (σ:=Nat) (λi=>[(0,.d (ints u)),(1,.d (.int .i64 n)),(5,.d (.int .i64 i))]) (λi=>[]) (λi=>i<=k) (λi=>k - i) 0 ?_ ?_ ?_
 ·simp
 ·simp -dsimp -implicitDefEqProofs (disch:=first|omega|assumption)
 intro T' f hT' i hi ih;have hiu:i<u.length:=by omega
 have gi:=get_at hiu
 by_cases h1:i=k
 ·have gk:=get_at hk
  have hw:IntKind.u64.wrap (k:Int)=k:=zaj (by omega) (by omega)
  subst hT';rw[h1];simp -dsimp -implicitDefEqProofs (disch:=first|omega|assumption) [hk,gk,ha,hw]
  simpa -dsimp -implicitDefEqProofs (disch:=first|omega|assumption) [hw]using hT
 ·have h2: ¬ at' u i=n:=by
   have:=hur i k (by omega) hk
   omega
  simp -dsimp -implicitDefEqProofs (disch:=first|omega|assumption) [hiu,gi,h2]
  exact ih (i+1) _ _ (by omega) (by omega) (by simp -dsimp -implicitDefEqProofs (disch:=first|omega|assumption))
end Go.Am.Ab
namespace Go.Am.Ab
open Go.Proofs
set_option maxHeartbeats 4000000
def zzX (l:List Int) (hl: ∀n∈l,zat n) (hn:l.length<=256):R 145 [.d (.int .i64 0),.d (ints l)] []=some ([.arr 0 (zbD l).length,.d (.bool true)],[.arr 1 (bytes (zbD l)) 0]):=by
 have h6: ¬ (256:Int)<l.length:=by omega
 have h6': ¬ 256<l.length:=by omega
 refine rg zul rfl ?_;intro T hT;simp -dsimp -implicitDefEqProofs (disch:=first|omega|assumption) [h6,h6']
 generalize hz:zaf _ _ _ _ _ _=z;revert z;refine zaa (σ:=Nat) (λi=>[(1,.d (ints l)),(6,.arr 0 (zbD (l.take i)).length),(7,.d (.int .i64 i))]) (λi=>[.arr 1 (bytes (zbD (l.take i))) 0]) (λi=>i<=l.length) (λi=>l.length - i) 0 ?_ ?_ ?_
 ·simp
 ·simp -dsimp -implicitDefEqProofs (disch:=first|omega|assumption) [zbD]
 intro T' f hT' i hi ih
 by_cases h1:i<l.length
 ·have hb:=hl l[i] (by simp)
  have hp:=zbC l[i] hb.1 hb.2;have hlen:=zaH hb;have hlen2:=zea (l:=l.take i) λn h=>hl n (List.mem_of_mem_take h)
  rw[List.length_take]at hlen2;simp -dsimp -implicitDefEqProofs (disch:=first|omega|assumption) [h1,hp]
  refine ih (i+1) _ _ h1 (by omega) ?_
  rw[zaq h1,zeF];simp -dsimp -implicitDefEqProofs (disch:=first|omega|assumption)
 ·rw[List.take_of_length_le (by omega)]
  subst hT';simp -dsimp -implicitDefEqProofs (disch:=first|omega|assumption) [h1]
  simpa -dsimp -implicitDefEqProofs (disch:=first|omega|assumption) using hT
def zhx (x:Int): ∀ (l:List Int) (a:Int),zcB a (l++[x])=zcB a l++[IntKind.i64.wrap (x - l.getLastD a)]
 |[],a=>by simp[zcB]
 |y::r,a=>by rw[List.cons_append,zcB,zhx x r y,zcB,List.cons_append,List.getLastD_cons]
def zlS {l:List Int} {i:Nat} (h:i<l.length):zcP (l.take (i+1))=zcP (l.take i)++zaY (IntKind.i64.wrap (at' l i - if i=0 then 0 else at' l (i - 1))):=by
 unfold zcP;rw[zaq h,zhx,zeF,get_at h];congr 3;cases i with
 |zero=>simp
 |succ j=>
  rw[if_neg (by omega),zaq (by omega),get_at]
  simp
def zzY (l:List Int) (hl: ∀n∈l,zat n) (hn:l.length<=256):R 145 [.d (.int .i64 1),.d (ints l)] []=some ([.arr 0 (zcP l).length,.d (.bool true)],[.arr 1 (bytes (zcP l)) 0]):=by
 have h6: ¬ (256:Int)<l.length:=by omega
 have h6': ¬ 256<l.length:=by omega
 refine rg zul rfl ?_;intro T hT;simp -dsimp -implicitDefEqProofs (disch:=first|omega|assumption) [h6,h6']
 generalize hz:zaf _ _ _ _ _ _=z;revert z;refine zaa (σ:=Nat) (λi=>[(1,.d (ints l)),(6,.arr 0 (zcP (l.take i)).length),(8,.d (.int .i64 i))]) (λi=>[.arr 1 (bytes (zcP (l.take i))) 0]) (λi=>i<=l.length) (λi=>l.length - i) 0 ?_ ?_ ?_
 ·simp
 ·simp -dsimp -implicitDefEqProofs (disch:=first|omega|assumption) [zcP,zcB,zbD]
 intro T' f hT' i hi ih
 by_cases h1:i<l.length
 ·have gi:=get_at h1
  have hb:zat (at' l i):=by rw[<- gi];exact hl _ (List.getElem_mem _)
  have hlen2:=zfJ (l.take i);rw[List.length_take]at hlen2;have hs:=zlS h1
  by_cases h0:i=0
  ·subst h0
   have hwr:IntKind.i64.wrap (at' l 0 - 0)=at' l 0:=by unfold zat at hb;rw[wI (by omega) (by omega)];omega
   rw[if_pos rfl,hwr]at hs;have hp:=zbC (at' l 0) hb.1 hb.2;have hlen:=zaH hb;have hd0:zcP []=[]:=rfl;simp -dsimp -implicitDefEqProofs (disch:=first|omega|assumption) [h1,gi,hp,hd0]
   refine ih (0+1) _ _ h1 (by omega) ?_
   rw[hs];simp -dsimp -implicitDefEqProofs (disch:=first|omega|assumption) [hd0]
  ·obtain⟨w,hw⟩: ∃w,i=w+1:=⟨i - 1,by omega⟩
   have q0:(i:Int) - 1=w:=by omega
   have hwl:w<l.length:=by omega
   have gw:=get_at hwl;have hbw:zat (at' l w):=by rw[<- gw];exact hl _ (List.getElem_mem _)
   rw[if_neg h0,show i - 1=w by omega]at hs
   obtain⟨v,hv⟩: ∃v,v=IntKind.i64.wrap (at' l i - at' l w):=⟨_,rfl⟩;rw[<- hv]at hs;have hvi:zat v:=by rw[hv];exact zlK _
   have hp:=zbC v hvi.1 hvi.2;have hlen:=zaH hvi;have hsub:IntKind.i64.wrap (IntKind.u64.wrap (IntKind.u64.wrap (at' l i) - IntKind.u64.wrap (at' l w)))=v:=by
    rw[hv,zad,zad,zad,zbB,zbB];have e:((at' l i % 18446744073709551616 - at' l w % 18446744073709551616) % 18446744073709551616) % 18446744073709551616=(at' l i - at' l w) % 18446744073709551616:=by omega
    rw[e]
   have h0': ¬ (i:Int)=0:=by omega
   simp -dsimp -implicitDefEqProofs (disch:=first|omega|assumption) [h1,gi,gw,hwl,h0,h0',q0,hsub,hp]
   refine ih (i+1) _ _ h1 (by omega) ?_
   rw[hs];simp -dsimp -implicitDefEqProofs (disch:=first|omega|assumption)
 ·rw[List.take_of_length_le (by omega)]
  subst hT';simp -dsimp -implicitDefEqProofs (disch:=first|omega|assumption) [h1]
  simpa -dsimp -implicitDefEqProofs (disch:=first|omega|assumption) using hT
def zpv (x:Int) (r:List Int) (h:r.head?≠some x): ∀k,cnt x (List.replicate k x++r)=k
 |0=>by
  cases r with
  |nil=>rfl
  |cons y r=>
   have: ¬ y=x:=λe=>h (by simp[e])
   simp[cnt,this]
 |k+1=>by rw[List.replicate_succ,List.cons_append,cnt,if_pos rfl,zpv x r h k]
def zpw (x:Int) (r:List Int) (k:Nat) (h:r.head?≠some x):zcy (List.replicate (k+1) x++r)=zaY x++(put (k+1)++zcy r):=by
 rw[ziH (x:=x) (r:=List.replicate k x++r) (by rw[List.replicate_succ];rfl),zpv x r h,List.drop_left' (by simp)]
def zpx {l:List Int} {i:Nat} (h:i<l.length):(l.drop i).head?=some (at' l i):=by
 rw[List.drop_eq_getElem_cons h,get_at h];rfl
def zru {l:List Int} {i k:Nat} (h:i<l.length):List.replicate k (at' l i)++l.drop i=List.replicate (k+1) (at' l i)++l.drop (i+1):=by
 rw[List.drop_eq_getElem_cons h,get_at h,List.replicate_succ',List.append_assoc];rfl
def zzZ (l:List Int) (hl: ∀n∈l,zat n) (hn:l.length<=256):R 145 [.d (.int .i64 2),.d (ints l)] []=some ([.arr 0 (zcy l).length,.d (.bool true)],[.arr 1 (bytes (zcy l)) 0]):=by
 have h6: ¬ (256:Int)<l.length:=by omega
 have h6': ¬ 256<l.length:=by omega
 have hbnd:=zfb l.length l hl (by omega) (Nat.le_refl _)
 rw[show zfK l.length l=zcy l from rfl]at hbnd
 refine rg zul rfl ?_;intro T hT;simp -dsimp -implicitDefEqProofs (disch:=first|omega|assumption) [h6,h6']
 generalize hz:zaf _ _ _ _ _ _=z;revert z;refine zaa (σ:=Nat × Nat × List UInt8) (λx=>[(1,.d (ints l)),(6,.arr 0 x.2.2.length),(9,.d (.int .i64 x.2.1)),(10,.d (.int .i64 x.1))]) (λx=>[.arr 1 (bytes x.2.2) 0]) (λx=>x.1<=l.length/\x.2.1<=x.1/\(0<x.2.1->x.1<l.length)/\x.2.2++zcy (List.replicate x.2.1 (at' l x.1)++l.drop x.1)=zcy l) (λx=>l.length - x.1) (0,0,[]) ?_ ?_ ?_
 ·exact⟨Nat.zero_le _,Nat.le_refl _,λh=>by simp only at h;omega,by simp⟩
 ·simp -dsimp -implicitDefEqProofs (disch:=first|omega|assumption)
 intro T' f hT' ⟨i,c,b⟩ ⟨hi,hc,hc2,hb⟩ ih;simp only at hi hc hc2 hb ih
 by_cases h1:i<l.length
 ·have gi:=get_at h1
  have hbi:zat (at' l i):=by rw[<- gi];exact hl _ (List.getElem_mem _)
  have hp:=zbC (at' l i) hbi.1 hbi.2;have hlen:=zaH hbi;have hp2:=zaP (c+1) (by omega)
  have hlen2:=zak (n:=c+1) (by omega)
  have hc1:((c+1:Nat):Int)=(c:Int)+1:=by omega
  rw[hc1]at hp2;have hw:IntKind.u64.wrap ((c:Int)+1)=(c:Int)+1:=zaj (by omega) (by omega)
  rw[zru h1]at hb;have emit:(l.drop (i+1)).head?≠some (at' l i)->(b++(zaY (at' l i)++put (c+1)))++zcy (List.replicate 0 (at' l (i+1))++l.drop (i+1))=zcy l:=by
   intro h;rw[<- hb,zpw _ _ _ h];simp
  have hbl:b.length<=(zcy l).length:=by rw[<- hb];simp
  by_cases h2:i+1=l.length
  ·have h2':(l.length:Int) - 1=i:=by omega
   have he:=emit (by rw[List.drop_of_length_le (by omega)];simp)
   simp -dsimp -implicitDefEqProofs (disch:=first|omega|assumption) [h1,gi,h2',hp,hp2,hw]
   refine ih (i+1,0,b++(zaY (at' l i)++put (c+1))) _ _ ⟨h1,Nat.zero_le _,λh=>by simp only at h;omega,he⟩ (by simp only;omega) ?_
   simp -dsimp -implicitDefEqProofs (disch:=first|omega|assumption) [h2',Nat.add_assoc]
  ·have h2': ¬ (i:Int)=(l.length:Int) - 1:=by omega
   have h3:i+1<l.length:=by omega
   have gj:=get_at h3
   by_cases h4:at' l (i+1)=at' l i
   ·simp -dsimp -implicitDefEqProofs (disch:=first|omega|assumption) [h1,gi,h2',h3,gj,h4]
    refine ih (i+1,c+1,b) _ _ ⟨h1,by simp only;omega,λ_=>h3,by simp only;rw[h4];exact hb⟩ (by simp only;omega) ?_
    simp -dsimp -implicitDefEqProofs (disch:=first|omega|assumption)
   ·have he:=emit (by rw[zpx h3];intro e;exact h4 (Option.some.inj e))
    simp -dsimp -implicitDefEqProofs (disch:=first|omega|assumption) [h1,gi,h2',h3,gj,h4,hp,hp2,hw]
    refine ih (i+1,0,b++(zaY (at' l i)++put (c+1))) _ _ ⟨h1,Nat.zero_le _,λh=>by simp only at h;omega,he⟩ (by simp only;omega) ?_
    simp -dsimp -implicitDefEqProofs (disch:=first|omega|assumption) [Nat.add_assoc]
 ·have hc0:c=0:=by omega
  have hbb:b=zcy l:=by
   rw[<- hb,hc0,List.drop_of_length_le (by omega)]
   simp[zcy,zfK]
  rw[hbb];subst hT';simp -dsimp -implicitDefEqProofs (disch:=first|omega|assumption) [h1]
  simpa -dsimp -implicitDefEqProofs (disch:=first|omega|assumption) using hT
end Go.Am.Ab
namespace Go.Am.Ab
open Go.Proofs
set_option maxHeartbeats 4000000
def zz0 (l:List Int) (hl: ∀n∈l,zat n) (hn:l.length<=256):R 145 [.d (.int .i64 3),.d (ints l)] []=some ([.arr 0 (zkF l).length,.d (.bool true)],[.arr 1 (bytes (zkF l)) 0]):=by
 have h6: ¬ (256:Int)<l.length:=by omega
 have h6': ¬ 256<l.length:=by omega
 have hun:=zgj l hn;have hul:(uniq l).length<=256:=by have:=uniq_length_le l;omega
 have hui: ∀n∈uniq l,zat n:=λn h=>hl n (uniq_mem.1 h)
 have hrs:=uniq_rises l;have hur:=rises_iff.1 hrs;have hum: ∀n∈l,n∈uniq l:=λn h=>uniq_mem.2 h
 have hpm:=zhr hn;have hpl:(zaT (uniq l) l).length=l.length:=by simp[zaT]
 have hpw:=zb5 hpm;have hwr:=zeE (zaT (uniq l) l) hpm (by omega)
 have hpk:=zhn (zaT (uniq l) l) (za5 (zaT (uniq l) l)) hpm hpw (by omega) (Nat.le_refl _)
 have hplen:=zco hpw (by omega:(zaT (uniq l) l).length<=256)
 rw[show zkF l=put (uniq l).length++(zbv (uniq l)++zbL (za5 (zaT (uniq l) l)) (zaT (uniq l) l)) from rfl]
 obtain⟨u,hu⟩: ∃u,u=uniq l:=⟨_,rfl⟩;rw[<- hu]at hun hul hui hrs hur hum hpm hpl hpw hwr hpk hplen ⊢;clear hpm hu;have hput:=zaP u.length (by omega)
 have hputl:=zak (n:=u.length) (by omega)
 have hbi:=zdg hui;obtain⟨wd,hwd⟩: ∃wd,wd=za5 (zaT u l):=⟨_,rfl⟩;rw[<- hwd]at hpw hwr hpk hplen ⊢;obtain⟨pk,hpkd⟩: ∃pk,pk=zbL wd (zaT u l):=⟨_,rfl⟩;rw[<- hpkd]at hpk hplen ⊢;have hw0:IntKind.u64.wrap (u.length:Int)=u.length:=zaj (by omega) (by omega)
 refine rg zul rfl ?_;intro T hT;simp -dsimp -implicitDefEqProofs (disch:=first|omega|assumption) [h6,h6',hun,hput,hw0]
 generalize hz:zaf _ _ _ _ _ _=z;revert z;refine zaa (σ:=Nat) (λi=>[(1,.d (ints l)),(6,.arr 0 (put u.length++zbv (u.take i)).length),(11,.arr 1 u.length),(12,.arr 2 0),(13,.d (.int .i64 i))]) (λi=>[.arr 1 (bytes (put u.length++zbv (u.take i))) 0,.arr 1 (cs u) 0,.arr 1 [] 0]) (λi=>i<=u.length) (λi=>u.length - i) 0 ?_ ?_ ?_
 ·simp
 ·simp -dsimp -implicitDefEqProofs (disch:=first|omega|assumption) [zbv]
 intro T' f hT' i hi ih
 by_cases h1:i<u.length
 ·have hbt:=zdg (l:=u.take i) λn h=>hui n (List.mem_of_mem_take h)
  rw[List.length_take]at hbt;have gi':=get_at h1;have hri:=zfQ h1;have hii:zat (at' u i):=by rw[<- get_at h1];exact hui _ (List.getElem_mem _)
  by_cases h0:i=0
  ·subst h0
   have hr0:zbv []=[]:=rfl;have hp:=zbC (at' u 0) hii.1 hii.2;have hlen:=zaH hii;rw[if_pos rfl]at hri;simp -dsimp -implicitDefEqProofs (disch:=first|omega|assumption) [h1,gi',hp,hr0]
   refine ih (0+1) _ _ h1 (by omega) ?_
   rw[hri];simp -dsimp -implicitDefEqProofs (disch:=first|omega|assumption) [zbv,Nat.add_assoc]
  ·obtain⟨w,hw⟩: ∃w,i=w+1:=⟨i - 1,by omega⟩
   have q0:(i:Int) - 1=w:=by omega
   have hwl:w<u.length:=by omega
   have gw':=get_at hwl;have hjj:zat (at' u w):=by rw[<- get_at hwl];exact hui _ (List.getElem_mem _)
   rw[if_neg h0,show i - 1=w by omega]at hri
   have hlt:=hur w i (by omega) h1
   unfold zat at hii hjj;obtain⟨v,hv⟩: ∃v:Nat,(v:Int)=at' u i - at' u w:=⟨(at' u i - at' u w).toNat,by omega⟩
   have hvv:(at' u i - at' u w).toNat=v:=by omega
   rw[hvv]at hri;have hp:=zaP v (by omega)
   have hlen:=zak (n:=v) (by omega)
   have hsub:IntKind.u64.wrap (IntKind.u64.wrap (at' u i) - IntKind.u64.wrap (at' u w))=v:=by rw[zad,zad,zad];omega
   have h0': ¬ (i:Int)=0:=by omega
   simp -dsimp -implicitDefEqProofs (disch:=first|omega|assumption) [h1,gi',gw',hwl,h0,h0',q0,hsub,hp]
   refine ih (i+1) _ _ h1 (by omega) ?_
   rw[hri];simp -dsimp -implicitDefEqProofs (disch:=first|omega|assumption) [Nat.add_assoc]
 ·rw[List.take_of_length_le (by omega)]
  subst hT';simp -dsimp -implicitDefEqProofs (disch:=first|omega|assumption) [h1]
  clear ih hi h1;generalize hz:zaf _ _ _ _ _ _=z;revert z;refine zaa (σ:=Nat × Nat) (λx=>[(1,.d (ints l)),(6,.arr 0 (put u.length++zbv u).length),(11,.arr 1 u.length),(12,.arr 2 x.1),(14,.d (.int .i64 x.1))]) (λx=>[.arr 1 (bytes (put u.length++zbv u)) 0,.arr 1 (cs u) x.2,.arr 1 ((zaT u (l.take x.1)).map λ(n:Nat)=>D.int .u64 (n:Int)) 0]) (λx=>x.1<=l.length) (λx=>l.length - x.1) (0,0) ?_ ?_ ?_
  ·simp
  ·simp -dsimp -implicitDefEqProofs (disch:=first|omega|assumption) [zaT]
  intro T2 f2 hT2 ⟨i,wm⟩ hi ih;simp only at hi ih;have hpi:(zaT u (l.take i)).length=i:=by simp[zaT];omega
  by_cases h1:i<l.length
  ·have hmem:=hum l[i] (by simp)
   have hpl:=zn8 u l[i] hul hrs hmem;have hsn:zaT u (l.take (i+1))=zaT u (l.take i)++[idx u l[i]]:=by unfold zaT;rw[zaq h1,List.map_append];rfl
   simp -dsimp -implicitDefEqProofs (disch:=first|omega|assumption) [h1,hpl,hpi]
   refine ih (i+1,u.length) _ _ h1 (by simp only;omega) ?_
   simp only;rw[hsn];simp -dsimp -implicitDefEqProofs (disch:=first|omega|assumption)
  ·have hil:i=l.length:=by omega
   subst hT2;rw[hil,List.take_length];rw[hil,List.take_length]at hpi;simp -dsimp -implicitDefEqProofs (disch:=first|omega|assumption) [hwr,hpk,hpi]
   simpa -dsimp -implicitDefEqProofs (disch:=first|omega|assumption) [Nat.add_assoc]using hT
end Go.Am.Ab
namespace Go.Am.Ab
open Go.Proofs
set_option maxHeartbeats 4000000
def zpy {l:List Int} (h:l≠[]):0<(uniq l).length:=by
 cases l with
 |nil=>exact absurd rfl h
 |cons x r=>exact List.length_pos_of_mem (uniq_mem.2 (by simp:x∈x::r))
def zpz {l:List Int} (h:l≠[]):at' (uniq l) 0=zk3 l:=by
 have h0:=zpy h;have hur:=rises_iff.1 (uniq_rises l);have h1:at' (uniq l) 0∈uniq l:=by rw[<- get_at h0];exact List.getElem_mem _
 have h2:=zlM _ (uniq_mem.1 h1);obtain⟨i,hi,he⟩:=mem_at.1 (uniq_mem.2 (zfc h))
 by_cases c:i=0
 ·subst c;exact he
 ·have:=hur 0 i (by omega) hi
  omega
def zrv:R 145 [.d (.int .i64 4),.d (ints [])] []=some ([.arr 0 0,.d (.bool true)],[.arr 1 [] 0]):=by
 refine rg zul rfl ?_;intro T hT;simp -dsimp -implicitDefEqProofs (disch:=first|omega|assumption)
 simpa -dsimp -implicitDefEqProofs (disch:=first|omega|assumption) using hT
def zz1 (l:List Int) (h0:l≠[]) (hl: ∀n∈l,zat n) (hn:l.length<=256):R 145 [.d (.int .i64 4),.d (ints l)] []=some ([.arr 0 (zcn l).length,.d (.bool true)],[.arr 1 (bytes (zcn l)) 0]):=by
 have h6: ¬ (256:Int)<l.length:=by omega
 have h6': ¬ 256<l.length:=by omega
 have hlen:0<l.length:=Nat.pos_of_ne_zero (by simpa using h0)
 have hun:=zgj l hn;have hul:=uniq_length_le l;have hu0:=zpy h0;have gu:=get_at hu0;rw[zpz h0]at gu;have hmlt:=zjh hl;have hml:(zbI l).length<=256:=by simpa[zbI]using hn
 have hmlen:(zbI l).length=l.length:=by simp[zbI]
 have hw:=zeE (zbI l) hmlt (by omega)
 have hw64:=zb5 hmlt;have hpk:=zhn (zbI l) (za5 (zbI l)) hmlt hw64 hml (Nat.le_refl _);have hplen:=zco hw64 hml;obtain⟨wd,hwd⟩: ∃wd,wd=za5 (zbI l):=⟨_,rfl⟩;obtain⟨m,hm⟩: ∃m,m=zk3 l:=⟨_,rfl⟩;have hmi:zat m:=by rw[hm];exact hl _ (zfc h0)
 have hpi:=zbC m hmi.1 hmi.2;have hpil:=zaH hmi;have hB:zcn l=zaY m++(put wd++zbL wd (zbI l)):=by unfold zcn;rw[if_neg h0,<- hm,<- hwd]
 rw[<- hwd]at hw hw64 hpk hplen;rw[<- hm]at gu;have hput1:put wd=[u8n wd]:=ziG (by omega)
 rw[hB,hput1];have hbb:za2 (u8n wd)= .int .u8 (wd:Int):=zjd (by rw[zdS (by omega)])
 have hmod:(wd:Int) % 256=wd:=by omega
 have hne: ¬ (l.length:Int)=0:=by omega
 obtain⟨u,hu⟩: ∃u,u=uniq l:=⟨_,rfl⟩;obtain⟨pk,hpkd⟩: ∃pk,pk=zbL wd (zbI l):=⟨_,rfl⟩;rw[<- hpkd]at hpk hplen ⊢;simp only[<- hu]at hun hul hu0 gu;have hmt: ∀i,i<=l.length->((zbI l).take i).length=i:=λi hi=>by rw[List.length_take];omega
 have hms: ∀i,(h:i<l.length)->(zbI l).take (i+1)=(zbI l).take i++[(l[i] - m).toNat]:=λi h=>by
  rw[zaq (by omega:i<(zbI l).length)];simp[zbI,hm]
 refine rg zul rfl ?_;intro T hT;simp -dsimp -implicitDefEqProofs (disch:=first|omega|assumption) [h6,h6',h0,hne,hun,hu0,gu]
 generalize hz:zaf _ _ _ _ _ _=z;revert z;refine zaa (σ:=Nat) (λi=>[(1,.d (ints l)),(17,.d (.int .i64 m)),(18,.arr 0 i),(19,.d (.int .i64 i))]) (λi=>[.arr 1 (((zbI l).take i).map λ(n:Nat)=>D.int .u64 (n:Int)) 0]) (λi=>i<=l.length) (λi=>l.length - i) 0 ?_ ?_ ?_
 ·simp
 ·simp -dsimp -implicitDefEqProofs (disch:=first|omega|assumption)
 intro T' f hT' i hi ih;have hti:=hmt i hi
 by_cases h1:i<l.length
 ·have hb:=hl l[i] (by simp)
  have hle:m<=l[i]:=by rw[hm];exact zlM _ (by simp)
  obtain⟨v,hv⟩: ∃v:Nat,(v:Int)=l[i] - m:=⟨(l[i] - m).toNat,by omega⟩
  have hvv:(l[i] - m).toNat=v:=by omega
  have hs:=hms i h1;rw[hvv]at hs;unfold zat at hb hmi;have hsub:IntKind.u64.wrap (IntKind.u64.wrap l[i] - IntKind.u64.wrap m)=v:=by rw[zad,zad,zad];omega
  simp -dsimp -implicitDefEqProofs (disch:=first|omega|assumption) [h1,hsub,hti]
  refine ih (i+1) _ _ h1 (by omega) ?_
  rw[hs];simp -dsimp -implicitDefEqProofs (disch:=first|omega|assumption)
 ·have hil:i=l.length:=by omega
  rw[List.take_of_length_le (by omega)]
  subst hT';rw[hil];simp -dsimp -implicitDefEqProofs (disch:=first|omega|assumption) [hw,hpk,hpi,hmlen,hmod]
  simpa -dsimp -implicitDefEqProofs (disch:=first|omega|assumption) [Nat.add_assoc,Nat.add_comm]using hT
def zlT (c:Nat) (l:List Int) (hl: ∀n∈l,zat n) (hn:l.length<=256) (hc:c<5):R 145 [.d (.int .i64 c),.d (ints l)] []=some ([.arr 0 (zhs c l).length,.d (.bool true)],[.arr 1 (bytes (zhs c l)) 0]):=by
 have h:c=0\/c=1\/c=2\/c=3\/c=4:=by omega
 rcases h with rfl | rfl | rfl | rfl | rfl
 ·exact zzX l hl hn
 ·exact zzY l hl hn
 ·exact zzZ l hl hn
 ·exact zz0 l hl hn
 ·by_cases h:l=[]
  ·subst h;exact zrv
  ·exact zz1 l h hl hn
def zhy (l:List Int) (hl: ∀n∈l,zat n) (hn:l.length<=256):R 103 [.d (ints l)] []=some ([.arr 0 (zca l).length,.d (.bool true)],[.arr 1 (bytes (zca l)) 0]):=by
 refine rg zBn rfl ?_;intro T hT;simp -dsimp -implicitDefEqProofs (disch:=first|omega|assumption)
 generalize hz:zaf _ _ _ _ _ _=z;revert z;refine zaa (σ:=Nat) (λi=>[(0,.d (ints l)),(4,.arr 0 (zaU l i).length),(5,.d (.int .i64 i))]) (λi=>[.arr 1 (bytes (zaU l i)) 0]) (λi=>i<=5) (λi=>5 - i) 0 ?_ ?_ ?_
 ·simp
 ·simp -dsimp -implicitDefEqProofs (disch:=first|omega|assumption) [zaU]
 intro T' f hT' i hi ih;have hbl:=zeb hl hn i
 by_cases h1:i<5
 ·have h1':(i:Int)<5:=by omega
  have g:=zlT i l hl hn h1;have hel:=zlR i hl hn;have hw:(i:Int) % 256=i:=by omega
  by_cases h0:i=0
  ·subst h0
   have e1:zaU l 1=u8n 0::zhs 0 l:=by rw[zaU,if_pos (.inl rfl)]
   rw[show ((0:Nat):Int)=0 from rfl]at g
   simp -dsimp -implicitDefEqProofs (disch:=first|omega|assumption) [g]
   refine ih (0+1) _ _ (by omega) (by omega) ?_
   rw[Nat.zero_add,e1];simp -dsimp -implicitDefEqProofs (disch:=first|omega|assumption) [Nat.add_comm]
  ·have h0': ¬ (i:Int)=0:=by omega
   by_cases h2:(zhs i l).length+1<(zaU l i).length
   ·have h2':((zhs i l).length:Int)+1<((zaU l i).length:Int):=by omega
    have e1:zaU l (i+1)=u8n i::zhs i l:=by rw[zaU,if_pos (.inr h2)]
    simp -dsimp -implicitDefEqProofs (disch:=first|omega|assumption) [h1',g,h0,h0',h2',hw]
    refine ih (i+1) _ _ (by omega) (by omega) ?_
    rw[e1];simp -dsimp -implicitDefEqProofs (disch:=first|omega|assumption) [hw,Nat.add_comm]
   ·have h2': ¬ ((zhs i l).length:Int)+1<((zaU l i).length:Int):=by omega
    have e1:zaU l (i+1)=zaU l i:=by rw[zaU,if_neg (by omega)]
    simp -dsimp -implicitDefEqProofs (disch:=first|omega|assumption) [h1',g,h0,h0',h2',hw]
    refine ih (i+1) _ _ (by omega) (by omega) ?_
    rw[e1];simp -dsimp -implicitDefEqProofs (disch:=first|omega|assumption) [hw]
 ·obtain rfl:i=5:=by omega
  subst hT';simp -dsimp -implicitDefEqProofs (disch:=first|omega|assumption)
  simpa -dsimp -implicitDefEqProofs (disch:=first|omega|assumption) [zca]using hT
end Go.Am.Ab
