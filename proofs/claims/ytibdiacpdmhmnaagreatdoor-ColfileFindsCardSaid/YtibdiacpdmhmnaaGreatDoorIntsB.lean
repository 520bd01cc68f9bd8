/- Lists by codec 3, and the best one. -/
import Derived.Test.YtibdiacpdmhmnaaGreatDoorSortB
set_option linter.all false
namespace Go.Am.Ab
open Go.Proofs
set_option maxHeartbeats 4000000
def clone_nil:R 197 [.d (ints [])] []=some ([.arr 0 0],[.arr 1 [] 0]):=by
 refine zgZ (rs:=[.tmp 2]) (ts:=[142]) Tryz.func197 rfl rfl rfl (by kernel_rfl) (by kernel_rfl) zzg (by simp[Tryz.f197]) ?_
 intro T hT a ha;rcases ha with rfl | rfl
 all_goals simp -dsimp -implicitDefEqProofs (disch:=omega)
 all_goals exact hT
def clone_runs (l:List Int) (hn:l.length<=256):R 197 [.d (ints l)] []=some ([.arr 0 l.length],[.arr 1 (cs l) 0]):=by
 cases l with
 |nil=>exact clone_nil
 |cons x r=>
  simp only[yaf]at hn;refine zgY (rs:=[.tmp 2]) (ts:=[142]) Tryz.func197 rfl rfl rfl (by kernel_rfl) (by kernel_rfl) (.inr ⟨(zzg).2,by intro zay h;simp at h⟩) (by simp[Tryz.f197]) ?_
  intro T hT;simp -dsimp -implicitDefEqProofs (disch:=omega) [ints]
  simpa -dsimp -implicitDefEqProofs (disch:=omega) using hT
def Packs (l:List Int) (r:Option (List V × List Obj)):Prop:=
 r=some ([.arr 0 (uniq l).length],[.arr 1 (cs (uniq l)) 0])\/ ∃m,(uniq l).length+m.length=l.length/\r=some ([.sl 0 l.length 0 (uniq l).length],[.arr 1 (cs (uniq l++m)) 0])
def not_packs {l:List Int}: ¬ Packs l none:=λh=>by
 rcases h with h | ⟨m,_,h⟩ <;> cases h
def uniq_of {l:List Int} {m:List Int} {k:Nat} (hk:k<=m.length) (h1: ∀i j,i<j->j<k->at' m i<at' m j) (h2: ∀y,(∃i,i<k/\at' m i=y)↔y∈l):m.take k=uniq l:=by
 have hat: ∀i,i<k->at' (m.take k) i=at' m i:=λi hi=>by
  simp only[at',yas,yaU,yag hi]
 apply rises_ext _ (uniq_rises l) _
 ·rw[rises_iff]
  intro i j hij hj;simp only[yaq]at hj;rw[hat i (by omega),hat j (by omega)]
  exact h1 i j hij (by omega)
 ·intro y
  rw[uniq_mem,<- h2 y,mem_at];constructor
  ·rintro ⟨i,hi,e⟩
   simp only[yaq]at hi;exact⟨i,by omega,by rw[<- hat i (by omega)];exact e⟩
  ·rintro ⟨i,hi,e⟩
   exact⟨i,by simp only[yaq];omega,by rw[hat i hi];exact e⟩
def CInv (s:List Int) (k:Nat) (x:Nat × Nat × List Int):Prop:=k<=x.1/\x.1<k+x.2.1/\1<=x.2.1/\k+x.2.1<=s.length/\x.2.2.length=s.length/\(∀i j,i<j->j<x.1->at' x.2.2 i<at' x.2.2 j)/\
 (∀y,(∃i,i<x.1/\at' x.2.2 i=y)↔ ∃i,i<k+x.2.1/\at' s i=y)/\at' x.2.2 (x.1 - 1)=at' s (k+x.2.1 - 1)/\ ∀p,k+x.2.1<=p+1->at' x.2.2 p=at' s p
def compact_any (s:List Int) (hs:Asc 0 s.length s) (hn:s.length<=256):Packs s (R 199 [.arr 0 s.length] [.arr 1 (cs s) 0]):=by
 have same:(∀i j,i<j->j<s.length->at' s i<at' s j)->uniq s=s:=by
  intro h;have:=uniq_of (l:=s) (m:=s) (yaj _) h (λy=>mem_at.symm)
  rw[yaW]at this;exact this.symm
 by_cases h2:s.length<2
 ·have hu:=same λi j h1 h2=>by omega
  have e:R 199 [.arr 0 s.length] [.arr 1 (cs s) 0]=some ([.arr 0 s.length],[.arr 1 (cs s) 0]):=by
   have h2':(s.length:Int)<2:=by omega
   refine rg zI6 rfl ?_;intro T hT;simp -dsimp -implicitDefEqProofs (disch:=omega) [h2,h2']
   simpa -dsimp -implicitDefEqProofs (disch:=omega) using hT
  exact .inl (by rw[hu,e])
 have h2': ¬ (s.length:Int)<2:=by omega
 refine ra zI6 rfl not_packs ?_;simp -dsimp -implicitDefEqProofs (disch:=omega) [h2,h2']
 generalize hT0:Packs s=T0;generalize hz:zaf _ _ _ _ _ _=z;revert z;refine zaa (σ:=Nat) (λx=>[(0,.arr 0 s.length),(3,.d (.int .i64 x))]) (λx=>[.arr 1 (cs s) 0]) (λx=>1<=x/\x<=s.length/\ ∀i j,i<j->j<x->at' s i<at' s j) (λx=>s.length - x) 1 ?_ ?_ ?_
 ·exact⟨yaj _,by omega,λi j h1 h2=>by omega⟩
 ·simp -dsimp -implicitDefEqProofs (disch:=omega)
 intro T2 f2 hT2 x ⟨hx1,hx2,hx3⟩ ih2
 by_cases hx:x<s.length
 ·obtain⟨w,hw⟩: ∃w,x=w+1:=⟨x - 1,by omega⟩
  have q0:(x:Int) - 1=w:=by omega
  have hw0:w<s.length:=by omega
  have gx:=get_at hx;have gw:=get_at hw0
  by_cases he:at' s x=at' s w
  ·have hs0: ¬ 0=s.length:=by omega
   have hlx:s.length - x+x=s.length:=by omega
   simp -dsimp -implicitDefEqProofs (disch:=omega) [hx,q0,gx,gw,hw0,he,hs0]
   generalize hz:zaf _ _ _ _ _ _=z;revert z;refine zaa (σ:=Nat × Nat × List Int) (λy=>[(0,.arr 0 s.length),(3,.d (.int .i64 y.1)),(4,.sl 0 s.length x (s.length - x)),(5,.d (.int .i64 y.2.1))]) (λy=>[.arr 1 (cs y.2.2) 0]) (CInv s x) (λy=>s.length - y.2.1) (x,1,s) ?_ ?_ ?_
   ·refine⟨yaj _,by simp only;omega,yaj _,by simp only;omega,rfl,hx3,λy=>⟨?_, ?_⟩, ?_,λp hp=>rfl⟩
    ·rintro ⟨i,hi,e⟩
     exact⟨i,by simp only at hi ⊢;omega,e⟩
    ·rintro ⟨i,hi,e⟩
     simp only at hi ⊢
     by_cases c:i=x
     ·exact⟨w,by omega,by rw[<- e,c,he]⟩
     ·exact⟨i,by omega,e⟩
    ·simp only
     rw[ybJ,show x - 1=w by omega,he]
   ·simp -dsimp -implicitDefEqProofs (disch:=omega)
   intro T3 f3 hT3 ⟨k,j,m⟩ ⟨i1,i2,i3,i4,i5,i6,i7,i8,i9⟩ ih3;simp only at i1 i2 i3 i4 i5 i6 i7 i8 i9 ih3
   by_cases hj:x+j<s.length
   ·have hj':j<s.length - x:=by omega
    have hj1:(j:Int)<(s.length:Int) - x:=by omega
    have hj2:((s.length - x:Nat):Int)=(s.length:Int) - x:=by omega
    obtain⟨v,hv⟩: ∃v,j=v+1:=⟨j - 1,by omega⟩
    have q1:(j:Int) - 1=v:=by omega
    have hv1:v<s.length - x:=by omega
    have hjm:x+j<m.length:=by omega
    have hvm:x+v<m.length:=by omega
    have gj:m[x+j]=at' s (x+j):=by rw[get_at hjm];exact i9 _ (by omega)
    have gv:m[x+v]=at' s (x+v):=by rw[get_at hvm];exact i9 _ (by omega)
    have hle:=hs (x+v) (x+j) (yai _) (by omega) hj
    have hlast:at' m (k - 1)=at' s (x+v):=by rw[i8];congr 1;omega
    by_cases hd:at' s (x+j)=at' s (x+v)
    ·simp -dsimp -implicitDefEqProofs (disch:=omega) [hj',hj1,hj2,q1,hv1,hjm,hvm,gj,gv,hd,i5]
     refine ih3 (k,j+1,m) _ _ ⟨i1,by simp only;omega,by simp only;omega,by simp only;omega,i5,i6,λy=> ?_, ?_,λp hp=>i9 p (by simp only at hp;omega)⟩ (by simp only;omega) (by simp -dsimp -implicitDefEqProofs (disch:=omega))
     ·rw[i7 y]
      constructor
      ·rintro ⟨i,hi,e⟩
       exact⟨i,by simp only;omega,e⟩
      ·rintro ⟨i,hi,e⟩
       simp only at hi
       by_cases c:i=x+j
       ·exact⟨x+v,by omega,by rw[<- e,c,hd]⟩
       ·exact⟨i,by omega,e⟩
     ·simp only
      rw[hlast,show x+(j+1) - 1=x+j by omega,hd]
    ·have hkm:k<m.length:=by omega
     have hks:k<s.length:=by omega
     have hat: ∀i,at' (m.set k (at' s (x+j))) i=if k=i then at' s (x+j) else at' m i:=λi=>at_set hkm
     simp -dsimp -implicitDefEqProofs (disch:=omega) [hj',hj1,hj2,q1,hv1,hjm,hvm,gj,gv,hd,i5,hkm,hks,zEp,-List.map_set]
     refine ih3 (k+1,j+1,m.set k (at' s (x+j))) _ _ ⟨by simp only;omega,by simp only;omega,by simp only;omega,by simp only;omega,by simp only[ydT];exact i5, ?_,λy=> ?_, ?_, ?_⟩ (by simp only;omega) (by simp -dsimp -implicitDefEqProofs (disch:=omega) [-List.map_set])
     ·intro p q p1 p2
      simp only at p2 ⊢;rw[hat,hat,yac (by omega)]
      by_cases c:k=q
      ·rw[yag c]
       have:at' m p<=at' m (k - 1):=by
        by_cases c2:p=k - 1
        ·rw[c2];exact ydL _
        ·exact ydS (i6 p (k - 1) (by omega) (by omega))
       omega
      ·rw[yac c];exact i6 p q p1 (by omega)
     ·simp only
      constructor
      ·rintro ⟨i,hi,e⟩
       rw[hat]at e
       by_cases c:k=i
       ·rw[yag c]at e;exact⟨x+j,by omega,e⟩
       ·rw[yac c]at e
        obtain⟨i',h',e'⟩:=(i7 y).1 ⟨i,by omega,e⟩
        exact⟨i',by omega,e'⟩
      ·rintro ⟨i,hi,e⟩
       by_cases c:i=x+j
       ·exact⟨k,by omega,by rw[hat,yag rfl,<- e,c]⟩
       ·obtain⟨i',h',e'⟩:=(i7 y).2 ⟨i,by omega,e⟩
        exact⟨i',by omega,by rw[hat,yac (by omega)];exact e'⟩
     ·simp only
      rw[ybJ,hat,yag rfl];congr 1
     ·intro p hp
      simp only at hp ⊢;rw[hat,yac (by omega)]
      exact i9 p (by omega)
   ·have hj': ¬ j<s.length - x:=by omega
    have hj1: ¬ (j:Int)<(s.length:Int) - x:=by omega
    have hj2:((s.length - x:Nat):Int)=(s.length:Int) - x:=by omega
    have hxj:x+j=s.length:=by omega
    have hu:m.take k=uniq s:=uniq_of (by omega) i6 (λy=>by
     rw[i7 y,hxj];exact mem_at.symm)
    have hul:(uniq s).length=k:=by rw[<- hu,yaq];omega
    have hfin:(cs m).take k++List.replicate (s.length - k) (D.int .i64 0)=cs (uniq s++List.replicate (s.length - k) 0):=by
     rw[<- hu];simp
    subst hT3;subst hT2;have hkm:k<=s.length:=by omega
    have hkk:k+(s.length - k)=s.length:=by omega
    have hfin2:(List.map (λn=>D.int .i64 n) m).take k=cs (uniq s):=by rw[<- hu];simp
    have hdrop:(List.map (λn=>D.int .i64 n) m).drop s.length=[]:=by simp[i5]
    simp -dsimp -implicitDefEqProofs (disch:=omega) [hj',hj1,hj2,i5,hs0,hkm,hkk,hfin2,hdrop]
    rw[<- hT0];refine .inr ⟨List.replicate (s.length - k) 0,by rw[hul,ya6];omega, ?_⟩
    rw[hul];simp -dsimp -implicitDefEqProofs (disch:=omega)
  ·have hlt:at' s w<at' s x:=by
    have:=hs w x (yai _) (by omega) hx
    omega
   simp -dsimp -implicitDefEqProofs (disch:=omega) [hx,q0,gx,gw,hw0,he]
   refine ih2 (x+1) _ _ ⟨by omega,hx, ?_⟩ (by omega) (by simp -dsimp -implicitDefEqProofs (disch:=omega))
   intro p q p1 p2
   by_cases c:q=x
   ·rw[c]
    by_cases c2:p=w
    ·rw[c2];exact hlt
    ·have:=hx3 p w (by omega) (by omega);omega
   ·exact hx3 p q p1 (by omega)
 ·have hx':x=s.length:=by omega
  have hu:=same λi j h1 h2=>hx3 i j h1 (by omega)
  subst hT2;simp -dsimp -implicitDefEqProofs (disch:=omega) [hx,hx']
  rw[<- hT0];exact .inl (by rw[hu])
def zs9 (l:List Int) (hn:l.length<=256): ∃s:List Int,s.length=l.length/\uniq s=uniq l/\Packs s (R 181 [.d (ints l)] []):=by
 have h1:=clone_runs l hn;obtain⟨s,h2,h3,h4⟩:=sort_any l hn;have hl:=h3.len;have hu:uniq s=uniq l:=rises_ext (uniq_rises _) (uniq_rises _) λy=>by rw[uniq_mem,uniq_mem];exact h3.perm.mem_iff
 rw[<- hl]at h4;refine⟨s,hl,hu, ?_⟩;rcases compact_any s h4 (by omega) with h5 | ⟨m,hm,h5⟩
 ·rw[hl]at h5
  have e:R 181 [.d (ints l)] []=some ([.arr 0 (uniq s).length],[.arr 1 (cs (uniq s)) 0]):=by
   refine rg zI5 rfl ?_;intro T hT;simp -dsimp -implicitDefEqProofs (disch:=omega) [h1,h2,h5]
   simpa -dsimp -implicitDefEqProofs (disch:=omega) using hT
  exact .inl e
 ·rw[hl]at h5
  have e:R 181 [.d (ints l)] []=some ([.sl 0 l.length 0 (uniq s).length],[.arr 1 (cs (uniq s++m)) 0]):=by
   refine rg zI5 rfl ?_;intro T hT;simp -dsimp -implicitDefEqProofs (disch:=omega) [h1,h2,h5]
   simpa -dsimp -implicitDefEqProofs (disch:=omega) using hT
  exact .inr ⟨m,hm,by rw[hl,e]⟩
end Go.Am.Ab
namespace Go.Am.Ab
open Go.Proofs
set_option maxHeartbeats 4000000
def search_runs (l:List Int) (n:Int) (k:Nat) (hk:k<l.length) (hn:l.length<=256) (he:at' l k=n) (hlo: ∀p,p<k->at' l p<n) (hhi: ∀p,k<=p->p<l.length->n<=at' l p):
 R 182 [.d (ints l),.d (.int .i64 n)] []=some ([.d (.int .i64 k),.d (.bool true)],[]):=by
 refine rg zKj rfl ?_;intro T hT;simp -dsimp -implicitDefEqProofs (disch:=omega)
 generalize hz:zaf _ _ _ _ _ _=z;revert z;refine zaa (σ:=Nat × Nat) (λx=>[(0,.d (ints l)),(1,.d (.int .i64 n)),(6,.d (.int .i64 l.length)),(7,.d (.int .i64 x.1)),(8,.d (.int .i64 x.2))]) (λx=>[]) (λx=>x.1<=k/\k<=x.2/\x.2<=l.length) (λx=>x.2 - x.1) (0,l.length) ?_ ?_ ?_
 ·exact⟨yai _,by simp only;omega,yaj _⟩
 ·simp -dsimp -implicitDefEqProofs (disch:=omega)
 intro T' f hT' ⟨i,j⟩ ⟨h1,h2,h3⟩ ih;simp only at h1 h2 h3 ih
 by_cases h4:i<j
 ·obtain⟨q,hq⟩: ∃q,q=(i+j) / 2:=⟨_,rfl⟩
  have e1:((i:Int)+j) / 2=q:=by omega
  have e0:IntKind.u64.wrap ((i:Int)+j)=(i:Int)+j:=zal (by omega) (by omega)
  have hql:q<l.length:=by omega
  have gq:=get_at hql
  by_cases h5:at' l q<n
  ·have:q<k:=by
    apply Nat.lt_of_not_le;intro h;have:=hhi q h hql;omega
   simp -dsimp -implicitDefEqProofs (disch:=omega) [h4,e0,e1,hql,gq,less_runs,h5]
   exact ih (q+1,j) _ _ ⟨by simp only;omega,h2,h3⟩ (by simp only;omega) (by simp -dsimp -implicitDefEqProofs (disch:=omega))
  ·have:k<=q:=by
    apply Nat.le_of_not_lt;intro h;exact h5 (hlo q h)
   simp -dsimp -implicitDefEqProofs (disch:=omega) [h4,e0,e1,hql,gq,less_runs,h5]
   exact ih (i,q) _ _ ⟨h1,by simp only;omega,by simp only;omega⟩ (by simp only;omega) (by simp -dsimp -implicitDefEqProofs (disch:=omega))
 ·obtain rfl:i=k:=by omega
  have gk:=get_at hk;subst hT';simp -dsimp -implicitDefEqProofs (disch:=omega) [h4,hk,gk,he]
  simpa -dsimp -implicitDefEqProofs (disch:=omega) [he]using hT
end Go.Am.Ab
namespace Go.Am.Ab
open Go.Proofs
set_option maxHeartbeats 4000000
def zta:Int->List Int->List UInt8
 |_,[]=>[]
 |a,x::r=>put (x - a).toNat++zta x r
def zcs:List Int->List UInt8
 |[]=>[]
 |x::r=>zbe x++zta x r
def zoq (x:Int): ∀ (l:List Int) (a:Int),zta a (l++[x])=zta a l++put (x - l.getLastD a).toNat
 |[],a=>by simp[zta]
 |y::r,a=>by
  rw[ya9,zta,zoq x r y,zta,yan,List.getLastD_cons]
def ztb (x:Int) (y:Int) (r:List Int):zcs (y::r++[x])=zcs (y::r)++put (x - r.getLastD y).toNat:=by
 rw[ya9,zcs,zoq,zcs,yan]
def zlQ {u:List Int} {i:Nat} (h:i<u.length):zcs (u.take (i+1))=zcs (u.take i)++(if i=0 then zbe (at' u i) else put (at' u i - at' u (i - 1)).toNat):=by
 cases u with
 |nil=>simp at h
 |cons y r=>
  cases i with
  |zero=>simp[zcs,zta,at']
  |succ j=>
   have hj:j<r.length:=by simpa using h
   rw[yac (by omega),ydq,zaN hj,<- ya9,ztb,ydq]
   congr 3;rw[show j+1 - 1=j by omega]
   have e1:r[j]=at' (y::r) (j+1):=by rw[get_at hj];rfl
   rw[e1];congr 2;cases j with
   |zero=>simp[at']
   |succ k=>
    have hk:k<r.length:=by omega
    rw[zaN hk];simp[get_at hk];rfl
def zrt: ∀ (l:List Int) (a:Int),(∀x∈l,(x - a).toNat<18446744073709551616)->(∀x∈l, ∀y∈l,(x - y).toNat<18446744073709551616)->(zta a l).length<=10*l.length
 |[],_,_,_=>by simp[zta]
 |x::r,a,h1,h2=>by
  have:=zrt r x (λy hy=>h2 y (by simp[hy]) x (by simp)) (λy hy z hz=>h2 y (by simp[hy]) z (by simp[hz]))
  have:=zaq (h1 x (by simp))
  simp only[zta,yae,yaf];omega
def zhb {l:List Int} (h: ∀n∈l,zah n):(zcs l).length<=10*l.length:=by
 cases l with
 |nil=>simp[zcs]
 |cons x r=>
  have hx:=zbp (h x (by simp))
  have key: ∀y∈x::r, ∀z∈x::r,(y - z).toNat<18446744073709551616:=by
   intro y hy z hz;have h1:=h y hy;have h2:=h z hz;unfold zah at h1 h2;omega
  have:=zrt r x (λy hy=>key y (by simp[hy]) x (by simp)) (λy hy z hz=>key y (by simp[hy]) z (by simp[hz]))
  simp only[zcs,yae,yaf];omega
def idx (u:List Int) (n:Int):Nat:=u.idxOf n
def ziD {u:List Int} {n:Int} (h:n∈u):idx u n<u.length:=ycy h
def zru {u:List Int} {n:Int} (h:n∈u):at' u (idx u n)=n:=by
 rw[<- get_at (ziD h)];exact ydz (ziD h)
def ins_length (x:Int): ∀l:List Int,(ins x l).length<=l.length+1
 |[]=>by simp[ins]
 |y::r=>by
  unfold ins;have:=ins_length x r;split
  ·simp
  ·split
   ·simp
   ·simp only[yaf];omega
def uniq_length_le (l:List Int):(uniq l).length<=l.length:=by
 have key: ∀ (l u:List Int),(l.foldl (λu x=>ins x u) u).length<=u.length+l.length:=by
  intro l
  induction l with
  |nil=>intro u;simp
  |cons x r ih=>
   intro u;have h1:=ih (ins x u);have h2:=ins_length x u;simp only[ybc,yaf];omega
 have:=key l [];simpa[uniq]using this
def zbf (u l:List Int):List Nat:=l.map (idx u)
def zmM (l:List Int):List UInt8:=put (uniq l).length++(zcs (uniq l)++zbB (zcM (zbf (uniq l) l)) (zbf (uniq l) l))
def zhc {l:List Int} (hn:l.length<=256): ∀n∈zbf (uniq l) l,n<18446744073709551616:=by
 intro n hp;simp only[zbf,ycd]at hp;obtain⟨m,hm,rfl⟩:=hp;have h1:=ziD (uniq_mem.2 hm);have h2:=uniq_length_le l;omega
def ztc (l:List Int) (hl: ∀n∈l,zah n) (hn:l.length<=256):R 162 [.d (ints l)] []=some ([.arr 0 (zmM l).length],[.arr 1 (bytes (zmM l)) 0]):=by
 obtain⟨s,hsl,hsu,hP⟩:=zs9 l hn;have hul:(uniq l).length<=256:=by have:=uniq_length_le l;omega
 have hui: ∀n∈uniq l,zah n:=λn h=>hl n (uniq_mem.1 h)
 have hur:=rises_iff.1 (uniq_rises l);have hum: ∀n∈l,n∈uniq l:=λn h=>uniq_mem.2 h
 have hpm:=zhc hn;have hpl:(zbf (uniq l) l).length=l.length:=by simp[zbf]
 have hpk:=zlM (zbf (uniq l) l) hpm (by omega)
 have hpw:=zcQ hpm;have hplen:=zdX hpw (by omega:(zbf (uniq l) l).length<=256)
 have hend:=zog (idx (uniq l)) l;rw[show l.map (idx (uniq l))=zbf (uniq l) l from rfl]at hend
 have hB:zmM l=put (uniq l).length++(zcs (uniq l)++zbB (zcM (zbf (uniq l) l)) (zbf (uniq l) l)):=rfl;rw[hB];clear hB;unfold Packs at hP;rw[hsu]at hP;obtain⟨u,hu⟩: ∃u,u=uniq l:=⟨_,rfl⟩;rw[<- hu]at hul hui hur hum hpl hpk hpw hplen hend hP ⊢;clear hpm hsu hu;have hput:=zaZ u.length (by omega)
 have hputl:=zaq (n:=u.length) (by omega)
 have hbi:=zhb hui;obtain⟨pk,hpkd⟩: ∃pk,pk=zbB (zcM (zbf u l)) (zbf u l):=⟨_,rfl⟩;rw[<- hpkd]at hpk hplen ⊢;have hw0:IntKind.u64.wrap (u.length:Int)=u.length:=zal (by omega) (by omega)
 rcases hP with hP | ⟨m,hm,hP⟩
 ·skip
  have GI: ∀i,i<u.length->u[i]? =some (at' u i):=λi h=>by rw[yak h,get_at h]
  refine rg zIY rfl ?_;intro T hT;simp -dsimp -implicitDefEqProofs (disch:=omega) [hP,hput,hw0]
  generalize hz:zaf _ _ _ _ _ _=z;revert z;refine zaa (σ:=Nat) (λi=>[(0,.d (ints l)),(3,.arr 0 u.length),(4,.arr 1 (put u.length++zcs (u.take i)).length),(18,.arr 0 u.length),(19,.d (.int .i64 u.length)),(20,.d (.int .i64 i))]) (λi=>[.arr 1 (cs u) 0,.arr 1 (bytes (put u.length++zcs (u.take i))) 0]) (λi=>i<=u.length) (λi=>u.length - i) 0 ?_ ?_ ?_
  ·simp
  ·simp -dsimp -implicitDefEqProofs (disch:=omega) [zcs]
  intro T' f hT' i hi ih
  by_cases h1:i<u.length
  ·have hbt:=zhb (l:=u.take i) λn h=>hui n (yaH h)
   rw[yaq]at hbt;have gi:=GI i h1;have gi':=get_at h1;have hri:=zlQ h1;have hii:zah (at' u i):=by rw[<- get_at h1];exact hui _ (yam _)
   by_cases h0:i=0
   ·subst h0
    have hr0:zcs []=[]:=rfl;have hp:=zcc (at' u 0) hii.1 hii.2;have hlen:=zbp hii;rw[yag rfl]at hri;simp -dsimp -implicitDefEqProofs (disch:=omega) [h1,gi,gi',hp,hr0]
    refine ih (0+1) _ _ h1 (by omega) ?_
    rw[hri];simp -dsimp -implicitDefEqProofs (disch:=omega) [zcs,yaY]
   ·obtain⟨w,hw⟩: ∃w,i=w+1:=⟨i - 1,by omega⟩
    have q0:(i:Int) - 1=w:=by omega
    have hwl:w<u.length:=by omega
    have gw:=GI w hwl;have gw':=get_at hwl;have hjj:zah (at' u w):=by rw[<- get_at hwl];exact hui _ (yam _)
    rw[yac h0,show i - 1=w by omega]at hri
    have hlt:=hur w i (by omega) h1
    unfold zah at hii hjj;obtain⟨v,hv⟩: ∃v:Nat,(v:Int)=at' u i - at' u w:=⟨(at' u i - at' u w).toNat,by omega⟩
    have hvv:(at' u i - at' u w).toNat=v:=by omega
    rw[hvv]at hri;have hp:=zaZ v (by omega)
    have hlen:=zaq (n:=v) (by omega)
    have hsub:IntKind.u64.wrap (IntKind.u64.wrap (at' u i) - IntKind.u64.wrap (at' u w))=v:=by rw[zai,zai,zai];omega
    have h0': ¬ (i:Int)=0:=by omega
    simp -dsimp -implicitDefEqProofs (disch:=omega) [h1,gi,gi',gw,gw',hwl,h0,h0',q0,hsub,hp]
    refine ih (i+1) _ _ h1 (by omega) ?_
    rw[hri];simp -dsimp -implicitDefEqProofs (disch:=omega) [zcs,yaY]
  ·rw[yaA (by omega)]
   subst hT';simp -dsimp -implicitDefEqProofs (disch:=omega) [h1]
   clear ih hi h1;generalize hz:zaf _ _ _ _ _ _=z;revert z;refine zaa (σ:=Nat × Nat) (λx=>[(3,.arr 0 u.length),(4,.arr 1 (put u.length++zcs u).length),(7,.arr 2 l.length),(47,.d (ints l)),(48,.d (.int .i64 l.length)),(49,.d (.int .i64 x.1))]) (λx=>[.arr 1 (cs u) x.2,.arr 1 (bytes (put u.length++zcs u)) 0,.arr 1 (zhS (idx u) l x.1) 0]) (λx=>x.1<=l.length) (λx=>l.length - x.1) (0,0) ?_ ?_ ?_
   ·simp
   ·simp -dsimp -implicitDefEqProofs (disch:=omega) [zhS]
   intro T2 f2 hT2 ⟨i,wm⟩ hi ih;simp only at hi ih
   by_cases h1:i<l.length
   ·have hmem:=hum l[i] (by simp)
    have hk:=ziD hmem;have hka:=zru hmem;have hset:=zj2 (idx u) l i h1;have hrl:=zeV (idx u) l i hi;obtain⟨k,hkk⟩: ∃k,k=idx u l[i]:=⟨_,rfl⟩;rw[<- hkk]at hk hka hset;have hse:=search_runs u l[i] k hk (by omega) hka (λp hp=>by rw[<- hka];exact hur p k hp hk) (λp hp1 hp2=>by
     by_cases e:p=k
     ·rw[e,hka];exact ydL _
     ·rw[<- hka];exact ydS (hur k p (by omega) hp2))
    have hw1:IntKind.u64.wrap (k:Int)=k:=zal (by omega) (by omega)
    simp -dsimp -implicitDefEqProofs (disch:=omega) [h1,hse,hw1,hset,hrl]
    refine ih (i+1,u.length) _ _ h1 (by simp only;omega) ?_
    simp -dsimp -implicitDefEqProofs (disch:=omega)
   ·have hil:i=l.length:=by omega
    subst hT2;rw[hil];simp -dsimp -implicitDefEqProofs (disch:=omega) [hend,hpk,hpl,hpw]
    simpa -dsimp -implicitDefEqProofs (disch:=omega) [yaY]using hT
 ·skip
  rw[hsl]at hP hm;have HS:(u++m).length=l.length:=by rw[yae];exact hm
  have GI: ∀i,i<u.length->(List.map (λn=>D.int .i64 n) u++List.map (λn=>D.int .i64 n) m)[i]? =some (D.int .i64 (at' u i)):=λi h=>by rw[yar (by simpa using h),yau,yak h,get_at h];rfl
  refine rg zIY rfl ?_;intro T hT;simp -dsimp -implicitDefEqProofs (disch:=omega) [hP,hput,hw0]
  generalize hz:zaf _ _ _ _ _ _=z;revert z;refine zaa (σ:=Nat) (λi=>[(0,.d (ints l)),(3,.sl 0 l.length 0 u.length),(4,.arr 1 (put u.length++zcs (u.take i)).length),(18,.sl 0 l.length 0 u.length),(19,.d (.int .i64 u.length)),(20,.d (.int .i64 i))]) (λi=>[.arr 1 (cs (u++m)) 0,.arr 1 (bytes (put u.length++zcs (u.take i))) 0]) (λi=>i<=u.length) (λi=>u.length - i) 0 ?_ ?_ ?_
  ·simp
  ·simp -dsimp -implicitDefEqProofs (disch:=omega) [zcs]
  intro T' f hT' i hi ih
  by_cases h1:i<u.length
  ·have hbt:=zhb (l:=u.take i) λn h=>hui n (yaH h)
   rw[yaq]at hbt;have gi:=GI i h1;have gi':=get_at h1;have hri:=zlQ h1;have hii:zah (at' u i):=by rw[<- get_at h1];exact hui _ (yam _)
   by_cases h0:i=0
   ·subst h0
    have hr0:zcs []=[]:=rfl;have hp:=zcc (at' u 0) hii.1 hii.2;have hlen:=zbp hii;rw[yag rfl]at hri;simp -dsimp -implicitDefEqProofs (disch:=omega) [h1,HS,gi,gi',hp,hr0]
    refine ih (0+1) _ _ h1 (by omega) ?_
    rw[hri];simp -dsimp -implicitDefEqProofs (disch:=omega) [zcs,yaY]
   ·obtain⟨w,hw⟩: ∃w,i=w+1:=⟨i - 1,by omega⟩
    have q0:(i:Int) - 1=w:=by omega
    have hwl:w<u.length:=by omega
    have gw:=GI w hwl;have gw':=get_at hwl;have hjj:zah (at' u w):=by rw[<- get_at hwl];exact hui _ (yam _)
    rw[yac h0,show i - 1=w by omega]at hri
    have hlt:=hur w i (by omega) h1
    unfold zah at hii hjj;obtain⟨v,hv⟩: ∃v:Nat,(v:Int)=at' u i - at' u w:=⟨(at' u i - at' u w).toNat,by omega⟩
    have hvv:(at' u i - at' u w).toNat=v:=by omega
    rw[hvv]at hri;have hp:=zaZ v (by omega)
    have hlen:=zaq (n:=v) (by omega)
    have hsub:IntKind.u64.wrap (IntKind.u64.wrap (at' u i) - IntKind.u64.wrap (at' u w))=v:=by rw[zai,zai,zai];omega
    have h0': ¬ (i:Int)=0:=by omega
    simp -dsimp -implicitDefEqProofs (disch:=omega) [h1,HS,gi,gi',gw,gw',hwl,h0,h0',q0,hsub,hp]
    refine ih (i+1) _ _ h1 (by omega) ?_
    rw[hri];simp -dsimp -implicitDefEqProofs (disch:=omega) [zcs,yaY]
  ·rw[yaA (by omega)]
   subst hT';simp -dsimp -implicitDefEqProofs (disch:=omega) [h1,HS]
   clear ih hi h1;generalize hz:zaf _ _ _ _ _ _=z;revert z;refine zaa (σ:=Nat × Nat) (λx=>[(3,.sl 0 l.length 0 u.length),(4,.arr 1 (put u.length++zcs u).length),(7,.arr 2 l.length),(47,.d (ints l)),(48,.d (.int .i64 l.length)),(49,.d (.int .i64 x.1))]) (λx=>[.arr 1 (cs (u++m)) x.2,.arr 1 (bytes (put u.length++zcs u)) 0,.arr 1 (zhS (idx u) l x.1) 0]) (λx=>x.1<=l.length) (λx=>l.length - x.1) (0,0) ?_ ?_ ?_
   ·simp
   ·simp -dsimp -implicitDefEqProofs (disch:=omega) [zhS]
   intro T2 f2 hT2 ⟨i,wm⟩ hi ih;simp only at hi ih
   by_cases h1:i<l.length
   ·have hmem:=hum l[i] (by simp)
    have hk:=ziD hmem;have hka:=zru hmem;have hset:=zj2 (idx u) l i h1;have hrl:=zeV (idx u) l i hi;obtain⟨k,hkk⟩: ∃k,k=idx u l[i]:=⟨_,rfl⟩;rw[<- hkk]at hk hka hset;have hse:=search_runs u l[i] k hk (by omega) hka (λp hp=>by rw[<- hka];exact hur p k hp hk) (λp hp1 hp2=>by
     by_cases e:p=k
     ·rw[e,hka];exact ydL _
     ·rw[<- hka];exact ydS (hur k p (by omega) hp2))
    have hw1:IntKind.u64.wrap (k:Int)=k:=zal (by omega) (by omega)
    have hcut:(List.map (λn=>D.int .i64 n) u++List.map (λn=>D.int .i64 n) m).take u.length=List.map (λn=>D.int .i64 n) u:=by simp
    simp -dsimp -implicitDefEqProofs (disch:=omega) [h1,HS,hse,hw1,hcut,hm,hset,hrl]
    refine ih (i+1,l.length) _ _ h1 (by simp only;omega) ?_
    simp -dsimp -implicitDefEqProofs (disch:=omega) [HS,hm]
   ·have hil:i=l.length:=by omega
    subst hT2;rw[hil];simp -dsimp -implicitDefEqProofs (disch:=omega) [hend,hpk,hpl,hpw,HS]
    simpa -dsimp -implicitDefEqProofs (disch:=omega) [yaY,HS]using hT
end Go.Am.Ab
namespace Go.Am.Ab
open Go.Proofs
set_option maxHeartbeats 4000000
def zhX (c:Nat) (l:List Int):List UInt8:=match c with
 |0=>zbC l
 |1=>zlJ l
 |2=>zg3 l
 |3=>zmM l
 |_=>zcR l
def zp9 (l:List Int) (hl: ∀n∈l,zah n) (hn:l.length<=256):R 163 [.d (ints l)] []=some ([.arr 0 (zcR l).length],[.arr 1 (bytes (zcR l)) 0]):=by
 by_cases h:l=[]
 ·subst h;exact zs0
 ·exact zoh l h hl hn
def zgi (c:Nat) (l:List Int) (hl: ∀n∈l,zah n) (hn:l.length<=256) (hc:c<5):R 127 [.d (.int .u8 c),.d (ints l)] []=some ([.arr 0 (zhX c l).length,.d (.bool true)],[.arr 1 (bytes (zhX c l)) 0]):=by
 have h6: ¬ (256:Int)<l.length:=by omega
 have h6': ¬ 256<l.length:=by omega
 have h:c=0\/c=1\/c=2\/c=3\/c=4:=by omega
 rcases h with rfl | rfl | rfl | rfl | rfl
 ·have g:=zsY l hl hn
  refine rg zEd rfl ?_;intro T hT;simp -dsimp -implicitDefEqProofs (disch:=omega) [h6,h6',g]
  simpa -dsimp -implicitDefEqProofs (disch:=omega) [zhX]using hT
 ·have g:=zsZ l hl hn
  refine rg zEd rfl ?_;intro T hT;simp -dsimp -implicitDefEqProofs (disch:=omega) [h6,h6',g]
  simpa -dsimp -implicitDefEqProofs (disch:=omega) [zhX]using hT
 ·have g:=zu2 l hl hn
  refine rg zEd rfl ?_;intro T hT;simp -dsimp -implicitDefEqProofs (disch:=omega) [h6,h6',g]
  simpa -dsimp -implicitDefEqProofs (disch:=omega) [zhX]using hT
 ·have g:=ztc l hl hn
  refine rg zEd rfl ?_;intro T hT;simp -dsimp -implicitDefEqProofs (disch:=omega) [h6,h6',g]
  simpa -dsimp -implicitDefEqProofs (disch:=omega) [zhX]using hT
 ·have g:=zp9 l hl hn
  refine rg zEd rfl ?_;intro T hT;simp -dsimp -implicitDefEqProofs (disch:=omega) [h6,h6',g]
  simpa -dsimp -implicitDefEqProofs (disch:=omega) [zhX]using hT
end Go.Am.Ab
namespace Go.Am.Ab
open Go.Proofs
set_option maxHeartbeats 4000000
def zka {l:List Int} (hl: ∀n∈l,zah n) (hn:l.length<=256):(zcR l).length<=2068:=by
 unfold zcR;split
 ·simp
 ·rename_i h
  have h1:=zbp (hl _ (zg4 h));have h2:=zcQ (zg5 hl);have h3:=zaq (n:=zcM (zdq l)) (by omega)
  have h4:=zdX (w:=zcM (zdq l)) (l:=zdq l) h2 (by simpa[zdq]using hn)
  simp only[yae];omega
def zqa (c:Nat) {l:List Int} (hl: ∀n∈l,zah n) (hn:l.length<=256):(zhX c l).length<=5120:=by
 unfold zhX;split
 ·have:=zfr hl;omega
 ·have:=zlK l;omega
 ·have:=zj1 l.length l hl (by omega) (yaj _)
  unfold zg3;omega
 ·have h1:=uniq_length_le l
  have h2:=zaq (n:=(uniq l).length) (by omega)
  have h3:=zhb (l:=uniq l) λn h=>hl n (uniq_mem.1 h)
  have h4:=zcQ (zhc hn);have h5:=zdX h4 (by simp[zbf];omega:(zbf (uniq l) l).length<=256)
  unfold zmM;simp only[yae];omega
 ·have:=zka hl hn;omega
def zbb (l:List Int):Nat->List UInt8
 |0=>[]
 |k+1=>if k=0\/(zhX k l).length+1<(zbb l k).length then u8n k::zhX k l else zbb l k
def zb7 (l:List Int):List UInt8:=zbb l 5
def zhY {l:List Int} (hl: ∀n∈l,zah n) (hn:l.length<=256): ∀k,(zbb l k).length<=5121
 |0=>by simp[zbb]
 |k+1=>by
  have h1:=zhY hl hn k;have h2:=zqa k hl hn;unfold zbb;split
  ·simp only[yaf];omega
  ·exact h1
def zkb (l:List Int) (hl: ∀n∈l,zah n) (hn:l.length<=256):R 91 [.d (ints l)] []=some ([.arr 0 (zb7 l).length,.d (.bool true)],[.arr 1 (bytes (zb7 l)) 0]):=by
 have h6: ¬ (256:Int)<l.length:=by omega
 have h6': ¬ 256<l.length:=by omega
 refine rg b91 rfl ?_;intro T hT;simp -dsimp -implicitDefEqProofs (disch:=omega) [h6,h6']
 generalize hz:zaf _ _ _ _ _ _=z;revert z;refine zaa (σ:=Nat) (λi=>[(0,.d (ints l)),(4,.arr 0 (zbb l i).length),(11,.d (.int .u8 i))]) (λi=>[.arr 1 (bytes (zbb l i)) 0]) (λi=>i<=5) (λi=>5 - i) 0 ?_ ?_ ?_
 ·simp
 ·simp -dsimp -implicitDefEqProofs (disch:=omega) [zbb]
 intro T' f hT' i hi ih;have hbl:=zhY hl hn i
 by_cases h1:i<5
 ·have h1':(i:Int)<5:=by omega
  have g:=zgi i l hl hn h1;have hel:=zqa i hl hn;have hw:((i:Int)+1) % 256=i+1:=by omega
  have hun:u8n i=u8n i:=rfl;have hbb:D.int .u8 (i:Int)=zbh (u8n i):=(zmF (by rw[zdo (by omega)])).symm
  by_cases h0:i=0
  ·subst h0
   have e1:zbb l 1=u8n 0::zhX 0 l:=by rw[zbb,yag (.inl rfl)]
   rw[show ((0:Nat):Int)=0 from rfl]at g
   simp -dsimp -implicitDefEqProofs (disch:=omega) [g]
   refine ih (0+1) _ _ (by omega) (by omega) ?_
   rw[yaX,e1];simp -dsimp -implicitDefEqProofs (disch:=omega) [yb4]
  ·have h0': ¬ (i:Int)=0:=by omega
   by_cases h2:(zhX i l).length+1<(zbb l i).length
   ·have h2':((zhX i l).length:Int)<((zbb l i).length:Int) - 1:=by omega
    have e1:zbb l (i+1)=u8n i::zhX i l:=by rw[zbb,yag (.inr h2)]
    simp -dsimp -implicitDefEqProofs (disch:=omega) [h1',g,h0,h0',h2',hw]
    refine ih (i+1) _ _ (by omega) (by omega) ?_
    rw[e1];simp -dsimp -implicitDefEqProofs (disch:=omega) [hw,yb4]
   ·have h2': ¬ ((zhX i l).length:Int)<((zbb l i).length:Int) - 1:=by omega
    have e1:zbb l (i+1)=zbb l i:=by rw[zbb,yac (by omega)]
    simp -dsimp -implicitDefEqProofs (disch:=omega) [h1',g,h0,h0',h2',hw]
    refine ih (i+1) _ _ (by omega) (by omega) ?_
    rw[e1];simp -dsimp -implicitDefEqProofs (disch:=omega) [hw]
 ·obtain rfl:i=5:=by omega
  subst hT';simp -dsimp -implicitDefEqProofs (disch:=omega)
  simpa -dsimp -implicitDefEqProofs (disch:=omega) [zb7]using hT
end Go.Am.Ab
