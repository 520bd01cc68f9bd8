/- The sort of texts, first part. -/
import Derived.Test.YtibdiacpdmhmnaaGreatDoorIntsA
import Derived.Test.YtibdiacpdmhmnaaGreatDoorSortA
set_option linter.all false
namespace Go.Am.Ab.Str
open Go.Proofs
set_option maxHeartbeats 4000000
abbrev ws (wd:Nat->ByteArray) (l:List Nat):List D:=l.map λn=>D.str (wd n)
def ws_set {wd:Nat->ByteArray} (l:List Nat) (i:Nat) (v:Nat):(l.map λn=>D.str (wd n)).set i (D.str (wd v))=(l.set i v).map λn=>D.str (wd n):=by rw[yb0]
structure Mono (wd:Nat->ByteArray):Prop where
 lt: ∀a b,Op.bytesLess (wd a).toList (wd b).toList=decide (a<b)
 inj: ∀a b,(wd a).toList=(wd b).toList->a=b
def Mono.beq {wd:Nat->ByteArray} (h:Mono wd) (a b:Nat):((wd a).toList == (wd b).toList)=decide (a=b):=by
 by_cases e:a=b
 ·subst e;simp
 ·have:(wd a).toList≠(wd b).toList:=λg=>e (h.inj a b g)
  rw[yaL e];exact ydP this
@[simp] def allSize_ws (wd:Nat->ByteArray) (l:List Nat):zao 1 (l.map λn=>D.str (wd n))=true:=zaO l λ_=>rfl
@[simp] def zCj (wd:Nat->ByteArray) (l:List Nat):zdX (l.map λn=>D.str (wd n))=true:=zde _ (λ_=>rfl) l
def isNaN_runs (s:ByteArray):R 172 [.d (.str s)] []=some ([.d (.bool false)],[]):=by
 refine rg zFg rfl ?_;intro T hT;simp -dsimp -implicitDefEqProofs (disch:=first|omega|assumption)
 simpa -dsimp -implicitDefEqProofs (disch:=first|omega|assumption) using hT
def less_runs {wd:Nat->ByteArray} (hwd:Mono wd) (a b:Nat):R 166 [.d (.str (wd a)),.d (.str (wd b))] []=some ([.d (.bool (decide (a<b)))],[]):=by
 have h:=hwd.lt a b;refine rg zGt rfl ?_;intro T hT;simp -dsimp -implicitDefEqProofs (disch:=first|omega|assumption) [isNaN_runs,h]
 simpa -dsimp -implicitDefEqProofs (disch:=first|omega|assumption) using hT
end Go.Am.Ab.Str
namespace Go.Am.Ab.Str
open Go.Proofs
set_option maxHeartbeats 4000000
def at' (l:List Nat) (i:Nat):Nat:=l.getD i 0
def get_at {l:List Nat} {i:Nat} (h:i<l.length):l[i]=at' l i:=by simp[at',yaD,h]
def at_set {l:List Nat} {i j:Nat} {v:Nat} (h:i<l.length):at' (l.set i v) j=if i=j then v else at' l j:=by
 simp only[at',yaD,ybV];split
 ·simp[h]
 ·rfl
structure Turn (a b:Nat) (l l':List Nat):Prop where
 len:l'.length=l.length
 out: ∀i,i<a\/b<=i->at' l' i=at' l i
 cnt: ∀x,l'.count x=l.count x
def Turn.refl (a b:Nat) (l:List Nat):Turn a b l l:=⟨rfl,λ_ _=>rfl,λ_=>rfl⟩
def Turn.trans {a b:Nat} {l l' l'':List Nat} (h:Turn a b l l') (g:Turn a b l' l''):Turn a b l l'':=
 ⟨g.len.trans h.len,λi hi=>(g.out i hi).trans (h.out i hi),λx=>(g.cnt x).trans (h.cnt x)⟩
def Turn.wider {a b c d:Nat} {l l':List Nat} (h:Turn a b l l') (h1:c<=a) (h2:b<=d):Turn c d l l':=
 ⟨h.len,λi hi=>h.out i (by omega),h.cnt⟩
def swp (l:List Nat) (i j:Nat):List Nat:=(l.set i (at' l j)).set j (at' l i)
def count_set_at {l:List Nat} {i:Nat} (h:i<l.length) (v x:Nat):(l.set i v).count x+(if at' l i=x then 1 else 0)=l.count x+(if v=x then 1 else 0):=by
 induction l generalizing i with
 |nil=>simp at h
 |cons y r ih=>
  cases i with
  |zero=>
   rw[ycj,ycd,ycd,show at' (y::r) 0=y from rfl]
   by_cases h1:y=x <;> by_cases h2:v=x <;> simp[h1,h2] <;> omega
  |succ i=>
   have:=ih (i:=i) (by simpa using h)
   rw[ydu,ycd,ycd,show at' (y::r) (i+1)=at' r i from rfl]
   omega
def swp_length (l:List Nat) (i j:Nat):(swp l i j).length=l.length:=by simp[swp]
def at_swp {l:List Nat} {i j:Nat} (hi:i<l.length) (hj:j<l.length) (k:Nat):at' (swp l i j) k=if k=j then at' l i else if k=i then at' l j else at' l k:=by
 unfold swp;rw[at_set (by simpa using hj),at_set hi]
 by_cases h1:j=k
 ·simp[h1]
 ·by_cases h2:i=k
  ·simp[h1,h2,ydV h1]
  ·simp[h1,h2,ydV h1,ydV h2]
def turn_swp {a b i j:Nat} {l:List Nat} (hi:a<=i/\i<b) (hj:a<=j/\j<b) (hl:b<=l.length):Turn a b l (swp l i j):=by
 refine⟨swp_length _ _ _,λk hk=> ?_,λx=> ?_⟩
 ·rw[at_swp (by omega) (by omega),yae (by omega),yae (by omega)]
 ·have h1:=count_set_at (l:=l) (i:=i) (by omega) (at' l j) x
  have h2:=count_set_at (l:=l.set i (at' l j)) (i:=j) (by simp;omega) (at' l i) x
  rw[at_set (by omega)]at h2
  unfold swp
  by_cases e:i=j
  ·subst e
   rw[yah rfl]at h2;omega
  ·rw[yae e]at h2;omega
def Asc (a b:Nat) (l:List Nat):Prop:= ∀i j,a<=i->i<j->j<b->at' l i<=at' l j
def Ends (wd:Nat->ByteArray) (p:List Nat->Prop) (r:Option (List V × List Obj)):Prop:= ∃l',r=some ([],[.arr 1 (ws wd l') 0])/\p l'
def not_ends {wd:Nat->ByteArray} {p:List Nat->Prop}: ¬ Ends wd p none:=λ⟨_,h,_⟩=>by cases h
def insertion_runs {wd:Nat->ByteArray} (hwd:Mono wd) (l:List Nat) (a b:Nat) (hab:a<=b) (hb:b<=l.length) (hn:l.length<=256):
 Ends wd (λl'=>Turn a b l l'/\Asc a b l') (R 185 [.arr 0 l.length,.d (.int .i64 a),.d (.int .i64 b)] [.arr 1 (ws wd l) 0]):=by
 refine ra zGD rfl not_ends ?_;simp -dsimp -implicitDefEqProofs (disch:=first|omega|assumption)
 generalize hT0:Ends wd (λl'=>Turn a b l l'/\Asc a b l')=T0
 generalize hz:zad _ _ _ _ _ _=z;revert z;refine zaa (σ:=Nat × List Nat) (λx=>[(0,.arr 0 l.length),(1,.d (.int .i64 a)),(2,.d (.int .i64 b)),(6,.d (.int .i64 x.1))]) (λx=>[.arr 1 (ws wd x.2) 0]) (λx=>a<x.1/\(x.1<=b\/x.1=a+1)/\Turn a b l x.2/\Asc a x.1 x.2) (λx=>b - x.1) (a+1,l) ?_ ?_ ?_
 ·exact⟨by simp,.inr rfl,Turn.refl _ _ _,λi j h1 h2 h3=>by simp only at h3;omega⟩
 ·simp -dsimp -implicitDefEqProofs (disch:=first|omega|assumption)
 intro T' f hT' ⟨i,m⟩ ⟨hi1,hi2,ht,hs⟩ ih;simp only at hi1 hi2 ht hs ih
 by_cases h1:i<b
 ·have hml:=ht.len
  simp -dsimp -implicitDefEqProofs (disch:=first|omega|assumption) [h1]
  generalize hz:zad _ _ _ _ _ _=z;revert z;refine zaa (σ:=Nat × List Nat) (λx=>[(0,.arr 0 l.length),(1,.d (.int .i64 a)),(2,.d (.int .i64 b)),(6,.d (.int .i64 i)),(7,.d (.int .i64 x.1))]) (λx=>[.arr 1 (ws wd x.2) 0]) (λx=>a<=x.1/\x.1<=i/\Turn a b l x.2/\(∀p q,a<=p->p<q->q<=i->p≠x.1->q≠x.1->at' x.2 p<=at' x.2 q)/\ ∀q,x.1<q->q<=i->at' x.2 x.1<=at' x.2 q) (λx=>x.1) (i,m) ?_ ?_ ?_
  ·exact⟨by simp only;omega,yab _,ht,λp q h1 h2 h3 h4 h5=>hs p q h1 h2 (by simp only at h5;omega),λq h1 h2=>by simp only at h1;omega⟩
  ·simp -dsimp -implicitDefEqProofs (disch:=first|omega|assumption)
  intro T2 f2 hT2 ⟨j,m2⟩ ⟨hj1,hj2,ht2,hp,hq⟩ ih2;simp only at hj1 hj2 ht2 hp hq ih2;have hml2:=ht2.len;have out: ∀s1:Slots,zar s1 0= .arr 0 l.length->zar s1 1= .d (.int .i64 a)->zar s1 2= .d (.int .i64 b)->zar s1 6= .d (.int .i64 i)->Asc a (i+1) m2->T2 (some (.exit 2,s1,[.arr 1 (ws wd m2) 0])):=by
   intro s1 e0 e1 e2 e6 hw;subst hT2;simp -dsimp -implicitDefEqProofs (disch:=first|omega|assumption) [e0,e1,e2,e6]
   refine ih (i+1,m2) _ _ ⟨by simp only;omega,.inl h1,ht2,hw⟩ (by simp only;omega) ?_
   simp -dsimp -implicitDefEqProofs (disch:=first|omega|assumption) [e0,e1,e2,e6]
  by_cases h2:a<j
  ·obtain⟨k,rfl⟩: ∃k,j=k+1:=⟨j - 1,by omega⟩
   have h2':(a:Int)<k+1:=by omega
   have hk1:k+1<m2.length:=by omega
   have hk0:k<m2.length:=by omega
   have g1:=get_at hk1;have g0:=get_at hk0
   by_cases h3:at' m2 (k+1)<at' m2 k
   ·simp -dsimp -implicitDefEqProofs (disch:=first|omega|assumption) [h2',h2,less_runs hwd,g1,g0,h3,hk1,hk0,hml2,ws_set,-List.map_set]
    have hat: ∀x,at' (swp m2 (k+1) k) x=if x=k then at' m2 (k+1) else if x=k+1 then at' m2 k else at' m2 x:=λx=>at_swp hk1 hk0 x
    refine ih2 (k,swp m2 (k+1) k) _ _ ⟨by simp only;omega,by simp only;omega,ht2.trans (turn_swp (by omega) (by omega) (by omega)), ?_, ?_⟩ (by simp only;omega) ?_
    ·intro x y e1 e2 e3 e4 e5
     simp only at e4 e5 ⊢;rw[hat,hat,yae e4,yae e5]
     by_cases c1:x=k+1
     ·rw[yah c1,yae (by omega)]
      exact hp k y (by omega) (by omega) e3 (by omega) (by omega)
     ·rw[yae c1]
      by_cases c2:y=k+1
      ·rw[yah c2]
       exact hp x k e1 (by omega) (by omega) (by omega) (by omega)
      ·rw[yae c2]
       exact hp x y e1 e2 e3 c1 c2
    ·intro y e1 e2
     simp only at e1 ⊢;rw[hat,hat,yah rfl,yae (by omega)]
     by_cases c1:y=k+1
     ·rw[yah c1];omega
     ·rw[yae c1]
      exact hq y (by omega) e2
    ·unfold swp
     simp -dsimp -implicitDefEqProofs (disch:=first|omega|assumption) [-List.map_set]
   ·simp -dsimp -implicitDefEqProofs (disch:=first|omega|assumption) [h2',h2,less_runs hwd,g1,g0,h3,hk1,hk0,hml2]
    refine out _ (by simp) (by simp) (by simp) (by simp) ?_
    intro x y e1 e2 e3
    by_cases c1:x=k+1
    ·subst c1;exact hq y e2 (by omega)
    ·by_cases c2:y=k+1
     ·subst c2
      have:at' m2 k<=at' m2 (k+1):=by omega
      by_cases c3:x=k
      ·subst c3;exact this
      ·exact ya5 (hp x k e1 (by omega) (by omega) (by omega) (by omega)) this
     ·exact hp x y e1 e2 (by omega) c1 c2
  ·obtain rfl:j=a:=by omega
   simp -dsimp -implicitDefEqProofs (disch:=first|omega|assumption)
   refine out _ (by simp) (by simp) (by simp) (by simp) ?_
   intro x y e1 e2 e3
   by_cases c1:x=j
   ·subst c1;exact hq y e2 (by omega)
   ·exact hp x y e1 e2 (by omega) c1 (by omega)
 ·have h1': ¬ (i:Int)<b:=by omega
  subst hT';simp -dsimp -implicitDefEqProofs (disch:=first|omega|assumption) [h1]
  rw[<- hT0];refine⟨m,rfl,ht, ?_⟩;intro x y e1 e2 e3;exact hs x y e1 e2 (by omega)
end Go.Am.Ab.Str
namespace Go.Am.Ab.Str
open Go.Proofs
set_option maxHeartbeats 4000000
def at_ext {l l':List Nat} (h:l.length=l'.length) (g: ∀i,i<l.length->at' l i=at' l' i):l=l':=by
 apply List.ext_getElem h;intro i h1 h2;rw[get_at h1,get_at h2,g i h1]
def Turn.perm {a b:Nat} {l l':List Nat} (h:Turn a b l l'):l'.Perm l:=List.perm_iff_count.2 h.cnt
def split3 (l:List Nat) (a b:Nat) (hab:a<=b):l=l.take a++((l.drop a).take (b - a)++l.drop b):=by
 have:l.drop b=(l.drop a).drop (b - a):=by rw[ycK];congr 1;omega
 rw[this,ybo,ybo]
def Turn.seg {a b:Nat} {l l':List Nat} (h:Turn a b l l') (hab:a<=b):((l'.drop a).take (b - a)).Perm ((l.drop a).take (b - a)):=by
 have h1:l'.take a=l.take a:=by
  apply at_ext (by simp[h.len])
  intro i hi;simp only[yao]at hi;have:=h.out i (by omega)
  simp only[at',yaD,yaT]at*;rw[yah (by omega),yah (by omega)];exact this
 have h2:l'.drop b=l.drop b:=by
  apply at_ext (by simp[h.len])
  intro i hi;have:=h.out (b+i) (by omega)
  simpa only[at',yaD,ya1]using this
 have hp:=h.perm;rw[split3 l' a b hab,split3 l a b hab,h1,h2]at hp;rw[ydz]at hp
 rwa [ydo]at hp
def mem_seg {a b:Nat} {l:List Nat} {x:Nat} (hb:b<=l.length):x∈(l.drop a).take (b - a)↔ ∃i,a<=i/\i<b/\at' l i=x:=by
 rw[ycI];simp only[yao,yay,ydC,List.getElem_drop];constructor
 ·rintro ⟨i,hi,rfl⟩
  exact⟨a+i,by omega,by omega,by rw[get_at]⟩
 ·rintro ⟨i,h1,h2,rfl⟩
  refine⟨i - a,by omega, ?_⟩
  rw[get_at];congr 1;omega
def Turn.all {a b:Nat} {l l':List Nat} (h:Turn a b l l') (hb:b<=l.length) {p:Nat->Prop} (g: ∀i,a<=i->i<b->p (at' l i)): ∀i,a<=i->i<b->p (at' l' i):=by
 intro i h1 h2;have hm:at' l' i∈(l'.drop a).take (b - a):=(mem_seg (by rw[h.len];exact hb)).2 ⟨i,h1,h2,rfl⟩
 rw[(h.seg (by omega)).mem_iff,mem_seg hb]at hm
 obtain⟨j,j1,j2,e⟩:=hm;rw[<- e];exact g j j1 j2
def reverse_runs {wd:Nat->ByteArray} (hwd:Mono wd) (l:List Nat) (a b:Nat) (hab:a<=b) (hb:b<=l.length) (hn:l.length<=256):
 Ends wd (λl'=>Turn a b l l') (R 189 [.arr 0 l.length,.d (.int .i64 a),.d (.int .i64 b)] [.arr 1 (ws wd l) 0]):=by
 refine ra zGG rfl not_ends ?_;simp -dsimp -implicitDefEqProofs (disch:=first|omega|assumption)
 generalize hT0:Ends wd (λl'=>Turn a b l l')=T0
 generalize hz:zad _ _ _ _ _ _=z;revert z;refine zaa (σ:=Nat × Nat × List Nat) (λx=>[(0,.arr 0 l.length),(6,.d (.int .i64 x.1)),(7,.d (.int .i64 ((x.2.1:Int) - 1)))]) (λx=>[.arr 1 (ws wd x.2.2) 0]) (λx=>a<=x.1/\x.2.1<=b/\Turn a b l x.2.2) (λx=>x.2.1) (a,b,l) ?_ ?_ ?_
 ·exact⟨yab _,yab _,Turn.refl _ _ _⟩
 ·simp -dsimp -implicitDefEqProofs (disch:=first|omega|assumption)
 intro T' f hT' ⟨i,j,m⟩ ⟨hi,hj,ht⟩ ih;simp only at hi hj ht ih;have hml:=ht.len
 by_cases h1:(i:Int)<(j:Int) - 1
 ·obtain⟨k,rfl⟩: ∃k,j=k+1:=⟨j - 1,by omega⟩
  have h1':i<k:=by omega
  have e0:((k+1:Nat):Int) - 1=k:=by omega
  have hk:k<m.length:=by omega
  have hi2:i<m.length:=by omega
  have g1:=get_at hk;have g0:=get_at hi2;simp -dsimp -implicitDefEqProofs (disch:=first|omega|assumption) [e0,h1',hk,hi2,g1,g0,hml,ws_set,-List.map_set]
  refine ih (i+1,k,swp m i k) _ _ ⟨by simp only;omega,by simp only;omega,ht.trans (turn_swp (by omega) (by omega) (by omega))⟩ (by simp only;omega) ?_
  unfold swp;simp -dsimp -implicitDefEqProofs (disch:=first|omega|assumption) [-List.map_set]
 ·subst hT'
  simp -dsimp -implicitDefEqProofs (disch:=first|omega|assumption) [h1]
  rw[<- hT0];exact⟨m,rfl,ht⟩
def kid (p c:Nat):Prop:=c=2*p+1\/c=2*p+2
def Heap (a lo h:Nat) (l:List Nat):Prop:= ∀p c,lo<=p->kid p c->c<h->at' l (a+c)<=at' l (a+p)
def sift_runs {wd:Nat->ByteArray} (hwd:Mono wd) (l:List Nat) (a lo h:Nat) (hb:a+h<=l.length) (hn:l.length<=256) (hlo:lo<=256) (hp:Heap a (lo+1) h l):
 Ends wd (λl'=>Turn a (a+h) l l'/\Heap a lo h l') (R 202 [.arr 0 l.length,.d (.int .i64 lo),.d (.int .i64 h),.d (.int .i64 a)] [.arr 1 (ws wd l) 0]):=by
 refine ra zGN rfl not_ends ?_;simp -dsimp -implicitDefEqProofs (disch:=first|omega|assumption)
 generalize hT0:Ends wd (λl'=>Turn a (a+h) l l'/\Heap a lo h l')=T0
 generalize hz:zad _ _ _ _ _ _=z;revert z;refine zaa (σ:=Nat × List Nat) (λx=>[(0,.arr 0 l.length),(2,.d (.int .i64 h)),(3,.d (.int .i64 a)),(8,.d (.int .i64 x.1))]) (λx=>[.arr 1 (ws wd x.2) 0]) (λx=>lo<=x.1/\x.1<=256/\Turn a (a+h) l x.2/\(∀p c,lo<=p->p≠x.1->kid p c->c<h->at' x.2 (a+c)<=at' x.2 (a+p))/\ ∀p c,lo<=p->kid p x.1->kid x.1 c->c<h->at' x.2 (a+c)<=at' x.2 (a+p)) (λx=>h - x.1) (lo,l) ?_ ?_ ?_
 ·exact⟨yab _,hlo,Turn.refl _ _ _,λp c h1 h2 h3 h4=>hp p c (by simp only at h2;omega) h3 h4,λp c h1 h2=>by simp only[kid]at h2;omega⟩
 ·simp -dsimp -implicitDefEqProofs (disch:=first|omega|assumption)
 intro T' f hT' ⟨r,m⟩ ⟨hr,hr2,ht,i1,i2⟩ ih;simp only at hr hr2 ht i1 i2 ih;have hml:=ht.len;have fin:(∀c,kid r c->c<h->at' m (a+c)<=at' m (a+r))->T0 (some ([],[.arr 1 (ws wd m) 0])):=by
  intro g;rw[<- hT0];refine⟨m,rfl,ht,λp c e1 e2 e3=> ?_⟩
  by_cases q:p=r
  ·subst q;exact g c e2 e3
  ·exact i1 p c e1 q e2 e3
 by_cases h1:2*r+1<h
 ·have h1': ¬ (h:Int)<=2*r+1:=by omega
  have hr3:a+r<m.length:=by omega
  have hc3:a+(2*r+1)<m.length:=by omega
  have gr:=get_at hr3;have gc:=get_at hc3;have key: ∀c,kid r c->c<h->at' m (a+(2*r+1))<=at' m (a+c)->(2*r+2<h->at' m (a+(2*r+2))<=at' m (a+c))->at' m (a+r)<at' m (a+c)->(Turn a (a+h) l (swp m (a+r) (a+c))/\(∀p d,lo<=p->p≠c->kid p d->d<h->at' (swp m (a+r) (a+c)) (a+d)<=at' (swp m (a+r) (a+c)) (a+p))/\ ∀p d,lo<=p->kid p c->kid c d->d<h->at' (swp m (a+r) (a+c)) (a+d)<=at' (swp m (a+r) (a+c)) (a+p)):=by
   intro c hk hc m1 m2 hlt;have hat: ∀x,at' (swp m (a+r) (a+c)) x=if x=a+c then at' m (a+r) else if x=a+r then at' m (a+c) else at' m x:=λx=>at_swp hr3 (by omega) x
   unfold kid at hk;refine⟨ht.trans (turn_swp (by omega) (by omega) (by omega)),λp d e1 e2 e3 e4=> ?_,λp d e1 e2 e3 e4=> ?_⟩
   ·have e3':=e3
    unfold kid at e3';rw[hat,hat,yae (show ¬ a+p=a+c by omega)]
    by_cases q1:p=r
    ·subst q1
     rw[yah rfl]
     by_cases q2:d=c
     ·subst q2;rw[yah rfl];omega
     ·rw[yae (by omega),yae (by omega)]
      rcases e3' with rfl | rfl
      ·exact m1
      ·exact m2 e4
    ·rw[yae (show ¬ a+p=a+r by omega),yae (by omega)]
     by_cases q2:d=r
     ·subst q2
      rw[yah rfl];exact i2 p c e1 e3 hk hc
     ·rw[yae (by omega)]
      exact i1 p d e1 q1 e3 e4
   ·have e3':=e3
    unfold kid at e2 e3';obtain rfl:p=r:=by omega
    rw[hat,hat,yae (by omega),yae (by omega),yae (by omega),yah rfl]
    exact i1 c d (by omega) (by omega) e3 e4
  have x1:((a:Int)+(2*r+1)).toNat=a+(2*r+1):=by omega
  have x2:((a:Int)+r).toNat=a+r:=by omega
  have x3:((a:Int)+(2*r+1)+1).toNat=a+(2*r+2):=by omega
  have x4:((a:Int)+(2*r+1+1)).toNat=a+(2*r+2):=by omega
  have x5:(2*(r:Int)+1+1)=2*r+2:=by omega
  by_cases h2:2*r+2<h
  ·have h2':(2*(r:Int)+1+1)<h:=by omega
   have hd3:a+(2*r+2)<m.length:=by omega
   have gd:=get_at hd3
   by_cases h3:at' m (a+(2*r+1))<at' m (a+(2*r+2))
   ·by_cases h4:at' m (a+r)<at' m (a+(2*r+2))
    ·skip
     simp -dsimp -implicitDefEqProofs (disch:=first|omega|assumption) [h1',h1,h2',h3,h4,x1,x2,x3,x4,hr3,hc3,hd3,gd,gr,gc,hml,less_runs hwd,ws_set,-List.map_set]
     refine ih (2*r+2,swp m (a+r) (a+(2*r+2))) _ _ ⟨by simp only;omega,by simp only;omega,key (2*r+2) (by unfold kid;omega) (by omega) (by omega) (by omega) (by omega)⟩ (by simp only;omega) ?_
     unfold swp;simp -dsimp -implicitDefEqProofs (disch:=first|omega|assumption) [x5,-List.map_set]
    ·skip
     subst hT';simp -dsimp -implicitDefEqProofs (disch:=first|omega|assumption) [h1',h1,h2',h3,h4,x1,x2,x3,x4,hr3,hc3,hd3,gd,gr,gc,hml,less_runs hwd]
     refine fin λc k1 k2=> ?_
     rcases k1 with rfl | rfl <;> omega
   ·by_cases h4:at' m (a+r)<at' m (a+(2*r+1))
    ·skip
     simp -dsimp -implicitDefEqProofs (disch:=first|omega|assumption) [h1',h1,h2',h3,h4,x1,x2,x3,x4,hr3,hc3,hd3,gd,gr,gc,hml,less_runs hwd,ws_set,-List.map_set]
     refine ih (2*r+1,swp m (a+r) (a+(2*r+1))) _ _ ⟨by simp only;omega,by simp only;omega,key (2*r+1) (by unfold kid;omega) (by omega) (by omega) (by omega) (by omega)⟩ (by simp only;omega) ?_
     unfold swp;simp -dsimp -implicitDefEqProofs (disch:=first|omega|assumption) [x5,-List.map_set]
    ·skip
     subst hT';simp -dsimp -implicitDefEqProofs (disch:=first|omega|assumption) [h1',h1,h2',h3,h4,x1,x2,x3,x4,hr3,hc3,hd3,gd,gr,gc,hml,less_runs hwd]
     refine fin λc k1 k2=> ?_
     rcases k1 with rfl | rfl <;> omega
  ·have h2': ¬ (2*(r:Int)+1+1)<h:=by omega
   by_cases h4:at' m (a+r)<at' m (a+(2*r+1))
   ·skip
    simp -dsimp -implicitDefEqProofs (disch:=first|omega|assumption) [h1',h1,h2',h4,x1,x2,x3,x4,hr3,hc3,gr,gc,hml,less_runs hwd,ws_set,-List.map_set]
    refine ih (2*r+1,swp m (a+r) (a+(2*r+1))) _ _ ⟨by simp only;omega,by simp only;omega,key (2*r+1) (by unfold kid;omega) (by omega) (by omega) (by omega) (by omega)⟩ (by simp only;omega) ?_
    unfold swp;simp -dsimp -implicitDefEqProofs (disch:=first|omega|assumption) [x5,-List.map_set]
   ·skip
    subst hT';simp -dsimp -implicitDefEqProofs (disch:=first|omega|assumption) [h1',h1,h2',h4,x1,x2,x3,x4,hr3,hc3,gr,gc,hml,less_runs hwd]
    refine fin λc k1 k2=> ?_
    rcases k1 with rfl | rfl <;> omega
 ·have h1':(h:Int)<=2*r+1:=by omega
  subst hT';simp -dsimp -implicitDefEqProofs (disch:=first|omega|assumption) [h1']
  refine fin λc k1 k2=> ?_
  unfold kid at k1;omega
end Go.Am.Ab.Str
namespace Go.Am.Ab.Str
open Go.Proofs
set_option maxHeartbeats 4000000
def heap_root {a h:Nat} {l:List Nat} (hp:Heap a 0 h l): ∀x,x<h->at' l (a+x)<=at' l a:=by
 intro x
 induction x using Nat.strongRecOn with
 |_ x ih=>
  intro hx
  by_cases h0:x=0
  ·subst h0;simp
  ·have h1:=hp ((x - 1) / 2) x (yai _) (by unfold kid;omega) hx
   exact ya5 h1 (ih _ (by omega) (by omega))
def heapSort_runs {wd:Nat->ByteArray} (hwd:Mono wd) (l:List Nat) (a b:Nat) (hab:a<b) (hb:b<=l.length) (hn:l.length<=256):
 Ends wd (λl'=>Turn a b l l'/\Asc a b l') (R 186 [.arr 0 l.length,.d (.int .i64 a),.d (.int .i64 b)] [.arr 1 (ws wd l) 0]):=by
 obtain⟨h,rfl⟩: ∃h,b=a+h:=⟨b - a,by omega⟩
 have e0:((a:Int)+h - a)=h:=by omega
 obtain⟨j0,hj0⟩: ∃j0,j0=(h - 1) / 2:=⟨_,rfl⟩;have hh:0<h:=by omega
 have e1:((h:Int) - 1) / 2=j0:=by omega
 have e2:((h:Int) - 1).tdiv 2=j0:=by rw[ycG (by omega)];exact e1
 refine ra zGE rfl not_ends ?_;simp -dsimp -implicitDefEqProofs (disch:=first|omega|assumption) [e0,e1,e2]
 generalize hT0:Ends wd (λl'=>Turn a (a+h) l l'/\Asc a (a+h) l')=T0
 generalize hz:zad _ _ _ _ _ _=z;revert z;refine zaa (σ:=Nat × List Nat) (λx=>[(0,.arr 0 l.length),(6,.d (.int .i64 a)),(7,.d (.int .i64 0)),(8,.d (.int .i64 h)),(9,.d (.int .i64 ((x.1:Int) - 1)))]) (λx=>[.arr 1 (ws wd x.2) 0]) (λx=>x.1<=j0+1/\Turn a (a+h) l x.2/\Heap a x.1 h x.2) (λx=>x.1) (j0+1,l) ?_ ?_ ?_
 ·exact⟨yab _,Turn.refl _ _ _,λp c h1 h2 h3=>by unfold kid at h2;simp only at h1;omega⟩
 ·simp -dsimp -implicitDefEqProofs (disch:=first|omega|assumption) [e0,e1,e2]
 intro T' f hT' ⟨j,m⟩ ⟨hj,ht,hp⟩ ih;simp only at hj ht hp ih;have hml:=ht.len;cases j with
 |succ k=>
  have e3:((k+1:Nat):Int) - 1=k:=by omega
  obtain⟨m2,e4,ht2,hp2⟩:=sift_runs hwd m a k h (by omega) (by omega) (by omega) hp
  rw[hml]at e4;have hml2:=ht2.len;simp -dsimp -implicitDefEqProofs (disch:=first|omega|assumption) [e3,e4]
  refine ih (k,m2) _ _ ⟨by simp only;omega,ht.trans ht2,hp2⟩ (by simp only;omega) ?_
  simp -dsimp -implicitDefEqProofs (disch:=first|omega|assumption)
 |zero=>
  subst hT';simp -dsimp -implicitDefEqProofs (disch:=first|omega|assumption)
  generalize hz:zad _ _ _ _ _ _=z;revert z;refine zaa (σ:=Nat × List Nat) (λx=>[(0,.arr 0 l.length),(6,.d (.int .i64 a)),(7,.d (.int .i64 0)),(10,.d (.int .i64 ((x.1:Int) - 1)))]) (λx=>[.arr 1 (ws wd x.2) 0]) (λx=>x.1<=h/\Turn a (a+h) l x.2/\Heap a 0 x.1 x.2/\Asc (a+x.1) (a+h) x.2/\ ∀p q,p<x.1->x.1<=q->q<h->at' x.2 (a+p)<=at' x.2 (a+q)) (λx=>x.1) (h,m) ?_ ?_ ?_
  ·exact⟨yab _,ht,hp,λi j h1 h2 h3=>by simp only at h1;omega,λp q h1 h2 h3=>by simp only at h2;omega⟩
  ·simp -dsimp -implicitDefEqProofs (disch:=first|omega|assumption)
  intro T2 f2 hT2 ⟨j,n⟩ ⟨gj,gt,gp,gs,gb⟩ ih2;simp only at gj gt gp gs gb ih2;have hnl:=gt.len;cases j with
  |zero=>
   subst hT2;simp -dsimp -implicitDefEqProofs (disch:=first|omega|assumption)
   rw[<- hT0];exact⟨n,rfl,gt,gs⟩
  |succ k=>
   have e3:((k+1:Nat):Int) - 1=k:=by omega
   have x1:((a:Int)+k).toNat=a+k:=by omega
   have ha3:a<n.length:=by omega
   have hk3:a+k<n.length:=by omega
   have ga:=get_at ha3;have gk:=get_at hk3;have hat: ∀x,at' (swp n a (a+k)) x=if x=a+k then at' n a else if x=a then at' n (a+k) else at' n x:=λx=>at_swp ha3 hk3 x
   have hroot:=heap_root gp;have tsw:Turn a (a+h) n (swp n a (a+k)):=turn_swp (by omega) (by omega) (by omega)
   have hp1:Heap a (0+1) k (swp n a (a+k)):=by
    intro p c q1 q2 q3;have q2':=q2;unfold kid at q2';rw[hat,hat,yae (by omega),yae (by omega),yae (by omega),yae (by omega)]
    exact gp p c (yai _) q2 (by omega)
   obtain⟨n2,e4,ht2,hp2⟩:=sift_runs hwd (swp n a (a+k)) a 0 k (by rw[swp_length];omega) (by rw[swp_length];omega) (by omega) hp1
   rw[swp_length,hnl]at e4;have e4':R 202 [.arr 0 l.length,.d (.int .i64 0),.d (.int .i64 k),.d (.int .i64 a)] [.arr 1 (((n.set a (at' n (a+k))).set (a+k) (at' n a)).map λn=>D.str (wd n)) 0]=some ([],[.arr 1 (ws wd n2) 0]):=e4
   have hml2:=ht2.len;obtain⟨w,hw⟩: ∃w,(n.set a (at' n (a+k)))[a+k]? =some w:=⟨_,yak (by rw[ya4];omega)⟩
   simp -dsimp -implicitDefEqProofs (disch:=first|omega|assumption) [e3,x1,hw,ha3,hk3,ga,gk,hnl,e4',ws_set,-List.map_set]
   refine ih2 (k,n2) _ _ ⟨by simp only;omega,(gt.trans tsw).trans (ht2.wider (yab _) (by omega)),hp2, ?_, ?_⟩ (by simp only;omega) ?_
   ·intro x y q1 q2 q3
    simp only at q1;rw[ht2.out x (by omega),ht2.out y (by omega),hat,hat,yae (show ¬ y=a+k by omega),yae (show ¬ y=a by omega)]
    by_cases c1:x=a+k
    ·rw[yah c1]
     have:=gb 0 (y - a) (by omega) (by omega) (by omega)
     rwa [ycx,show a+(y - a)=y by omega]at this
    ·rw[yae c1,yae (by omega)]
     exact gs x y (by omega) q2 q3
   ·intro p q q1 q2 q3
    simp only at q1 q2;rw[ht2.out (a+q) (by omega)]
    refine ht2.all (by rw[swp_length];omega) (p:=λv=>v<=at' (swp n a (a+k)) (a+q)) (λi i1 i2=> ?_) (a+p) (by omega) (by omega)
    have hi:at' n (a+(i - a))=at' n i:=by rw[show a+(i - a)=i by omega]
    rw[hat,hat,yae (show ¬ i=a+k by omega)]
    by_cases c1:q=k
    ·subst c1
     rw[yah rfl]
     by_cases c2:i=a
     ·rw[yah c2];exact hroot q (by omega)
     ·rw[yae c2,<- hi];exact hroot _ (by omega)
    ·rw[yae (show ¬ a+q=a+k by omega),yae (show ¬ a+q=a by omega)]
     by_cases c2:i=a
     ·rw[yah c2];exact gb k q (by omega) (by omega) q3
     ·rw[yae c2,<- hi];exact gb _ q (by omega) (by omega) q3
   ·simp -dsimp -implicitDefEqProofs (disch:=first|omega|assumption)
end Go.Am.Ab.Str
namespace Go.Am.Ab.Str
open Go.Proofs
set_option maxHeartbeats 4000000
def range2:List.range 2=[0,1]:=by decide
def order2_yes {wd:Nat->ByteArray} (hwd:Mono wd) (l:List Nat) (a b:Nat) (s:Int) (ha:a<l.length) (hb:b<l.length) (hn:l.length<=256) (hs:0<=s/\s<=1000) (h:at' l b<at' l a):
 R 216 [.arr 0 l.length,.d (.int .i64 a),.d (.int .i64 b),.ptr 1 0] [.arr 1 (ws wd l) 0,.box [.d (.int .i64 s)]]=some ([.d (.int .i64 b),.d (.int .i64 a)],[.arr 1 (ws wd l) 0,.box [.d (.int .i64 (s+1))]]):=by
 have ga:=get_at ha;have gb:=get_at hb;refine rg zFl rfl ?_;intro T hT;simp -dsimp -implicitDefEqProofs (disch:=first|omega|assumption) [ha,hb,ga,gb,less_runs hwd,h,range2]
 simpa -dsimp -implicitDefEqProofs (disch:=first|omega|assumption) [range2]using hT
def order2_no {wd:Nat->ByteArray} (hwd:Mono wd) (l:List Nat) (a b:Nat) (s:Int) (ha:a<l.length) (hb:b<l.length) (hn:l.length<=256) (hs:0<=s/\s<=1000) (h: ¬ at' l b<at' l a):
 R 216 [.arr 0 l.length,.d (.int .i64 a),.d (.int .i64 b),.ptr 1 0] [.arr 1 (ws wd l) 0,.box [.d (.int .i64 s)]]=some ([.d (.int .i64 a),.d (.int .i64 b)],[.arr 1 (ws wd l) 0,.box [.d (.int .i64 s)]]):=by
 have ga:=get_at ha;have gb:=get_at hb;refine rg zFl rfl ?_;intro T hT;simp -dsimp -implicitDefEqProofs (disch:=first|omega|assumption) [ha,hb,ga,gb,less_runs hwd,h,range2]
 simpa -dsimp -implicitDefEqProofs (disch:=first|omega|assumption) [range2]using hT
def order2_any {wd:Nat->ByteArray} (hwd:Mono wd) (l:List Nat) (a b:Nat) (s:Int) (ha:a<l.length) (hb:b<l.length) (hn:l.length<=256) (hs:0<=s/\s<=1000):
 ∃ (p q:Nat) (s':Int),(p=a/\q=b\/p=b/\q=a)/\s<=s'/\s'<=s+1/\R 216 [.arr 0 l.length,.d (.int .i64 a),.d (.int .i64 b),.ptr 1 0] [.arr 1 (ws wd l) 0,.box [.d (.int .i64 s)]]=some ([.d (.int .i64 p),.d (.int .i64 q)],[.arr 1 (ws wd l) 0,.box [.d (.int .i64 s')]]):=by
 by_cases h:at' l b<at' l a
 ·exact⟨b,a,s+1,.inr ⟨rfl,rfl⟩,by omega,by omega,order2_yes hwd l a b s ha hb hn hs h⟩
 ·exact⟨a,b,s,.inl ⟨rfl,rfl⟩,by omega,by omega,order2_no hwd l a b s ha hb hn hs h⟩
def median_runs {wd:Nat->ByteArray} (hwd:Mono wd) (l:List Nat) (a b c:Nat) (s:Int) (ha:a<l.length) (hb:b<l.length) (hc:c<l.length) (hn:l.length<=256) (hs:0<=s/\s<=900):
 ∃ (x:Nat) (s':Int),(x=a\/x=b\/x=c)/\s<=s'/\s'<=s+3/\R 206 [.arr 0 l.length,.d (.int .i64 a),.d (.int .i64 b),.d (.int .i64 c),.ptr 1 0] [.arr 1 (ws wd l) 0,.box [.d (.int .i64 s)]]=some ([.d (.int .i64 x)],[.arr 1 (ws wd l) 0,.box [.d (.int .i64 s')]]):=by
 obtain⟨p,q,s1,h1,h2,h3,e1⟩:=order2_any hwd l a b s ha hb hn (by omega)
 obtain⟨p2,q2,s2,g1,g2,g3,e2⟩:=order2_any hwd l q c s1 (by omega) hc hn (by omega)
 obtain⟨p3,q3,s3,k1,k2,k3,e3⟩:=order2_any hwd l p p2 s2 (by omega) (by omega) hn (by omega)
 refine⟨q3,s3,by omega,by omega,by omega, ?_⟩
 refine rg zGR rfl ?_;intro T hT;simp -dsimp -implicitDefEqProofs (disch:=first|omega|assumption) [e1,e2,e3,range2]
 simpa -dsimp -implicitDefEqProofs (disch:=first|omega|assumption) [range2]using hT
def medianAdjacent_runs {wd:Nat->ByteArray} (hwd:Mono wd) (l:List Nat) (a:Nat) (s:Int) (ha:a+2<l.length) (hn:l.length<=256) (hs:0<=s/\s<=900):
 ∃ (x:Nat) (s':Int),(a<=x/\x<=a+2)/\s<=s'/\s'<=s+3/\R 205 [.arr 0 l.length,.d (.int .i64 ((a+1:Nat):Int)),.ptr 1 0] [.arr 1 (ws wd l) 0,.box [.d (.int .i64 s)]]=some ([.d (.int .i64 x)],[.arr 1 (ws wd l) 0,.box [.d (.int .i64 s')]]):=by
 obtain⟨x,s',h1,h2,h3,e⟩:=median_runs hwd l a (a+1) (a+2) s (by omega) (by omega) ha hn hs
 refine⟨x,s',by omega,h2,h3, ?_⟩
 have c1:((a+1:Nat):Int)=(a:Int)+1:=by omega
 have c2:((a+2:Nat):Int)=(a:Int)+1+1:=by omega
 rw[c2,c1]at e;refine rg zGQ rfl ?_;intro T hT;simp -dsimp -implicitDefEqProofs (disch:=first|omega|assumption) [e,range2]
 simpa -dsimp -implicitDefEqProofs (disch:=first|omega|assumption) [range2,e]using hT
end Go.Am.Ab.Str
namespace Go.Am.Ab.Str
open Go.Proofs
set_option maxHeartbeats 4000000
def pivot_runs {wd:Nat->ByteArray} (hwd:Mono wd) (l:List Nat) (a b:Nat) (hab:a+13<=b) (hb:b<=l.length) (hn:l.length<=256):
 ∃ (x:Nat) (h:Int),a<=x/\x<b/\(h=0\/h=1\/h=2)/\R 188 [.arr 0 l.length,.d (.int .i64 a),.d (.int .i64 b)] [.arr 1 (ws wd l) 0]=some ([.d (.int .i64 x),.d (.int .i64 h)],[.arr 1 (ws wd l) 0]):=by
 obtain⟨n,rfl⟩: ∃n,b=a+n:=⟨b - a,by omega⟩
 have e0:((a:Int)+n - a)=n:=by omega
 obtain⟨q,hq⟩: ∃q,q=n / 4:=⟨_,rfl⟩;have e1:(n:Int) / 4=q:=by omega
 have f8:(8:Int)<=n:=by omega
 by_cases h50:50<=n
 ·have f50:(50:Int)<=n:=by omega
  obtain⟨x1,s1,b1,b2,b3,g1⟩:=medianAdjacent_runs hwd l (a+q - 1) 0 (by omega) hn (by omega)
  obtain⟨x2,s2,c1,c2,c3,g2⟩:=medianAdjacent_runs hwd l (a+q*2 - 1) s1 (by omega) hn (by omega)
  obtain⟨x3,s3,d1,d2,d3,g3⟩:=medianAdjacent_runs hwd l (a+q*3 - 1) s2 (by omega) hn (by omega)
  obtain⟨x,s,k1,k2,k3,g4⟩:=median_runs hwd l x1 x2 x3 s3 (by omega) (by omega) (by omega) hn (by omega)
  rw[show ((a+q - 1+1:Nat):Int)=(a:Int)+q by omega]at g1
  rw[show ((a+q*2 - 1+1:Nat):Int)=(a:Int)+q*2 by omega]at g2
  rw[show ((a+q*3 - 1+1:Nat):Int)=(a:Int)+q*3 by omega]at g3
  refine⟨x,if s=0 then 1 else if s=12 then 2 else 0,by omega,by omega,by split <;> (try split) <;> omega, ?_⟩
  by_cases z0:s=0
  ·rw[yah z0]
   refine rg zAU rfl ?_;intro T hT;simp -dsimp -implicitDefEqProofs (disch:=first|omega|assumption) [e0,e1,f8,f50,g1,g2,g3,g4,z0,range2]
   simpa -dsimp -implicitDefEqProofs (disch:=first|omega|assumption) [range2]using hT
  ·rw[yae z0]
   by_cases z1:s=12
   ·rw[yah z1]
    refine rg zAU rfl ?_;intro T hT;simp -dsimp -implicitDefEqProofs (disch:=first|omega|assumption) [e0,e1,f8,f50,g1,g2,g3,g4,z1,range2]
    simpa -dsimp -implicitDefEqProofs (disch:=first|omega|assumption) [range2]using hT
   ·rw[yae z1]
    refine rg zAU rfl ?_;intro T hT;simp -dsimp -implicitDefEqProofs (disch:=first|omega|assumption) [e0,e1,f8,f50,g1,g2,g3,g4,z0,z1,range2]
    simpa -dsimp -implicitDefEqProofs (disch:=first|omega|assumption) [range2]using hT
 ·have f50: ¬ (50:Int)<=n:=by omega
  obtain⟨x,s,k1,k2,k3,g4⟩:=median_runs hwd l (a+q) (a+q*2) (a+q*3) 0 (by omega) (by omega) (by omega) hn (by omega)
  rw[show ((a+q:Nat):Int)=(a:Int)+q by omega,show ((a+q*2:Nat):Int)=(a:Int)+q*2 by omega,show ((a+q*3:Nat):Int)=(a:Int)+q*3 by omega]at g4
  refine⟨x,if s=0 then 1 else if s=12 then 2 else 0,by omega,by omega,by split <;> (try split) <;> omega, ?_⟩
  by_cases z0:s=0
  ·rw[yah z0]
   refine rg zAU rfl ?_;intro T hT;simp -dsimp -implicitDefEqProofs (disch:=first|omega|assumption) [e0,e1,f8,f50,g4,z0,range2]
   simpa -dsimp -implicitDefEqProofs (disch:=first|omega|assumption) [range2]using hT
  ·rw[yae z0]
   by_cases z1:s=12
   ·rw[yah z1]
    exfalso;omega
   ·rw[yae z1]
    refine rg zAU rfl ?_;intro T hT;simp -dsimp -implicitDefEqProofs (disch:=first|omega|assumption) [e0,e1,f8,f50,g4,z0,z1,range2]
    simpa -dsimp -implicitDefEqProofs (disch:=first|omega|assumption) [range2]using hT
end Go.Am.Ab.Str
namespace Go.Am.Ab.Str
open Go.Proofs
set_option maxHeartbeats 4000000
def break_runs {wd:Nat->ByteArray} (hwd:Mono wd) (l:List Nat) (a b:Nat) (hab:a+13<=b) (hb:b<=l.length) (hn:l.length<=256):
 Ends wd (λl'=>Turn a b l l') (R 187 [.arr 0 l.length,.d (.int .i64 a),.d (.int .i64 b)] [.arr 1 (ws wd l) 0]):=by
 obtain⟨n,rfl⟩: ∃n,b=a+n:=⟨b - a,by omega⟩
 have e0:((a:Int)+n - a)=n:=by omega
 obtain⟨q,hq⟩: ∃q,q=n / 4:=⟨_,rfl⟩;have e1:(n:Int) / 4=q:=by omega
 have f8:(8:Int)<=n:=by omega
 have hw:IntKind.u64.wrap (n:Int)=n:=zai (by omega) (by omega)
 have hnp:=zmK n (by omega)
 have hP1:n<2 ^ zbn n:=(za4 (by omega)).1 (yab _)
 have hP2:2 ^ zbn n<=2*n:=by
  cases hk:zbn n with
  |zero=>simp;omega
  |succ k=>
   have:=(zlj (m:=k) (by omega:n<18446744073709551616)).1 (by omega)
   rw[yb6];omega
 obtain⟨P,hP⟩: ∃P,P=2 ^ zbn n:=⟨_,rfl⟩;rw[<- hP]at hnp hP1 hP2;obtain⟨mk,hmk⟩: ∃mk,mk=P - 1:=⟨_,rfl⟩;have hmki:IntKind.u64.wrap ((P:Int) - 1)=mk:=by rw[zac];omega
 refine ra zGF rfl not_ends ?_;simp -dsimp -implicitDefEqProofs (disch:=first|omega|assumption) [e0,e1,f8,hw,hnp]
 generalize hT0:Ends wd (λl'=>Turn a (a+n) l l')=T0
 generalize hz:zad _ _ _ _ _ _=z;revert z;refine zaa (σ:=Nat × Nat × List Nat) (λx=>[(0,.arr 0 l.length),(1,.d (.int .i64 a)),(6,.d (.int .i64 n)),(7,.ptr 1 0),(8,.d (.int .u64 P)),(9,.d (.int .i64 x.1))]) (λx=>[.arr 1 (ws wd x.2.2) 0,.box [.d (.int .u64 x.2.1)]]) (λx=>a<=x.1/\x.1<=a+q*2+2/\x.2.1<18446744073709551616/\Turn a (a+n) l x.2.2) (λx=>a+q*2+2 - x.1) (a+q*2 - 1,n,l) ?_ ?_ ?_
 ·exact⟨by simp only;omega,by simp only;omega,by simp only;omega,Turn.refl _ _ _⟩
 ·have:((a+q*2 - 1:Nat):Int)=(a:Int)+q*2 - 1:=by omega
  simp -dsimp -implicitDefEqProofs (disch:=first|omega|assumption) [this,e0,e1,hw,range2]
 intro T' f hT' ⟨i,x,m⟩ ⟨hi1,hi2,hx,ht⟩ ih;simp only at hi1 hi2 hx ht ih;have hml:=ht.len
 by_cases h1:(i:Int)<=(a:Int)+q*2+1
 ·obtain⟨v,hv,hnx⟩:=zmL x hx
  obtain⟨o,ho⟩: ∃o,o=v % P:=⟨_,rfl⟩;have hoP:o<P:=by rw[ho];exact yb8 _ (by omega)
  have hand:v &&& mk=o:=by rw[hmk,hP,ho,hP];exact zeb v _
  have hmk64:mk<18446744073709551616:=by omega
  have him:i<m.length:=by omega
  have gi:=get_at him;obtain⟨o2,ho2⟩: ∃o2,o2=if n<=o then o - n else o:=⟨_,rfl⟩
  have ho2n:o2<n:=by rw[ho2];split <;> omega
  have hom:a+o2<m.length:=by omega
  have go:=get_at hom;have x1:((a:Int)+o2).toNat=a+o2:=by omega
  obtain⟨w,hww⟩: ∃w,(m.set i (at' m (a+o2)))[a+o2]? =some w:=⟨_,yak (by rw[ya4];omega)⟩
  by_cases h2:n<=o
  ·have h2':(n:Int)<=o:=by omega
   have x2:(o:Int) - n=o2:=by rw[ho2,yah h2];omega
   simp -dsimp -implicitDefEqProofs (disch:=first|omega|assumption) [h1,e0,e1,hnx,hmki,hand,h2',h2,x2,x1,him,hom,gi,go,hml,hww,ws_set,range2,-List.map_set]
   refine ih (i+1,v,swp m i (a+o2)) _ _ ⟨by simp only;omega,by simp only;omega,hv,ht.trans (turn_swp (by omega) (by omega) (by omega))⟩ (by simp only;omega) ?_
   unfold swp;simp -dsimp -implicitDefEqProofs (disch:=first|omega|assumption) [-List.map_set]
  ·have h2': ¬ (n:Int)<=o:=by omega
   obtain rfl:o2=o:=by rw[ho2,yae h2]
   simp -dsimp -implicitDefEqProofs (disch:=first|omega|assumption) [h1,e0,e1,hnx,hmki,hand,h2',h2,x1,him,hom,gi,go,hml,hww,ws_set,range2,-List.map_set]
   refine ih (i+1,v,swp m i (a+o2)) _ _ ⟨by simp only;omega,by simp only;omega,hv,ht.trans (turn_swp (by omega) (by omega) (by omega))⟩ (by simp only;omega) ?_
   unfold swp;simp -dsimp -implicitDefEqProofs (disch:=first|omega|assumption) [-List.map_set]
 ·subst hT'
  simp -dsimp -implicitDefEqProofs (disch:=first|omega|assumption) [h1,e0,e1]
  rw[<- hT0];exact⟨m,by simp,ht⟩
end Go.Am.Ab.Str
namespace Go.Am.Ab.Str
open Go.Proofs
set_option maxHeartbeats 4000000
def EndsAt (wd:Nat->ByteArray) (p:Nat->List Nat->Prop) (r:Option (List V × List Obj)):Prop:= ∃i l',r=some ([.d (.int .i64 (i:Nat))],[.arr 1 (ws wd l') 0])/\p i l'
def not_endsAt {wd:Nat->ByteArray} {p:Nat->List Nat->Prop}: ¬ EndsAt wd p none:=λ⟨_,_,h,_⟩=>by cases h
def EqInv (a b:Nat) (v:Nat) (l:List Nat) (x:Nat × Nat × List Nat):Prop:=a+1<=x.1/\x.1<=x.2.1/\x.2.1<=b/\Turn a b l x.2.2/\at' x.2.2 a=v/\(∀p,a<=p->p<x.1->at' x.2.2 p<=v)/\ ∀p,x.2.1<=p->p<b->v<at' x.2.2 p
def partEq_runs {wd:Nat->ByteArray} (hwd:Mono wd) (l:List Nat) (a b c:Nat) (hac:a<=c) (hcb:c<b) (hb:b<=l.length) (hn:l.length<=256):
 EndsAt wd (λi l'=>a+1<=i/\i<=b/\Turn a b l l'/\(∀p,a<=p->p<i->at' l' p<=at' l c)/\ ∀p,i<=p->p<b->at' l c<at' l' p) (R 191 [.arr 0 l.length,.d (.int .i64 a),.d (.int .i64 b),.d (.int .i64 c)] [.arr 1 (ws wd l) 0]):=by
 have ha3:a<l.length:=by omega
 have hc3:c<l.length:=by omega
 have ga:=get_at ha3;have gc:=get_at hc3;obtain⟨w,hww⟩: ∃w,(l.set a (at' l c))[c]? =some w:=⟨_,yak (by rw[ya4];omega)⟩
 refine ra zGI rfl not_endsAt ?_;simp -dsimp -implicitDefEqProofs (disch:=first|omega|assumption) [ha3,hc3,ga,gc,hww,ws_set,-List.map_set]
 generalize hT0:EndsAt wd _=T0;obtain⟨v,hv⟩: ∃v,v=at' l c:=⟨_,rfl⟩;generalize hz:zad _ _ _ _ _ _=z;revert z;refine zaa (σ:=Nat × Nat × List Nat) (λx=>[(0,.arr 0 l.length),(1,.d (.int .i64 a)),(9,.d (.int .i64 x.1)),(10,.d (.int .i64 ((x.2.1:Int) - 1)))]) (λx=>[.arr 1 (ws wd x.2.2) 0]) (EqInv a b v l) (λx=>x.2.1 - x.1) (a+1,b,swp l a c) ?_ ?_ ?_
 ·have hat: ∀x,at' (swp l a c) x=if x=c then at' l a else if x=a then at' l c else at' l x:=λx=>at_swp ha3 hc3 x
  have hva:at' (swp l a c) a=v:=by rw[hat,hv];split <;> simp_all
  exact⟨yab _,by simp only;omega,yab _,turn_swp (by omega) (by omega) (by omega),hva,λp h1 h2=>by (simp only at h2 ⊢;rw[show p=a by omega,hva];exact yab _),λp h1 h2=>by (simp only at h1;omega)⟩
 ·unfold swp
  simp -dsimp -implicitDefEqProofs (disch:=first|omega|assumption) [-List.map_set]
 intro T' f hT' ⟨i,j,m⟩ ⟨hi,hij,hj,ht,hva,hlo,hhi⟩ ih;simp only at hi hij hj ht hva hlo hhi ih;simp -dsimp -implicitDefEqProofs (disch:=first|omega|assumption)
 generalize hz:zad _ _ _ _ _ _=z;revert z;refine zaa (σ:=Nat) (λx=>[(0,.arr 0 l.length),(1,.d (.int .i64 a)),(9,.d (.int .i64 x)),(10,.d (.int .i64 ((j:Int) - 1)))]) (λx=>[.arr 1 (ws wd m) 0]) (λx=>i<=x/\x<=j/\ ∀p,a<=p->p<x->at' m p<=v) (λx=>j - x) i ?_ ?_ ?_
 ·exact⟨yab _,hij,hlo⟩
 ·simp -dsimp -implicitDefEqProofs (disch:=first|omega|assumption)
 intro T2 f2 hT2 x ⟨hx1,hx2,hx3⟩ ih2;have hml:=ht.len;have gma:=get_at (l:=m) (i:=a) (by omega)
 have ham:a<m.length:=by omega
 have out: ∀s1:Slots,zar s1 0= .arr 0 l.length->zar s1 1= .d (.int .i64 a)->zar s1 9= .d (.int .i64 x)->zar s1 10= .d (.int .i64 ((j:Int) - 1))->(x=j\/v<at' m x)->T2 (some (.exit 2,s1,[.arr 1 (ws wd m) 0])):=by
  intro s1 d0 d1 d9 d10 hx4;subst hT2;simp -dsimp -implicitDefEqProofs (disch:=first|omega|assumption) [d0,d1,d9,d10]
  generalize hz:zad _ _ _ _ _ _=z;revert z;refine zaa (σ:=Nat) (λy=>[(0,.arr 0 l.length),(1,.d (.int .i64 a)),(9,.d (.int .i64 x)),(10,.d (.int .i64 ((y:Int) - 1)))]) (λy=>[.arr 1 (ws wd m) 0]) (λy=>x<=y/\y<=j/\ ∀p,y<=p->p<b->v<at' m p) (λy=>y) j ?_ ?_ ?_
  ·exact⟨hx2,yab _,hhi⟩
  ·simp -dsimp -implicitDefEqProofs (disch:=first|omega|assumption) [d0,d1,d9,d10]
  intro T3 f3 hT3 y ⟨hy1,hy2,hy3⟩ ih3;have out2: ∀s2:Slots,zar s2 0= .arr 0 l.length->zar s2 1= .d (.int .i64 a)->zar s2 9= .d (.int .i64 x)->zar s2 10= .d (.int .i64 ((y:Int) - 1))->(x=y\/at' m (y - 1)<=v)->T3 (some (.exit 4,s2,[.arr 1 (ws wd m) 0])):=by
   intro s2 c0 c1 c9 c10 hy4
   by_cases hxy:x=y
   ·subst hxy
    have q1:((x:Int) - 1)<x:=by omega
    subst hT3;subst hT';simp -dsimp -implicitDefEqProofs (disch:=first|omega|assumption) [c0,c1,c9,c10,q1]
    rw[<- hT0];exact⟨x,m,rfl,by omega,by omega,ht,by rw[<- hv];exact hx3,by rw[<- hv];exact hy3⟩
   ·have hv4:v<at' m x:=by omega
    have hne:x≠y - 1:=by
     intro e;rw[e]at hv4;omega
    obtain⟨z,rfl⟩: ∃z,y=z+1:=⟨y - 1,by omega⟩
    have q0:((z+1:Nat):Int) - 1=z:=by omega
    have q1: ¬ (z:Int)<x:=by omega
    rw[yaK]at hy4 hne;rw[q0]at c10;have hxm:x<m.length:=by omega
    have hzm:z<m.length:=by omega
    have gx:=get_at hxm;have gz:=get_at hzm;have hxz:x<z:=by omega
    have hat: ∀k,at' (swp m x z) k=if k=z then at' m x else if k=x then at' m z else at' m k:=λk=>at_swp hxm hzm k
    subst hT3;simp -dsimp -implicitDefEqProofs (disch:=first|omega|assumption) [c0,c1,c9,c10,q1,hxm,hzm,gx,gz,hml,hxz,ws_set,-List.map_set]
    refine ih (x+1,z,swp m x z) _ _ ⟨by simp only;omega,by simp only;omega,by simp only;omega,ht.trans (turn_swp (by omega) (by omega) (by omega)), ?_, ?_, ?_⟩ (by simp only;omega) ?_
    ·simp only
     rw[hat,yae (by omega),yae (by omega)];exact hva
    ·intro p p1 p2
     simp only at p2 ⊢;rw[hat,yae (by omega)]
     by_cases c:p=x
     ·rw[yah c];omega
     ·rw[yae c];exact hx3 p p1 (by omega)
    ·intro p p1 p2
     simp only at p1 ⊢;rw[hat]
     by_cases c:p=z
     ·rw[yah c];exact hv4
     ·rw[yae c,yae (by omega)];exact hy3 p (by omega) p2
    ·unfold swp
     simp -dsimp -implicitDefEqProofs (disch:=first|omega|assumption) [c0,c1,c9,c10,-List.map_set]
  by_cases r1:x<y
  ·obtain⟨z,rfl⟩: ∃z,y=z+1:=⟨y - 1,by omega⟩
   have q0:((z+1:Nat):Int) - 1=z:=by omega
   have q1:(x:Int)<=z:=by omega
   have q1':x<=z:=by omega
   have hzm:z<m.length:=by omega
   have gz:=get_at hzm;rw[yaK]at out2;rw[q0]at out2
   by_cases r2:v<at' m z
   ·simp -dsimp -implicitDefEqProofs (disch:=first|omega|assumption) [q0,q1,q1',hml,ham,gma,hva,hzm,gz,r2,less_runs hwd]
    refine ih3 z _ _ ⟨by omega,by omega,λp p1 p2=> ?_⟩ (by omega) (by simp -dsimp -implicitDefEqProofs (disch:=first|omega|assumption))
    by_cases c:p=z
    ·subst c;exact r2
    ·exact hy3 p (by omega) p2
   ·simp -dsimp -implicitDefEqProofs (disch:=first|omega|assumption) [q0,q1,q1',hml,ham,gma,hva,hzm,gz,r2,less_runs hwd]
    exact out2 _ (by simp) (by simp) (by simp) (by simp) (by omega)
  ·have q1: ¬ (x:Int)<=(y:Int) - 1:=by omega
   simp -dsimp -implicitDefEqProofs (disch:=first|omega|assumption) [q1]
   exact out2 _ (by simp) (by simp) (by simp) (by simp) (by omega)
 by_cases r1:x<j
 ·have q1:(x:Int)<=(j:Int) - 1:=by omega
  have hxm:x<m.length:=by omega
  have gx:=get_at hxm
  by_cases r2:v<at' m x
  ·simp -dsimp -implicitDefEqProofs (disch:=first|omega|assumption) [q1,hml,ham,gma,hva,hxm,gx,r2,less_runs hwd]
   exact out _ (by simp) (by simp) (by simp) (by simp) (.inr r2)
  ·simp -dsimp -implicitDefEqProofs (disch:=first|omega|assumption) [q1,hml,ham,gma,hva,hxm,gx,r2,less_runs hwd]
   refine ih2 (x+1) _ _ ⟨by omega,r1,λp p1 p2=> ?_⟩ (by omega) (by simp -dsimp -implicitDefEqProofs (disch:=first|omega|assumption))
   by_cases c:p=x
   ·subst c;omega
   ·exact hx3 p p1 (by omega)
 ·have q1: ¬ (x:Int)<=(j:Int) - 1:=by omega
  simp -dsimp -implicitDefEqProofs (disch:=first|omega|assumption) [q1]
  exact out _ (by simp) (by simp) (by simp) (by simp) (.inl (by omega))
end Go.Am.Ab.Str
