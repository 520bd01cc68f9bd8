/- The sort of numbers of the library. -/
import Derived.Test.YtibdiacpdmhmnaaGreatDoorIntsA
set_option linter.all false
namespace Go.Am.Ab
open Go.Proofs
set_option maxHeartbeats 4000000
abbrev cs (l:List Int):List D:=l.map λn=>D.int .i64 n
def zEp (l:List Int) (i:Nat) (v:Int):(l.map λn=>D.int .i64 n).set i (D.int .i64 v)=(l.set i v).map λn=>D.int .i64 n:=by rw[yce]
def at' (l:List Int) (i:Nat):Int:=l.getD i 0
def get_at {l:List Int} {i:Nat} (h:i<l.length):l[i]=at' l i:=by simp[at',yas,h]
def at_set {l:List Int} {i j:Nat} {v:Int} (h:i<l.length):at' (l.set i v) j=if i=j then v else at' l j:=by
 simp only[at',yas,yb2];split
 ·simp[h]
 ·rfl
structure Turn (a b:Nat) (l l':List Int):Prop where
 len:l'.length=l.length
 out: ∀i,i<a\/b<=i->at' l' i=at' l i
 cnt: ∀x,l'.count x=l.count x
def Turn.refl (a b:Nat) (l:List Int):Turn a b l l:=⟨rfl,λ_ _=>rfl,λ_=>rfl⟩
def Turn.trans {a b:Nat} {l l' l'':List Int} (h:Turn a b l l') (g:Turn a b l' l''):Turn a b l l'':=
 ⟨g.len.trans h.len,λi hi=>(g.out i hi).trans (h.out i hi),λx=>(g.cnt x).trans (h.cnt x)⟩
def Asc (a b:Nat) (l:List Int):Prop:= ∀i j,a<=i->i<j->j<b->at' l i<=at' l j
def Ends (p:List Int->Prop) (r:Option (List V × List Obj)):Prop:= ∃l',r=some ([],[.arr 1 (cs l') 0])/\p l'
def at_ext {l l':List Int} (h:l.length=l'.length) (g: ∀i,i<l.length->at' l i=at' l' i):l=l':=by
 apply ybO h;intro i h1 h2;rw[get_at h1,get_at h2,g i h1]
def Turn.perm {a b:Nat} {l l':List Int} (h:Turn a b l l'):l'.Perm l:=List.perm_iff_count.2 h.cnt
def split3 (l:List Int) (a b:Nat) (hab:a<=b):l=l.take a++((l.drop a).take (b - a)++l.drop b):=by
 have:l.drop b=(l.drop a).drop (b - a):=by rw[ycI];congr 1;omega
 rw[this,ybf,ybf]
def Turn.seg {a b:Nat} {l l':List Int} (h:Turn a b l l') (hab:a<=b):((l'.drop a).take (b - a)).Perm ((l.drop a).take (b - a)):=by
 have h1:l'.take a=l.take a:=by
  apply at_ext (by simp[h.len])
  intro i hi;simp only[yaq]at hi;have:=h.out i (by omega)
  simp only[at',yas,yaU]at*;rw[yag (by omega),yag (by omega)];exact this
 have h2:l'.drop b=l.drop b:=by
  apply at_ext (by simp[h.len])
  intro i hi;have:=h.out (b+i) (by omega)
  simpa only[at',yas,ya1]using this
 have hp:=h.perm;rw[split3 l' a b hab,split3 l a b hab,h1,h2]at hp;rw[ydE]at hp
 rwa [ydu]at hp
def mem_seg {a b:Nat} {l:List Int} {x:Int} (hb:b<=l.length):x∈(l.drop a).take (b - a)↔ ∃i,a<=i/\i<b/\at' l i=x:=by
 rw[ycG];simp only[yaq,yax,ycE,List.getElem_drop];constructor
 ·rintro ⟨i,hi,rfl⟩
  exact⟨a+i,by omega,by omega,by rw[get_at]⟩
 ·rintro ⟨i,h1,h2,rfl⟩
  refine⟨i - a,by omega, ?_⟩
  rw[get_at];congr 1;omega
def Turn.all {a b:Nat} {l l':List Int} (h:Turn a b l l') (hb:b<=l.length) {p:Int->Prop} (g: ∀i,a<=i->i<b->p (at' l i)): ∀i,a<=i->i<b->p (at' l' i):=by
 intro i h1 h2;have hm:at' l' i∈(l'.drop a).take (b - a):=(mem_seg (by rw[h.len];exact hb)).2 ⟨i,h1,h2,rfl⟩
 rw[(h.seg (by omega)).mem_iff,mem_seg hb]at hm
 obtain⟨j,j1,j2,e⟩:=hm;rw[<- e];exact g j j1 j2
def turn_sorted (l:List Int):Turn 0 l.length l (zec (leI) l)/\Asc 0 l.length (zec (leI) l):=by
 have hp:=zfm (leI) l;have hs:=zgR (le:=leI) (λa b c h1 h2=>by simp only[leI,yaB]at *;omega) (λa b=>by simp only[leI,ybr,yaB];omega) l
 have hl:=hp.length_eq;refine⟨⟨hl,λi hi=> ?_,λx=>hp.count_eq x⟩,λi j _ h1 h2=> ?_⟩
 ·unfold at'
  rw[yas,yas,yaL (by omega),yaL (by omega)]
 ·have:=List.pairwise_iff_getElem.1 hs i j (by omega) (by omega) h1
  rw[get_at,get_at]at this;simpa[leI]using this
def zrs: ∀l:List Int,znt (cs l)=some l
 |[]=>rfl
 |z::l=>by
  have:=zrs l;simp only[cs]at this;simp only[cs,yaV,znt,this,yaM]
def sort_any (l:List Int) (hn:l.length<=256):Ends (λl'=>Turn 0 l.length l l'/\Asc 0 l.length l') (R 198 [.arr 0 l.length] [.arr 1 (cs l) 0]):=by
 refine⟨_,zn5 0 zzh ?_,turn_sorted l⟩;simp only[znv,zrs,yah,show l.length<=65536 by omega,and_self,ybk,yaM]
def ins (x:Int):List Int->List Int
 |[]=>[x]
 |y::r=>if x<y then x::y::r else if x=y then y::r else y::ins x r
def uniq (l:List Int):List Int:=l.foldl (λu x=>ins x u) []
def Rises:List Int->Prop
 |[]=>True
 |x::r=>(∀y∈r,x<y)/\Rises r
def ins_mem {x y:Int}: ∀ {l:List Int},y∈ins x l↔y=x\/y∈l
 |[]=>by simp[ins]
 |z::r=>by
  unfold ins;split
  ·simp
  ·split
   ·rename_i h;subst h;simp
   ·simp only[ybI,ins_mem (l:=r)]
    constructor
    ·rintro (h | h | h)
     ·exact .inr (.inl h)
     ·exact .inl h
     ·exact .inr (.inr h)
    ·rintro (h | h | h)
     ·exact .inr (.inl h)
     ·exact .inl h
     ·exact .inr (.inr h)
def ins_rises {x:Int}: ∀ {l:List Int},Rises l->Rises (ins x l)
 |[],_=>⟨by simp,trivial⟩
 |z::r,h=>by
  unfold ins;split
  ·rename_i hx
   refine⟨λy hy=> ?_,h⟩
   rcases List.mem_cons.1 hy with rfl | hy
   ·exact hx
   ·have:=h.1 y hy;omega
  ·split
   ·exact h
   ·rename_i h1 h2
    refine⟨λy hy=> ?_,ins_rises h.2⟩
    rcases ins_mem.1 hy with rfl | hy
    ·omega
    ·exact h.1 y hy
def foldl_ins {l:List Int}: ∀ {u:List Int},Rises u->Rises (l.foldl (λu x=>ins x u) u)/\ ∀y,y∈l.foldl (λu x=>ins x u) u↔y∈u\/y∈l:=by
 induction l with
 |nil=>intro u h;exact⟨h,by simp⟩
 |cons x r ih=>
  intro u h;obtain⟨h1,h2⟩:=ih (ins_rises (x:=x) h);refine⟨h1,λy=> ?_⟩
  rw[ybc,h2,ins_mem,ybI];constructor
  ·rintro ((h | h) | h)
   ·exact .inr (.inl h)
   ·exact .inl h
   ·exact .inr (.inr h)
  ·rintro (h | h | h)
   ·exact .inl (.inr h)
   ·exact .inl (.inl h)
   ·exact .inr h
def uniq_rises (l:List Int):Rises (uniq l):=(foldl_ins (l:=l) (u:=[]) trivial).1
def uniq_mem {l:List Int} {y:Int}:y∈uniq l↔y∈l:=by
 rw[uniq,(foldl_ins (l:=l) (u:=[]) trivial).2];simp
def rises_ext: ∀ {a b:List Int},Rises a->Rises b->(∀y,y∈a↔y∈b)->a=b
 |[],[],_,_,_=>rfl
 |[],y::r,_,_,h=>by have:=(h y).2 (by simp);simp at this
 |x::r,[],_,_,h=>by have:=(h x).1 (by simp);simp at this
 |x::r,y::s,h1,h2,h=>by
  have e:x=y:=by
   have hx:=(h x).1 (by simp)
   have hy:=(h y).2 (by simp)
   rcases List.mem_cons.1 hx with e | hx
   ·exact e
   ·rcases List.mem_cons.1 hy with e | hy
    ·exact e.symm
    ·have:=h1.1 y hy
     have:=h2.1 x hx;omega
  subst e;rw[rises_ext h1.2 h2.2 λz=> ?_]
  constructor
  ·intro hz
   rcases List.mem_cons.1 ((h z).1 (by simp[hz])) with e | hz'
   ·have:=h1.1 z hz;omega
   ·exact hz'
  ·intro hz
   rcases List.mem_cons.1 ((h z).2 (by simp[hz])) with e | hz'
   ·have:=h2.1 z hz;omega
   ·exact hz'
def rises_iff: ∀ {l:List Int},Rises l↔ ∀i j,i<j->j<l.length->at' l i<at' l j
 |[]=>by simp[Rises]
 |x::r=>by
  unfold Rises;rw[rises_iff (l:=r)];constructor
  ·rintro ⟨h1,h2⟩ i j hij hj
   obtain⟨j,rfl⟩: ∃k,j=k+1:=⟨j - 1,by omega⟩
   have hj':j<r.length:=by simpa using hj
   cases i with
   |zero=>
    have hm:at' r j∈r:=by rw[<- get_at hj'];exact yam _
    exact h1 _ hm
   |succ i=>exact h2 i j (by omega) hj'
  ·intro h
   refine⟨λy hy=> ?_,λi j hij hj=>h (i+1) (j+1) (by omega) (by simpa using hj)⟩
   obtain⟨j,hj,rfl⟩:=List.mem_iff_getElem.1 hy;have:=h 0 (j+1) (by omega) (by simpa using hj)
   rw[get_at];exact this
def mem_at {l:List Int} {y:Int}:y∈l↔ ∃i,i<l.length/\at' l i=y:=by
 rw[ycG];constructor
 ·rintro ⟨i,hi,rfl⟩;exact⟨i,hi,by rw[get_at]⟩
 ·rintro ⟨i,hi,rfl⟩;exact⟨i,hi,by rw[get_at]⟩
end Go.Am.Ab
