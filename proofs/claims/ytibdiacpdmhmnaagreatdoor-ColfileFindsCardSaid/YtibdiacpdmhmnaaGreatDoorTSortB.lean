/- The sort of texts of the library; unlike ones. -/
import Derived.Shelf.SortM.Plain
import Derived.Test.YtibdiacpdmhmnaaGreatDoorIntsA
import Derived.Test.YtibdiacpdmhmnaaGreatDoorCellsA
set_option linter.all false
namespace Go.Am.Ab.Str
open Go.Proofs
set_option maxHeartbeats 4000000
abbrev ws (wd:Nat->ByteArray) (l:List Nat):List D:=l.map λn=>D.str (wd n)
def ws_set {wd:Nat->ByteArray} (l:List Nat) (i:Nat) (v:Nat):(l.map λn=>D.str (wd n)).set i (D.str (wd v))=(l.set i v).map λn=>D.str (wd n):=by rw[yce]
structure Mono (wd:Nat->ByteArray):Prop where
 lt: ∀a b,Op.bytesLess (wd a).toList (wd b).toList=decide (a<b)
 inj: ∀a b,(wd a).toList=(wd b).toList->a=b
def Mono.beq {wd:Nat->ByteArray} (h:Mono wd) (a b:Nat):((wd a).toList == (wd b).toList)=decide (a=b):=by
 by_cases e:a=b
 ·subst e;simp
 ·have:(wd a).toList≠(wd b).toList:=λg=>e (h.inj a b g)
  rw[yaO e];exact ydV this
@[simp] def allSize_ws (wd:Nat->ByteArray) (l:List Nat):zam 1 (l.map λn=>D.str (wd n))=true:=zaJ l λ_=>rfl
@[simp] def zFO (wd:Nat->ByteArray) (l:List Nat):zd9 (l.map λn=>D.str (wd n))=true:=zdn _ (λ_=>rfl) l
def isNaN_runs (s:ByteArray):R 172 [.d (.str s)] []=some ([.d (.bool false)],[]):=by
 refine rg zI2 rfl ?_;intro T hT;simp -dsimp -implicitDefEqProofs (disch:=omega)
 simpa -dsimp -implicitDefEqProofs (disch:=omega) using hT
def less_runs {wd:Nat->ByteArray} (hwd:Mono wd) (a b:Nat):R 166 [.d (.str (wd a)),.d (.str (wd b))] []=some ([.d (.bool (decide (a<b)))],[]):=by
 have h:=hwd.lt a b;refine rg zKf rfl ?_;intro T hT;simp -dsimp -implicitDefEqProofs (disch:=omega) [isNaN_runs,h]
 simpa -dsimp -implicitDefEqProofs (disch:=omega) using hT
end Go.Am.Ab.Str
namespace Go.Am.Ab.Str
open Go.Proofs
set_option maxHeartbeats 4000000
def at' (l:List Nat) (i:Nat):Nat:=l.getD i 0
def get_at {l:List Nat} {i:Nat} (h:i<l.length):l[i]=at' l i:=by simp[at',yas,h]
def at_set {l:List Nat} {i j:Nat} {v:Nat} (h:i<l.length):at' (l.set i v) j=if i=j then v else at' l j:=by
 simp only[at',yas,yb2];split
 ·simp[h]
 ·rfl
structure Turn (a b:Nat) (l l':List Nat):Prop where
 len:l'.length=l.length
 out: ∀i,i<a\/b<=i->at' l' i=at' l i
 cnt: ∀x,l'.count x=l.count x
def Turn.refl (a b:Nat) (l:List Nat):Turn a b l l:=⟨rfl,λ_ _=>rfl,λ_=>rfl⟩
def Turn.trans {a b:Nat} {l l' l'':List Nat} (h:Turn a b l l') (g:Turn a b l' l''):Turn a b l l'':=
 ⟨g.len.trans h.len,λi hi=>(g.out i hi).trans (h.out i hi),λx=>(g.cnt x).trans (h.cnt x)⟩
def Asc (a b:Nat) (l:List Nat):Prop:= ∀i j,a<=i->i<j->j<b->at' l i<=at' l j
def Ends (wd:Nat->ByteArray) (p:List Nat->Prop) (r:Option (List V × List Obj)):Prop:= ∃l',r=some ([],[.arr 1 (ws wd l') 0])/\p l'
def at_ext {l l':List Nat} (h:l.length=l'.length) (g: ∀i,i<l.length->at' l i=at' l' i):l=l':=by
 apply ybO h;intro i h1 h2;rw[get_at h1,get_at h2,g i h1]
def Turn.perm {a b:Nat} {l l':List Nat} (h:Turn a b l l'):l'.Perm l:=List.perm_iff_count.2 h.cnt
def split3 (l:List Nat) (a b:Nat) (hab:a<=b):l=l.take a++((l.drop a).take (b - a)++l.drop b):=by
 have:l.drop b=(l.drop a).drop (b - a):=by rw[ycI];congr 1;omega
 rw[this,ybf,ybf]
def Turn.seg {a b:Nat} {l l':List Nat} (h:Turn a b l l') (hab:a<=b):((l'.drop a).take (b - a)).Perm ((l.drop a).take (b - a)):=by
 have h1:l'.take a=l.take a:=by
  apply at_ext (by simp[h.len])
  intro i hi;simp only[yaq]at hi;have:=h.out i (by omega)
  simp only[at',yas,yaU]at*;rw[yag (by omega),yag (by omega)];exact this
 have h2:l'.drop b=l.drop b:=by
  apply at_ext (by simp[h.len])
  intro i hi;have:=h.out (b+i) (by omega)
  simpa only[at',yas,ya1]using this
 have hp:=h.perm;rw[split3 l' a b hab,split3 l a b hab,h1,h2]at hp;rw[ydE]at hp
 rwa [ydu]at hp
def mem_seg {a b:Nat} {l:List Nat} {x:Nat} (hb:b<=l.length):x∈(l.drop a).take (b - a)↔ ∃i,a<=i/\i<b/\at' l i=x:=by
 rw[ycG];simp only[yaq,yax,ycE,List.getElem_drop];constructor
 ·rintro ⟨i,hi,rfl⟩
  exact⟨a+i,by omega,by omega,by rw[get_at]⟩
 ·rintro ⟨i,h1,h2,rfl⟩
  refine⟨i - a,by omega, ?_⟩
  rw[get_at];congr 1;omega
def Turn.all {a b:Nat} {l l':List Nat} (h:Turn a b l l') (hb:b<=l.length) {p:Nat->Prop} (g: ∀i,a<=i->i<b->p (at' l i)): ∀i,a<=i->i<b->p (at' l' i):=by
 intro i h1 h2;have hm:at' l' i∈(l'.drop a).take (b - a):=(mem_seg (by rw[h.len];exact hb)).2 ⟨i,h1,h2,rfl⟩
 rw[(h.seg (by omega)).mem_iff,mem_seg hb]at hm
 obtain⟨j,j1,j2,e⟩:=hm;rw[<- e];exact g j j1 j2
def turn_sorted (l:List Nat):Turn 0 l.length l (zec (λx y:Nat=>decide (x<=y)) l)/\Asc 0 l.length (zec (λx y:Nat=>decide (x<=y)) l):=by
 have hp:=zfm (λx y:Nat=>decide (x<=y)) l
 have hs:=zgR (le:=λx y:Nat=>decide (x<=y)) (λa b c h1 h2=>by simp only[yaB]at *;omega) (λa b=>by simp only[ybr,yaB];omega) l
 have hl:=hp.length_eq;refine⟨⟨hl,λi hi=> ?_,λx=>hp.count_eq x⟩,λi j _ h1 h2=> ?_⟩
 ·unfold at'
  rw[yas,yas,yaL (by omega),yaL (by omega)]
 ·have:=List.pairwise_iff_getElem.1 hs i j (by omega) (by omega) h1
  rw[get_at,get_at]at this;simpa using this
def zro (wd:Nat->ByteArray): ∀l:List Nat,znu (ws wd l)=some (l.map λn=>(wd n).data.toList)
 |[]=>rfl
 |z::l=>by
  have:=zro wd l;simp only[ws]at this;simp only[ws,yaV,znu,this,yaM]
def sort_any {wd:Nat->ByteArray} (hwd:Mono wd) (l:List Nat) (hn:l.length<=256):Ends wd (λl'=>Turn 0 l.length l l'/\Asc 0 l.length l') (R 131 [.arr 0 l.length] [.arr 1 (ws wd l) 0]):=by
 refine⟨_,zn5 1 zzf ?_,turn_sorted l⟩;have e:zec leS (l.map λn=>(wd n).data.toList)=(zec (λx y:Nat=>decide (x<=y)) l).map λn=>(wd n).data.toList:=by
  refine znY (λa b=> ?_) l
  have:=hwd.lt b a;rw[bytesLess_eq,ByteArray.toList_eq,ByteArray.toList_eq]at this;simp only[leS,ydP]at this ⊢
  show ¬ _<_↔a<=b
  rw[this];omega
 simp only[znv,zro,yah,show l.length<=65536 by omega,and_self,ybk,yaM,e,yaQ]
 rfl
def ins (x:Nat):List Nat->List Nat
 |[]=>[x]
 |y::r=>if x<y then x::y::r else if x=y then y::r else y::ins x r
def uniq (l:List Nat):List Nat:=l.foldl (λu x=>ins x u) []
def Rises:List Nat->Prop
 |[]=>True
 |x::r=>(∀y∈r,x<y)/\Rises r
def ins_mem {x y:Nat}: ∀ {l:List Nat},y∈ins x l↔y=x\/y∈l
 |[]=>by simp[ins]
 |z::r=>by
  unfold ins;split
  ·simp
  ·split
   ·rename_i h;subst h;simp
   ·simp only[ybI,ins_mem (l:=r)]
    constructor
    ·rintro (h | h | h)
     ·exact .inr (.inl h)
     ·exact .inl h
     ·exact .inr (.inr h)
    ·rintro (h | h | h)
     ·exact .inr (.inl h)
     ·exact .inl h
     ·exact .inr (.inr h)
def ins_rises {x:Nat}: ∀ {l:List Nat},Rises l->Rises (ins x l)
 |[],_=>⟨by simp,trivial⟩
 |z::r,h=>by
  unfold ins;split
  ·rename_i hx
   refine⟨λy hy=> ?_,h⟩
   rcases List.mem_cons.1 hy with rfl | hy
   ·exact hx
   ·have:=h.1 y hy;omega
  ·split
   ·exact h
   ·rename_i h1 h2
    refine⟨λy hy=> ?_,ins_rises h.2⟩
    rcases ins_mem.1 hy with rfl | hy
    ·omega
    ·exact h.1 y hy
def foldl_ins {l:List Nat}: ∀ {u:List Nat},Rises u->Rises (l.foldl (λu x=>ins x u) u)/\ ∀y,y∈l.foldl (λu x=>ins x u) u↔y∈u\/y∈l:=by
 induction l with
 |nil=>intro u h;exact⟨h,by simp⟩
 |cons x r ih=>
  intro u h;obtain⟨h1,h2⟩:=ih (ins_rises (x:=x) h);refine⟨h1,λy=> ?_⟩
  rw[ybc,h2,ins_mem,ybI];constructor
  ·rintro ((h | h) | h)
   ·exact .inr (.inl h)
   ·exact .inl h
   ·exact .inr (.inr h)
  ·rintro (h | h | h)
   ·exact .inl (.inr h)
   ·exact .inl (.inl h)
   ·exact .inr h
def uniq_rises (l:List Nat):Rises (uniq l):=(foldl_ins (l:=l) (u:=[]) trivial).1
def uniq_mem {l:List Nat} {y:Nat}:y∈uniq l↔y∈l:=by
 rw[uniq,(foldl_ins (l:=l) (u:=[]) trivial).2];simp
def rises_ext: ∀ {a b:List Nat},Rises a->Rises b->(∀y,y∈a↔y∈b)->a=b
 |[],[],_,_,_=>rfl
 |[],y::r,_,_,h=>by have:=(h y).2 (by simp);simp at this
 |x::r,[],_,_,h=>by have:=(h x).1 (by simp);simp at this
 |x::r,y::s,h1,h2,h=>by
  have e:x=y:=by
   have hx:=(h x).1 (by simp)
   have hy:=(h y).2 (by simp)
   rcases List.mem_cons.1 hx with e | hx
   ·exact e
   ·rcases List.mem_cons.1 hy with e | hy
    ·exact e.symm
    ·have:=h1.1 y hy
     have:=h2.1 x hx;omega
  subst e;rw[rises_ext h1.2 h2.2 λz=> ?_]
  constructor
  ·intro hz
   rcases List.mem_cons.1 ((h z).1 (by simp[hz])) with e | hz'
   ·have:=h1.1 z hz;omega
   ·exact hz'
  ·intro hz
   rcases List.mem_cons.1 ((h z).2 (by simp[hz])) with e | hz'
   ·have:=h2.1 z hz;omega
   ·exact hz'
def rises_iff: ∀ {l:List Nat},Rises l↔ ∀i j,i<j->j<l.length->at' l i<at' l j
 |[]=>by simp[Rises]
 |x::r=>by
  unfold Rises;rw[rises_iff (l:=r)];constructor
  ·rintro ⟨h1,h2⟩ i j hij hj
   obtain⟨j,rfl⟩: ∃k,j=k+1:=⟨j - 1,by omega⟩
   have hj':j<r.length:=by simpa using hj
   cases i with
   |zero=>
    have hm:at' r j∈r:=by rw[<- get_at hj'];exact yam _
    exact h1 _ hm
   |succ i=>exact h2 i j (by omega) hj'
  ·intro h
   refine⟨λy hy=> ?_,λi j hij hj=>h (i+1) (j+1) (by omega) (by simpa using hj)⟩
   obtain⟨j,hj,rfl⟩:=List.mem_iff_getElem.1 hy;have:=h 0 (j+1) (by omega) (by simpa using hj)
   rw[get_at];exact this
def mem_at {l:List Nat} {y:Nat}:y∈l↔ ∃i,i<l.length/\at' l i=y:=by
 rw[ycG];constructor
 ·rintro ⟨i,hi,rfl⟩;exact⟨i,hi,by rw[get_at]⟩
 ·rintro ⟨i,hi,rfl⟩;exact⟨i,hi,by rw[get_at]⟩
end Go.Am.Ab.Str
namespace Go.Am.Ab
open Go.Proofs
set_option maxHeartbeats 4000000
def zeY: ∀x:List UInt8,Op.bytesLess x x=false
 |[]=>rfl
 |a::x=>by
  have:=zeY x;simp[Op.bytesLess,this]
def zrp: ∀ {x y z:List UInt8},Op.bytesLess x y=true->Op.bytesLess y z=true->Op.bytesLess x z=true
 |x,y,[],_,h=>by cases y <;> simp[Op.bytesLess]at h
 |[],_,c::z,_,_=>rfl
 |a::x,[],c::z,h,_=>by simp[Op.bytesLess]at h
 |a::x,b::y,c::z,h,g=>by
  simp only[Op.bytesLess,ybr,yaB,yaw,ycN]at h g ⊢;rcases h with h | ⟨rfl,h⟩
  ·rcases g with g | ⟨rfl,g⟩
   ·exact .inl (UInt8.lt_trans h g)
   ·exact .inl h
  ·rcases g with g | ⟨rfl,g⟩
   ·exact .inl g
   ·exact .inr ⟨rfl,zrp h g⟩
def zrq: ∀ {x y:List UInt8},Op.bytesLess x y=false->Op.bytesLess y x=false->x=y
 |[],[],_,_=>rfl
 |[],b::y,h,_=>by simp[Op.bytesLess]at h
 |a::x,[],_,h=>by simp[Op.bytesLess]at h
 |a::x,b::y,h,g=>by
  simp only[Op.bytesLess,Bool.or_eq_false_iff,yaS,ybU,beq_eq_false_iff_ne]at h g;have e:a=b:=by
   apply UInt8.toNat_inj.1;have h1:=h.1;have g1:=g.1;rw[UInt8.lt_iff_toNat_lt]at h1 g1;omega
  subst e;rw[zrq (h.2.resolve_left λk=>k rfl) (g.2.resolve_left λk=>k rfl)]
def zj8 (a:UInt8) (y:List UInt8): ∀x:List UInt8,Op.bytesLess x (x++a::y)=true
 |[]=>rfl
 |b::x=>by
  have:=zj8 a y x;simp[Op.bytesLess,this]
def lsS (a b:ByteArray):Bool:=Op.bytesLess a.toList b.toList
def zhT (a:ByteArray):lsS a a=false:=zeY _
def zha {a b c:ByteArray} (h:lsS a b=true) (g:lsS b c=true):lsS a c=true:=zrp h g
def zj9 {a b:ByteArray} (h:lsS a b=false) (g:a≠b):lsS b a=true:=by
 cases e:lsS b a with
 |true=>rfl
 |false=>exact absurd (zj3 (zrq h e)) g
def zon (x:ByteArray):List ByteArray->List ByteArray
 |[]=>[x]
 |y::r=>if lsS x y=true then x::y::r else if x=y then y::r else y::zon x r
def zhU (l:List ByteArray):List ByteArray:=l.foldl (λu x=>zon x u) []
def ziB:List ByteArray->Prop
 |[]=>True
 |x::r=>(∀y∈r,lsS x y=true)/\ziB r
def zmL {x y:ByteArray}: ∀ {l:List ByteArray},y∈zon x l↔y=x\/y∈l
 |[]=>by simp[zon]
 |z::r=>by
  unfold zon;split
  ·simp
  ·split
   ·rename_i h;subst h;simp
   ·simp only[ybI,zmL (l:=r)]
    constructor
    ·rintro (h | h | h)
     ·exact .inr (.inl h)
     ·exact .inl h
     ·exact .inr (.inr h)
    ·rintro (h | h | h)
     ·exact .inr (.inl h)
     ·exact .inl h
     ·exact .inr (.inr h)
def zlO {x:ByteArray}: ∀ {l:List ByteArray},ziB l->ziB (zon x l)
 |[],_=>⟨by simp,trivial⟩
 |z::r,h=>by
  unfold zon;split
  ·rename_i hx
   refine⟨λy hy=> ?_,h⟩
   rcases List.mem_cons.1 hy with rfl | hy
   ·exact hx
   ·exact zha hx (h.1 y hy)
  ·split
   ·exact h
   ·rename_i h1 h2
    refine⟨λy hy=> ?_,zlO h.2⟩
    rcases zmL.1 hy with rfl | hy
    ·exact zj9 (by simpa using h1) h2
    ·exact h.1 y hy
def zlP {l:List ByteArray}: ∀ {u:List ByteArray},ziB u->ziB (l.foldl (λu x=>zon x u) u)/\ ∀y,y∈l.foldl (λu x=>zon x u) u↔y∈u\/y∈l:=by
 induction l with
 |nil=>intro u h;exact⟨h,by simp⟩
 |cons x r ih=>
  intro u h;obtain⟨h1,h2⟩:=ih (zlO (x:=x) h);refine⟨h1,λy=> ?_⟩
  rw[ybc,h2,zmL,ybI];constructor
  ·rintro ((h | h) | h)
   ·exact .inr (.inl h)
   ·exact .inl h
   ·exact .inr (.inr h)
  ·rintro (h | h | h)
   ·exact .inl (.inr h)
   ·exact .inl (.inl h)
   ·exact .inr h
def zs8 (l:List ByteArray):ziB (zhU l):=(zlP (l:=l) (u:=[]) trivial).1
def zft {l:List ByteArray} {y:ByteArray}:y∈zhU l↔y∈l:=by
 rw[zhU,(zlP (l:=l) (u:=[]) trivial).2];simp
def zhV: ∀ {l:List ByteArray},ziB l-> ∀i j,(hij:i<j)->(h:j<l.length)->lsS (l[i]'(Nat.lt_trans hij h)) l[j]=true
 |[],_,i,j,_,h=>by simp at h
 |x::r,hr,i,j,hij,hj=>by
  obtain⟨j,rfl⟩: ∃k,j=k+1:=⟨j - 1,by omega⟩
  cases i with
  |zero=>exact hr.1 _ (yam _)
  |succ i=>exact zhV hr.2 i j (by omega) (by simpa using hj)
def zhW (s:ByteArray) (k:Nat):ByteArray:=⟨(s.data.toList++List.replicate k 0).toArray⟩
def zeZ (s:ByteArray) (k:Nat):(zhW s k).toList=s.toList++List.replicate k 0:=by
 rw[ByteArray.toList_eq,ByteArray.toList_eq];simp[zhW]
def ziC (s:ByteArray) {i j:Nat} (h:i<j):lsS (zhW s i) (zhW s j)=true:=by
 unfold lsS;rw[zeZ,zeZ];obtain⟨k,rfl⟩: ∃k,j=i+(k+1):=⟨j - i - 1,by omega⟩
 rw[<- ycq,<- yan,yaR];exact zj8 _ _ _
def zoo (s:ByteArray):zhW s 0=s:=by
 apply zj3;rw[zeZ];simp
def zEn (u:List ByteArray) (i:Nat):ByteArray:=if h:i<u.length then u[i] else zhW (u.getLastD noS) (i - u.length+1)
def zvb {u:List ByteArray} (hu:ziB u) {i j:Nat} (h:i<j):lsS (zEn u i) (zEn u j)=true:=by
 unfold zEn
 by_cases hj:j<u.length
 ·rw[dif_pos hj,dif_pos (show i<u.length by omega)]
  exact zhV hu i j h hj
 ·rw[dif_neg hj]
  by_cases hi:i<u.length
  ·rw[dif_pos hi]
   have hlast:u.getLastD noS=u[u.length - 1]'(by omega):=by
    rw[List.getLastD_eq_getLast?,List.getLast?_eq_getElem?,yak (by omega)];rfl
   have h2:=ziC (u.getLastD noS) (i:=0) (j:=j - u.length+1) (by omega)
   rw[zoo]at h2
   by_cases e:i=u.length - 1
   ·subst e
    rw[<- hlast];exact h2
   ·refine zha ?_ h2
    rw[hlast];exact zhV hu i _ (by omega) (by omega)
  ·rw[dif_neg hi]
   exact ziC _ (by omega)
def zAB {wd:Nat->ByteArray} (h: ∀i j,i<j->lsS (wd i) (wd j)=true):Str.Mono wd:=by
 have lt: ∀a b,Op.bytesLess (wd a).toList (wd b).toList=decide (a<b):=by
  intro a b
  by_cases c:a<b
  ·rw[yaI c];exact h a b c
  ·rw[yaO c]
   by_cases e:a=b
   ·subst e;exact zeY _
   ·have g:=h b a (by omega)
    cases k:Op.bytesLess (wd a).toList (wd b).toList with
    |false=>rfl
    |true=>
     have:=zha g k;rw[zhT]at this;cases this
 refine⟨lt,λa b e=> ?_⟩
 have h1:=lt a b;have h2:=lt b a;rw[e,zeY]at h1;rw[e,zeY]at h2;have:=ycY h1.symm;have:=ycY h2.symm;omega
def Str.Mono.eq_iff {wd:Nat->ByteArray} (h:Str.Mono wd) {a b:Nat}:wd a=wd b↔a=b:=⟨λe=>h.inj a b (by rw[e]),λe=>by rw[e]⟩
def zvc {wd:Nat->ByteArray} (h:Str.Mono wd) (x:Nat): ∀l:List Nat,zon (wd x) (l.map wd)=(Str.ins x l).map wd
 |[]=>rfl
 |y::r=>by
  have h1:lsS (wd x) (wd y)=decide (x<y):=h.lt x y;simp only[yaV,zon,Str.ins,h1,yaB,h.eq_iff];split
  ·rfl
  ·split
   ·rfl
   ·rw[yaV,zvc h x r]
def zya {wd:Nat->ByteArray} (h:Str.Mono wd) (l:List Nat):zhU (l.map wd)=(Str.uniq l).map wd:=by
 have key: ∀ (l u:List Nat),(l.map wd).foldl (λu x=>zon x u) (u.map wd)=(l.foldl (λu x=>Str.ins x u) u).map wd:=by
  intro l
  induction l with
  |nil=>intro u;rfl
  |cons x r ih=>
   intro u;rw[yaV,ybc,ybc,zvc h];exact ih _
 exact key l []
def ixS (u:List ByteArray) (s:ByteArray):Nat:=u.findIdx λt=>decide (t=s)
def zrr {u:List ByteArray} {s:ByteArray} (h:s∈u):ixS u s<u.length:=List.findIdx_lt_length_of_exists ⟨s,h,by simp⟩
def zvd {u:List ByteArray} {s:ByteArray} (h:ixS u s<u.length):u[ixS u s]=s:=by
 have:=List.findIdx_getElem (p:=λt=>decide (t=s)) (xs:=u) (w:=h)
 exact ycr this
def zve {wd:Nat->ByteArray} (h:Str.Mono wd) (x:Nat): ∀u:List Nat,ixS (u.map wd) (wd x)=u.idxOf x
 |[]=>rfl
 |y::r=>by
  have e:decide (wd y=wd x)=(y == x):=by
   by_cases c:y=x
   ·subst c;simp
   ·have:wd y≠wd x:=λg=>c (h.eq_iff.1 g)
    rw[yaO this,ydV c]
  have ih:=zve h x r;unfold ixS at ih ⊢;rw[yaV,List.findIdx_cons,List.idxOf_cons,ih,e]
def zEo (l:List ByteArray): ∃ (wd:Nat->ByteArray) (r:List Nat),Str.Mono wd/\r.map wd=l:=by
 refine⟨zEn (zhU l),l.map (ixS (zhU l)),zAB λi j h=>zvb (zs8 l) h, ?_⟩
 rw[yaQ]
 conv=>rhs;rw[<- yc5 l]
 apply ya0;intro s hs;have hm:=zrr (zft.2 hs);simp only[Function.comp,zEn,dif_pos hm,id];exact zvd hm
end Go.Am.Ab
namespace Go.Am.Ab.Str
open Go.Proofs
set_option maxHeartbeats 4000000
@[simp] def zop (s:ByteArray): ∀n,zam 1 (List.replicate n (D.str s))=true
 |0=>rfl
 |n+1=>by simp[yaR,zop s n]
def clone_nil {wd:Nat->ByteArray} (hwd:Mono wd):R 130 [.d (.list [])] []=some ([.arr 0 0],[.arr 1 [] 0]):=by
 refine zgZ (rs:=[.tmp 2]) (ts:=[143]) Tryz.func130 rfl rfl rfl (by kernel_rfl) (by kernel_rfl) zze (by simp[Tryz.f130]) ?_
 intro T hT a ha;rcases ha with rfl | rfl
 all_goals simp -dsimp -implicitDefEqProofs (disch:=omega)
 all_goals exact hT
def clone_runs {wd:Nat->ByteArray} (hwd:Mono wd) (l:List Nat) (hn:l.length<=256):R 130 [.d (.list (ws wd l))] []=some ([.arr 0 l.length],[.arr 1 (ws wd l) 0]):=by
 cases l with
 |nil=>exact clone_nil hwd
 |cons x r=>
  simp only[yaf]at hn;refine zgY (rs:=[.tmp 2]) (ts:=[143]) Tryz.func130 rfl rfl rfl (by kernel_rfl) (by kernel_rfl) (.inr ⟨(zze).2,by intro zay h;simp at h⟩) (by simp[Tryz.f130]) ?_
  intro T hT;simp -dsimp -implicitDefEqProofs (disch:=omega) [ints]
  simpa -dsimp -implicitDefEqProofs (disch:=omega) using hT
def Packs (wd:Nat->ByteArray) (l:List Nat) (r:Option (List V × List Obj)):Prop:=
 r=some ([.arr 0 (uniq l).length],[.arr 1 (ws wd (uniq l)) 0])\/ ∃m:List D,(uniq l).length+m.length=l.length/\r=some ([.sl 0 l.length 0 (uniq l).length],[.arr 1 (ws wd (uniq l)++m) 0])
def not_packs {wd:Nat->ByteArray} {l:List Nat}: ¬ Packs wd l none:=λh=>by
 rcases h with h | ⟨m,_,h⟩ <;> cases h
def uniq_of {l:List Nat} {m:List Nat} {k:Nat} (hk:k<=m.length) (h1: ∀i j,i<j->j<k->at' m i<at' m j) (h2: ∀y,(∃i,i<k/\at' m i=y)↔y∈l):m.take k=uniq l:=by
 have hat: ∀i,i<k->at' (m.take k) i=at' m i:=λi hi=>by
  simp only[at',yas,yaU,yag hi]
 apply rises_ext _ (uniq_rises l) _
 ·rw[rises_iff]
  intro i j hij hj;simp only[yaq]at hj;rw[hat i (by omega),hat j (by omega)]
  exact h1 i j hij (by omega)
 ·intro y
  rw[uniq_mem,<- h2 y,mem_at];constructor
  ·rintro ⟨i,hi,e⟩
   simp only[yaq]at hi;exact⟨i,by omega,by rw[<- hat i (by omega)];exact e⟩
  ·rintro ⟨i,hi,e⟩
   exact⟨i,by simp only[yaq];omega,by rw[hat i hi];exact e⟩
def CInv (s:List Nat) (k:Nat) (x:Nat × Nat × List Nat):Prop:=k<=x.1/\x.1<k+x.2.1/\1<=x.2.1/\k+x.2.1<=s.length/\x.2.2.length=s.length/\(∀i j,i<j->j<x.1->at' x.2.2 i<at' x.2.2 j)/\
 (∀y,(∃i,i<x.1/\at' x.2.2 i=y)↔ ∃i,i<k+x.2.1/\at' s i=y)/\at' x.2.2 (x.1 - 1)=at' s (k+x.2.1 - 1)/\ ∀p,k+x.2.1<=p+1->at' x.2.2 p=at' s p
def compact_any {wd:Nat->ByteArray} (hwd:Mono wd) (s:List Nat) (hs:Asc 0 s.length s) (hn:s.length<=256):Packs wd s (R 132 [.arr 0 s.length] [.arr 1 (ws wd s) 0]):=by
 have same:(∀i j,i<j->j<s.length->at' s i<at' s j)->uniq s=s:=by
  intro h;have:=uniq_of (l:=s) (m:=s) (yaj _) h (λy=>mem_at.symm)
  rw[yaW]at this;exact this.symm
 by_cases h2:s.length<2
 ·have hu:=same λi j h1 h2=>by omega
  have e:R 132 [.arr 0 s.length] [.arr 1 (ws wd s) 0]=some ([.arr 0 s.length],[.arr 1 (ws wd s) 0]):=by
   have h2':(s.length:Int)<2:=by omega
   refine rg zIW rfl ?_;intro T hT;simp -dsimp -implicitDefEqProofs (disch:=omega) [h2,h2']
   simpa -dsimp -implicitDefEqProofs (disch:=omega) using hT
  exact .inl (by rw[hu,e])
 have h2': ¬ (s.length:Int)<2:=by omega
 refine ra zIW rfl not_packs ?_;simp -dsimp -implicitDefEqProofs (disch:=omega) [h2,h2']
 generalize hT0:Packs wd s=T0;generalize hz:zaf _ _ _ _ _ _=z;revert z;refine zaa (σ:=Nat) (λx=>[(0,.arr 0 s.length),(3,.d (.int .i64 x))]) (λx=>[.arr 1 (ws wd s) 0]) (λx=>1<=x/\x<=s.length/\ ∀i j,i<j->j<x->at' s i<at' s j) (λx=>s.length - x) 1 ?_ ?_ ?_
 ·exact⟨yaj _,by omega,λi j h1 h2=>by omega⟩
 ·simp -dsimp -implicitDefEqProofs (disch:=omega)
 intro T2 f2 hT2 x ⟨hx1,hx2,hx3⟩ ih2
 by_cases hx:x<s.length
 ·obtain⟨w,hw⟩: ∃w,x=w+1:=⟨x - 1,by omega⟩
  have q0:(x:Int) - 1=w:=by omega
  have hw0:w<s.length:=by omega
  have gx:=get_at hx;have gw:=get_at hw0
  by_cases he:at' s x=at' s w
  ·have hs0: ¬ 0=s.length:=by omega
   have hlx:s.length - x+x=s.length:=by omega
   simp -dsimp -implicitDefEqProofs (disch:=omega) [hwd.beq,hx,q0,gx,gw,hw0,he,hs0]
   generalize hz:zaf _ _ _ _ _ _=z;revert z;refine zaa (σ:=Nat × Nat × List Nat) (λy=>[(0,.arr 0 s.length),(3,.d (.int .i64 y.1)),(4,.sl 0 s.length x (s.length - x)),(5,.d (.int .i64 y.2.1))]) (λy=>[.arr 1 (ws wd y.2.2) 0]) (CInv s x) (λy=>s.length - y.2.1) (x,1,s) ?_ ?_ ?_
   ·refine⟨yaj _,by simp only;omega,yaj _,by simp only;omega,rfl,hx3,λy=>⟨?_, ?_⟩, ?_,λp hp=>rfl⟩
    ·rintro ⟨i,hi,e⟩
     exact⟨i,by simp only at hi ⊢;omega,e⟩
    ·rintro ⟨i,hi,e⟩
     simp only at hi ⊢
     by_cases c:i=x
     ·exact⟨w,by omega,by rw[<- e,c,he]⟩
     ·exact⟨i,by omega,e⟩
    ·simp only
     rw[ybJ,show x - 1=w by omega,he]
   ·simp -dsimp -implicitDefEqProofs (disch:=omega)
   intro T3 f3 hT3 ⟨k,j,m⟩ ⟨i1,i2,i3,i4,i5,i6,i7,i8,i9⟩ ih3;simp only at i1 i2 i3 i4 i5 i6 i7 i8 i9 ih3
   by_cases hj:x+j<s.length
   ·have hj':j<s.length - x:=by omega
    have hj1:(j:Int)<(s.length:Int) - x:=by omega
    have hj2:((s.length - x:Nat):Int)=(s.length:Int) - x:=by omega
    obtain⟨v,hv⟩: ∃v,j=v+1:=⟨j - 1,by omega⟩
    have q1:(j:Int) - 1=v:=by omega
    have hv1:v<s.length - x:=by omega
    have hjm:x+j<m.length:=by omega
    have hvm:x+v<m.length:=by omega
    have gj:m[x+j]=at' s (x+j):=by rw[get_at hjm];exact i9 _ (by omega)
    have gv:m[x+v]=at' s (x+v):=by rw[get_at hvm];exact i9 _ (by omega)
    have hle:=hs (x+v) (x+j) (yai _) (by omega) hj
    have hlast:at' m (k - 1)=at' s (x+v):=by rw[i8];congr 1;omega
    by_cases hd:at' s (x+j)=at' s (x+v)
    ·simp -dsimp -implicitDefEqProofs (disch:=omega) [hwd.beq,hj',hj1,hj2,q1,hv1,hjm,hvm,gj,gv,hd,i5]
     refine ih3 (k,j+1,m) _ _ ⟨i1,by simp only;omega,by simp only;omega,by simp only;omega,i5,i6,λy=> ?_, ?_,λp hp=>i9 p (by simp only at hp;omega)⟩ (by simp only;omega) (by simp -dsimp -implicitDefEqProofs (disch:=omega))
     ·rw[i7 y]
      constructor
      ·rintro ⟨i,hi,e⟩
       exact⟨i,by simp only;omega,e⟩
      ·rintro ⟨i,hi,e⟩
       simp only at hi
       by_cases c:i=x+j
       ·exact⟨x+v,by omega,by rw[<- e,c,hd]⟩
       ·exact⟨i,by omega,e⟩
     ·simp only
      rw[hlast,show x+(j+1) - 1=x+j by omega,hd]
    ·have hkm:k<m.length:=by omega
     have hks:k<s.length:=by omega
     have hat: ∀i,at' (m.set k (at' s (x+j))) i=if k=i then at' s (x+j) else at' m i:=λi=>at_set hkm
     simp -dsimp -implicitDefEqProofs (disch:=omega) [hwd.beq,hj',hj1,hj2,q1,hv1,hjm,hvm,gj,gv,hd,i5,hkm,hks,ws_set,-List.map_set]
     refine ih3 (k+1,j+1,m.set k (at' s (x+j))) _ _ ⟨by simp only;omega,by simp only;omega,by simp only;omega,by simp only;omega,by simp only[ydT];exact i5, ?_,λy=> ?_, ?_, ?_⟩ (by simp only;omega) (by simp -dsimp -implicitDefEqProofs (disch:=omega) [-List.map_set])
     ·intro p q p1 p2
      simp only at p2 ⊢;rw[hat,hat,yac (by omega)]
      by_cases c:k=q
      ·rw[yag c]
       have:at' m p<=at' m (k - 1):=by
        by_cases c2:p=k - 1
        ·rw[c2];exact yaj _
        ·exact Nat.le_of_lt (i6 p (k - 1) (by omega) (by omega))
       omega
      ·rw[yac c];exact i6 p q p1 (by omega)
     ·simp only
      constructor
      ·rintro ⟨i,hi,e⟩
       rw[hat]at e
       by_cases c:k=i
       ·rw[yag c]at e;exact⟨x+j,by omega,e⟩
       ·rw[yac c]at e
        obtain⟨i',h',e'⟩:=(i7 y).1 ⟨i,by omega,e⟩
        exact⟨i',by omega,e'⟩
      ·rintro ⟨i,hi,e⟩
       by_cases c:i=x+j
       ·exact⟨k,by omega,by rw[hat,yag rfl,<- e,c]⟩
       ·obtain⟨i',h',e'⟩:=(i7 y).2 ⟨i,by omega,e⟩
        exact⟨i',by omega,by rw[hat,yac (by omega)];exact e'⟩
     ·simp only
      rw[ybJ,hat,yag rfl];congr 1
     ·intro p hp
      simp only at hp ⊢;rw[hat,yac (by omega)]
      exact i9 p (by omega)
   ·have hj': ¬ j<s.length - x:=by omega
    have hj1: ¬ (j:Int)<(s.length:Int) - x:=by omega
    have hj2:((s.length - x:Nat):Int)=(s.length:Int) - x:=by omega
    have hxj:x+j=s.length:=by omega
    have hu:m.take k=uniq s:=uniq_of (by omega) i6 (λy=>by
     rw[i7 y,hxj];exact mem_at.symm)
    have hul:(uniq s).length=k:=by rw[<- hu,yaq];omega
    subst hT3;subst hT2;have hkm:k<=s.length:=by omega
    have hkk:k+(s.length - k)=s.length:=by omega
    have hfin2:(List.map (λn=>D.str (wd n)) m).take k=ws wd (uniq s):=by rw[<- hu];simp
    have hdrop:(List.map (λn=>D.str (wd n)) m).drop s.length=[]:=by simp[i5]
    simp -dsimp -implicitDefEqProofs (disch:=omega) [hwd.beq,hj',hj1,hj2,i5,hs0,hkm,hkk,hfin2,hdrop]
    rw[<- hT0];refine .inr ⟨List.replicate (s.length - k) (.str ⟨#[]⟩),by rw[hul,ya6];omega, ?_⟩
    rw[hul]
  ·have hlt:at' s w<at' s x:=by
    have:=hs w x (yai _) (by omega) hx
    omega
   simp -dsimp -implicitDefEqProofs (disch:=omega) [hwd.beq,hx,q0,gx,gw,hw0,he]
   refine ih2 (x+1) _ _ ⟨by omega,hx, ?_⟩ (by omega) (by simp -dsimp -implicitDefEqProofs (disch:=omega))
   intro p q p1 p2
   by_cases c:q=x
   ·rw[c]
    by_cases c2:p=w
    ·rw[c2];exact hlt
    ·have:=hx3 p w (by omega) (by omega);omega
   ·exact hx3 p q p1 (by omega)
 ·have hx':x=s.length:=by omega
  have hu:=same λi j h1 h2=>hx3 i j h1 (by omega)
  subst hT2;simp -dsimp -implicitDefEqProofs (disch:=omega) [hwd.beq,hx,hx']
  rw[<- hT0];exact .inl (by rw[hu])
end Go.Am.Ab.Str
namespace Go.Am.Ab.Str
open Go.Proofs
set_option maxHeartbeats 4000000
def search_runs {wd:Nat->ByteArray} (hwd:Mono wd) (l:List Nat) (n:Nat) (k:Nat) (hk:k<l.length) (hn:l.length<=256) (he:at' l k=n) (hlo: ∀p,p<k->at' l p<n) (hhi: ∀p,k<=p->p<l.length->n<=at' l p):
 R 133 [.d (.list (ws wd l)),.d (.str (wd n))] []=some ([.d (.int .i64 k),.d (.bool true)],[]):=by
 refine rg zJ2 rfl ?_;intro T hT;simp -dsimp -implicitDefEqProofs (disch:=omega)
 generalize hz:zaf _ _ _ _ _ _=z;revert z;refine zaa (σ:=Nat × Nat) (λx=>[(0,.d (.list (ws wd l))),(1,.d (.str (wd n))),(6,.d (.int .i64 l.length)),(7,.d (.int .i64 x.1)),(8,.d (.int .i64 x.2))]) (λx=>[]) (λx=>x.1<=k/\k<=x.2/\x.2<=l.length) (λx=>x.2 - x.1) (0,l.length) ?_ ?_ ?_
 ·exact⟨yai _,by simp only;omega,yaj _⟩
 ·simp -dsimp -implicitDefEqProofs (disch:=omega)
 intro T' f hT' ⟨i,j⟩ ⟨h1,h2,h3⟩ ih;simp only at h1 h2 h3 ih
 by_cases h4:i<j
 ·obtain⟨q,hq⟩: ∃q,q=(i+j) / 2:=⟨_,rfl⟩
  have e1:((i:Int)+j) / 2=q:=by omega
  have e0:IntKind.u64.wrap ((i:Int)+j)=(i:Int)+j:=zal (by omega) (by omega)
  have hql:q<l.length:=by omega
  have gq:=get_at hql
  by_cases h5:at' l q<n
  ·have:q<k:=by
    apply Nat.lt_of_not_le;intro h;have:=hhi q h hql;omega
   simp -dsimp -implicitDefEqProofs (disch:=omega) [hwd.beq,h4,e0,e1,hql,gq,less_runs hwd,h5]
   exact ih (q+1,j) _ _ ⟨by simp only;omega,h2,h3⟩ (by simp only;omega) (by simp -dsimp -implicitDefEqProofs (disch:=omega))
  ·have:k<=q:=by
    apply Nat.le_of_not_lt;intro h;exact h5 (hlo q h)
   simp -dsimp -implicitDefEqProofs (disch:=omega) [hwd.beq,h4,e0,e1,hql,gq,less_runs hwd,h5]
   exact ih (i,q) _ _ ⟨h1,by simp only;omega,by simp only;omega⟩ (by simp only;omega) (by simp -dsimp -implicitDefEqProofs (disch:=omega))
 ·obtain rfl:i=k:=by omega
  have gk:=get_at hk;subst hT';simp -dsimp -implicitDefEqProofs (disch:=omega) [hwd.beq,h4,hk,gk,he]
  simpa -dsimp -implicitDefEqProofs (disch:=omega) [he]using hT
end Go.Am.Ab.Str
