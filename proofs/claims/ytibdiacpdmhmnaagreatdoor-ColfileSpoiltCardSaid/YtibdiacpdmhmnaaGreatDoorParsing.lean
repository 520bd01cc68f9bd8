/- What bytes of a list are read as: plain law. -/
import Derived.Test.YtibdiacpdmhmnaaGreatDoorRefInts
set_option linter.all false
namespace Go.Am.Ab
open Go.Proofs
set_option maxHeartbeats 4000000
inductive PR (α:Type) where
 |err (e:Nat)
 |ok (a:α) (r:List UInt8)
def PR.map {α β:Type} (f:α->β):PR α->PR β
 |.err e=> .err e
 |.ok a r=> .ok (f a) r
@[simp] def PR.map_err {α β:Type} (f:α->β) (e:Nat):(PR.err e:PR α).map f= .err e:=rfl
@[simp] def PR.map_ok {α β:Type} (f:α->β) (a:α) (r:List UInt8):(PR.ok a r).map f= .ok (f a) r:=rfl
def PR.map_map {α β γ:Type} (f:α->β) (g:β->γ) (p:PR α):(p.map f).map g=p.map (λa=>g (f a)):=by cases p <;> rfl
def PR.map_id {α:Type} {f:α->α} (h: ∀a,f a=a) (p:PR α):p.map f=p:=by
 cases p with
 |err e=>rfl
 |ok a r=>simp[h]
def ztG (b:List UInt8):PR Nat:=if (get b).2.2=0 then .ok (get b).1 (b.drop (get b).2.1) else .err (get b).2.2
def zpZ (b:List UInt8):PR Int:=if (get b).2.2=0 then .ok (zag (get b).1) (b.drop (get b).2.1) else .err (get b).2.2
def zko (dl:Bool):Nat->Int->List UInt8->PR (List Int)
 |0,_,b=> .ok [] b
 |k+1,a,b=>
  match zpZ b with
  |.err e=> .err e
  |.ok x r=>(zko dl k (if dl then IntKind.i64.wrap (x+a) else x) r).map ((if dl then IntKind.i64.wrap (x+a) else x):: ·)
def zfZ:Nat->Nat->List UInt8->PR (List Int)
 |_,0,b=> .ok [] b
 |0,_,_=> .err 40
 |f+1,m+1,b=>
  match zpZ b with
  |.err e=> .err e
  |.ok x r=>
   match ztG r with
   |.err e=> .err e
   |.ok k r2=>if k=0\/m+1<k then .err 40 else (zfZ f (m+1 - k) r2).map (List.replicate k x++ ·)
def zh7:Nat->Int->List UInt8->PR (List Int)
 |0,_,b=> .ok [] b
 |k+1,a,b=>
  match ztG b with
  |.err e=> .err e
  |.ok d r=>if d=0\/9223372036854775807<a+d then .err 40 else (zh7 k (a+d) r).map ((a+d):: ·)
def zb4 (n w:Nat) (b:List UInt8):PR (List Nat):=
 if b.length<(n*w+7) / 8 then .err 30 else if (n*w+7) / 8<b.length then .err 32 else if num b<2 ^ (n*w) then .ok (ups w (num b) n) [] else .err 40
def zhg (many:Nat) (b:List UInt8):PR (List Int):=
 if many=0 then .ok [] b else
 match zpZ b with
 |.err e=> .err e
 |.ok x r=>(zh7 (many - 1) x r).map (x:: ·)
def znn (n many:Nat) (u:List Int) (b:List UInt8):PR (List Int):=
 if n=0 then .ok [] b else
 match zb4 n (zbU (many - 1)) b with
 |.err e=> .err e
 |.ok p r=>if ∀q∈p,q<many then .ok (p.map (at' u)) r else .err 40
def zh8 (n:Nat) (b:List UInt8):PR (List Int):=
 match ztG b with
 |.err e=> .err e
 |.ok many r=>
  if n<many\/many=0/\0<n then .err 40 else
  match zhg many r with
  |.err e=> .err e
  |.ok u r2=>znn n many u r2
def zdD (n:Nat) (b:List UInt8):PR (List Int):=
 if n=0 then .ok [] b else
 match zpZ b with
 |.err e=> .err e
 |.ok x r=>
  match ztG r with
  |.err e=> .err e
  |.ok w r2=>
   if 64<w then .err 40 else
   (zb4 n w r2).map (λp=>p.map λ(q:Nat)=>IntKind.i64.wrap (x+q))
def zgB (c n:Nat) (b:List UInt8):PR (List Int):=match c with
 |0=>zko false n 0 b
 |1=>zko true n 0 b
 |2=>zfZ n n b
 |3=>zh8 n b
 |_=>zdD n b
def zz2 (c n:Nat) (b:List UInt8):List Int × Nat:=
 match zgB c n b with
 |.err e=>([],e)
 |.ok l r=>if r≠[] then ([],32) else if zfD c l=b then (l,0) else ([],40)
def zb5 (b:List UInt8) (n:Int):List Int × Nat:=
 if n<0\/256<n then ([],1) else
 match b with
 |[]=>([],30)
 |c::r=>if 4<c.toNat then ([],50) else zz2 c.toNat n.toNat r
def ziO: ∀ (b:List UInt8) (i n:Nat),(zbH i n b).2.1<=i+b.length
 |[],_,_=>by simp[zbH]
 |c::r,i,n=>by
  have:=ziO r (i+1) (n+(c.toNat % 128)*2 ^ (7*i));rw[zbH];simp only[yad];split
  ·simp
  ·split
   ·split
    ·simp
    ·simp only;omega
   ·omega
def zfF (b:List UInt8):(get b).2.1<=b.length:=by
 have:=ziO b 0 0;unfold get;omega
def zkp: ∀ (b:List UInt8) (i n:Nat),(zbH i n b).2.2=0\/(zbH i n b)=(0,0,30)\/(zbH i n b)=(0,0,31)
 |[],_,_=>by simp[zbH]
 |c::r,i,n=>by
  have:=zkp r (i+1) (n+(c.toNat % 128)*2 ^ (7*i));rw[zbH];split
  ·simp
  ·split
   ·split
    ·simp
    ·simp
   ·exact this
def zz3 (b:List UInt8):(get b).2.2=0\/get b=(0,0,30)\/get b=(0,0,31):=zkp b 0 0
def zmj {n:Nat} (h:n<18446744073709551616):zai (zag n):=by
 unfold zai zag;split <;> omega
def zno {b r:List UInt8} {x:Int} (h:zpZ b= .ok x r):zai x:=by
 unfold zpZ at h;split at h
 ·cases h;exact zmj (zdC b)
 ·cases h
end Go.Am.Ab
namespace Go.Am.Ab
set_option maxHeartbeats 4000000
def zqE (n:Nat): ∀ (i acc:Nat) (t:List UInt8),n*2 ^ (7*i)<18446744073709551616->(0<i->0<n)->i<=9->zbH i acc (put n++t)=(acc+n*2 ^ (7*i),i+(put n).length,0):=by
 induction n using Nat.strongRecOn with
 |_ n ih=>
 intro i acc t hb h0 hi
 by_cases h:n<128
 ·rw[zgd h,yaV,ybH,zbH,zcM (by omega)]
  have h9: ¬ (i=9/\1<n):=by
   rintro ⟨rfl,h1⟩
   have:2*2 ^ (7*9)<=n*2 ^ (7*9):=yaF _ h1;simp at this;omega
  rw[yag h9,yaj h,yag (by omega)]
  simp
 ·rw[zrP (by omega),yaV,zbH,zcM (by omega)]
  have h9:i≠9:=by
   rintro rfl
   have:128*2 ^ (7*9)<=n*2 ^ (7*9):=yaF _ (by omega)
   simp at this;omega
  rw[yag (by omega),yag (by omega)]
  have hp:2 ^ (7*(i+1))=128*2 ^ (7*i):=by rw[ycQ,ybB,ybR]
  obtain⟨P,hP⟩: ∃P,P=2 ^ (7*i):=⟨_,rfl⟩;have hd:n*P=n / 128*(128*P)+n % 128*P:=by
   have:=ycW n 128
   calc n*P=(128*(n / 128)+n % 128)*P:=by rw[this]
    _=_:=by rw[ya0,ybR 128,ydr]
  rw[ih (n / 128) (by omega) (i+1) _ t (by rw[hp,<- hP];rw[<- hP]at hb;omega) (λ_=>by omega) (by omega)]
  rw[hp,<- hP,hd];simp only[yad,yae];refine⟨?_, ?_,trivial⟩
  ·rw[show (n % 128+128) % 128=n % 128 by omega];omega
  ·omega
def zgC {n:Nat} (h:n<18446744073709551616) (t:List UInt8):get (put n++t)=(n,(put n).length,0):=by
 unfold get;rw[zqE n 0 0 t (by simpa using h) (λh=>by omega) (by omega)]
 simp
def zfG {n:Nat} (h:n<18446744073709551616) (t:List UInt8):ztG (put n++t)= .ok n t:=by
 unfold ztG;rw[zgC h];simp
def zz4 {x:Int}:zag (zig x)=x:=by
 unfold zag zig;split <;> split <;> omega
def zfH {x:Int} (h:zai x) (t:List UInt8):zpZ (za1 x++t)= .ok x t:=by
 unfold zpZ za1;rw[zgC (zoN h.1 h.2)];simp[zz4]
def zmk: ∀ (l:List Int) (a:Int) (t:List UInt8),(∀n∈l,zai n)->zko false l.length a (zbj l++t)= .ok l t
 |[],_,t,_=>rfl
 |x::r,a,t,h=>by
  rw[zgz,yal,yad,zko,zfH (h x (by simp))]
  simp only[yau,yaY];rw[zmk r _ t λn hn=>h n (by simp[hn])];rfl
def zvm {n a:Int} (h:zai n):IntKind.i64.wrap (IntKind.i64.wrap (n - a)+a)=n:=by
 unfold zai at h;rw[za0,za0];split <;> split <;> omega
def zml: ∀ (l:List Int) (a:Int) (t:List UInt8),(∀n∈l,zai n)->zko true l.length a (zbj (zcU a l)++t)= .ok l t
 |[],_,t,_=>rfl
 |x::r,a,t,h=>by
  rw[zcU,zgz,yal,yad,zko,zfH (zdQ _)];simp only[ya6];rw[zvm (h x (by simp)),zml r _ t λn hn=>h n (by simp[hn])];rfl
def zrU (x:Int): ∀l:List Int,l=List.replicate (cnt x l) x++l.drop (cnt x l)
 |[]=>by simp[cnt]
 |y::r=>by
  by_cases h:y=x
  ·subst h
   rw[cnt,yaj rfl,yaS,List.drop_succ_cons,yaV,<- zrU y r]
  ·rw[cnt,yag h];simp
def ztH (m:Nat): ∀ (f:Nat) (l:List Int) (t:List UInt8),l.length=m->m<=f->m<=1000000->(∀n∈l,zai n)->zfZ f m (zc8 l++t)= .ok l t:=by
 induction m using Nat.strongRecOn with
 |_ m ih=>
 intro f l t hl hf hm h;cases l with
 |nil=>
  simp only[yat]at hl;subst hl;cases f <;> rfl
 |cons x r=>
  obtain⟨m,rfl⟩: ∃k,m=k+1:=⟨m - 1,by simp at hl;omega⟩
  obtain⟨f,rfl⟩: ∃k,f=k+1:=⟨f - 1,by omega⟩
  have hc:=zrQ x (x::r);have hc1:1<=cnt x (x::r):=by simp[cnt]
  have ht:=zrU x (x::r);rw[zh4 rfl,yal,yal];obtain⟨k,hk⟩: ∃k,k=cnt x (x::r):=⟨_,rfl⟩;rw[<- hk]at hc hc1 ht ⊢;rw[zfZ,zfH (h x (by simp))]
  simp only;rw[zfG (by omega)]
  simp only;rw[yag (by omega),ih (m+1 - k) (by omega) f _ t (by rw[yaw,hl]) (by omega) (by omega) λn hn=>h n (ybQ hn)]
  rw[PR.map_ok,<- ht]
end Go.Am.Ab
namespace Go.Am.Ab
set_option maxHeartbeats 4000000
def zxY (w N i:Nat):ups w N (i+1)=N % 2 ^ w::ups w (N / 2 ^ w) i:=by
 unfold ups;rw[List.range_succ_eq_map,yaO,yaL];congr 1
 ·simp
 ·apply yaX
  intro j _;simp only[Function.comp];rw[ybi,<- ybB,show (j+1)*w=w+j*w by rw[ya0,yb8,ybC]]
def zrV (w:Nat): ∀p:List Nat,(∀n∈p,n<2 ^ w)->ups w (zbL w p) p.length=p
 |[],_=>rfl
 |n::r,h=>by
  have hn:=h n (by simp)
  rw[yad,zxY,zbL];have hp:0<2 ^ w:=ybp w;have e1:(n+2 ^ w*zbL w r) % 2 ^ w=n:=by rw[ydJ,yaJ hn]
  have e2:(n+2 ^ w*zbL w r) / 2 ^ w=zbL w r:=by rw[Nat.add_mul_div_left _ _ hp,ycb hn,yaW]
  rw[e1,e2,zrV w r λm hm=>h m (by simp[hm])]
def zbJ (w:Nat) (p:List Nat):(za8 w p).length=(p.length*w+7) / 8:=by
 unfold za8;rw[zke]
def zdR {w:Nat} {p:List Nat} (h: ∀n∈p,n<2 ^ w):zb4 p.length w (za8 w p)= .ok p []:=by
 have hl:=zbJ w p;have hlt:=zjm w p h;unfold zb4;rw[yag (by omega),yag (by omega)]
 have hn:num (za8 w p)=zbL w p:=by
  unfold za8;refine zy7 _ _ (ybv hlt (ybu (by decide) ?_))
  omega
 rw[hn,yaj hlt,zrV w p h]
def ziP {w:Nat} {p:List Nat} {t:List UInt8} (ht:t≠[]):zb4 p.length w (za8 w p++t)= .err 32:=by
 have hl:=zbJ w p;have:=List.length_pos_iff.2 ht;unfold zb4;rw[yab,yag (by omega),yaj (by omega)]
def zmm: ∀ (l:List Int) (a:Int) (t:List UInt8),zai a->(∀n∈l,zai n)->(∀n∈l,a<n)->Rises l->zh7 l.length a (ztC a l++t)= .ok l t
 |[],_,t,_,_,_,_=>rfl
 |x::r,a,t,ha,h,hlt,hr=>by
  have hx:=h x (by simp)
  have h1:=hlt x (by simp)
  unfold zai at ha hx;obtain⟨d,hd⟩: ∃d:Nat,(d:Int)=x - a:=⟨(x - a).toNat,by omega⟩
  have hdd:(x - a).toNat=d:=by omega
  rw[ztC,hdd,yal,yad,zh7,zfG (by omega)]
  simp only;rw[yag (by omega),show a+(d:Int)=x by omega,zmm r x t (h x (by simp)) (λn hn=>h n (by simp[hn])) hr.1 hr.2]
  rfl
def zmn {u:List Int} (t:List UInt8) (h: ∀n∈u,zai n) (hr:Rises u):zhg u.length (zbM u++t)= .ok u t:=by
 unfold zhg;cases u with
 |nil=>rfl
 |cons x r=>
  rw[yad,yag (by omega),zbM,yal,zfH (h x (by simp))]
  simp only;rw[ybN,zmm r x t (h x (by simp)) (λn hn=>h n (by simp[hn])) hr.1 hr.2]
  rfl
def zoT {l:List Nat} {m:Nat} (hl: ∀n∈l,n<18446744073709551616):zbc l<=m↔ ∀n∈l,n<2 ^ m:=by
 constructor
 ·intro h;exact zfz hl h
 ·intro h
  have key: ∀ (l:List Nat) (a:Nat),a<=m->(∀n∈l,n<18446744073709551616)->(∀n∈l,n<2 ^ m)->l.foldl (λw n=>max w (zbU n)) a<=m:=by
   intro l
   induction l with
   |nil=>intro a ha _ _;exact ha
   |cons x r ih=>
    intro a ha h1 h2;rw[ya7];refine ih _ ?_ (λn hn=>h1 n (by simp[hn])) (λn hn=>h2 n (by simp[hn]))
    have:=(zbo (m:=m) (h1 x (by simp))).2 (h2 x (by simp))
    omega
  exact key l 0 (yai _) hl h
def zDQ {u:List Int} {i:Nat} (hr:Rises u) (hi:i<u.length):idx u (at' u i)=i:=by
 have hm:at' u i∈u:=by rw[<- get_at hi];exact yam _
 have h1:=zoS hm;have h2:=zhf hm;have hur:=rises_iff.1 hr
 by_cases c:idx u (at' u i)<i
 ·have:=hur _ i c hi;omega
 ·by_cases c2:i<idx u (at' u i)
  ·have:=hur i _ c2 h2;omega
  ·omega
def ziQ {l:List Int} (h0:l≠[]) (hn:l.length<=256):zbc (zaJ (uniq l) l)=zbU ((uniq l).length - 1):=by
 have hpm:=ze7 hn;have h1:=uniq_length_le l;have hu:=zkm h0;have hmem:(uniq l).length - 1∈zaJ (uniq l) l:=by
  unfold zaJ;rw[ycf];refine⟨at' (uniq l) ((uniq l).length - 1),uniq_mem.1 (by rw[<- get_at (by omega:(uniq l).length - 1<(uniq l).length)];exact yam _),zDQ (uniq_rises l) (by omega)⟩
 have hle: ∀q∈zaJ (uniq l) l,q<=(uniq l).length - 1:=by
  intro q hq;unfold zaJ at hq;rw[ycf]at hq;obtain⟨x,hx,rfl⟩:=hq;have:=zhf (uniq_mem.2 hx);omega
 apply Nat.le_antisymm
 ·rw[zoT hpm]
  intro q hq;have:=(zbo (m:=zbU ((uniq l).length - 1)) (by omega:(uniq l).length - 1<18446744073709551616)).1 (yaf _)
  have:=hle q hq;omega
 ·rw[zbo (by omega)]
  exact zfz hpm (yaf _) _ hmem
def ztI (w:Nat):za8 w []=[]:=by
 have:=zbJ w [];simpa using this
def ztJ {l:List Int} (t:List UInt8) (h: ∀n∈l,zai n) (hn:l.length<=256) (ht:t=[]\/l=[]):zh8 l.length (zi9 l++t)= .ok l t:=by
 have h1:=uniq_length_le l;unfold zh8 zi9;rw[yal,zfG (by omega)]
 simp only;rw[yal,zmn _ (λn hm=>h n (uniq_mem.1 hm)) (uniq_rises l)]
 by_cases h0:l=[]
 ·subst h0
  rw[yag (by simp[uniq])]
  simp only[yat,znn,ya6];rw[show zaJ (uniq []) []=[] from rfl,ztI];rfl
 ·have hu:=zkm h0
  have hl:l.length≠0:=by simpa using h0
  have hpl:(zaJ (uniq l) l).length=l.length:=by simp[zaJ]
  have htn:t=[]:=by
   rcases ht with h | h
   ·exact h
   ·exact absurd h h0
  rw[yag (by omega)]
  simp only[znn,yag hl];rw[<- ziQ h0 hn,htn,yaq,<- hpl,zdR (zfz (ze7 hn) (yaf _))];simp only;rw[yaj]
  ·congr 1
   unfold zaJ;rw[yaL]
   conv=>rhs;rw[<- ycR l]
   apply yaX;intro x hx;exact zoS (uniq_mem.2 hx)
  ·intro q hq
   unfold zaJ at hq;rw[ycf]at hq;obtain⟨x,hx,rfl⟩:=hq;exact zhf (uniq_mem.2 hx)
def ztK {l:List Int} {t:List UInt8} (h: ∀n∈l,zai n) (hn:l.length<=256) (ht:t≠[]) (h0:l≠[]):zh8 l.length (zi9 l++t)= .err 32:=by
 have h1:=uniq_length_le l;have hu:=zkm h0;have hl:l.length≠0:=by simpa using h0
 have hpl:(zaJ (uniq l) l).length=l.length:=by simp[zaJ]
 unfold zh8 zi9;rw[yal,zfG (by omega)]
 simp only;rw[yal,zmn _ (λn hm=>h n (uniq_mem.1 hm)) (uniq_rises l),yag (by omega)]
 simp only[znn,yag hl];rw[<- ziQ h0 hn,<- hpl,ziP ht]
def znp {l:List Int} (t:List UInt8) (h: ∀n∈l,zai n) (hn:l.length<=256) (ht:t=[]\/l=[]):zdD l.length (zb3 l++t)= .ok l t:=by
 unfold zdD zb3
 by_cases h0:l=[]
 ·subst h0;rfl
 ·have hl:l.length≠0:=by simpa using h0
  have htn:t=[]:=by
   rcases ht with h | h
   ·exact h
   ·exact absurd h h0
  have hm:=h _ (zeA h0);have hml:(zbI l).length=l.length:=by simp[zbI]
  have hw:=zbN (zfC h);rw[yag hl,yag h0,htn,yaq,zfH hm];simp only;rw[zfG (by omega)]
  simp only;rw[yag (by omega),<- hml,zdR (zfz (zfC h) (yaf _)),PR.map_ok]
  congr 1;unfold zbI;rw[yaL]
  conv=>rhs;rw[<- ycR l]
  apply yaX;intro x hx;have h1:=znl x hx;have h2:=h x hx;unfold zai at h2;simp only[Function.comp,id];rw[show znU l+(((x - znU l).toNat:Nat):Int)=x by omega,wI (by omega) (by omega)]
def zqF {l:List Int} {t:List UInt8} (h: ∀n∈l,zai n) (ht:t≠[]) (h0:l≠[]):zdD l.length (zb3 l++t)= .err 32:=by
 have hl:l.length≠0:=by simpa using h0
 have hm:=h _ (zeA h0);have hml:(zbI l).length=l.length:=by simp[zbI]
 have hw:=zbN (zfC h);unfold zdD zb3;rw[yag hl,yag h0,yal,zfH hm];simp only;rw[yal,zfG (by omega)]
 simp only;rw[yag (by omega),<- hml,ziP ht];rfl
end Go.Am.Ab
namespace Go.Am.Ab
set_option maxHeartbeats 4000000
def zoU {c:Nat} {l:List Int} (t:List UInt8) (hc:c<5) (h: ∀n∈l,zai n) (hn:l.length<=256) (ht:c<=2\/t=[]\/l=[]):zgB c l.length (zfD c l++t)= .ok l t:=by
 have hcc:c=0\/c=1\/c=2\/c=3\/c=4:=by omega
 rcases hcc with rfl | rfl | rfl | rfl | rfl
 ·exact zmk l 0 t h
 ·exact zml l 0 t h
 ·exact ztH l.length l.length l t rfl (yaf _) (by omega) h
 ·exact ztJ t h hn (by rcases ht with h | h;omega;exact h)
 ·exact znp t h hn (by rcases ht with h | h;omega;exact h)
def ztL {c:Nat} {l:List Int} {t:List UInt8} (hc:c<5) (hc2:2<c) (h: ∀n∈l,zai n) (hn:l.length<=256) (ht:t≠[]) (h0:l≠[]):zgB c l.length (zfD c l++t)= .err 32:=by
 have hcc:c=3\/c=4:=by omega
 rcases hcc with rfl | rfl
 ·exact ztK h hn ht h0
 ·exact zqF h ht h0
def zmo {c:Nat} (hc:c<5) (r:List UInt8) (n:Nat) (hn:n<=256):zb5 (u8n c::r) n=zz2 c n r:=by
 unfold zb5;rw[yag (by omega)]
 simp only;rw[zcM (by omega),yag (by omega),yaB]
def ztM {c:Nat} {l:List Int} (hc:c<5) (h: ∀n∈l,zai n) (hn:l.length<=256):zb5 (u8n c::zfD c l) l.length=(l,0):=by
 rw[zmo hc _ _ hn];unfold zz2;have:=zoU [] hc h hn (.inr (.inl rfl));rw[yaq]at this;rw[this];simp
def ztN {c:Nat} {l:List Int} {t:List UInt8} (hc:c<5) (h: ∀n∈l,zai n) (hn:l.length<=256) (ht:t≠[]):zb5 (u8n c::(zfD c l++t)) l.length=([],32):=by
 rw[zmo hc _ _ hn];unfold zz2
 by_cases h2:c<=2\/l=[]
 ·rw[zoU t hc h hn (by rcases h2 with h | h;exact .inl h;exact .inr (.inr h))]
  simp[ht]
 ·rw[ztL hc (by omega) h hn ht (λe=>h2 (.inr e))]
def zkq (l:List Int): ∀k,0<k->k<=5->(∃c,c<5/\zaQ l k=u8n c::zfD c l)/\ ∀c,c<k->(zaQ l k).length<=(zfD c l).length+1
 |0,h,_=>by omega
 |k+1,_,h5=>by
  by_cases h0:k=0
  ·subst h0
   refine⟨⟨0,by omega,by rw[zaQ,yaj (.inl rfl)]⟩,λc hc=> ?_⟩
   rw[zaQ,yaj (.inl rfl),show c=0 by omega];simp
  ·obtain⟨⟨c,h1,h2⟩,h3⟩:=zkq l k (by omega) (by omega)
   rw[zaQ];split
   ·rename_i h4
    refine⟨⟨k,by omega,rfl⟩,λc' hc'=> ?_⟩
    rcases h4 with h4 | h4
    ·omega
    ·by_cases e:c'=k
     ·subst e;simp
     ·have:=h3 c' (by omega)
      simp only[yad];omega
   ·rename_i h4
    refine⟨⟨c,h1,h2⟩,λc' hc'=> ?_⟩
    by_cases e:c'=k
    ·subst e;omega
    ·exact h3 c' (by omega)
def zoV (l:List Int):(∃c,c<5/\zbp l=u8n c::zfD c l)/\ ∀c,c<5->(zbp l).length<=(zfD c l).length+1:=zkq l 5 (by omega) (yaf _)
def zh9 {l:List Int} (h: ∀n∈l,zai n) (hn:l.length<=256):zb5 (zbp l) l.length=(l,0):=by
 obtain⟨⟨c,hc,e⟩,_⟩:=zoV l;rw[e];exact ztM hc h hn
def PR.map_inv {α β:Type} {f:α->β} {p:PR α} {b:β} {r:List UInt8} (h:p.map f= .ok b r): ∃a,p= .ok a r/\f a=b:=by
 cases p with
 |err e=>cases h
 |ok a r'=>cases h;exact⟨a,rfl,rfl⟩
def zqG: ∀ (k:Nat) (dl:Bool) (a:Int) (b r:List UInt8) (l:List Int),zko dl k a b= .ok l r->l.length=k/\ ∀n∈l,zai n
 |0,dl,a,b,r,l,h=>by cases h;simp
 |k+1,dl,a,b,r,l,h=>by
  rw[zko]at h;split at h
  ·cases h
  ·rename_i x r2 hx
   obtain⟨l2,h2,rfl⟩:=PR.map_inv h;obtain⟨h3,h4⟩:=zqG k dl _ _ _ _ h2;refine⟨by simp[h3],λn hn=> ?_⟩
   rcases List.mem_cons.1 hn with rfl | hn
   ·cases dl with
    |true=>exact zdQ _
    |false=>exact zno hx
   ·exact h4 n hn
def zrW: ∀ (f m:Nat) (b r:List UInt8) (l:List Int),m<=f->zfZ f m b= .ok l r->l.length=m/\ ∀n∈l,zai n
 |f,0,b,r,l,_,h=>by cases f <;> (cases h;simp)
 |0,m+1,b,r,l,hf,h=>by omega
 |f+1,m+1,b,r,l,hf,h=>by
  rw[zfZ]at h;split at h
  ·cases h
  ·rename_i x r2 hx
   split at h
   ·cases h
   ·rename_i k r3 hk
    split at h
    ·cases h
    ·rename_i hkm
     obtain⟨l2,h2,rfl⟩:=PR.map_inv h;obtain⟨h3,h4⟩:=zrW f (m+1 - k) _ _ _ (by omega) h2
     refine⟨by simp[h3];omega,λn hn=> ?_⟩
     rcases List.mem_append.1 hn with hn | hn
     ·rw[(List.mem_replicate.1 hn).2];exact zno hx
     ·exact h4 n hn
def zrX: ∀ (k:Nat) (a:Int) (b r:List UInt8) (l:List Int),zai a->zh7 k a b= .ok l r->l.length=k/\ ∀n∈l,zai n
 |0,a,b,r,l,_,h=>by cases h;simp
 |k+1,a,b,r,l,ha,h=>by
  rw[zh7]at h;split at h
  ·cases h
  ·rename_i d r2 hd
   split at h
   ·cases h
   ·rename_i hc
    obtain⟨l2,h2,rfl⟩:=PR.map_inv h;have had:zai (a+d):=by unfold zai at ha ⊢;omega
    obtain⟨h3,h4⟩:=zrX k _ _ _ _ had h2;refine⟨by simp[h3],λn hn=> ?_⟩
    rcases List.mem_cons.1 hn with rfl | hn
    ·exact had
    ·exact h4 n hn
def zxZ {many:Nat} {b r:List UInt8} {l:List Int} (h:zhg many b= .ok l r):l.length=many/\ ∀n∈l,zai n:=by
 unfold zhg at h;split at h
 ·cases h;simp_all
 ·rename_i h0
  split at h
  ·cases h
  ·rename_i x r2 hx
   obtain⟨l2,h2,rfl⟩:=PR.map_inv h;obtain⟨h3,h4⟩:=zrX _ _ _ _ _ (zno hx) h2;refine⟨by simp[h3];omega,λn hn=> ?_⟩
   rcases List.mem_cons.1 hn with rfl | hn
   ·exact zno hx
   ·exact h4 n hn
def zmp {n w:Nat} {b r:List UInt8} {p:List Nat} (h:zb4 n w b= .ok p r):r=[]/\p.length=n:=by
 unfold zb4 at h;split at h
 ·cases h
 ·split at h
  ·cases h
  ·split at h
   ·cases h;simp
   ·cases h
def zx0 {n:Nat} {b r:List UInt8} {l:List Int} (h:zh8 n b= .ok l r):l.length=n/\ ∀n∈l,zai n:=by
 unfold zh8 at h;split at h
 ·cases h
 ·rename_i many r1 hm
  split at h
  ·cases h
  ·rename_i hc
   split at h
   ·cases h
   ·rename_i u r2 hu
    obtain⟨u1,u2⟩:=zxZ hu;unfold znn at h;split at h
    ·cases h;simp_all
    ·split at h
     ·cases h
     ·rename_i p r3 hp
      split at h
      ·rename_i hq
       cases h;refine⟨by simp[(zmp hp).2],λx hx=> ?_⟩
       rw[ycf]at hx;obtain⟨q,hq1,rfl⟩:=hx;have:=hq q hq1;rw[<- get_at (by omega:q<u.length)]
       exact u2 _ (yam _)
      ·cases h
def zvn {n:Nat} {b r:List UInt8} {l:List Int} (h:zdD n b= .ok l r):l.length=n/\ ∀n∈l,zai n:=by
 unfold zdD at h;split at h
 ·cases h;simp_all
 ·split at h
  ·cases h
  ·split at h
   ·cases h
   ·split at h
    ·cases h
    ·obtain⟨p,h2,rfl⟩:=PR.map_inv h
     refine⟨by simp[(zmp h2).2],λx hx=> ?_⟩
     rw[ycf]at hx;obtain⟨q,_,rfl⟩:=hx;exact zdQ _
def znq {c n:Nat} {b r:List UInt8} {l:List Int} (h:zgB c n b= .ok l r):l.length=n/\ ∀n∈l,zai n:=by
 unfold zgB at h;split at h
 ·exact zqG _ _ _ _ _ _ h
 ·exact zqG _ _ _ _ _ _ h
 ·exact zrW _ _ _ _ _ (yaf _) h
 ·exact zx0 h
 ·exact zvn h
def zjn {b:List UInt8} {e:Nat} (h:ztG b= .err e):e≠0:=by
 unfold ztG at h;split at h
 ·cases h
 ·cases h;assumption
def zjo {b:List UInt8} {e:Nat} (h:zpZ b= .err e):e≠0:=by
 unfold zpZ at h;split at h
 ·cases h
 ·cases h;assumption
def PR.map_err_inv {α β:Type} {f:α->β} {p:PR α} {e:Nat} (h:p.map f= .err e):p= .err e:=by
 cases p with
 |err e=>cases h;rfl
 |ok a r'=>cases h
def znr: ∀ (k:Nat) (dl:Bool) (a:Int) (b:List UInt8) (e:Nat),zko dl k a b= .err e->e≠0
 |0,dl,a,b,e,h=>by cases h
 |k+1,dl,a,b,e,h=>by
  rw[zko]at h;split at h
  ·rename_i h1;cases h;exact zjo h1
  ·exact znr k dl _ _ _ (PR.map_err_inv h)
def zoW: ∀ (f m:Nat) (b:List UInt8) (e:Nat),zfZ f m b= .err e->e≠0
 |f,0,b,e,h=>by cases f <;> cases h
 |0,m+1,b,e,h=>by cases h;decide
 |f+1,m+1,b,e,h=>by
  rw[zfZ]at h;split at h
  ·rename_i h1;cases h;exact zjo h1
  ·split at h
   ·rename_i h1;cases h;exact zjn h1
   ·split at h
    ·cases h;decide
    ·exact zoW f _ _ _ (PR.map_err_inv h)
def zoX: ∀ (k:Nat) (a:Int) (b:List UInt8) (e:Nat),zh7 k a b= .err e->e≠0
 |0,a,b,e,h=>by cases h
 |k+1,a,b,e,h=>by
  rw[zh7]at h;split at h
  ·rename_i h1;cases h;exact zjn h1
  ·split at h
   ·cases h;decide
   ·exact zoX k _ _ _ (PR.map_err_inv h)
def zeB {n w:Nat} {b:List UInt8} {e:Nat} (h:zb4 n w b= .err e):e≠0:=by
 unfold zb4 at h;split at h
 ·cases h;decide
 ·split at h
  ·cases h;decide
  ·split at h
   ·cases h
   ·cases h;decide
def zvo {many:Nat} {b:List UInt8} {e:Nat} (h:zhg many b= .err e):e≠0:=by
 unfold zhg at h;split at h
 ·cases h
 ·split at h
  ·rename_i h1;cases h;exact zjo h1
  ·exact zoX _ _ _ _ (PR.map_err_inv h)
def zvp {n many:Nat} {u:List Int} {b:List UInt8} {e:Nat} (h:znn n many u b= .err e):e≠0:=by
 unfold znn at h;split at h
 ·cases h
 ·split at h
  ·rename_i h1;cases h;exact zeB h1
  ·split at h
   ·cases h
   ·cases h;decide
def zvq {n:Nat} {b:List UInt8} {e:Nat} (h:zh8 n b= .err e):e≠0:=by
 unfold zh8 at h;split at h
 ·rename_i h1;cases h;exact zjn h1
 ·split at h
  ·cases h;decide
  ·split at h
   ·rename_i h1;cases h;exact zvo h1
   ·exact zvp h
def ztO {n:Nat} {b:List UInt8} {e:Nat} (h:zdD n b= .err e):e≠0:=by
 unfold zdD at h;split at h
 ·cases h
 ·split at h
  ·rename_i h1;cases h;exact zjo h1
  ·split at h
   ·rename_i h1;cases h;exact zjn h1
   ·split at h
    ·cases h;decide
    ·exact zeB (PR.map_err_inv h)
def zoY {c n:Nat} {b:List UInt8} {e:Nat} (h:zgB c n b= .err e):e≠0:=by
 unfold zgB at h;split at h
 ·exact znr _ _ _ _ _ h
 ·exact znr _ _ _ _ _ h
 ·exact zoW _ _ _ _ h
 ·exact zvq h
 ·exact ztO h
end Go.Am.Ab
