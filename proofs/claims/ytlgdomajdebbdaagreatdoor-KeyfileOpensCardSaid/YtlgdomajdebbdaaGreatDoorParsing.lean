/- What bytes of a list are read as: plain law. -/
import Derived.Test.YtlgdomajdebbdaaGreatDoorRefInts
set_option linter.all false
namespace Go.Am.Ab
open Go.Proofs
set_option maxHeartbeats 4000000
inductive PR (α:Type) where
 |err (e:Nat)
 |ok (a:α) (r:List UInt8)
def PR.map {α β:Type} (f:α->β):PR α->PR β
 |.err e=> .err e
 |.ok a r=> .ok (f a) r
@[simp] def PR.map_err {α β:Type} (f:α->β) (e:Nat):(PR.err e:PR α).map f= .err e:=rfl
@[simp] def PR.map_ok {α β:Type} (f:α->β) (a:α) (r:List UInt8):(PR.ok a r).map f= .ok (f a) r:=rfl
def PR.map_map {α β γ:Type} (f:α->β) (g:β->γ) (p:PR α):(p.map f).map g=p.map (λa=>g (f a)):=by cases p <;> rfl
def PR.map_id {α:Type} {f:α->α} (h: ∀a,f a=a) (p:PR α):p.map f=p:=by
 cases p with
 |err e=>rfl
 |ok a r=>simp[h]
def zni (b:List UInt8):PR Nat:=if (get b).2.2=0 then .ok (get b).1 (b.drop (get b).2.1) else .err (get b).2.2
def zld (b:List UInt8):PR Int:=if (get b).2.2=0 then .ok (zag (get b).1) (b.drop (get b).2.1) else .err (get b).2.2
def zfQ (dl:Bool):Nat->Int->List UInt8->PR (List Int)
 |0,_,b=> .ok [] b
 |k+1,a,b=>
  match zld b with
  |.err e=> .err e
  |.ok x r=>(zfQ dl k (if dl then IntKind.i64.wrap (x+a) else x) r).map ((if dl then IntKind.i64.wrap (x+a) else x):: ·)
def zcr:Nat->Nat->List UInt8->PR (List Int)
 |_,0,b=> .ok [] b
 |0,_,_=> .err 40
 |f+1,m+1,b=>
  match zld b with
  |.err e=> .err e
  |.ok x r=>
   match zni r with
   |.err e=> .err e
   |.ok k r2=>if k=0\/m+1<k then .err 40 else (zcr f (m+1 - k) r2).map (List.replicate k x++ ·)
def zfR:Nat->Int->List UInt8->PR (List Int)
 |0,_,b=> .ok [] b
 |k+1,a,b=>
  match zni b with
  |.err e=> .err e
  |.ok d r=>if d=0\/9223372036854775807<a+d then .err 40 else (zfR k (a+d) r).map ((a+d):: ·)
def za6 (n w:Nat) (b:List UInt8):PR (List Nat):=
 if b.length<(n*w+7) / 8 then .err 30 else if (n*w+7) / 8<b.length then .err 32 else if num b<2 ^ (n*w) then .ok (ups w (num b) n) [] else .err 40
def zeT (many:Nat) (b:List UInt8):PR (List Int):=
 if many=0 then .ok [] b else
 match zld b with
 |.err e=> .err e
 |.ok x r=>(zfR (many - 1) x r).map (x:: ·)
def zg1 (n many:Nat) (u:List Int) (b:List UInt8):PR (List Int):=
 if n=0 then .ok [] b else
 match za6 n (za9 (many - 1)) b with
 |.err e=> .err e
 |.ok p r=>if ∀q∈p,q<many then .ok (p.map (at' u)) r else .err 40
def zeA (n:Nat) (b:List UInt8):PR (List Int):=
 match zni b with
 |.err e=> .err e
 |.ok many r=>
  if n<many\/many=0/\0<n then .err 40 else
  match zeT many r with
  |.err e=> .err e
  |.ok u r2=>zg1 n many u r2
def zcy (n:Nat) (b:List UInt8):PR (List Int):=
 if n=0 then .ok [] b else
 match zld b with
 |.err e=> .err e
 |.ok x r=>
  match zni r with
  |.err e=> .err e
  |.ok w r2=>
   if 64<w then .err 40 else
   (za6 n w r2).map (λp=>p.map λ(q:Nat)=>IntKind.i64.wrap (x+q))
def zen (c n:Nat) (b:List UInt8):PR (List Int):=match c with
 |0=>zfQ false n 0 b
 |1=>zfQ true n 0 b
 |2=>zcr n n b
 |3=>zeA n b
 |_=>zcy n b
def zuc (c n:Nat) (b:List UInt8):List Int × Nat:=
 match zen c n b with
 |.err e=>([],e)
 |.ok l r=>if r≠[] then ([],32) else if zdu c l=b then (l,0) else ([],40)
def zaV (b:List UInt8) (n:Int):List Int × Nat:=
 if n<0\/256<n then ([],1) else
 match b with
 |[]=>([],30)
 |c::r=>if 4<c.toNat then ([],50) else zuc c.toNat n.toNat r
def zhv: ∀ (b:List UInt8) (i n:Nat),(zaU i n b).2.1<=i+b.length
 |[],_,_=>by simp[zaU]
 |c::r,i,n=>by
  have:=zhv r (i+1) (n+(c.toNat % 128)*2 ^ (7*i));rw[zaU];simp only[List.length_cons];split
  ·simp
  ·split
   ·split
    ·simp
    ·simp only;omega
   ·omega
def zcL (b:List UInt8):(get b).2.1<=b.length:=by
 have:=zhv b 0 0;unfold get;omega
def ziW: ∀ (b:List UInt8) (i n:Nat),(zaU i n b).2.2=0\/(zaU i n b)=(0,0,30)\/(zaU i n b)=(0,0,31)
 |[],_,_=>by simp[zaU]
 |c::r,i,n=>by
  have:=ziW r (i+1) (n+(c.toNat % 128)*2 ^ (7*i));rw[zaU];split
  ·simp
  ·split
   ·split
    ·simp
    ·simp
   ·exact this
def zr1 (b:List UInt8):(get b).2.2=0\/get b=(0,0,30)\/get b=(0,0,31):=ziW b 0 0
def zeU {n:Nat} (h:n<18446744073709551616):zah (zag n):=by
 unfold zah zag;split <;> omega
def zle {b r:List UInt8} {x:Int} (h:zld b= .ok x r):zah x:=by
 unfold zld at h;split at h
 ·cases h;exact zeU (zbq b)
 ·cases h
end Go.Am.Ab
namespace Go.Am.Ab
set_option maxHeartbeats 4000000
def znT (n:Nat): ∀ (i acc:Nat) (t:List UInt8),n*2 ^ (7*i)<18446744073709551616->(0<i->0<n)->i<=9->zaU i acc (put n++t)=(acc+n*2 ^ (7*i),i+(put n).length,0):=by
 induction n using Nat.strongRecOn with
 |_ n ih=>
 intro i acc t hb h0 hi
 by_cases h:n<128
 ·rw[zc7 h,List.cons_append,List.nil_append,zaU,zce (by omega)]
  have h9: ¬ (i=9/\1<n):=by
   rintro ⟨rfl,h1⟩
   have:2*2 ^ (7*9)<=n*2 ^ (7*9):=Nat.mul_le_mul_right _ h1;simp at this;omega
  rw[if_neg h9,if_pos h,if_neg (by omega)]
  simp
 ·rw[zmo (by omega),List.cons_append,zaU,zce (by omega)]
  have h9:i≠9:=by
   rintro rfl
   have:128*2 ^ (7*9)<=n*2 ^ (7*9):=Nat.mul_le_mul_right _ (by omega)
   simp at this;omega
  rw[if_neg (by omega),if_neg (by omega)]
  have hp:2 ^ (7*(i+1))=128*2 ^ (7*i):=by rw[Nat.mul_add,Nat.pow_add,Nat.mul_comm]
  obtain⟨P,hP⟩: ∃P,P=2 ^ (7*i):=⟨_,rfl⟩;have hd:n*P=n / 128*(128*P)+n % 128*P:=by
   have:=Nat.div_add_mod n 128
   calc n*P=(128*(n / 128)+n % 128)*P:=by rw[this]
    _=_:=by rw[Nat.add_mul,Nat.mul_comm 128,Nat.mul_assoc]
  rw[ih (n / 128) (by omega) (i+1) _ t (by rw[hp,<- hP];rw[<- hP]at hb;omega) (λ_=>by omega) (by omega)]
  rw[hp,<- hP,hd];simp only[List.length_cons,Prod.mk.injEq];refine⟨?_, ?_,trivial⟩
  ·rw[show (n % 128+128) % 128=n % 128 by omega];omega
  ·omega
def zeV {n:Nat} (h:n<18446744073709551616) (t:List UInt8):get (put n++t)=(n,(put n).length,0):=by
 unfold get;rw[znT n 0 0 t (by simpa using h) (λh=>by omega) (by omega)]
 simp
def zfh {n:Nat} (h:n<18446744073709551616) (t:List UInt8):zni (put n++t)= .ok n t:=by
 unfold zni;rw[zeV h];simp
def zvK {x:Int}:zag (zig x)=x:=by
 unfold zag zig;split <;> split <;> omega
def zfi {x:Int} (h:zah x) (t:List UInt8):zld (za1 x++t)= .ok x t:=by
 unfold zld za1;rw[zeV (zoZ h.1 h.2)];simp[zvK]
def zkl: ∀ (l:List Int) (a:Int) (t:List UInt8),(∀n∈l,zah n)->zfQ false l.length a (zbv l++t)= .ok l t
 |[],_,t,_=>rfl
 |x::r,a,t,h=>by
  rw[zfN,List.append_assoc,List.length_cons,zfQ,zfi (h x (by simp))]
  simp only[Bool.false_eq_true,if_false];rw[zkl r _ t λn hn=>h n (by simp[hn])];rfl
def zr2 {n a:Int} (h:zah n):IntKind.i64.wrap (IntKind.i64.wrap (n - a)+a)=n:=by
 unfold zah at h;rw[zat,zat];split <;> split <;> omega
def zkm: ∀ (l:List Int) (a:Int) (t:List UInt8),(∀n∈l,zah n)->zfQ true l.length a (zbv (zcK a l)++t)= .ok l t
 |[],_,t,_=>rfl
 |x::r,a,t,h=>by
  rw[zcK,zfN,List.append_assoc,List.length_cons,zfQ,zfi (zcS _)];simp only[if_true];rw[zr2 (h x (by simp)),zkm r _ t λn hn=>h n (by simp[hn])];rfl
def zpa (x:Int): ∀l:List Int,l=List.replicate (cnt x l) x++l.drop (cnt x l)
 |[]=>by simp[cnt]
 |y::r=>by
  by_cases h:y=x
  ·subst h
   rw[cnt,if_pos rfl,List.replicate_succ,List.drop_succ_cons,List.cons_append,<- zpa y r]
  ·rw[cnt,if_neg h];simp
def zqm (m:Nat): ∀ (f:Nat) (l:List Int) (t:List UInt8),l.length=m->m<=f->m<=1000000->(∀n∈l,zah n)->zcr f m (zcT l++t)= .ok l t:=by
 induction m using Nat.strongRecOn with
 |_ m ih=>
 intro f l t hl hf hm h;cases l with
 |nil=>
  simp only[List.length_nil]at hl;subst hl;cases f <;> rfl
 |cons x r=>
  obtain⟨m,rfl⟩: ∃k,m=k+1:=⟨m - 1,by simp at hl;omega⟩
  obtain⟨f,rfl⟩: ∃k,f=k+1:=⟨f - 1,by omega⟩
  have hc:=zo1 x (x::r);have hc1:1<=cnt x (x::r):=by simp[cnt]
  have ht:=zpa x (x::r);rw[zgT rfl,List.append_assoc,List.append_assoc];obtain⟨k,hk⟩: ∃k,k=cnt x (x::r):=⟨_,rfl⟩;rw[<- hk]at hc hc1 ht ⊢;rw[zcr,zfi (h x (by simp))]
  simp only;rw[zfh (by omega)]
  simp only;rw[if_neg (by omega),ih (m+1 - k) (by omega) f _ t (by rw[List.length_drop,hl]) (by omega) (by omega) λn hn=>h n (List.mem_of_mem_drop hn)]
  rw[PR.map_ok,<- ht]
end Go.Am.Ab
namespace Go.Am.Ab
set_option maxHeartbeats 4000000
def zud (w N i:Nat):ups w N (i+1)=N % 2 ^ w::ups w (N / 2 ^ w) i:=by
 unfold ups;rw[List.range_succ_eq_map,List.map_cons,List.map_map];congr 1
 ·simp
 ·apply List.map_congr_left
  intro j _;simp only[Function.comp];rw[Nat.div_div_eq_div_mul,<- Nat.pow_add,show (j+1)*w=w+j*w by rw[Nat.add_mul,Nat.one_mul,Nat.add_comm]]
def zpb (w:Nat): ∀p:List Nat,(∀n∈p,n<2 ^ w)->ups w (zbz w p) p.length=p
 |[],_=>rfl
 |n::r,h=>by
  have hn:=h n (by simp)
  rw[List.length_cons,zud,zbz];have hp:0<2 ^ w:=Nat.two_pow_pos w;have e1:(n+2 ^ w*zbz w r) % 2 ^ w=n:=by rw[Nat.add_mul_mod_self_left,Nat.mod_eq_of_lt hn]
  have e2:(n+2 ^ w*zbz w r) / 2 ^ w=zbz w r:=by rw[Nat.add_mul_div_left _ _ hp,Nat.div_eq_of_lt hn,Nat.zero_add]
  rw[e1,e2,zpb w r λm hm=>h m (by simp[hm])]
def zcM (w:Nat) (p:List Nat):(zbd w p).length=(p.length*w+7) / 8:=by
 unfold zbd;rw[ziF]
def zdS {w:Nat} {p:List Nat} (h: ∀n∈p,n<2 ^ w):za6 p.length w (zbd w p)= .ok p []:=by
 have hl:=zcM w p;have hlt:=zhV w p h;unfold za6;rw[if_neg (by omega),if_neg (by omega)]
 have hn:num (zbd w p)=zbz w p:=by
  unfold zbd;refine zuZ _ _ (Nat.lt_of_lt_of_le hlt (Nat.pow_le_pow_right (by decide) ?_))
  omega
 rw[hn,if_pos hlt,zpb w p h]
def zhw {w:Nat} {p:List Nat} {t:List UInt8} (ht:t≠[]):za6 p.length w (zbd w p++t)= .err 32:=by
 have hl:=zcM w p;have:=List.length_pos_iff.2 ht;unfold za6;rw[List.length_append,if_neg (by omega),if_pos (by omega)]
def zkn: ∀ (l:List Int) (a:Int) (t:List UInt8),zah a->(∀n∈l,zah n)->(∀n∈l,a<n)->Rises l->zfR l.length a (zo6 a l++t)= .ok l t
 |[],_,t,_,_,_,_=>rfl
 |x::r,a,t,ha,h,hlt,hr=>by
  have hx:=h x (by simp)
  have h1:=hlt x (by simp)
  unfold zah at ha hx;obtain⟨d,hd⟩: ∃d:Nat,(d:Int)=x - a:=⟨(x - a).toNat,by omega⟩
  have hdd:(x - a).toNat=d:=by omega
  rw[zo6,hdd,List.append_assoc,List.length_cons,zfR,zfh (by omega)]
  simp only;rw[if_neg (by omega),show a+(d:Int)=x by omega,zkn r x t (h x (by simp)) (λn hn=>h n (by simp[hn])) hr.1 hr.2]
  rfl
def zko {u:List Int} (t:List UInt8) (h: ∀n∈u,zah n) (hr:Rises u):zeT u.length (zbH u++t)= .ok u t:=by
 unfold zeT;cases u with
 |nil=>rfl
 |cons x r=>
  rw[List.length_cons,if_neg (by omega),zbH,List.append_assoc,zfi (h x (by simp))]
  simp only;rw[Nat.add_sub_cancel,zkn r x t (h x (by simp)) (λn hn=>h n (by simp[hn])) hr.1 hr.2]
  rfl
def zmC {l:List Nat} {m:Nat} (hl: ∀n∈l,n<18446744073709551616):zba l<=m↔ ∀n∈l,n<2 ^ m:=by
 constructor
 ·intro h;exact ze9 hl h
 ·intro h
  have key: ∀ (l:List Nat) (a:Nat),a<=m->(∀n∈l,n<18446744073709551616)->(∀n∈l,n<2 ^ m)->l.foldl (λw n=>max w (za9 n)) a<=m:=by
   intro l
   induction l with
   |nil=>intro a ha _ _;exact ha
   |cons x r ih=>
    intro a ha h1 h2;rw[List.foldl_cons];refine ih _ ?_ (λn hn=>h1 n (by simp[hn])) (λn hn=>h2 n (by simp[hn]))
    have:=(zaT (m:=m) (h1 x (by simp))).2 (h2 x (by simp))
    omega
  exact key l 0 (Nat.zero_le _) hl h
def zzQ {u:List Int} {i:Nat} (hr:Rises u) (hi:i<u.length):idx u (at' u i)=i:=by
 have hm:at' u i∈u:=by rw[<- get_at hi];exact List.getElem_mem _
 have h1:=zmA hm;have h2:=zgk hm;have hur:=rises_iff.1 hr
 by_cases c:idx u (at' u i)<i
 ·have:=hur _ i c hi;omega
 ·by_cases c2:i<idx u (at' u i)
  ·have:=hur i _ c2 h2;omega
  ·omega
def zhx {l:List Int} (h0:l≠[]) (hn:l.length<=256):zba (zaJ (uniq l) l)=za9 ((uniq l).length - 1):=by
 have hpm:=zeR hn;have h1:=uniq_length_le l;have hu:=ziS h0;have hmem:(uniq l).length - 1∈zaJ (uniq l) l:=by
  unfold zaJ;rw[List.mem_map];refine⟨at' (uniq l) ((uniq l).length - 1),uniq_mem.1 (by rw[<- get_at (by omega:(uniq l).length - 1<(uniq l).length)];exact List.getElem_mem _),zzQ (uniq_rises l) (by omega)⟩
 have hle: ∀q∈zaJ (uniq l) l,q<=(uniq l).length - 1:=by
  intro q hq;unfold zaJ at hq;rw[List.mem_map]at hq;obtain⟨x,hx,rfl⟩:=hq;have:=zgk (uniq_mem.2 hx);omega
 apply Nat.le_antisymm
 ·rw[zmC hpm]
  intro q hq;have:=(zaT (m:=za9 ((uniq l).length - 1)) (by omega:(uniq l).length - 1<18446744073709551616)).1 (Nat.le_refl _)
  have:=hle q hq;omega
 ·rw[zaT (by omega)]
  exact ze9 hpm (Nat.le_refl _) _ hmem
def zqn (w:Nat):zbd w []=[]:=by
 have:=zcM w [];simpa using this
def zqo {l:List Int} (t:List UInt8) (h: ∀n∈l,zah n) (hn:l.length<=256) (ht:t=[]\/l=[]):zeA l.length (zgY l++t)= .ok l t:=by
 have h1:=uniq_length_le l;unfold zeA zgY;rw[List.append_assoc,zfh (by omega)]
 simp only;rw[List.append_assoc,zko _ (λn hm=>h n (uniq_mem.1 hm)) (uniq_rises l)]
 by_cases h0:l=[]
 ·subst h0
  rw[if_neg (by simp[uniq])]
  simp only[List.length_nil,zg1,if_true];rw[show zaJ (uniq []) []=[] from rfl,zqn];rfl
 ·have hu:=ziS h0
  have hl:l.length≠0:=by simpa using h0
  have hpl:(zaJ (uniq l) l).length=l.length:=by simp[zaJ]
  have htn:t=[]:=by
   rcases ht with h | h
   ·exact h
   ·exact absurd h h0
  rw[if_neg (by omega)]
  simp only[zg1,if_neg hl];rw[<- zhx h0 hn,htn,List.append_nil,<- hpl,zdS (ze9 (zeR hn) (Nat.le_refl _))];simp only;rw[if_pos]
  ·congr 1
   unfold zaJ;rw[List.map_map]
   conv=>rhs;rw[<- List.map_id l]
   apply List.map_congr_left;intro x hx;exact zmA (uniq_mem.2 hx)
  ·intro q hq
   unfold zaJ at hq;rw[List.mem_map]at hq;obtain⟨x,hx,rfl⟩:=hq;exact zgk (uniq_mem.2 hx)
def zqp {l:List Int} {t:List UInt8} (h: ∀n∈l,zah n) (hn:l.length<=256) (ht:t≠[]) (h0:l≠[]):zeA l.length (zgY l++t)= .err 32:=by
 have h1:=uniq_length_le l;have hu:=ziS h0;have hl:l.length≠0:=by simpa using h0
 have hpl:(zaJ (uniq l) l).length=l.length:=by simp[zaJ]
 unfold zeA zgY;rw[List.append_assoc,zfh (by omega)]
 simp only;rw[List.append_assoc,zko _ (λn hm=>h n (uniq_mem.1 hm)) (uniq_rises l),if_neg (by omega)]
 simp only[zg1,if_neg hl];rw[<- zhx h0 hn,<- hpl,zhw ht]
def zlf {l:List Int} (t:List UInt8) (h: ∀n∈l,zah n) (hn:l.length<=256) (ht:t=[]\/l=[]):zcy l.length (zbO l++t)= .ok l t:=by
 unfold zcy zbO
 by_cases h0:l=[]
 ·subst h0;rfl
 ·have hl:l.length≠0:=by simpa using h0
  have htn:t=[]:=by
   rcases ht with h | h
   ·exact h
   ·exact absurd h h0
  have hm:=h _ (zek h0);have hml:(zbA l).length=l.length:=by simp[zbA]
  have hw:=zbN (zfc h);rw[if_neg hl,if_neg h0,htn,List.append_nil,zfi hm];simp only;rw[zfh (by omega)]
  simp only;rw[if_neg (by omega),<- hml,zdS (ze9 (zfc h) (Nat.le_refl _)),PR.map_ok]
  congr 1;unfold zbA;rw[List.map_map]
  conv=>rhs;rw[<- List.map_id l]
  apply List.map_congr_left;intro x hx;have h1:=zk8 x hx;have h2:=h x hx;unfold zah at h2;simp only[Function.comp,id];rw[show zk7 l+(((x - zk7 l).toNat:Nat):Int)=x by omega,wI (by omega) (by omega)]
def znU {l:List Int} {t:List UInt8} (h: ∀n∈l,zah n) (ht:t≠[]) (h0:l≠[]):zcy l.length (zbO l++t)= .err 32:=by
 have hl:l.length≠0:=by simpa using h0
 have hm:=h _ (zek h0);have hml:(zbA l).length=l.length:=by simp[zbA]
 have hw:=zbN (zfc h);unfold zcy zbO;rw[if_neg hl,if_neg h0,List.append_assoc,zfi hm];simp only;rw[List.append_assoc,zfh (by omega)]
 simp only;rw[if_neg (by omega),<- hml,zhw ht];rfl
end Go.Am.Ab
namespace Go.Am.Ab
set_option maxHeartbeats 4000000
def zmD {c:Nat} {l:List Int} (t:List UInt8) (hc:c<5) (h: ∀n∈l,zah n) (hn:l.length<=256) (ht:c<=2\/t=[]\/l=[]):zen c l.length (zdu c l++t)= .ok l t:=by
 have hcc:c=0\/c=1\/c=2\/c=3\/c=4:=by omega
 rcases hcc with rfl | rfl | rfl | rfl | rfl
 ·exact zkl l 0 t h
 ·exact zkm l 0 t h
 ·exact zqm l.length l.length l t rfl (Nat.le_refl _) (by omega) h
 ·exact zqo t h hn (by rcases ht with h | h;omega;exact h)
 ·exact zlf t h hn (by rcases ht with h | h;omega;exact h)
def zqq {c:Nat} {l:List Int} {t:List UInt8} (hc:c<5) (hc2:2<c) (h: ∀n∈l,zah n) (hn:l.length<=256) (ht:t≠[]) (h0:l≠[]):zen c l.length (zdu c l++t)= .err 32:=by
 have hcc:c=3\/c=4:=by omega
 rcases hcc with rfl | rfl
 ·exact zqp h hn ht h0
 ·exact znU h ht h0
def zkp {c:Nat} (hc:c<5) (r:List UInt8) (n:Nat) (hn:n<=256):zaV (u8n c::r) n=zuc c n r:=by
 unfold zaV;rw[if_neg (by omega)]
 simp only;rw[zce (by omega),if_neg (by omega),Int.toNat_natCast]
def zqr {c:Nat} {l:List Int} (hc:c<5) (h: ∀n∈l,zah n) (hn:l.length<=256):zaV (u8n c::zdu c l) l.length=(l,0):=by
 rw[zkp hc _ _ hn];unfold zuc;have:=zmD [] hc h hn (.inr (.inl rfl));rw[List.append_nil]at this;rw[this];simp
def zqs {c:Nat} {l:List Int} {t:List UInt8} (hc:c<5) (h: ∀n∈l,zah n) (hn:l.length<=256) (ht:t≠[]):zaV (u8n c::(zdu c l++t)) l.length=([],32):=by
 rw[zkp hc _ _ hn];unfold zuc
 by_cases h2:c<=2\/l=[]
 ·rw[zmD t hc h hn (by rcases h2 with h | h;exact .inl h;exact .inr (.inr h))]
  simp[ht]
 ·rw[zqq hc (by omega) h hn ht (λe=>h2 (.inr e))]
def ziX (l:List Int): ∀k,0<k->k<=5->(∃c,c<5/\zaX l k=u8n c::zdu c l)/\ ∀c,c<k->(zaX l k).length<=(zdu c l).length+1
 |0,h,_=>by omega
 |k+1,_,h5=>by
  by_cases h0:k=0
  ·subst h0
   refine⟨⟨0,by omega,by rw[zaX,if_pos (.inl rfl)]⟩,λc hc=> ?_⟩
   rw[zaX,if_pos (.inl rfl),show c=0 by omega];simp
  ·obtain⟨⟨c,h1,h2⟩,h3⟩:=ziX l k (by omega) (by omega)
   rw[zaX];split
   ·rename_i h4
    refine⟨⟨k,by omega,rfl⟩,λc' hc'=> ?_⟩
    rcases h4 with h4 | h4
    ·omega
    ·by_cases e:c'=k
     ·subst e;simp
     ·have:=h3 c' (by omega)
      simp only[List.length_cons];omega
   ·rename_i h4
    refine⟨⟨c,h1,h2⟩,λc' hc'=> ?_⟩
    by_cases e:c'=k
    ·subst e;omega
    ·exact h3 c' (by omega)
def zmE (l:List Int):(∃c,c<5/\zbx l=u8n c::zdu c l)/\ ∀c,c<5->(zbx l).length<=(zdu c l).length+1:=ziX l 5 (by omega) (Nat.le_refl _)
def zdr {l:List Int} (h: ∀n∈l,zah n) (hn:l.length<=256):zaV (zbx l) l.length=(l,0):=by
 obtain⟨⟨c,hc,e⟩,_⟩:=zmE l;rw[e];exact zqr hc h hn
def PR.map_inv {α β:Type} {f:α->β} {p:PR α} {b:β} {r:List UInt8} (h:p.map f= .ok b r): ∃a,p= .ok a r/\f a=b:=by
 cases p with
 |err e=>cases h
 |ok a r'=>cases h;exact⟨a,rfl,rfl⟩
def znV: ∀ (k:Nat) (dl:Bool) (a:Int) (b r:List UInt8) (l:List Int),zfQ dl k a b= .ok l r->l.length=k/\ ∀n∈l,zah n
 |0,dl,a,b,r,l,h=>by cases h;simp
 |k+1,dl,a,b,r,l,h=>by
  rw[zfQ]at h;split at h
  ·cases h
  ·rename_i x r2 hx
   obtain⟨l2,h2,rfl⟩:=PR.map_inv h;obtain⟨h3,h4⟩:=znV k dl _ _ _ _ h2;refine⟨by simp[h3],λn hn=> ?_⟩
   rcases List.mem_cons.1 hn with rfl | hn
   ·cases dl with
    |true=>exact zcS _
    |false=>exact zle hx
   ·exact h4 n hn
def zpc: ∀ (f m:Nat) (b r:List UInt8) (l:List Int),m<=f->zcr f m b= .ok l r->l.length=m/\ ∀n∈l,zah n
 |f,0,b,r,l,_,h=>by cases f <;> (cases h;simp)
 |0,m+1,b,r,l,hf,h=>by omega
 |f+1,m+1,b,r,l,hf,h=>by
  rw[zcr]at h;split at h
  ·cases h
  ·rename_i x r2 hx
   split at h
   ·cases h
   ·rename_i k r3 hk
    split at h
    ·cases h
    ·rename_i hkm
     obtain⟨l2,h2,rfl⟩:=PR.map_inv h;obtain⟨h3,h4⟩:=zpc f (m+1 - k) _ _ _ (by omega) h2
     refine⟨by simp[h3];omega,λn hn=> ?_⟩
     rcases List.mem_append.1 hn with hn | hn
     ·rw[(List.mem_replicate.1 hn).2];exact zle hx
     ·exact h4 n hn
def zpd: ∀ (k:Nat) (a:Int) (b r:List UInt8) (l:List Int),zah a->zfR k a b= .ok l r->l.length=k/\ ∀n∈l,zah n
 |0,a,b,r,l,_,h=>by cases h;simp
 |k+1,a,b,r,l,ha,h=>by
  rw[zfR]at h;split at h
  ·cases h
  ·rename_i d r2 hd
   split at h
   ·cases h
   ·rename_i hc
    obtain⟨l2,h2,rfl⟩:=PR.map_inv h;have had:zah (a+d):=by unfold zah at ha ⊢;omega
    obtain⟨h3,h4⟩:=zpd k _ _ _ _ had h2;refine⟨by simp[h3],λn hn=> ?_⟩
    rcases List.mem_cons.1 hn with rfl | hn
    ·exact had
    ·exact h4 n hn
def zue {many:Nat} {b r:List UInt8} {l:List Int} (h:zeT many b= .ok l r):l.length=many/\ ∀n∈l,zah n:=by
 unfold zeT at h;split at h
 ·cases h;simp_all
 ·rename_i h0
  split at h
  ·cases h
  ·rename_i x r2 hx
   obtain⟨l2,h2,rfl⟩:=PR.map_inv h;obtain⟨h3,h4⟩:=zpd _ _ _ _ _ (zle hx) h2;refine⟨by simp[h3];omega,λn hn=> ?_⟩
   rcases List.mem_cons.1 hn with rfl | hn
   ·exact zle hx
   ·exact h4 n hn
def zkq {n w:Nat} {b r:List UInt8} {p:List Nat} (h:za6 n w b= .ok p r):r=[]/\p.length=n:=by
 unfold za6 at h;split at h
 ·cases h
 ·split at h
  ·cases h
  ·split at h
   ·cases h;simp
   ·cases h
def zuf {n:Nat} {b r:List UInt8} {l:List Int} (h:zeA n b= .ok l r):l.length=n/\ ∀n∈l,zah n:=by
 unfold zeA at h;split at h
 ·cases h
 ·rename_i many r1 hm
  split at h
  ·cases h
  ·rename_i hc
   split at h
   ·cases h
   ·rename_i u r2 hu
    obtain⟨u1,u2⟩:=zue hu;unfold zg1 at h;split at h
    ·cases h;simp_all
    ·split at h
     ·cases h
     ·rename_i p r3 hp
      split at h
      ·rename_i hq
       cases h;refine⟨by simp[(zkq hp).2],λx hx=> ?_⟩
       rw[List.mem_map]at hx;obtain⟨q,hq1,rfl⟩:=hx;have:=hq q hq1;rw[<- get_at (by omega:q<u.length)]
       exact u2 _ (List.getElem_mem _)
      ·cases h
def zr3 {n:Nat} {b r:List UInt8} {l:List Int} (h:zcy n b= .ok l r):l.length=n/\ ∀n∈l,zah n:=by
 unfold zcy at h;split at h
 ·cases h;simp_all
 ·split at h
  ·cases h
  ·split at h
   ·cases h
   ·split at h
    ·cases h
    ·obtain⟨p,h2,rfl⟩:=PR.map_inv h
     refine⟨by simp[(zkq h2).2],λx hx=> ?_⟩
     rw[List.mem_map]at hx;obtain⟨q,_,rfl⟩:=hx;exact zcS _
def zhX {c n:Nat} {b r:List UInt8} {l:List Int} (h:zen c n b= .ok l r):l.length=n/\ ∀n∈l,zah n:=by
 unfold zen at h;split at h
 ·exact znV _ _ _ _ _ _ h
 ·exact znV _ _ _ _ _ _ h
 ·exact zpc _ _ _ _ _ (Nat.le_refl _) h
 ·exact zuf h
 ·exact zr3 h
def zhY {b:List UInt8} {e:Nat} (h:zni b= .err e):e≠0:=by
 unfold zni at h;split at h
 ·cases h
 ·cases h;assumption
def zhZ {b:List UInt8} {e:Nat} (h:zld b= .err e):e≠0:=by
 unfold zld at h;split at h
 ·cases h
 ·cases h;assumption
def PR.map_err_inv {α β:Type} {f:α->β} {p:PR α} {e:Nat} (h:p.map f= .err e):p= .err e:=by
 cases p with
 |err e=>cases h;rfl
 |ok a r'=>cases h
def zlg: ∀ (k:Nat) (dl:Bool) (a:Int) (b:List UInt8) (e:Nat),zfQ dl k a b= .err e->e≠0
 |0,dl,a,b,e,h=>by cases h
 |k+1,dl,a,b,e,h=>by
  rw[zfQ]at h;split at h
  ·rename_i h1;cases h;exact zhZ h1
  ·exact zlg k dl _ _ _ (PR.map_err_inv h)
def zmF: ∀ (f m:Nat) (b:List UInt8) (e:Nat),zcr f m b= .err e->e≠0
 |f,0,b,e,h=>by cases f <;> cases h
 |0,m+1,b,e,h=>by cases h;decide
 |f+1,m+1,b,e,h=>by
  rw[zcr]at h;split at h
  ·rename_i h1;cases h;exact zhZ h1
  ·split at h
   ·rename_i h1;cases h;exact zhY h1
   ·split at h
    ·cases h;decide
    ·exact zmF f _ _ _ (PR.map_err_inv h)
def zmG: ∀ (k:Nat) (a:Int) (b:List UInt8) (e:Nat),zfR k a b= .err e->e≠0
 |0,a,b,e,h=>by cases h
 |k+1,a,b,e,h=>by
  rw[zfR]at h;split at h
  ·rename_i h1;cases h;exact zhY h1
  ·split at h
   ·cases h;decide
   ·exact zmG k _ _ _ (PR.map_err_inv h)
def zcV {n w:Nat} {b:List UInt8} {e:Nat} (h:za6 n w b= .err e):e≠0:=by
 unfold za6 at h;split at h
 ·cases h;decide
 ·split at h
  ·cases h;decide
  ·split at h
   ·cases h
   ·cases h;decide
def zr4 {many:Nat} {b:List UInt8} {e:Nat} (h:zeT many b= .err e):e≠0:=by
 unfold zeT at h;split at h
 ·cases h
 ·split at h
  ·rename_i h1;cases h;exact zhZ h1
  ·exact zmG _ _ _ _ (PR.map_err_inv h)
def zr5 {n many:Nat} {u:List Int} {b:List UInt8} {e:Nat} (h:zg1 n many u b= .err e):e≠0:=by
 unfold zg1 at h;split at h
 ·cases h
 ·split at h
  ·rename_i h1;cases h;exact zcV h1
  ·split at h
   ·cases h
   ·cases h;decide
def zr6 {n:Nat} {b:List UInt8} {e:Nat} (h:zeA n b= .err e):e≠0:=by
 unfold zeA at h;split at h
 ·rename_i h1;cases h;exact zhY h1
 ·split at h
  ·cases h;decide
  ·split at h
   ·rename_i h1;cases h;exact zr4 h1
   ·exact zr5 h
def zqt {n:Nat} {b:List UInt8} {e:Nat} (h:zcy n b= .err e):e≠0:=by
 unfold zcy at h;split at h
 ·cases h
 ·split at h
  ·rename_i h1;cases h;exact zhZ h1
  ·split at h
   ·rename_i h1;cases h;exact zhY h1
   ·split at h
    ·cases h;decide
    ·exact zcV (PR.map_err_inv h)
def ziY {c n:Nat} {b:List UInt8} {e:Nat} (h:zen c n b= .err e):e≠0:=by
 unfold zen at h;split at h
 ·exact zlg _ _ _ _ _ h
 ·exact zlg _ _ _ _ _ h
 ·exact zmF _ _ _ _ h
 ·exact zr6 h
 ·exact zqt h
end Go.Am.Ab
