/- What bytes of a list are read as: plain law. -/
import Derived.Test.YtibdiacpdmhmnaaGreatDoorRefInts
set_option linter.all false
namespace Go.Am.Ab
open Go.Proofs
set_option maxHeartbeats 4000000
inductive PR (α:Type) where
 |err (e:Nat)
 |ok (a:α) (r:List UInt8)
def PR.map {α β:Type} (f:α->β):PR α->PR β
 |.err e=> .err e
 |.ok a r=> .ok (f a) r
@[simp] def PR.map_err {α β:Type} (f:α->β) (e:Nat):(PR.err e:PR α).map f= .err e:=rfl
@[simp] def PR.map_ok {α β:Type} (f:α->β) (a:α) (r:List UInt8):(PR.ok a r).map f= .ok (f a) r:=rfl
def PR.map_map {α β γ:Type} (f:α->β) (g:β->γ) (p:PR α):(p.map f).map g=p.map (λa=>g (f a)):=by cases p <;> rfl
def PR.map_id {α:Type} {f:α->α} (h: ∀a,f a=a) (p:PR α):p.map f=p:=by
 cases p with
 |err e=>rfl
 |ok a r=>simp[h]
def zsC (b:List UInt8):PR Nat:=if (get b).2.2=0 then .ok (get b).1 (b.drop (get b).2.1) else .err (get b).2.2
def zoP (b:List UInt8):PR Int:=if (get b).2.2=0 then .ok (zag (get b).1) (b.drop (get b).2.1) else .err (get b).2.2
def zjX (dl:Bool):Nat->Int->List UInt8->PR (List Int)
 |0,_,b=> .ok [] b
 |k+1,a,b=>
  match zoP b with
  |.err e=> .err e
  |.ok x r=>(zjX dl k (if dl then IntKind.i64.wrap (x+a) else x) r).map ((if dl then IntKind.i64.wrap (x+a) else x):: ·)
def zfF:Nat->Nat->List UInt8->PR (List Int)
 |_,0,b=> .ok [] b
 |0,_,_=> .err 40
 |f+1,m+1,b=>
  match zoP b with
  |.err e=> .err e
  |.ok x r=>
   match zsC r with
   |.err e=> .err e
   |.ok k r2=>if k=0\/m+1<k then .err 40 else (zfF f (m+1 - k) r2).map (List.replicate k x++ ·)
def zhU:Nat->Int->List UInt8->PR (List Int)
 |0,_,b=> .ok [] b
 |k+1,a,b=>
  match zsC b with
  |.err e=> .err e
  |.ok d r=>if d=0\/9223372036854775807<a+d then .err 40 else (zhU k (a+d) r).map ((a+d):: ·)
def zbN (n w:Nat) (b:List UInt8):PR (List Nat):=
 if b.length<(n*w+7) / 8 then .err 30 else if (n*w+7) / 8<b.length then .err 32 else if num b<2 ^ (n*w) then .ok (ups w (num b) n) [] else .err 40
def zg2 (many:Nat) (b:List UInt8):PR (List Int):=
 if many=0 then .ok [] b else
 match zoP b with
 |.err e=> .err e
 |.ok x r=>(zhU (many - 1) x r).map (x:: ·)
def zmt (n many:Nat) (u:List Int) (b:List UInt8):PR (List Int):=
 if n=0 then .ok [] b else
 match zbN n (zbZ (many - 1)) b with
 |.err e=> .err e
 |.ok p r=>if ∀q∈p,q<many then .ok (p.map (at' u)) r else .err 40
def zhV (n:Nat) (b:List UInt8):PR (List Int):=
 match zsC b with
 |.err e=> .err e
 |.ok many r=>
  if n<many\/many=0/\0<n then .err 40 else
  match zg2 many r with
  |.err e=> .err e
  |.ok u r2=>zmt n many u r2
def zdt (n:Nat) (b:List UInt8):PR (List Int):=
 if n=0 then .ok [] b else
 match zoP b with
 |.err e=> .err e
 |.ok x r=>
  match zsC r with
  |.err e=> .err e
  |.ok w r2=>
   if 64<w then .err 40 else
   (zbN n w r2).map (λp=>p.map λ(q:Nat)=>IntKind.i64.wrap (x+q))
def zf9 (c n:Nat) (b:List UInt8):PR (List Int):=match c with
 |0=>zjX false n 0 b
 |1=>zjX true n 0 b
 |2=>zfF n n b
 |3=>zhV n b
 |_=>zdt n b
def zzK (c n:Nat) (b:List UInt8):List Int × Nat:=
 match zf9 c n b with
 |.err e=>([],e)
 |.ok l r=>if r≠[] then ([],32) else if zhN c l=b then (l,0) else ([],40)
def zbO (b:List UInt8) (n:Int):List Int × Nat:=
 if n<0\/256<n then ([],1) else
 match b with
 |[]=>([],30)
 |c::r=>if 4<c.toNat then ([],50) else zzK c.toNat n.toNat r
def ziq: ∀ (b:List UInt8) (i n:Nat),(zbv i n b).2.1<=i+b.length
 |[],_,_=>by simp[zbv]
 |c::r,i,n=>by
  have:=ziq r (i+1) (n+(c.toNat % 128)*2 ^ (7*i));rw[zbv];simp only[yad];split
  ·simp
  ·split
   ·split
    ·simp
    ·simp only;omega
   ·omega
def zft (b:List UInt8):(get b).2.1<=b.length:=by
 have:=ziq b 0 0;unfold get;omega
def zjY: ∀ (b:List UInt8) (i n:Nat),(zbv i n b).2.2=0\/(zbv i n b)=(0,0,30)\/(zbv i n b)=(0,0,31)
 |[],_,_=>by simp[zbv]
 |c::r,i,n=>by
  have:=zjY r (i+1) (n+(c.toNat % 128)*2 ^ (7*i));rw[zbv];split
  ·simp
  ·split
   ·split
    ·simp
    ·simp
   ·exact this
def zzL (b:List UInt8):(get b).2.2=0\/get b=(0,0,30)\/get b=(0,0,31):=zjY b 0 0
def zlB {n:Nat} (h:n<18446744073709551616):zaf (zag n):=by
 unfold zaf zag;split <;> omega
def zmu {b r:List UInt8} {x:Int} (h:zoP b= .ok x r):zaf x:=by
 unfold zoP at h;split at h
 ·cases h;exact zlB (zdr b)
 ·cases h
end Go.Am.Ab
namespace Go.Am.Ab
set_option maxHeartbeats 4000000
def zpA (n:Nat): ∀ (i acc:Nat) (t:List UInt8),n*2 ^ (7*i)<18446744073709551616->(0<i->0<n)->i<=9->zbv i acc (put n++t)=(acc+n*2 ^ (7*i),i+(put n).length,0):=by
 induction n using Nat.strongRecOn with
 |_ n ih=>
 intro i acc t hb h0 hi
 by_cases h:n<128
 ·rw[zik h,ya4,ybC,zbv,zdh (by omega)]
  have h9: ¬ (i=9/\1<n):=by
   rintro ⟨rfl,h1⟩
   have:2*2 ^ (7*9)<=n*2 ^ (7*9):=yaE _ h1;simp at this;omega
  rw[yaf h9,yai h,yaf (by omega)]
  simp
 ·rw[zun (by omega),ya4,zbv,zdh (by omega)]
  have h9:i≠9:=by
   rintro rfl
   have:128*2 ^ (7*9)<=n*2 ^ (7*9):=yaE _ (by omega)
   simp at this;omega
  rw[yaf (by omega),yaf (by omega)]
  have hp:2 ^ (7*(i+1))=128*2 ^ (7*i):=by rw[ycM,ybB,ybX]
  obtain⟨P,hP⟩: ∃P,P=2 ^ (7*i):=⟨_,rfl⟩;have hd:n*P=n / 128*(128*P)+n % 128*P:=by
   have:=ycR n 128
   calc n*P=(128*(n / 128)+n % 128)*P:=by rw[this]
    _=_:=by rw[ya9,ybX 128,ydN]
  rw[ih (n / 128) (by omega) (i+1) _ t (by rw[hp,<- hP];rw[<- hP]at hb;omega) (λ_=>by omega) (by omega)]
  rw[hp,<- hP,hd];simp only[yad,yab];refine⟨?_, ?_,trivial⟩
  ·rw[show (n % 128+128) % 128=n % 128 by omega];omega
  ·omega
def zga {n:Nat} (h:n<18446744073709551616) (t:List UInt8):get (put n++t)=(n,(put n).length,0):=by
 unfold get;rw[zpA n 0 0 t (by simpa using h) (λh=>by omega) (by omega)]
 simp
def zfu {n:Nat} (h:n<18446744073709551616) (t:List UInt8):zsC (put n++t)= .ok n t:=by
 unfold zsC;rw[zga h];simp
def zzM {x:Int}:zag (zig x)=x:=by
 unfold zag zig;split <;> split <;> omega
def zfv {x:Int} (h:zaf x) (t:List UInt8):zoP (zbi x++t)= .ok x t:=by
 unfold zoP zbi;rw[zga (zqJ h.1 h.2)];simp[zzM]
def zlC: ∀ (l:List Int) (a:Int) (t:List UInt8),(∀n∈l,zaf n)->zjX false l.length a (zbC l++t)= .ok l t
 |[],_,t,_=>rfl
 |x::r,a,t,h=>by
  rw[zf7,yam,yad,zjX,zfv (h x (by simp))]
  simp only[yaD,ybg];rw[zlC r _ t λn hn=>h n (by simp[hn])];rfl
def zuA {n a:Int} (h:zaf n):IntKind.i64.wrap (IntKind.i64.wrap (n - a)+a)=n:=by
 unfold zaf at h;rw[zaX,zaX];split <;> split <;> omega
def zlD: ∀ (l:List Int) (a:Int) (t:List UInt8),(∀n∈l,zaf n)->zjX true l.length a (zbC (zet a l)++t)= .ok l t
 |[],_,t,_=>rfl
 |x::r,a,t,h=>by
  rw[zet,zf7,yam,yad,zjX,zfv (zeo _)];simp only[ybm];rw[zuA (h x (by simp)),zlD r _ t λn hn=>h n (by simp[hn])];rfl
def zqU (x:Int): ∀l:List Int,l=List.replicate (cnt x l) x++l.drop (cnt x l)
 |[]=>by simp[cnt]
 |y::r=>by
  by_cases h:y=x
  ·subst h
   rw[cnt,yai rfl,yaS,List.drop_succ_cons,ya4,<- zqU y r]
  ·rw[cnt,yaf h];simp
def zsD (m:Nat): ∀ (f:Nat) (l:List Int) (t:List UInt8),l.length=m->m<=f->m<=1000000->(∀n∈l,zaf n)->zfF f m (zgV l++t)= .ok l t:=by
 induction m using Nat.strongRecOn with
 |_ m ih=>
 intro f l t hl hf hm h;cases l with
 |nil=>
  simp only[yav]at hl;subst hl;cases f <;> rfl
 |cons x r=>
  obtain⟨m,rfl⟩: ∃k,m=k+1:=⟨m - 1,by simp at hl;omega⟩
  obtain⟨f,rfl⟩: ∃k,f=k+1:=⟨f - 1,by omega⟩
  have hc:=zqK x (x::r);have hc1:1<=cnt x (x::r):=by simp[cnt]
  have ht:=zqU x (x::r);rw[zlu rfl,yam,yam];obtain⟨k,hk⟩: ∃k,k=cnt x (x::r):=⟨_,rfl⟩;rw[<- hk]at hc hc1 ht ⊢;rw[zfF,zfv (h x (by simp))]
  simp only;rw[zfu (by omega)]
  simp only;rw[yaf (by omega),ih (m+1 - k) (by omega) f _ t (by rw[yay,hl]) (by omega) (by omega) λn hn=>h n (ybO hn)]
  rw[PR.map_ok,<- ht]
end Go.Am.Ab
namespace Go.Am.Ab
set_option maxHeartbeats 4000000
def zxm (w N i:Nat):ups w N (i+1)=N % 2 ^ w::ups w (N / 2 ^ w) i:=by
 unfold ups;rw[List.range_succ_eq_map,ya1,ya3];congr 1
 ·simp
 ·apply ya5
  intro j _;simp only[Function.comp];rw[ybH,<- ybB,show (j+1)*w=w+j*w by rw[ya9,ycl,yby]]
def zqV (w:Nat): ∀p:List Nat,(∀n∈p,n<2 ^ w)->ups w (zcJ w p) p.length=p
 |[],_=>rfl
 |n::r,h=>by
  have hn:=h n (by simp)
  rw[yad,zxm,zcJ];have hp:0<2 ^ w:=ybx w;have e1:(n+2 ^ w*zcJ w r) % 2 ^ w=n:=by rw[ydG,yaJ hn]
  have e2:(n+2 ^ w*zcJ w r) / 2 ^ w=zcJ w r:=by rw[Nat.add_mul_div_left _ _ hp,Nat.div_eq_of_lt hn,yaO]
  rw[e1,e2,zqV w r λm hm=>h m (by simp[hm])]
def zbx (w:Nat) (p:List Nat):(zbB w p).length=(p.length*w+7) / 8:=by
 unfold zbB;rw[zjN]
def zdJ {w:Nat} {p:List Nat} (h: ∀n∈p,n<2 ^ w):zbN p.length w (zbB w p)= .ok p []:=by
 have hl:=zbx w p;have hlt:=zmp w p h;unfold zbN;rw[yaf (by omega),yaf (by omega)]
 have hn:num (zbB w p)=zcJ w p:=by
  unfold zbB;refine zyC _ _ (ybn hlt (ybw (by decide) ?_))
  omega
 rw[hn,yai hlt,zqV w p h]
def zir {w:Nat} {p:List Nat} {t:List UInt8} (ht:t≠[]):zbN p.length w (zbB w p++t)= .err 32:=by
 have hl:=zbx w p;have:=List.length_pos_iff.2 ht;unfold zbN;rw[yae,yaf (by omega),yai (by omega)]
def zlE: ∀ (l:List Int) (a:Int) (t:List UInt8),zaf a->(∀n∈l,zaf n)->(∀n∈l,a<n)->Rises l->zhU l.length a (zsu a l++t)= .ok l t
 |[],_,t,_,_,_,_=>rfl
 |x::r,a,t,ha,h,hlt,hr=>by
  have hx:=h x (by simp)
  have h1:=hlt x (by simp)
  unfold zaf at ha hx;obtain⟨d,hd⟩: ∃d:Nat,(d:Int)=x - a:=⟨(x - a).toNat,by omega⟩
  have hdd:(x - a).toNat=d:=by omega
  rw[zsu,hdd,yam,yad,zhU,zfu (by omega)]
  simp only;rw[yaf (by omega),show a+(d:Int)=x by omega,zlE r x t (h x (by simp)) (λn hn=>h n (by simp[hn])) hr.1 hr.2]
  rfl
def zlF {u:List Int} (t:List UInt8) (h: ∀n∈u,zaf n) (hr:Rises u):zg2 u.length (zct u++t)= .ok u t:=by
 unfold zg2;cases u with
 |nil=>rfl
 |cons x r=>
  rw[yad,yaf (by omega),zct,yam,zfv (h x (by simp))]
  simp only;rw[ybJ,zlE r x t (h x (by simp)) (λn hn=>h n (by simp[hn])) hr.1 hr.2]
  rfl
def zn2 {l:List Nat} {m:Nat} (hl: ∀n∈l,n<18446744073709551616):zcI l<=m↔ ∀n∈l,n<2 ^ m:=by
 constructor
 ·intro h;exact zgT hl h
 ·intro h
  have key: ∀ (l:List Nat) (a:Nat),a<=m->(∀n∈l,n<18446744073709551616)->(∀n∈l,n<2 ^ m)->l.foldl (λw n=>max w (zbZ n)) a<=m:=by
   intro l
   induction l with
   |nil=>intro a ha _ _;exact ha
   |cons x r ih=>
    intro a ha h1 h2;rw[yba];refine ih _ ?_ (λn hn=>h1 n (by simp[hn])) (λn hn=>h2 n (by simp[hn]))
    have:=(zbn (m:=m) (h1 x (by simp))).2 (h2 x (by simp))
    omega
  exact key l 0 (yaj _) hl h
def zDr {u:List Int} {i:Nat} (hr:Rises u) (hi:i<u.length):idx u (at' u i)=i:=by
 have hm:at' u i∈u:=by rw[<- get_at hi];exact yar _
 have h1:=zqT hm;have h2:=zin hm;have hur:=rises_iff.1 hr
 by_cases c:idx u (at' u i)<i
 ·have:=hur _ i c hi;omega
 ·by_cases c2:i<idx u (at' u i)
  ·have:=hur i _ c2 h2;omega
  ·omega
def zis {l:List Int} (h0:l≠[]) (hn:l.length<=256):zcI (zbp (uniq l) l)=zbZ ((uniq l).length - 1):=by
 have hpm:=zg0 hn;have h1:=uniq_length_le l;have hu:=zpz h0;have hmem:(uniq l).length - 1∈zbp (uniq l) l:=by
  unfold zbp;rw[ycb];refine⟨at' (uniq l) ((uniq l).length - 1),uniq_mem.1 (by rw[<- get_at (by omega:(uniq l).length - 1<(uniq l).length)];exact yar _),zDr (uniq_rises l) (by omega)⟩
 have hle: ∀q∈zbp (uniq l) l,q<=(uniq l).length - 1:=by
  intro q hq;unfold zbp at hq;rw[ycb]at hq;obtain⟨x,hx,rfl⟩:=hq;have:=zin (uniq_mem.2 hx);omega
 apply Nat.le_antisymm
 ·rw[zn2 hpm]
  intro q hq;have:=(zbn (m:=zbZ ((uniq l).length - 1)) (by omega:(uniq l).length - 1<18446744073709551616)).1 (yag _)
  have:=hle q hq;omega
 ·rw[zbn (by omega)]
  exact zgT hpm (yag _) _ hmem
def zsE (w:Nat):zbB w []=[]:=by
 have:=zbx w [];simpa using this
def zsF {l:List Int} (t:List UInt8) (h: ∀n∈l,zaf n) (hn:l.length<=256) (ht:t=[]\/l=[]):zhV l.length (zms l++t)= .ok l t:=by
 have h1:=uniq_length_le l;unfold zhV zms;rw[yam,zfu (by omega)]
 simp only;rw[yam,zlF _ (λn hm=>h n (uniq_mem.1 hm)) (uniq_rises l)]
 by_cases h0:l=[]
 ·subst h0
  rw[yaf (by simp[uniq])]
  simp only[yav,zmt,ybm];rw[show zbp (uniq []) []=[] from rfl,zsE];rfl
 ·have hu:=zpz h0
  have hl:l.length≠0:=by simpa using h0
  have hpl:(zbp (uniq l) l).length=l.length:=by simp[zbp]
  have htn:t=[]:=by
   rcases ht with h | h
   ·exact h
   ·exact absurd h h0
  rw[yaf (by omega)]
  simp only[zmt,yaf hl];rw[<- zis h0 hn,htn,yaq,<- hpl,zdJ (zgT (zg0 hn) (yag _))];simp only;rw[yai]
  ·congr 1
   unfold zbp;rw[ya3]
   conv=>rhs;rw[<- yc4 l]
   apply ya5;intro x hx;exact zqT (uniq_mem.2 hx)
  ·intro q hq
   unfold zbp at hq;rw[ycb]at hq;obtain⟨x,hx,rfl⟩:=hq;exact zin (uniq_mem.2 hx)
def zsG {l:List Int} {t:List UInt8} (h: ∀n∈l,zaf n) (hn:l.length<=256) (ht:t≠[]) (h0:l≠[]):zhV l.length (zms l++t)= .err 32:=by
 have h1:=uniq_length_le l;have hu:=zpz h0;have hl:l.length≠0:=by simpa using h0
 have hpl:(zbp (uniq l) l).length=l.length:=by simp[zbp]
 unfold zhV zms;rw[yam,zfu (by omega)]
 simp only;rw[yam,zlF _ (λn hm=>h n (uniq_mem.1 hm)) (uniq_rises l),yaf (by omega)]
 simp only[zmt,yaf hl];rw[<- zis h0 hn,<- hpl,zir ht]
def zmv {l:List Int} (t:List UInt8) (h: ∀n∈l,zaf n) (hn:l.length<=256) (ht:t=[]\/l=[]):zdt l.length (zcN l++t)= .ok l t:=by
 unfold zdt zcN
 by_cases h0:l=[]
 ·subst h0;rfl
 ·have hl:l.length≠0:=by simpa using h0
  have htn:t=[]:=by
   rcases ht with h | h
   ·exact h
   ·exact absurd h h0
  have hm:=h _ (zgW h0);have hml:(zdi l).length=l.length:=by simp[zdi]
  have hw:=zcM (zgX h);rw[yaf hl,yaf h0,htn,yaq,zfv hm];simp only;rw[zfu (by omega)]
  simp only;rw[yaf (by omega),<- hml,zdJ (zgT (zgX h) (yag _)),PR.map_ok]
  congr 1;unfold zdi;rw[ya3]
  conv=>rhs;rw[<- yc4 l]
  apply ya5;intro x hx;have h1:=zuq x hx;have h2:=h x hx;unfold zaf at h2;simp only[Function.comp,id];rw[show zoO l+(((x - zoO l).toNat:Nat):Int)=x by omega,wI (by omega) (by omega)]
def zpB {l:List Int} {t:List UInt8} (h: ∀n∈l,zaf n) (ht:t≠[]) (h0:l≠[]):zdt l.length (zcN l++t)= .err 32:=by
 have hl:l.length≠0:=by simpa using h0
 have hm:=h _ (zgW h0);have hml:(zdi l).length=l.length:=by simp[zdi]
 have hw:=zcM (zgX h);unfold zdt zcN;rw[yaf hl,yaf h0,yam,zfv hm];simp only;rw[yam,zfu (by omega)]
 simp only;rw[yaf (by omega),<- hml,zir ht];rfl
end Go.Am.Ab
namespace Go.Am.Ab
set_option maxHeartbeats 4000000
def zn3 {c:Nat} {l:List Int} (t:List UInt8) (hc:c<5) (h: ∀n∈l,zaf n) (hn:l.length<=256) (ht:c<=2\/t=[]\/l=[]):zf9 c l.length (zhN c l++t)= .ok l t:=by
 have hcc:c=0\/c=1\/c=2\/c=3\/c=4:=by omega
 rcases hcc with rfl | rfl | rfl | rfl | rfl
 ·exact zlC l 0 t h
 ·exact zlD l 0 t h
 ·exact zsD l.length l.length l t rfl (yag _) (by omega) h
 ·exact zsF t h hn (by rcases ht with h | h;omega;exact h)
 ·exact zmv t h hn (by rcases ht with h | h;omega;exact h)
def zsH {c:Nat} {l:List Int} {t:List UInt8} (hc:c<5) (hc2:2<c) (h: ∀n∈l,zaf n) (hn:l.length<=256) (ht:t≠[]) (h0:l≠[]):zf9 c l.length (zhN c l++t)= .err 32:=by
 have hcc:c=3\/c=4:=by omega
 rcases hcc with rfl | rfl
 ·exact zsG h hn ht h0
 ·exact zpB h ht h0
def zlG {c:Nat} (hc:c<5) (r:List UInt8) (n:Nat) (hn:n<=256):zbO (u8n c::r) n=zzK c n r:=by
 unfold zbO;rw[yaf (by omega)]
 simp only;rw[zdh (by omega),yaf (by omega),yaz]
def zsI {c:Nat} {l:List Int} (hc:c<5) (h: ∀n∈l,zaf n) (hn:l.length<=256):zbO (u8n c::zhN c l) l.length=(l,0):=by
 rw[zlG hc _ _ hn];unfold zzK;have:=zn3 [] hc h hn (.inr (.inl rfl));rw[yaq]at this;rw[this];simp
def zsJ {c:Nat} {l:List Int} {t:List UInt8} (hc:c<5) (h: ∀n∈l,zaf n) (hn:l.length<=256) (ht:t≠[]):zbO (u8n c::(zhN c l++t)) l.length=([],32):=by
 rw[zlG hc _ _ hn];unfold zzK
 by_cases h2:c<=2\/l=[]
 ·rw[zn3 t hc h hn (by rcases h2 with h | h;exact .inl h;exact .inr (.inr h))]
  simp[ht]
 ·rw[zsH hc (by omega) h hn ht (λe=>h2 (.inr e))]
def zjZ (l:List Int): ∀k,0<k->k<=5->(∃c,c<5/\zbd l k=u8n c::zhN c l)/\ ∀c,c<k->(zbd l k).length<=(zhN c l).length+1
 |0,h,_=>by omega
 |k+1,_,h5=>by
  by_cases h0:k=0
  ·subst h0
   refine⟨⟨0,by omega,by rw[zbd,yai (.inl rfl)]⟩,λc hc=> ?_⟩
   rw[zbd,yai (.inl rfl),show c=0 by omega];simp
  ·obtain⟨⟨c,h1,h2⟩,h3⟩:=zjZ l k (by omega) (by omega)
   rw[zbd];split
   ·rename_i h4
    refine⟨⟨k,by omega,rfl⟩,λc' hc'=> ?_⟩
    rcases h4 with h4 | h4
    ·omega
    ·by_cases e:c'=k
     ·subst e;simp
     ·have:=h3 c' (by omega)
      simp only[yad];omega
   ·rename_i h4
    refine⟨⟨c,h1,h2⟩,λc' hc'=> ?_⟩
    by_cases e:c'=k
    ·subst e;omega
    ·exact h3 c' (by omega)
def zn4 (l:List Int):(∃c,c<5/\zb9 l=u8n c::zhN c l)/\ ∀c,c<5->(zb9 l).length<=(zhN c l).length+1:=zjZ l 5 (by omega) (yag _)
def zhW {l:List Int} (h: ∀n∈l,zaf n) (hn:l.length<=256):zbO (zb9 l) l.length=(l,0):=by
 obtain⟨⟨c,hc,e⟩,_⟩:=zn4 l;rw[e];exact zsI hc h hn
def PR.map_inv {α β:Type} {f:α->β} {p:PR α} {b:β} {r:List UInt8} (h:p.map f= .ok b r): ∃a,p= .ok a r/\f a=b:=by
 cases p with
 |err e=>cases h
 |ok a r'=>cases h;exact⟨a,rfl,rfl⟩
def zpC: ∀ (k:Nat) (dl:Bool) (a:Int) (b r:List UInt8) (l:List Int),zjX dl k a b= .ok l r->l.length=k/\ ∀n∈l,zaf n
 |0,dl,a,b,r,l,h=>by cases h;simp
 |k+1,dl,a,b,r,l,h=>by
  rw[zjX]at h;split at h
  ·cases h
  ·rename_i x r2 hx
   obtain⟨l2,h2,rfl⟩:=PR.map_inv h;obtain⟨h3,h4⟩:=zpC k dl _ _ _ _ h2;refine⟨by simp[h3],λn hn=> ?_⟩
   rcases List.mem_cons.1 hn with rfl | hn
   ·cases dl with
    |true=>exact zeo _
    |false=>exact zmu hx
   ·exact h4 n hn
def zqW: ∀ (f m:Nat) (b r:List UInt8) (l:List Int),m<=f->zfF f m b= .ok l r->l.length=m/\ ∀n∈l,zaf n
 |f,0,b,r,l,_,h=>by cases f <;> (cases h;simp)
 |0,m+1,b,r,l,hf,h=>by omega
 |f+1,m+1,b,r,l,hf,h=>by
  rw[zfF]at h;split at h
  ·cases h
  ·rename_i x r2 hx
   split at h
   ·cases h
   ·rename_i k r3 hk
    split at h
    ·cases h
    ·rename_i hkm
     obtain⟨l2,h2,rfl⟩:=PR.map_inv h;obtain⟨h3,h4⟩:=zqW f (m+1 - k) _ _ _ (by omega) h2
     refine⟨by simp[h3];omega,λn hn=> ?_⟩
     rcases List.mem_append.1 hn with hn | hn
     ·rw[(List.mem_replicate.1 hn).2];exact zmu hx
     ·exact h4 n hn
def zqX: ∀ (k:Nat) (a:Int) (b r:List UInt8) (l:List Int),zaf a->zhU k a b= .ok l r->l.length=k/\ ∀n∈l,zaf n
 |0,a,b,r,l,_,h=>by cases h;simp
 |k+1,a,b,r,l,ha,h=>by
  rw[zhU]at h;split at h
  ·cases h
  ·rename_i d r2 hd
   split at h
   ·cases h
   ·rename_i hc
    obtain⟨l2,h2,rfl⟩:=PR.map_inv h;have had:zaf (a+d):=by unfold zaf at ha ⊢;omega
    obtain⟨h3,h4⟩:=zqX k _ _ _ _ had h2;refine⟨by simp[h3],λn hn=> ?_⟩
    rcases List.mem_cons.1 hn with rfl | hn
    ·exact had
    ·exact h4 n hn
def zxn {many:Nat} {b r:List UInt8} {l:List Int} (h:zg2 many b= .ok l r):l.length=many/\ ∀n∈l,zaf n:=by
 unfold zg2 at h;split at h
 ·cases h;simp_all
 ·rename_i h0
  split at h
  ·cases h
  ·rename_i x r2 hx
   obtain⟨l2,h2,rfl⟩:=PR.map_inv h;obtain⟨h3,h4⟩:=zqX _ _ _ _ _ (zmu hx) h2;refine⟨by simp[h3];omega,λn hn=> ?_⟩
   rcases List.mem_cons.1 hn with rfl | hn
   ·exact zmu hx
   ·exact h4 n hn
def zlH {n w:Nat} {b r:List UInt8} {p:List Nat} (h:zbN n w b= .ok p r):r=[]/\p.length=n:=by
 unfold zbN at h;split at h
 ·cases h
 ·split at h
  ·cases h
  ·split at h
   ·cases h;simp
   ·cases h
def zxo {n:Nat} {b r:List UInt8} {l:List Int} (h:zhV n b= .ok l r):l.length=n/\ ∀n∈l,zaf n:=by
 unfold zhV at h;split at h
 ·cases h
 ·rename_i many r1 hm
  split at h
  ·cases h
  ·rename_i hc
   split at h
   ·cases h
   ·rename_i u r2 hu
    obtain⟨u1,u2⟩:=zxn hu;unfold zmt at h;split at h
    ·cases h;simp_all
    ·split at h
     ·cases h
     ·rename_i p r3 hp
      split at h
      ·rename_i hq
       cases h;refine⟨by simp[(zlH hp).2],λx hx=> ?_⟩
       rw[ycb]at hx;obtain⟨q,hq1,rfl⟩:=hx;have:=hq q hq1;rw[<- get_at (by omega:q<u.length)]
       exact u2 _ (yar _)
      ·cases h
def zuB {n:Nat} {b r:List UInt8} {l:List Int} (h:zdt n b= .ok l r):l.length=n/\ ∀n∈l,zaf n:=by
 unfold zdt at h;split at h
 ·cases h;simp_all
 ·split at h
  ·cases h
  ·split at h
   ·cases h
   ·split at h
    ·cases h
    ·obtain⟨p,h2,rfl⟩:=PR.map_inv h
     refine⟨by simp[(zlH h2).2],λx hx=> ?_⟩
     rw[ycb]at hx;obtain⟨q,_,rfl⟩:=hx;exact zeo _
def zmw {c n:Nat} {b r:List UInt8} {l:List Int} (h:zf9 c n b= .ok l r):l.length=n/\ ∀n∈l,zaf n:=by
 unfold zf9 at h;split at h
 ·exact zpC _ _ _ _ _ _ h
 ·exact zpC _ _ _ _ _ _ h
 ·exact zqW _ _ _ _ _ (yag _) h
 ·exact zxo h
 ·exact zuB h
def ziP {b:List UInt8} {e:Nat} (h:zsC b= .err e):e≠0:=by
 unfold zsC at h;split at h
 ·cases h
 ·cases h;assumption
def ziQ {b:List UInt8} {e:Nat} (h:zoP b= .err e):e≠0:=by
 unfold zoP at h;split at h
 ·cases h
 ·cases h;assumption
def PR.map_err_inv {α β:Type} {f:α->β} {p:PR α} {e:Nat} (h:p.map f= .err e):p= .err e:=by
 cases p with
 |err e=>cases h;rfl
 |ok a r'=>cases h
def zmx: ∀ (k:Nat) (dl:Bool) (a:Int) (b:List UInt8) (e:Nat),zjX dl k a b= .err e->e≠0
 |0,dl,a,b,e,h=>by cases h
 |k+1,dl,a,b,e,h=>by
  rw[zjX]at h;split at h
  ·rename_i h1;cases h;exact ziQ h1
  ·exact zmx k dl _ _ _ (PR.map_err_inv h)
def zn5: ∀ (f m:Nat) (b:List UInt8) (e:Nat),zfF f m b= .err e->e≠0
 |f,0,b,e,h=>by cases f <;> cases h
 |0,m+1,b,e,h=>by cases h;decide
 |f+1,m+1,b,e,h=>by
  rw[zfF]at h;split at h
  ·rename_i h1;cases h;exact ziQ h1
  ·split at h
   ·rename_i h1;cases h;exact ziP h1
   ·split at h
    ·cases h;decide
    ·exact zn5 f _ _ _ (PR.map_err_inv h)
def zn6: ∀ (k:Nat) (a:Int) (b:List UInt8) (e:Nat),zhU k a b= .err e->e≠0
 |0,a,b,e,h=>by cases h
 |k+1,a,b,e,h=>by
  rw[zhU]at h;split at h
  ·rename_i h1;cases h;exact ziP h1
  ·split at h
   ·cases h;decide
   ·exact zn6 k _ _ _ (PR.map_err_inv h)
def zep {n w:Nat} {b:List UInt8} {e:Nat} (h:zbN n w b= .err e):e≠0:=by
 unfold zbN at h;split at h
 ·cases h;decide
 ·split at h
  ·cases h;decide
  ·split at h
   ·cases h
   ·cases h;decide
def zuC {many:Nat} {b:List UInt8} {e:Nat} (h:zg2 many b= .err e):e≠0:=by
 unfold zg2 at h;split at h
 ·cases h
 ·split at h
  ·rename_i h1;cases h;exact ziQ h1
  ·exact zn6 _ _ _ _ (PR.map_err_inv h)
def zuD {n many:Nat} {u:List Int} {b:List UInt8} {e:Nat} (h:zmt n many u b= .err e):e≠0:=by
 unfold zmt at h;split at h
 ·cases h
 ·split at h
  ·rename_i h1;cases h;exact zep h1
  ·split at h
   ·cases h
   ·cases h;decide
def zuE {n:Nat} {b:List UInt8} {e:Nat} (h:zhV n b= .err e):e≠0:=by
 unfold zhV at h;split at h
 ·rename_i h1;cases h;exact ziP h1
 ·split at h
  ·cases h;decide
  ·split at h
   ·rename_i h1;cases h;exact zuC h1
   ·exact zuD h
def zsK {n:Nat} {b:List UInt8} {e:Nat} (h:zdt n b= .err e):e≠0:=by
 unfold zdt at h;split at h
 ·cases h
 ·split at h
  ·rename_i h1;cases h;exact ziQ h1
  ·split at h
   ·rename_i h1;cases h;exact ziP h1
   ·split at h
    ·cases h;decide
    ·exact zep (PR.map_err_inv h)
def zn7 {c n:Nat} {b:List UInt8} {e:Nat} (h:zf9 c n b= .err e):e≠0:=by
 unfold zf9 at h;split at h
 ·exact zmx _ _ _ _ _ h
 ·exact zmx _ _ _ _ _ h
 ·exact zn5 _ _ _ _ h
 ·exact zuE h
 ·exact zsK h
end Go.Am.Ab
