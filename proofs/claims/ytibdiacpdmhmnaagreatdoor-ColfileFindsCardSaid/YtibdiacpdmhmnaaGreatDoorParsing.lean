/- What bytes of a list are read as: plain law. -/
import Derived.Test.YtibdiacpdmhmnaaGreatDoorRefInts
set_option linter.all false
namespace Go.Am.Ab
open Go.Proofs
set_option maxHeartbeats 4000000
inductive PR (α:Type) where
 |err (e:Nat)
 |ok (a:α) (r:List UInt8)
def PR.map {α β:Type} (f:α->β):PR α->PR β
 |.err e=> .err e
 |.ok a r=> .ok (f a) r
@[simp] def PR.map_err {α β:Type} (f:α->β) (e:Nat):(PR.err e:PR α).map f= .err e:=rfl
@[simp] def PR.map_ok {α β:Type} (f:α->β) (a:α) (r:List UInt8):(PR.ok a r).map f= .ok (f a) r:=rfl
def PR.map_map {α β γ:Type} (f:α->β) (g:β->γ) (p:PR α):(p.map f).map g=p.map (λa=>g (f a)):=by cases p <;> rfl
def PR.map_id {α:Type} {f:α->α} (h: ∀a,f a=a) (p:PR α):p.map f=p:=by
 cases p with
 |err e=>rfl
 |ok a r=>simp[h]
def zti (b:List UInt8):PR Nat:=if (get b).2.2=0 then .ok (get b).1 (b.drop (get b).2.1) else .err (get b).2.2
def zpm (b:List UInt8):PR Int:=if (get b).2.2=0 then .ok (zag (get b).1) (b.drop (get b).2.1) else .err (get b).2.2
def zkd (dl:Bool):Nat->Int->List UInt8->PR (List Int)
 |0,_,b=> .ok [] b
 |k+1,a,b=>
  match zpm b with
  |.err e=> .err e
  |.ok x r=>(zkd dl k (if dl then IntKind.i64.wrap (x+a) else x) r).map ((if dl then IntKind.i64.wrap (x+a) else x):: ·)
def zfK:Nat->Nat->List UInt8->PR (List Int)
 |_,0,b=> .ok [] b
 |0,_,_=> .err 40
 |f+1,m+1,b=>
  match zpm b with
  |.err e=> .err e
  |.ok x r=>
   match zti r with
   |.err e=> .err e
   |.ok k r2=>if k=0\/m+1<k then .err 40 else (zfK f (m+1 - k) r2).map (List.replicate k x++ ·)
def zh4:Nat->Int->List UInt8->PR (List Int)
 |0,_,b=> .ok [] b
 |k+1,a,b=>
  match zti b with
  |.err e=> .err e
  |.ok d r=>if d=0\/9223372036854775807<a+d then .err 40 else (zh4 k (a+d) r).map ((a+d):: ·)
def zbN (n w:Nat) (b:List UInt8):PR (List Nat):=
 if b.length<(n*w+7) / 8 then .err 30 else if (n*w+7) / 8<b.length then .err 32 else if num b<2 ^ (n*w) then .ok (ups w (num b) n) [] else .err 40
def zhe (many:Nat) (b:List UInt8):PR (List Int):=
 if many=0 then .ok [] b else
 match zpm b with
 |.err e=> .err e
 |.ok x r=>(zh4 (many - 1) x r).map (x:: ·)
def zmN (n many:Nat) (u:List Int) (b:List UInt8):PR (List Int):=
 if n=0 then .ok [] b else
 match zbN n (zbW (many - 1)) b with
 |.err e=> .err e
 |.ok p r=>if ∀q∈p,q<many then .ok (p.map (at' u)) r else .err 40
def zh5 (n:Nat) (b:List UInt8):PR (List Int):=
 match zti b with
 |.err e=> .err e
 |.ok many r=>
  if n<many\/many=0/\0<n then .err 40 else
  match zhe many r with
  |.err e=> .err e
  |.ok u r2=>zmN n many u r2
def zdw (n:Nat) (b:List UInt8):PR (List Int):=
 if n=0 then .ok [] b else
 match zpm b with
 |.err e=> .err e
 |.ok x r=>
  match zti r with
  |.err e=> .err e
  |.ok w r2=>
   if 64<w then .err 40 else
   (zbN n w r2).map (λp=>p.map λ(q:Nat)=>IntKind.i64.wrap (x+q))
def zgj (c n:Nat) (b:List UInt8):PR (List Int):=match c with
 |0=>zkd false n 0 b
 |1=>zkd true n 0 b
 |2=>zfK n n b
 |3=>zh5 n b
 |_=>zdw n b
def zAC (c n:Nat) (b:List UInt8):List Int × Nat:=
 match zgj c n b with
 |.err e=>([],e)
 |.ok l r=>if r≠[] then ([],32) else if zhX c l=b then (l,0) else ([],40)
def zbO (b:List UInt8) (n:Int):List Int × Nat:=
 if n<0\/256<n then ([],1) else
 match b with
 |[]=>([],30)
 |c::r=>if 4<c.toNat then ([],50) else zAC c.toNat n.toNat r
def ziF: ∀ (b:List UInt8) (i n:Nat),(zbu i n b).2.1<=i+b.length
 |[],_,_=>by simp[zbu]
 |c::r,i,n=>by
  have:=ziF r (i+1) (n+(c.toNat % 128)*2 ^ (7*i));rw[zbu];simp only[yaf];split
  ·simp
  ·split
   ·split
    ·simp
    ·simp only;omega
   ·omega
def zfw (b:List UInt8):(get b).2.1<=b.length:=by
 have:=ziF b 0 0;unfold get;omega
def zke: ∀ (b:List UInt8) (i n:Nat),(zbu i n b).2.2=0\/(zbu i n b)=(0,0,30)\/(zbu i n b)=(0,0,31)
 |[],_,_=>by simp[zbu]
 |c::r,i,n=>by
  have:=zke r (i+1) (n+(c.toNat % 128)*2 ^ (7*i));rw[zbu];split
  ·simp
  ·split
   ·split
    ·simp
    ·simp
   ·exact this
def zAD (b:List UInt8):(get b).2.2=0\/get b=(0,0,30)\/get b=(0,0,31):=zke b 0 0
def zlS {n:Nat} (h:n<18446744073709551616):zah (zag n):=by
 unfold zah zag;split <;> omega
def zmO {b r:List UInt8} {x:Int} (h:zpm b= .ok x r):zah x:=by
 unfold zpm at h;split at h
 ·cases h;exact zlS (zdu b)
 ·cases h
end Go.Am.Ab
namespace Go.Am.Ab
set_option maxHeartbeats 4000000
def zqc (n:Nat): ∀ (i acc:Nat) (t:List UInt8),n*2 ^ (7*i)<18446744073709551616->(0<i->0<n)->i<=9->zbu i acc (put n++t)=(acc+n*2 ^ (7*i),i+(put n).length,0):=by
 induction n using Nat.strongRecOn with
 |_ n ih=>
 intro i acc t hb h0 hi
 by_cases h:n<128
 ·rw[ziA h,ya9,ybT,zbu,zdo (by omega)]
  have h9: ¬ (i=9/\1<n):=by
   rintro ⟨rfl,h1⟩
   have:2*2 ^ (7*9)<=n*2 ^ (7*9):=yaG _ h1;simp at this;omega
  rw[yac h9,yag h,yac (by omega)]
  simp
 ·rw[zuW (by omega),ya9,zbu,zdo (by omega)]
  have h9:i≠9:=by
   rintro rfl
   have:128*2 ^ (7*9)<=n*2 ^ (7*9):=yaG _ (by omega)
   simp at this;omega
  rw[yac (by omega),yac (by omega)]
  have hp:2 ^ (7*(i+1))=128*2 ^ (7*i):=by rw[ycM,ybC,ybW]
  obtain⟨P,hP⟩: ∃P,P=2 ^ (7*i):=⟨_,rfl⟩;have hd:n*P=n / 128*(128*P)+n % 128*P:=by
   have:=ycR n 128
   calc n*P=(128*(n / 128)+n % 128)*P:=by rw[this]
    _=_:=by rw[ya8,ybW 128,ydJ]
  rw[ih (n / 128) (by omega) (i+1) _ t (by rw[hp,<- hP];rw[<- hP]at hb;omega) (λ_=>by omega) (by omega)]
  rw[hp,<- hP,hd];simp only[yaf,yad];refine⟨?_, ?_,trivial⟩
  ·rw[show (n % 128+128) % 128=n % 128 by omega];omega
  ·omega
def zgk {n:Nat} (h:n<18446744073709551616) (t:List UInt8):get (put n++t)=(n,(put n).length,0):=by
 unfold get;rw[zqc n 0 0 t (by simpa using h) (λh=>by omega) (by omega)]
 simp
def zfx {n:Nat} (h:n<18446744073709551616) (t:List UInt8):zti (put n++t)= .ok n t:=by
 unfold zti;rw[zgk h];simp
def zAE {x:Int}:zag (zig x)=x:=by
 unfold zag zig;split <;> split <;> omega
def zfy {x:Int} (h:zah x) (t:List UInt8):zpm (zbe x++t)= .ok x t:=by
 unfold zpm zbe;rw[zgk (zre h.1 h.2)];simp[zAE]
def zlT: ∀ (l:List Int) (a:Int) (t:List UInt8),(∀n∈l,zah n)->zkd false l.length a (zbC l++t)= .ok l t
 |[],_,t,_=>rfl
 |x::r,a,t,h=>by
  rw[zgh,yan,yaf,zkd,zfy (h x (by simp))]
  simp only[yaD,ybd];rw[zlT r _ t λn hn=>h n (by simp[hn])];rfl
def zvi {n a:Int} (h:zah n):IntKind.i64.wrap (IntKind.i64.wrap (n - a)+a)=n:=by
 unfold zah at h;rw[za0,za0];split <;> split <;> omega
def zlU: ∀ (l:List Int) (a:Int) (t:List UInt8),(∀n∈l,zah n)->zkd true l.length a (zbC (zey a l)++t)= .ok l t
 |[],_,t,_=>rfl
 |x::r,a,t,h=>by
  rw[zey,zgh,yan,yaf,zkd,zfy (zen _)];simp only[ybk];rw[zvi (h x (by simp)),zlU r _ t λn hn=>h n (by simp[hn])];rfl
def zrv (x:Int): ∀l:List Int,l=List.replicate (cnt x l) x++l.drop (cnt x l)
 |[]=>by simp[cnt]
 |y::r=>by
  by_cases h:y=x
  ·subst h
   rw[cnt,yag rfl,yaR,List.drop_succ_cons,ya9,<- zrv y r]
  ·rw[cnt,yac h];simp
def ztj (m:Nat): ∀ (f:Nat) (l:List Int) (t:List UInt8),l.length=m->m<=f->m<=1000000->(∀n∈l,zah n)->zfK f m (zg3 l++t)= .ok l t:=by
 induction m using Nat.strongRecOn with
 |_ m ih=>
 intro f l t hl hf hm h;cases l with
 |nil=>
  simp only[yaz]at hl;subst hl;cases f <;> rfl
 |cons x r=>
  obtain⟨m,rfl⟩: ∃k,m=k+1:=⟨m - 1,by simp at hl;omega⟩
  obtain⟨f,rfl⟩: ∃k,f=k+1:=⟨f - 1,by omega⟩
  have hc:=zri x (x::r);have hc1:1<=cnt x (x::r):=by simp[cnt]
  have ht:=zrv x (x::r);rw[zlL rfl,yan,yan];obtain⟨k,hk⟩: ∃k,k=cnt x (x::r):=⟨_,rfl⟩;rw[<- hk]at hc hc1 ht ⊢;rw[zfK,zfy (h x (by simp))]
  simp only;rw[zfx (by omega)]
  simp only;rw[yac (by omega),ih (m+1 - k) (by omega) f _ t (by rw[yax,hl]) (by omega) (by omega) λn hn=>h n (ybF hn)]
  rw[PR.map_ok,<- ht]
end Go.Am.Ab
namespace Go.Am.Ab
set_option maxHeartbeats 4000000
def zyd (w N i:Nat):ups w N (i+1)=N % 2 ^ w::ups w (N / 2 ^ w) i:=by
 unfold ups;rw[List.range_succ_eq_map,yaV,yaQ];congr 1
 ·simp
 ·apply ya0
  intro j _;simp only[Function.comp];rw[ybH,<- ybC,show (j+1)*w=w+j*w by rw[ya8,ycw,yb4]]
def zrw (w:Nat): ∀p:List Nat,(∀n∈p,n<2 ^ w)->ups w (zcN w p) p.length=p
 |[],_=>rfl
 |n::r,h=>by
  have hn:=h n (by simp)
  rw[yaf,zyd,zcN];have hp:0<2 ^ w:=ybz w;have e1:(n+2 ^ w*zcN w r) % 2 ^ w=n:=by rw[ydD,yaK hn]
  have e2:(n+2 ^ w*zcN w r) / 2 ^ w=zcN w r:=by rw[Nat.add_mul_div_left _ _ hp,Nat.div_eq_of_lt hn,yaX]
  rw[e1,e2,zrw w r λm hm=>h m (by simp[hm])]
def zbx (w:Nat) (p:List Nat):(zbB w p).length=(p.length*w+7) / 8:=by
 unfold zbB;rw[zjY]
def zdJ {w:Nat} {p:List Nat} (h: ∀n∈p,n<2 ^ w):zbN p.length w (zbB w p)= .ok p []:=by
 have hl:=zbx w p;have hlt:=zmH w p h;unfold zbN;rw[yac (by omega),yac (by omega)]
 have hn:num (zbB w p)=zcN w p:=by
  unfold zbB;refine zzv _ _ (ybp hlt (yby (by decide) ?_))
  omega
 rw[hn,yag hlt,zrw w p h]
def ziG {w:Nat} {p:List Nat} {t:List UInt8} (ht:t≠[]):zbN p.length w (zbB w p++t)= .err 32:=by
 have hl:=zbx w p;have:=List.length_pos_iff.2 ht;unfold zbN;rw[yae,yac (by omega),yag (by omega)]
def zlV: ∀ (l:List Int) (a:Int) (t:List UInt8),zah a->(∀n∈l,zah n)->(∀n∈l,a<n)->Rises l->zh4 l.length a (zta a l++t)= .ok l t
 |[],_,t,_,_,_,_=>rfl
 |x::r,a,t,ha,h,hlt,hr=>by
  have hx:=h x (by simp)
  have h1:=hlt x (by simp)
  unfold zah at ha hx;obtain⟨d,hd⟩: ∃d:Nat,(d:Int)=x - a:=⟨(x - a).toNat,by omega⟩
  have hdd:(x - a).toNat=d:=by omega
  rw[zta,hdd,yan,yaf,zh4,zfx (by omega)]
  simp only;rw[yac (by omega),show a+(d:Int)=x by omega,zlV r x t (h x (by simp)) (λn hn=>h n (by simp[hn])) hr.1 hr.2]
  rfl
def zlW {u:List Int} (t:List UInt8) (h: ∀n∈u,zah n) (hr:Rises u):zhe u.length (zcs u++t)= .ok u t:=by
 unfold zhe;cases u with
 |nil=>rfl
 |cons x r=>
  rw[yaf,yac (by omega),zcs,yan,zfy (h x (by simp))]
  simp only;rw[ybJ,zlV r x t (h x (by simp)) (λn hn=>h n (by simp[hn])) hr.1 hr.2]
  rfl
def zos {l:List Nat} {m:Nat} (hl: ∀n∈l,n<18446744073709551616):zcM l<=m↔ ∀n∈l,n<2 ^ m:=by
 constructor
 ·intro h;exact zg1 hl h
 ·intro h
  have key: ∀ (l:List Nat) (a:Nat),a<=m->(∀n∈l,n<18446744073709551616)->(∀n∈l,n<2 ^ m)->l.foldl (λw n=>max w (zbW n)) a<=m:=by
   intro l
   induction l with
   |nil=>intro a ha _ _;exact ha
   |cons x r ih=>
    intro a ha h1 h2;rw[ybc];refine ih _ ?_ (λn hn=>h1 n (by simp[hn])) (λn hn=>h2 n (by simp[hn]))
    have:=(zbo (m:=m) (h1 x (by simp))).2 (h2 x (by simp))
    omega
  exact key l 0 (yai _) hl h
def zEq {u:List Int} {i:Nat} (hr:Rises u) (hi:i<u.length):idx u (at' u i)=i:=by
 have hm:at' u i∈u:=by rw[<- get_at hi];exact yam _
 have h1:=zru hm;have h2:=ziD hm;have hur:=rises_iff.1 hr
 by_cases c:idx u (at' u i)<i
 ·have:=hur _ i c hi;omega
 ·by_cases c2:i<idx u (at' u i)
  ·have:=hur i _ c2 h2;omega
  ·omega
def ziH {l:List Int} (h0:l≠[]) (hn:l.length<=256):zcM (zbf (uniq l) l)=zbW ((uniq l).length - 1):=by
 have hpm:=zhc hn;have h1:=uniq_length_le l;have hu:=zqb h0;have hmem:(uniq l).length - 1∈zbf (uniq l) l:=by
  unfold zbf;rw[ycd];refine⟨at' (uniq l) ((uniq l).length - 1),uniq_mem.1 (by rw[<- get_at (by omega:(uniq l).length - 1<(uniq l).length)];exact yam _),zEq (uniq_rises l) (by omega)⟩
 have hle: ∀q∈zbf (uniq l) l,q<=(uniq l).length - 1:=by
  intro q hq;unfold zbf at hq;rw[ycd]at hq;obtain⟨x,hx,rfl⟩:=hq;have:=ziD (uniq_mem.2 hx);omega
 apply Nat.le_antisymm
 ·rw[zos hpm]
  intro q hq;have:=(zbo (m:=zbW ((uniq l).length - 1)) (by omega:(uniq l).length - 1<18446744073709551616)).1 (yaj _)
  have:=hle q hq;omega
 ·rw[zbo (by omega)]
  exact zg1 hpm (yaj _) _ hmem
def ztk (w:Nat):zbB w []=[]:=by
 have:=zbx w [];simpa using this
def ztl {l:List Int} (t:List UInt8) (h: ∀n∈l,zah n) (hn:l.length<=256) (ht:t=[]\/l=[]):zh5 l.length (zmM l++t)= .ok l t:=by
 have h1:=uniq_length_le l;unfold zh5 zmM;rw[yan,zfx (by omega)]
 simp only;rw[yan,zlW _ (λn hm=>h n (uniq_mem.1 hm)) (uniq_rises l)]
 by_cases h0:l=[]
 ·subst h0
  rw[yac (by simp[uniq])]
  simp only[yaz,zmN,ybk];rw[show zbf (uniq []) []=[] from rfl,ztk];rfl
 ·have hu:=zqb h0
  have hl:l.length≠0:=by simpa using h0
  have hpl:(zbf (uniq l) l).length=l.length:=by simp[zbf]
  have htn:t=[]:=by
   rcases ht with h | h
   ·exact h
   ·exact absurd h h0
  rw[yac (by omega)]
  simp only[zmN,yac hl];rw[<- ziH h0 hn,htn,yap,<- hpl,zdJ (zg1 (zhc hn) (yaj _))];simp only;rw[yag]
  ·congr 1
   unfold zbf;rw[yaQ]
   conv=>rhs;rw[<- yc5 l]
   apply ya0;intro x hx;exact zru (uniq_mem.2 hx)
  ·intro q hq
   unfold zbf at hq;rw[ycd]at hq;obtain⟨x,hx,rfl⟩:=hq;exact ziD (uniq_mem.2 hx)
def ztm {l:List Int} {t:List UInt8} (h: ∀n∈l,zah n) (hn:l.length<=256) (ht:t≠[]) (h0:l≠[]):zh5 l.length (zmM l++t)= .err 32:=by
 have h1:=uniq_length_le l;have hu:=zqb h0;have hl:l.length≠0:=by simpa using h0
 have hpl:(zbf (uniq l) l).length=l.length:=by simp[zbf]
 unfold zh5 zmM;rw[yan,zfx (by omega)]
 simp only;rw[yan,zlW _ (λn hm=>h n (uniq_mem.1 hm)) (uniq_rises l),yac (by omega)]
 simp only[zmN,yac hl];rw[<- ziH h0 hn,<- hpl,ziG ht]
def zmP {l:List Int} (t:List UInt8) (h: ∀n∈l,zah n) (hn:l.length<=256) (ht:t=[]\/l=[]):zdw l.length (zcR l++t)= .ok l t:=by
 unfold zdw zcR
 by_cases h0:l=[]
 ·subst h0;rfl
 ·have hl:l.length≠0:=by simpa using h0
  have htn:t=[]:=by
   rcases ht with h | h
   ·exact h
   ·exact absurd h h0
  have hm:=h _ (zg4 h0);have hml:(zdq l).length=l.length:=by simp[zdq]
  have hw:=zcQ (zg5 h);rw[yac hl,yac h0,htn,yap,zfy hm];simp only;rw[zfx (by omega)]
  simp only;rw[yac (by omega),<- hml,zdJ (zg1 (zg5 h) (yaj _)),PR.map_ok]
  congr 1;unfold zdq;rw[yaQ]
  conv=>rhs;rw[<- yc5 l]
  apply ya0;intro x hx;have h1:=zu4 x hx;have h2:=h x hx;unfold zah at h2;simp only[Function.comp,id];rw[show zpj l+(((x - zpj l).toNat:Nat):Int)=x by omega,wI (by omega) (by omega)]
def zqd {l:List Int} {t:List UInt8} (h: ∀n∈l,zah n) (ht:t≠[]) (h0:l≠[]):zdw l.length (zcR l++t)= .err 32:=by
 have hl:l.length≠0:=by simpa using h0
 have hm:=h _ (zg4 h0);have hml:(zdq l).length=l.length:=by simp[zdq]
 have hw:=zcQ (zg5 h);unfold zdw zcR;rw[yac hl,yac h0,yan,zfy hm];simp only;rw[yan,zfx (by omega)]
 simp only;rw[yac (by omega),<- hml,ziG ht];rfl
end Go.Am.Ab
namespace Go.Am.Ab
set_option maxHeartbeats 4000000
def zot {c:Nat} {l:List Int} (t:List UInt8) (hc:c<5) (h: ∀n∈l,zah n) (hn:l.length<=256) (ht:c<=2\/t=[]\/l=[]):zgj c l.length (zhX c l++t)= .ok l t:=by
 have hcc:c=0\/c=1\/c=2\/c=3\/c=4:=by omega
 rcases hcc with rfl | rfl | rfl | rfl | rfl
 ·exact zlT l 0 t h
 ·exact zlU l 0 t h
 ·exact ztj l.length l.length l t rfl (yaj _) (by omega) h
 ·exact ztl t h hn (by rcases ht with h | h;omega;exact h)
 ·exact zmP t h hn (by rcases ht with h | h;omega;exact h)
def ztn {c:Nat} {l:List Int} {t:List UInt8} (hc:c<5) (hc2:2<c) (h: ∀n∈l,zah n) (hn:l.length<=256) (ht:t≠[]) (h0:l≠[]):zgj c l.length (zhX c l++t)= .err 32:=by
 have hcc:c=3\/c=4:=by omega
 rcases hcc with rfl | rfl
 ·exact ztm h hn ht h0
 ·exact zqd h ht h0
def zlX {c:Nat} (hc:c<5) (r:List UInt8) (n:Nat) (hn:n<=256):zbO (u8n c::r) n=zAC c n r:=by
 unfold zbO;rw[yac (by omega)]
 simp only;rw[zdo (by omega),yac (by omega),yat]
def zto {c:Nat} {l:List Int} (hc:c<5) (h: ∀n∈l,zah n) (hn:l.length<=256):zbO (u8n c::zhX c l) l.length=(l,0):=by
 rw[zlX hc _ _ hn];unfold zAC;have:=zot [] hc h hn (.inr (.inl rfl));rw[yap]at this;rw[this];simp
def ztp {c:Nat} {l:List Int} {t:List UInt8} (hc:c<5) (h: ∀n∈l,zah n) (hn:l.length<=256) (ht:t≠[]):zbO (u8n c::(zhX c l++t)) l.length=([],32):=by
 rw[zlX hc _ _ hn];unfold zAC
 by_cases h2:c<=2\/l=[]
 ·rw[zot t hc h hn (by rcases h2 with h | h;exact .inl h;exact .inr (.inr h))]
  simp[ht]
 ·rw[ztn hc (by omega) h hn ht (λe=>h2 (.inr e))]
def zkf (l:List Int): ∀k,0<k->k<=5->(∃c,c<5/\zbb l k=u8n c::zhX c l)/\ ∀c,c<k->(zbb l k).length<=(zhX c l).length+1
 |0,h,_=>by omega
 |k+1,_,h5=>by
  by_cases h0:k=0
  ·subst h0
   refine⟨⟨0,by omega,by rw[zbb,yag (.inl rfl)]⟩,λc hc=> ?_⟩
   rw[zbb,yag (.inl rfl),show c=0 by omega];simp
  ·obtain⟨⟨c,h1,h2⟩,h3⟩:=zkf l k (by omega) (by omega)
   rw[zbb];split
   ·rename_i h4
    refine⟨⟨k,by omega,rfl⟩,λc' hc'=> ?_⟩
    rcases h4 with h4 | h4
    ·omega
    ·by_cases e:c'=k
     ·subst e;simp
     ·have:=h3 c' (by omega)
      simp only[yaf];omega
   ·rename_i h4
    refine⟨⟨c,h1,h2⟩,λc' hc'=> ?_⟩
    by_cases e:c'=k
    ·subst e;omega
    ·exact h3 c' (by omega)
def zou (l:List Int):(∃c,c<5/\zb7 l=u8n c::zhX c l)/\ ∀c,c<5->(zb7 l).length<=(zhX c l).length+1:=zkf l 5 (by omega) (yaj _)
def zh6 {l:List Int} (h: ∀n∈l,zah n) (hn:l.length<=256):zbO (zb7 l) l.length=(l,0):=by
 obtain⟨⟨c,hc,e⟩,_⟩:=zou l;rw[e];exact zto hc h hn
def PR.map_inv {α β:Type} {f:α->β} {p:PR α} {b:β} {r:List UInt8} (h:p.map f= .ok b r): ∃a,p= .ok a r/\f a=b:=by
 cases p with
 |err e=>cases h
 |ok a r'=>cases h;exact⟨a,rfl,rfl⟩
def zqe: ∀ (k:Nat) (dl:Bool) (a:Int) (b r:List UInt8) (l:List Int),zkd dl k a b= .ok l r->l.length=k/\ ∀n∈l,zah n
 |0,dl,a,b,r,l,h=>by cases h;simp
 |k+1,dl,a,b,r,l,h=>by
  rw[zkd]at h;split at h
  ·cases h
  ·rename_i x r2 hx
   obtain⟨l2,h2,rfl⟩:=PR.map_inv h;obtain⟨h3,h4⟩:=zqe k dl _ _ _ _ h2;refine⟨by simp[h3],λn hn=> ?_⟩
   rcases List.mem_cons.1 hn with rfl | hn
   ·cases dl with
    |true=>exact zen _
    |false=>exact zmO hx
   ·exact h4 n hn
def zrx: ∀ (f m:Nat) (b r:List UInt8) (l:List Int),m<=f->zfK f m b= .ok l r->l.length=m/\ ∀n∈l,zah n
 |f,0,b,r,l,_,h=>by cases f <;> (cases h;simp)
 |0,m+1,b,r,l,hf,h=>by omega
 |f+1,m+1,b,r,l,hf,h=>by
  rw[zfK]at h;split at h
  ·cases h
  ·rename_i x r2 hx
   split at h
   ·cases h
   ·rename_i k r3 hk
    split at h
    ·cases h
    ·rename_i hkm
     obtain⟨l2,h2,rfl⟩:=PR.map_inv h;obtain⟨h3,h4⟩:=zrx f (m+1 - k) _ _ _ (by omega) h2
     refine⟨by simp[h3];omega,λn hn=> ?_⟩
     rcases List.mem_append.1 hn with hn | hn
     ·rw[(List.mem_replicate.1 hn).2];exact zmO hx
     ·exact h4 n hn
def zry: ∀ (k:Nat) (a:Int) (b r:List UInt8) (l:List Int),zah a->zh4 k a b= .ok l r->l.length=k/\ ∀n∈l,zah n
 |0,a,b,r,l,_,h=>by cases h;simp
 |k+1,a,b,r,l,ha,h=>by
  rw[zh4]at h;split at h
  ·cases h
  ·rename_i d r2 hd
   split at h
   ·cases h
   ·rename_i hc
    obtain⟨l2,h2,rfl⟩:=PR.map_inv h;have had:zah (a+d):=by unfold zah at ha ⊢;omega
    obtain⟨h3,h4⟩:=zry k _ _ _ _ had h2;refine⟨by simp[h3],λn hn=> ?_⟩
    rcases List.mem_cons.1 hn with rfl | hn
    ·exact had
    ·exact h4 n hn
def zye {many:Nat} {b r:List UInt8} {l:List Int} (h:zhe many b= .ok l r):l.length=many/\ ∀n∈l,zah n:=by
 unfold zhe at h;split at h
 ·cases h;simp_all
 ·rename_i h0
  split at h
  ·cases h
  ·rename_i x r2 hx
   obtain⟨l2,h2,rfl⟩:=PR.map_inv h;obtain⟨h3,h4⟩:=zry _ _ _ _ _ (zmO hx) h2;refine⟨by simp[h3];omega,λn hn=> ?_⟩
   rcases List.mem_cons.1 hn with rfl | hn
   ·exact zmO hx
   ·exact h4 n hn
def zlY {n w:Nat} {b r:List UInt8} {p:List Nat} (h:zbN n w b= .ok p r):r=[]/\p.length=n:=by
 unfold zbN at h;split at h
 ·cases h
 ·split at h
  ·cases h
  ·split at h
   ·cases h;simp
   ·cases h
def zyf {n:Nat} {b r:List UInt8} {l:List Int} (h:zh5 n b= .ok l r):l.length=n/\ ∀n∈l,zah n:=by
 unfold zh5 at h;split at h
 ·cases h
 ·rename_i many r1 hm
  split at h
  ·cases h
  ·rename_i hc
   split at h
   ·cases h
   ·rename_i u r2 hu
    obtain⟨u1,u2⟩:=zye hu;unfold zmN at h;split at h
    ·cases h;simp_all
    ·split at h
     ·cases h
     ·rename_i p r3 hp
      split at h
      ·rename_i hq
       cases h;refine⟨by simp[(zlY hp).2],λx hx=> ?_⟩
       rw[ycd]at hx;obtain⟨q,hq1,rfl⟩:=hx;have:=hq q hq1;rw[<- get_at (by omega:q<u.length)]
       exact u2 _ (yam _)
      ·cases h
def zvj {n:Nat} {b r:List UInt8} {l:List Int} (h:zdw n b= .ok l r):l.length=n/\ ∀n∈l,zah n:=by
 unfold zdw at h;split at h
 ·cases h;simp_all
 ·split at h
  ·cases h
  ·split at h
   ·cases h
   ·split at h
    ·cases h
    ·obtain⟨p,h2,rfl⟩:=PR.map_inv h
     refine⟨by simp[(zlY h2).2],λx hx=> ?_⟩
     rw[ycd]at hx;obtain⟨q,_,rfl⟩:=hx;exact zen _
def zmQ {c n:Nat} {b r:List UInt8} {l:List Int} (h:zgj c n b= .ok l r):l.length=n/\ ∀n∈l,zah n:=by
 unfold zgj at h;split at h
 ·exact zqe _ _ _ _ _ _ h
 ·exact zqe _ _ _ _ _ _ h
 ·exact zrx _ _ _ _ _ (yaj _) h
 ·exact zyf h
 ·exact zvj h
def zi8 {b:List UInt8} {e:Nat} (h:zti b= .err e):e≠0:=by
 unfold zti at h;split at h
 ·cases h
 ·cases h;assumption
def zi9 {b:List UInt8} {e:Nat} (h:zpm b= .err e):e≠0:=by
 unfold zpm at h;split at h
 ·cases h
 ·cases h;assumption
def PR.map_err_inv {α β:Type} {f:α->β} {p:PR α} {e:Nat} (h:p.map f= .err e):p= .err e:=by
 cases p with
 |err e=>cases h;rfl
 |ok a r'=>cases h
def zmR: ∀ (k:Nat) (dl:Bool) (a:Int) (b:List UInt8) (e:Nat),zkd dl k a b= .err e->e≠0
 |0,dl,a,b,e,h=>by cases h
 |k+1,dl,a,b,e,h=>by
  rw[zkd]at h;split at h
  ·rename_i h1;cases h;exact zi9 h1
  ·exact zmR k dl _ _ _ (PR.map_err_inv h)
def zov: ∀ (f m:Nat) (b:List UInt8) (e:Nat),zfK f m b= .err e->e≠0
 |f,0,b,e,h=>by cases f <;> cases h
 |0,m+1,b,e,h=>by cases h;decide
 |f+1,m+1,b,e,h=>by
  rw[zfK]at h;split at h
  ·rename_i h1;cases h;exact zi9 h1
  ·split at h
   ·rename_i h1;cases h;exact zi8 h1
   ·split at h
    ·cases h;decide
    ·exact zov f _ _ _ (PR.map_err_inv h)
def zow: ∀ (k:Nat) (a:Int) (b:List UInt8) (e:Nat),zh4 k a b= .err e->e≠0
 |0,a,b,e,h=>by cases h
 |k+1,a,b,e,h=>by
  rw[zh4]at h;split at h
  ·rename_i h1;cases h;exact zi8 h1
  ·split at h
   ·cases h;decide
   ·exact zow k _ _ _ (PR.map_err_inv h)
def zeq {n w:Nat} {b:List UInt8} {e:Nat} (h:zbN n w b= .err e):e≠0:=by
 unfold zbN at h;split at h
 ·cases h;decide
 ·split at h
  ·cases h;decide
  ·split at h
   ·cases h
   ·cases h;decide
def zvk {many:Nat} {b:List UInt8} {e:Nat} (h:zhe many b= .err e):e≠0:=by
 unfold zhe at h;split at h
 ·cases h
 ·split at h
  ·rename_i h1;cases h;exact zi9 h1
  ·exact zow _ _ _ _ (PR.map_err_inv h)
def zvl {n many:Nat} {u:List Int} {b:List UInt8} {e:Nat} (h:zmN n many u b= .err e):e≠0:=by
 unfold zmN at h;split at h
 ·cases h
 ·split at h
  ·rename_i h1;cases h;exact zeq h1
  ·split at h
   ·cases h
   ·cases h;decide
def zvm {n:Nat} {b:List UInt8} {e:Nat} (h:zh5 n b= .err e):e≠0:=by
 unfold zh5 at h;split at h
 ·rename_i h1;cases h;exact zi8 h1
 ·split at h
  ·cases h;decide
  ·split at h
   ·rename_i h1;cases h;exact zvk h1
   ·exact zvl h
def ztq {n:Nat} {b:List UInt8} {e:Nat} (h:zdw n b= .err e):e≠0:=by
 unfold zdw at h;split at h
 ·cases h
 ·split at h
  ·rename_i h1;cases h;exact zi9 h1
  ·split at h
   ·rename_i h1;cases h;exact zi8 h1
   ·split at h
    ·cases h;decide
    ·exact zeq (PR.map_err_inv h)
def zox {c n:Nat} {b:List UInt8} {e:Nat} (h:zgj c n b= .err e):e≠0:=by
 unfold zgj at h;split at h
 ·exact zmR _ _ _ _ _ h
 ·exact zmR _ _ _ _ _ h
 ·exact zov _ _ _ _ h
 ·exact zvm h
 ·exact ztq h
end Go.Am.Ab
