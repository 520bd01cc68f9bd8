/- The reading of the program. -/
import Derived.Test.YtibdiacpdmhmnaaGreatDoorParsing
import Derived.Test.YtibdiacpdmhmnaaGreatDoorReadA
set_option linter.all false
namespace Go.Am.Ab
open Go.Proofs
set_option maxHeartbeats 4000000
def zw4 (g:Nat->Int) (p:List Nat) (i:Nat):List Int:=(p.take i).map g
def zoH (g:Nat->Int) (p:List Nat):zw4 g p 0=[]:=rfl
def zoI {g:Nat->Int} {p:List Nat} {i:Nat} (h:i<p.length):zw4 g p (i+1)=zw4 g p i++[g p[i]]:=by
 unfold zw4;rw[zaN h,ya7];rfl
def zkn {g:Nat->Int} {p:List Nat} {i:Nat} (h:i<=p.length):(zw4 g p i).length=i:=by
 simp[zw4];omega
def zrE {g:Nat->Int} {p:List Nat} {i:Nat} (h:p.length<=i):zw4 g p i=p.map g:=by
 unfold zw4;rw[yaA h]
def RP (pr:PR (List Int)) (r:Option (List V × List Obj)):Prop:=match pr with
 |.err e=> ∃ (x:V) (l:List Int),(x= .nilS\/ ∃b,x=B b)/\l.length<=256/\(∀n∈l,zah n)/\r=some ([.arr 1 l.length],[.box [x,E e],.arr 1 (cs l) 0])
 |.ok l b=> ∃x,(x=B b\/b=[]/\x= .nilS)/\r=some ([.arr 1 l.length],[.box [x,Z],.arr 1 (cs l) 0])
def ziJ {pr:PR (List Int)}: ¬ RP pr none:=by
 intro h;cases pr with
 |err e=>obtain⟨x,l,_,_,_,h⟩:=h;cases h
 |ok l b=>obtain⟨x,_,h⟩:=h;cases h
def ze4 {pr:PR (List Int)} {e:Nat} (h:pr= .err e) (b:List UInt8) (l:List Int) (h1:l.length<=256) (h2: ∀n∈l,zah n):RP pr (some ([.arr 1 l.length],[.box [.d (.list (bytes b)),.d (.int .i64 (e:Int))],.arr 1 (cs l) 0])):=by
 subst h;exact⟨_,l,.inr ⟨b,rfl⟩,h1,h2,rfl⟩
def zAH {pr:PR (List Int)} {e:Nat} (h:pr= .err e) (l:List Int) (h1:l.length<=256) (h2: ∀n∈l,zah n):RP pr (some ([.arr 1 l.length],[.box [.nilS,.d (.int .i64 (e:Int))],.arr 1 (cs l) 0])):=by
 subst h;exact⟨_,l,.inl rfl,h1,h2,rfl⟩
def zAI {pr:PR (List Int)} {b:List UInt8} {l:List Int} (h:pr= .ok l b):RP pr (some ([.arr 1 l.length],[.box [.d (.list (bytes b)),.d (.int .i64 0)],.arr 1 (cs l) 0])):=by
 subst h;exact⟨_,.inl rfl,rfl⟩
def zzz {pr:PR (List Int)} {l:List Int} (h:pr= .ok l []):RP pr (some ([.arr 1 l.length],[.box [.nilS,.d (.int .i64 0)],.arr 1 (cs l) 0])):=by
 subst h;exact⟨_,.inr ⟨rfl,rfl⟩,rfl⟩
def zdx {b:List UInt8} (h:(get b).2.2≠0):(get b).1=0:=by
 rcases zAD b with h1 | h1 | h1
 ·exact absurd h1 h
 ·rw[h1]
 ·rw[h1]
def zhj {b:List UInt8} (h:(get b).2.2≠0):zpm b= .err (get b).2.2:=yac h
def ze5 {b:List UInt8} (h:(get b).2.2=0):zpm b= .ok (zag (get b).1) (b.drop (get b).2.1):=yag h
def zjc {b:List UInt8} (h:(get b).2.2≠0):zti b= .err (get b).2.2:=yac h
def zhk {b:List UInt8} (h:(get b).2.2=0):zti b= .ok (get b).1 (b.drop (get b).2.1):=yag h
def zdy:((0:Nat):Int)=0:=rfl
def zty (b0:List UInt8) (n:Nat) (hn:n<=256) (hb0:b0.length<1000000):RP (zfK n n b0) (R 210 [.ptr 0 0,.d (.int .i64 n)] [.box [B b0,Z]]):=by
 refine ra zKq rfl ziJ ?_;simp -dsimp -implicitDefEqProofs (disch:=omega)
 generalize hT0:RP (zfK n n b0)=T0;generalize hz:zaf _ _ _ _ _ _=z;revert z;refine zaa (σ:=List Int × List UInt8 × Nat) (λx=>[(0,.ptr 0 0),(1,.d (.int .i64 n)),(5,.arr 1 x.1.length)]) (λx=>[.box [B x.2.1,Z],.arr 1 (cs x.1) 0]) (λx=>x.1.length<=n/\n - x.1.length<=x.2.2/\x.2.1.length<1000000/\zfK n n b0=(zfK x.2.2 (n - x.1.length) x.2.1).map (x.1++ ·)) (λx=>n - x.1.length) ([],b0,n) ?_ ?_ ?_
 ·exact⟨yai _,yaj _,hb0,(PR.map_id (λa=>rfl) _).symm⟩
 ·simp -dsimp -implicitDefEqProofs (disch:=omega) [B,E]
 intro T' f hT' ⟨l,b,k⟩ ⟨hl,hk,hb,hp⟩ ih;simp only at hl hk hb hp ih
 by_cases h1:l.length<n
 ·have h1':(l.length:Int)<n:=by omega
  obtain⟨k,rfl⟩: ∃j,k=j+1:=⟨k - 1,by omega⟩
  obtain⟨m,hm⟩: ∃m,n - l.length=m+1:=⟨n - l.length - 1,by omega⟩
  have hmi:IntKind.u64.wrap ((n:Int) - l.length)=((m+1:Nat):Int):=by rw[zal (by omega) (by omega)];omega
  rw[hm,zfK]at hp;have w1:=zhg b (by omega)
  by_cases he:(get b).2.2=0
  ·rw[ze5 he]at hp
   simp only at hp;rw[he,zfZ]at w1;obtain⟨r,hr⟩: ∃r,r=b.drop (get b).2.1:=⟨_,rfl⟩;have hrl:r.length<1000000:=by rw[hr,yax];omega
   have hz:=zlS (zdu b);obtain⟨x,hx⟩: ∃x,x=zag (get b).1:=⟨_,rfl⟩;rw[<- hr,<- hx]at hp w1;rw[<- hx]at hz;have w2:=zrz r (by omega)
   by_cases he2:(get r).2.2=0
   ·rw[zhk he2]at hp
    simp only at hp;rw[he2,zfZ]at w2;obtain⟨s,hs⟩: ∃s,s=r.drop (get r).2.1:=⟨_,rfl⟩;have hsl:s.length<1000000:=by rw[hs,yax];omega
    have hq:=zdu r;obtain⟨q,hqq⟩: ∃q,q=(get r).1:=⟨_,rfl⟩;rw[<- hs,<- hqq]at hp w2;rw[<- hqq]at hq;have f1:=zhf (.list (bytes s)) 40
    by_cases hc:q=0\/m+1<q
    ·rw[yag hc,PR.map_err]at hp
     have fin:=ze4 hp s [] (by simp) (by simp)
     rw[hT0]at fin;subst hT'
     by_cases hq0:q=0
     ·subst hq0
      simp -dsimp -implicitDefEqProofs (disch:=omega) [h1,h1',w1,w2,f1]
      exact fin
     ·have hq1:m+1<q:=by omega
      have hq2:(m:Int)+1<q:=by omega
      simp -dsimp -implicitDefEqProofs (disch:=omega) [h1,h1',w1,w2,f1,hq0,hmi,hq2]
      exact fin
    ·rw[yac hc,PR.map_map]at hp
     have hq0: ¬ q=0:=by omega
     have hq2: ¬ (m:Int)+1<q:=by omega
     have hrep:=zqf x q (by omega)
     have hqi:IntKind.i64.wrap (q:Int)=q:=wI (by omega) (by omega)
     simp -dsimp -implicitDefEqProofs (disch:=omega) [h1,h1',w1,w2,hq0,hmi,hq2,hrep,hqi]
     refine ih (l++List.replicate q x,s,k) _ _ ⟨by simp only[yae,ya6];omega,by simp only[yae,ya6];omega,hsl, ?_⟩ (by simp only[yae,ya6];omega) ?_
     ·simp only[yae,ya6]
      rw[hp,show n - (l.length+q)=m+1 - q by omega]
      congr 1;funext z;simp
     ·simp -dsimp -implicitDefEqProofs (disch:=omega) [B,E]
   ·rw[zjc he2,PR.map_err]at hp
    rw[zdx he2,zdy]at w2;obtain⟨s,hs⟩: ∃s,s=r.drop (get r).2.1:=⟨_,rfl⟩;obtain⟨e,hee⟩: ∃e,e=(get r).2.2:=⟨_,rfl⟩;rw[<- hs,<- hee]at w2;rw[<- hee]at hp he2;have f1:=zvo (.list (bytes s)) e 40 he2;have fin:=ze4 hp s [] (by simp) (by simp)
    rw[hT0]at fin;subst hT';simp -dsimp -implicitDefEqProofs (disch:=omega) [h1,h1',w1,w2,f1]
    exact fin
  ·rw[zhj he,PR.map_err]at hp
   obtain⟨s,hs⟩: ∃s,s=b.drop (get b).2.1:=⟨_,rfl⟩;obtain⟨e,hee⟩: ∃e,e=(get b).2.2:=⟨_,rfl⟩;rw[<- hs,<- hee]at w1;rw[<- hee]at hp he;have w2:=zvp (.list (bytes s)) e he;have f1:=zvo (.list (bytes s)) e 40 he;have fin:=ze4 hp s [] (by simp) (by simp)
   rw[hT0]at fin;subst hT';simp -dsimp -implicitDefEqProofs (disch:=omega) [h1,h1',w1,w2,f1]
   exact fin
 ·have hm:n - l.length=0:=by omega
  rw[hm]at hp;have hp2:zfK n n b0= .ok l b:=by
   rw[hp];cases k <;> simp[zfK]
  have fin:=zAI hp2;rw[hT0]at fin;subst hT';simp -dsimp -implicitDefEqProofs (disch:=omega) [h1]
  exact fin
end Go.Am.Ab
namespace Go.Am.Ab
open Go.Proofs
set_option maxHeartbeats 4000000
def ztz (b0:List UInt8) (n:Nat) (hn:n<=256) (hb0:b0.length<1000000):RP (zdw n b0) (R 212 [.ptr 0 0,.d (.int .i64 n)] [.box [B b0,Z]]):=by
 by_cases h0:n=0
 ·subst h0
  have hp:zdw 0 b0= .ok [] b0:=rfl;have fin:=zAI hp;have e:R 212 [.ptr 0 0,.d (.int .i64 0)] [.box [B b0,Z]]=some ([.arr 1 0],[.box [B b0,Z],.arr 1 [] 0]):=by
   refine rg zBO rfl ?_;intro T hT;simp -dsimp -implicitDefEqProofs (disch:=omega)
   simpa -dsimp -implicitDefEqProofs (disch:=omega) [B,E]using hT
  rw[zdy,e];exact fin
 have hni: ¬ (n:Int)=0:=by omega
 have w1:=zhg b0 (by omega)
 generalize hP:zdw n b0=pr;unfold zdw at hP;rw[yac h0]at hP
 by_cases he:(get b0).2.2=0
 case neg=>
  rw[zhj he]at hP;obtain⟨s,hs⟩: ∃s,s=b0.drop (get b0).2.1:=⟨_,rfl⟩;obtain⟨e1,hee⟩: ∃e1,e1=(get b0).2.2:=⟨_,rfl⟩;rw[<- hs,<- hee]at w1;rw[<- hee]at hP he;have w2:=zvp (.list (bytes s)) e1 he;have fin:=ze4 hP.symm s [] (by simp) (by simp)
  have e:R 212 [.ptr 0 0,.d (.int .i64 n)] [.box [B b0,Z]]=some ([.arr 1 0],[.box [B s,E e1],.arr 1 [] 0]):=by
   refine rg zBO rfl ?_;intro T hT;simp -dsimp -implicitDefEqProofs (disch:=omega) [h0,hni,w1,w2,he]
   simpa -dsimp -implicitDefEqProofs (disch:=omega) [B,E]using hT
  rw[e];exact fin
 rw[ze5 he]at hP;simp only at hP;rw[he,zfZ]at w1;obtain⟨r,hr⟩: ∃r,r=b0.drop (get b0).2.1:=⟨_,rfl⟩;have hrl:r.length<1000000:=by rw[hr,yax];omega
 have hz:=zlS (zdu b0);obtain⟨x,hx⟩: ∃x,x=zag (get b0).1:=⟨_,rfl⟩;rw[<- hr,<- hx]at hP w1;rw[<- hx]at hz;clear hr hx he;have w2:=zrz r (by omega)
 by_cases he2:(get r).2.2=0
 case neg=>
  rw[zjc he2]at hP;obtain⟨s,hs⟩: ∃s,s=r.drop (get r).2.1:=⟨_,rfl⟩;obtain⟨e1,hee⟩: ∃e1,e1=(get r).2.2:=⟨_,rfl⟩;rw[<- hs,<- hee]at w2;rw[<- hee]at hP he2;have fin:=ze4 hP.symm s [] (by simp) (by simp)
  have e:R 212 [.ptr 0 0,.d (.int .i64 n)] [.box [B b0,Z]]=some ([.arr 1 0],[.box [B s,E e1],.arr 1 [] 0]):=by
   refine rg zBO rfl ?_;intro T hT;simp -dsimp -implicitDefEqProofs (disch:=omega) [h0,hni,w1,w2,he2]
   simpa -dsimp -implicitDefEqProofs (disch:=omega) [B,E]using hT
  rw[e];exact fin
 rw[zhk he2]at hP;simp only at hP;rw[he2,zfZ]at w2;obtain⟨s,hs⟩: ∃s,s=r.drop (get r).2.1:=⟨_,rfl⟩;have hsl:s.length<1000000:=by rw[hs,yax];omega
 have hq:=zdu r;obtain⟨w,hw⟩: ∃w,w=(get r).1:=⟨_,rfl⟩;rw[<- hs,<- hw]at hP w2;rw[<- hw]at hq;clear hs hw he2
 by_cases hw64:64<w
 ·rw[yag hw64]at hP
  have hw64':(64:Int)<w:=by omega
  have f1:=zhf (.list (bytes s)) 40;have fin:=ze4 hP.symm s [] (by simp) (by simp)
  have e:R 212 [.ptr 0 0,.d (.int .i64 n)] [.box [B b0,Z]]=some ([.arr 1 0],[.box [B s,E 40],.arr 1 [] 0]):=by
   refine rg zBO rfl ?_;intro T hT;simp -dsimp -implicitDefEqProofs (disch:=omega) [h0,hni,w1,w2,hw64,hw64',f1]
   simpa -dsimp -implicitDefEqProofs (disch:=omega) [B,E]using hT
  rw[e];exact fin
 rw[yac hw64]at hP;have hw64': ¬ (64:Int)<w:=by omega
 have hwi:IntKind.i64.wrap (w:Int)=w:=wI (by omega) (by omega)
 cases hpk:zbN n w s with
 |err e=>
  rw[hpk,PR.map_err]at hP;have g:=zlZ hpk hn (by omega) (by omega)
  have he:=zeq hpk;refine ra zBO rfl ziJ ?_;simp -dsimp -implicitDefEqProofs (disch:=omega) [h0,hni,w1,w2,hw64,hw64',hwi,g]
  generalize hT0:RP pr=T0;generalize hz:zaf _ _ _ _ _ _=z;revert z;refine zaa (σ:=Nat) (λi=>[(5,.d (.int .i64 x)),(7,.arr 1 i),(36,.arr 2 n),(37,.d (.int .i64 n)),(38,.d (.int .i64 i))]) (λi=>[.box [B s,E e],.arr 1 (cs (List.replicate i (IntKind.i64.wrap (IntKind.u64.wrap (IntKind.u64.wrap x+0))))) 0,.arr 1 (List.replicate n (.int .u64 0)) 0]) (λi=>i<=n) (λi=>n - i) 0 ?_ ?_ ?_
  ·exact yai _
  ·simp -dsimp -implicitDefEqProofs (disch:=omega) [B,E]
  intro T' f hT' i hi ih
  by_cases h1:i<n
  ·have h1':(i:Int)<n:=by omega
   obtain⟨y,hy⟩: ∃y,y=IntKind.i64.wrap (IntKind.u64.wrap (IntKind.u64.wrap x+0)):=⟨_,rfl⟩;have hy':=hy.symm;rw[Int.add_zero]at hy';rw[<- hy];simp -dsimp -implicitDefEqProofs (disch:=omega) [h1,h1',hy']
   refine ih (i+1) _ _ h1 (by omega) ?_
   rw[<- hy,List.replicate_succ'];simp -dsimp -implicitDefEqProofs (disch:=omega) [B,E]
  ·have hin:i=n:=by omega
   have fin:=ze4 hP.symm s (List.replicate n (IntKind.i64.wrap (IntKind.u64.wrap (IntKind.u64.wrap x+0)))) (by simpa using hn) (λz hz=>by rw[(List.mem_replicate.1 hz).2];exact zen _)
   rw[hT0,ya6]at fin;subst hT';rw[hin];simp -dsimp -implicitDefEqProofs (disch:=omega)
   simpa using fin
 |ok p r2=>
  obtain⟨rfl,hpl,hplt,g⟩:=zoy hpk hn (by omega) (by omega)
  rw[hpk,PR.map_ok]at hP;refine ra zBO rfl ziJ ?_;simp -dsimp -implicitDefEqProofs (disch:=omega) [h0,hni,w1,w2,hw64,hw64',hwi,g]
  generalize hT0:RP pr=T0;generalize hz:zaf _ _ _ _ _ _=z;revert z;refine zaa (σ:=Nat) (λi=>[(5,.d (.int .i64 x)),(7,.arr 1 i),(36,.arr 2 n),(37,.d (.int .i64 n)),(38,.d (.int .i64 i))]) (λi=>[.box [.nilS,Z],.arr 1 (cs (zw4 (λ(q:Nat)=>IntKind.i64.wrap (x+q)) p i)) 0,.arr 1 (us p) 0]) (λi=>i<=n) (λi=>n - i) 0 ?_ ?_ ?_
  ·exact yai _
  ·simp -dsimp -implicitDefEqProofs (disch:=omega) [E,zoH]
  intro T' f hT' i hi ih;have hti:=zkn (g:=λ(q:Nat)=>IntKind.i64.wrap (x+q)) (p:=p) (i:=i) (by omega)
  by_cases h1:i<n
  ·have h1':(i:Int)<n:=by omega
   have h1p:i<p.length:=by omega
   have hy:IntKind.i64.wrap (IntKind.u64.wrap (IntKind.u64.wrap x+(p[i]:Nat)))=IntKind.i64.wrap (x+(p[i]:Nat)):=by
    rw[zai,zai,za0,za0];have e:((x % 18446744073709551616+(p[i]:Nat)) % 18446744073709551616) % 18446744073709551616=(x+(p[i]:Nat)) % 18446744073709551616:=by omega
    rw[e]
   simp -dsimp -implicitDefEqProofs (disch:=omega) [h1,h1',h1p,hy,hti]
   refine ih (i+1) _ _ h1 (by omega) ?_
   rw[zoI h1p];simp -dsimp -implicitDefEqProofs (disch:=omega) [E,hti]
  ·have hin:i=n:=by omega
   have fin:=zzz hP.symm;rw[hT0,yah,hpl,<- zrE (i:=n) (by omega)]at fin
   rw[hin]at hti;subst hT';rw[hin];simp -dsimp -implicitDefEqProofs (disch:=omega) [hti]
   exact fin
end Go.Am.Ab
namespace Go.Am.Ab
open Go.Proofs
set_option maxHeartbeats 4000000
set_option maxRecDepth 4000
@[simp] def zym:IntKind.u64.wrap 0=0:=zal (by omega) (by omega)
def ze6 (many:Nat) (u:List Int) (b:List UInt8):PR (List Int):=if u=[] then zhe many b else (zh4 (many - u.length) (at' u (u.length - 1)) b).map (u++ ·)
def zKr (n many:Nat) (b0:List UInt8) (x:List Int × List UInt8 × Nat):Prop:=x.1.length<=many/\x.2.1.length<1000000/\(∀n∈x.1,zah n)/\(x.2.2=0->zhe many b0=ze6 many x.1 x.2.1)/\(x.2.2≠0->zhe many b0= .err x.2.2)
def ztA {many:Nat} {u:List Int} {b:List UInt8} (h:u.length=many):ze6 many u b= .ok u b:=by
 unfold ze6;split
 ·rename_i e
  subst e;unfold zhe;rw[yag (by simpa using h.symm)]
 ·rw[show many - u.length=0 by omega]
  simp[zh4]
def zqn {many:Nat} {x:Int} {b r:List UInt8} (h:zpm b= .ok x r) (hm:0<many):ze6 many [] b=ze6 many [x] r:=by
 unfold ze6 zhe;rw[yag rfl,yac (by omega),h,yac (by simp)]
 simp only[ybg];rfl
def zko {many e:Nat} {b:List UInt8} (h:zpm b= .err e) (hm:0<many):ze6 many [] b= .err e:=by
 unfold ze6 zhe;rw[yag rfl,yac (by omega),h]
def zAJ (u:List Int) (y:Int):at' (u++[y]) u.length=y:=by
 simp[at',yas]
def ztB {many d:Nat} {u:List Int} {b r:List UInt8} (h:zti b= .ok d r) (h0:u≠[]) (hm:u.length<many) (hd: ¬ (d=0\/9223372036854775807<at' u (u.length - 1)+d)):ze6 many u b=ze6 many (u++[at' u (u.length - 1)+d]) r:=by
 unfold ze6;rw[yac h0,yac (by simp),show many - u.length=many - (u.length+1)+1 by omega,zh4,h]
 simp only[yac hd,PR.map_map,yae,ybg,ybJ,zAJ];congr 1;funext l;simp
def zk5 {many e:Nat} {u:List Int} {b:List UInt8} (h:zti b= .err e) (h0:u≠[]) (hm:u.length<many):ze6 many u b= .err e:=by
 unfold ze6;rw[yac h0,show many - u.length=many - (u.length+1)+1 by omega,zh4,h];rfl
def zk6 {many d:Nat} {u:List Int} {b r:List UInt8} (h:zti b= .ok d r) (h0:u≠[]) (hm:u.length<many) (hd:d=0\/9223372036854775807<at' u (u.length - 1)+d):ze6 many u b= .err 40:=by
 unfold ze6;rw[yac h0,show many - u.length=many - (u.length+1)+1 by omega,zh4,h]
 simp only[yag hd];rfl
def zvM {n:Nat}:zcM [n]=zbW n:=by simp[zcM]
def ze7 {u:List Int} {y:Int} (h: ∀n∈u,zah n) (hy:zah y): ∀n∈u++[y],zah n:=by
 intro n hn;rcases List.mem_append.1 hn with hn | hn
 ·exact h n hn
 ·rw[List.mem_singleton.1 hn];exact hy
def zEx {u:List Int} {i:Nat} (h: ∀n∈u,zah n) (hi:i<u.length):zah (at' u i):=by
 rw[<- get_at hi];exact h _ (yam _)
def zvN (b0:List UInt8) (n:Nat) (hn:n<=256) (hb0:b0.length<1000000):RP (zh5 n b0) (R 211 [.ptr 0 0,.d (.int .i64 n)] [.box [B b0,Z]]):=by
 have hni:IntKind.u64.wrap (n:Int)=n:=zal (by omega) (by omega)
 have w1:=zrz b0 (by omega)
 generalize hP:zh5 n b0=pr;unfold zh5 at hP
 by_cases he:(get b0).2.2=0
 case neg=>
  rw[zjc he]at hP;simp only at hP;rw[zdx he,zdy]at w1;obtain⟨e1,he1⟩: ∃e1,e1=(get b0).2.2:=⟨_,rfl⟩;obtain⟨r,hr⟩: ∃r,r=b0.drop (get b0).2.1:=⟨_,rfl⟩;rw[<- he1,<- hr]at w1;rw[<- he1]at hP he;have fin:=ze4 hP.symm r [] (by simp) (by simp)
  refine ra zEf rfl ziJ ?_;simp -dsimp -implicitDefEqProofs (disch:=omega) [hni,w1,he]
  generalize hT0:RP pr=T0;rw[hT0]at fin;generalize hz:zaf _ _ _ _ _ _=z;revert z;refine zaa (σ:=Unit) (λx=>[(0,.ptr 0 0),(1,.d (.int .i64 n)),(5,.d (.int .u64 0)),(6,.arr 1 0)]) (λx=>[.box [B r,E e1],.arr 1 [] 0]) (λx=>True) (λx=>0) () ?_ ?_ ?_
  ·trivial
  ·simp -dsimp -implicitDefEqProofs (disch:=omega) [B,E]
  intro T' f hT' x _ ih;subst hT';simp -dsimp -implicitDefEqProofs (disch:=omega) [he]
  exact fin
 rw[zhk he]at hP;simp only at hP;rw[he,zfZ]at w1;obtain⟨r,hr⟩: ∃r,r=b0.drop (get b0).2.1:=⟨_,rfl⟩;have hrl:r.length<1000000:=by rw[hr,yax];omega
 have hq:=zdu b0;obtain⟨many,hmn⟩: ∃many,many=(get b0).1:=⟨_,rfl⟩;rw[<- hr,<- hmn]at hP w1;rw[<- hmn]at hq;clear hr hmn he;have f1:=zhf (.list (bytes r)) 40
 by_cases hc:n<many\/many=0/\0<n
 ·rw[yag hc]at hP
  have fin:=ze4 hP.symm r [] (by simp) (by simp)
  by_cases hc1:n<many
  ·have hc1':(n:Int)<many:=by omega
   refine ra zEf rfl ziJ ?_;simp -dsimp -implicitDefEqProofs (disch:=omega) [hni,w1,hc1,hc1',f1]
   generalize hT0:RP pr=T0;rw[hT0]at fin;generalize hz:zaf _ _ _ _ _ _=z;revert z;refine zaa (σ:=Unit) (λx=>[(0,.ptr 0 0),(1,.d (.int .i64 n)),(5,.d (.int .u64 many)),(6,.arr 1 0)]) (λx=>[.box [B r,E 40],.arr 1 [] 0]) (λx=>True) (λx=>0) () ?_ ?_ ?_
   ·trivial
   ·simp -dsimp -implicitDefEqProofs (disch:=omega) [B,E]
   intro T' f hT' x _ ih;have hm0:0<many:=by omega
   subst hT';simp -dsimp -implicitDefEqProofs (disch:=omega) [hm0]
   exact fin
  ·have hm0:many=0:=by omega
   subst hm0;have hn0:0<n:=by omega
   have hn0':(0:Int)<n:=by omega
   have hc1': ¬ (n:Int)<0:=by omega
   refine ra zEf rfl ziJ ?_;simp -dsimp -implicitDefEqProofs (disch:=omega) [hni,w1,hc1',hn0,hn0',f1]
   generalize hT0:RP pr=T0;rw[hT0]at fin;generalize hz:zaf _ _ _ _ _ _=z;revert z;refine zaa (σ:=Unit) (λx=>[(0,.ptr 0 0),(1,.d (.int .i64 n)),(5,.d (.int .u64 0)),(6,.arr 1 0)]) (λx=>[.box [B r,E 40],.arr 1 [] 0]) (λx=>True) (λx=>0) () ?_ ?_ ?_
   ·trivial
   ·simp -dsimp -implicitDefEqProofs (disch:=omega) [B,E]
   intro T' f hT' x _ ih;subst hT';simp -dsimp -implicitDefEqProofs (disch:=omega)
   exact fin
 rw[yac hc]at hP;have hc1: ¬ n<many:=by omega
 have hc1': ¬ (n:Int)<many:=by omega
 by_cases hm0:many=0
 ·subst hm0
  have hn0:n=0:=by omega
  subst hn0;rw[zdy]at w1 hc1';have hP2:pr= .ok [] r:=by rw[<- hP];simp[zhe,zmN]
  have fin:=zAI hP2;rw[zdy];refine ra zEf rfl ziJ ?_;simp -dsimp -implicitDefEqProofs (disch:=omega) [w1]
  generalize hT0:RP pr=T0;rw[hT0]at fin;generalize hz:zaf _ _ _ _ _ _=z;revert z;refine zaa (σ:=Unit) (λx=>[(0,.ptr 0 0),(1,.d (.int .i64 0)),(5,.d (.int .u64 0)),(6,.arr 1 0)]) (λx=>[.box [B r,Z],.arr 1 [] 0]) (λx=>True) (λx=>0) () ?_ ?_ ?_
  ·trivial
  ·simp -dsimp -implicitDefEqProofs (disch:=omega) [B,E]
  intro T' f hT' x _ ih;subst hT';simp -dsimp -implicitDefEqProofs (disch:=omega)
  exact fin
 have hm0': ¬ (many:Int)=0:=by omega
 have hmany:many<=256:=by omega
 have hn0: ¬ n=0:=by omega
 have hn0': ¬ (n:Int)=0:=by omega
 have hmm:IntKind.u64.wrap ((many:Int) - 1)=((many - 1:Nat):Int):=by rw[zal (by omega) (by omega)];omega
 have hwd:=zfp [many - 1] (by simp;omega) (by simp)
 rw[zvM]at hwd;have hw64:=zp3 (n:=many - 1) (by omega)
 obtain⟨w,hw⟩: ∃w,w=zbW (many - 1):=⟨_,rfl⟩;rw[<- hw]at hwd hw64;have hwd2:R 158 [.d (.list [.int .u64 ((many - 1:Nat):Int)])] []=some ([.d (.int .i64 w)],[]):=hwd;refine ra zEf rfl ziJ ?_;simp -dsimp -implicitDefEqProofs (disch:=omega) [hni,w1,hc1',hm0,hm0']
 generalize hT0:RP pr=T0;generalize hz:zaf _ _ _ _ _ _=z;revert z;refine zaa (σ:=List Int × List UInt8 × Nat) (λx=>[(0,.ptr 0 0),(1,.d (.int .i64 n)),(5,.d (.int .u64 many)),(6,.arr 1 x.1.length)]) (λx=>[.box [B x.2.1,E x.2.2],.arr 1 (cs x.1) 0]) (zKr n many r) (λx=>many - x.1.length+(if x.2.2=0 then 1 else 0)) ([],r,0) ?_ ?_ ?_
 ·exact⟨yai _,hrl,by simp,λ_=>by unfold ze6;rw[yag rfl],λh=>absurd rfl h⟩
 ·simp -dsimp -implicitDefEqProofs (disch:=omega) [B,E]
 intro T' f hT' ⟨u,b,e⟩ ⟨hu,hb,hui,hok,hbad⟩ ih;simp only at hu hb hui hok hbad ih;have hul:IntKind.u64.wrap (u.length:Int)=u.length:=zal (by omega) (by omega)
 by_cases he:e=0
 case neg=>
  have hh:=hbad he;rw[hh]at hP;have fin:=ze4 hP.symm b [] (by simp) (by simp)
  rw[hT0]at fin;subst hT'
  by_cases hu2:u.length<many
  ·have hu2':(u.length:Int)<many:=by omega
   simp -dsimp -implicitDefEqProofs (disch:=omega) [hul,hu2,hu2',he]
   exact fin
  ·have hu2': ¬ (u.length:Int)<many:=by omega
   simp -dsimp -implicitDefEqProofs (disch:=omega) [hul,hu2,hu2',he]
   exact fin
 subst he;have hh:=hok rfl;clear hok hbad
 try simp only[zfZ]
 by_cases hu2:u.length<many
 case pos=>
  have hu2':(u.length:Int)<many:=by omega
  by_cases hu0:u=[]
  ·subst hu0
   have w2:=zhg b (by omega)
   have hz:=zlS (zdu b);obtain⟨r2,hr2⟩: ∃r2,r2=b.drop (get b).2.1:=⟨_,rfl⟩;have hr2l:r2.length<1000000:=by rw[hr2,yax];omega
   simp only[yaz]at hu2 hu2' hul;have hu3:(0:Int)<many:=by omega
   have hul0:IntKind.u64.wrap 0=0:=hul
   by_cases he2:(get b).2.2=0
   ·have hI:=ze5 he2
    rw[<- hr2]at hI w2;rw[he2,zfZ]at w2;obtain⟨x,hx⟩: ∃x,x=zag (get b).1:=⟨_,rfl⟩;rw[<- hx]at hI w2 hz;simp -dsimp -implicitDefEqProofs (disch:=omega) [hul0,hu2,hu3,w2]
    refine ih ([x],r2,0) _ _ ⟨by simp;omega,hr2l,by simpa using hz,λ_=>by rw[hh];exact zqn hI hu2,λh=>absurd rfl h⟩ (by simp;omega) (by simp -dsimp -implicitDefEqProofs (disch:=omega) [B,E])
   ·have hI:=zhj he2
    rw[<- hr2]at w2;obtain⟨e2,hee⟩: ∃e2,e2=(get b).2.2:=⟨_,rfl⟩;rw[<- hee]at hI w2 he2;obtain⟨x,hx⟩: ∃x,x=zag (get b).1:=⟨_,rfl⟩;rw[<- hx]at w2 hz;simp -dsimp -implicitDefEqProofs (disch:=omega) [hul0,hu2,hu3,w2]
    refine ih ([x],r2,e2) _ _ ⟨by simp;omega,hr2l,by simpa using hz,λh=>absurd h he2,λ_=>by rw[hh];exact zko hI hu2⟩ (by simp[he2];omega) (by simp -dsimp -implicitDefEqProofs (disch:=omega) [B,E])
  ·have hul0:0<u.length:=List.length_pos_iff.2 hu0
   have hul0': ¬ (u.length:Int)=0:=by omega
   have hul1: ¬ u.length=0:=by omega
   have w2:=zrz b (by omega)
   have hd:=zdu b;obtain⟨r2,hr2⟩: ∃r2,r2=b.drop (get b).2.1:=⟨_,rfl⟩;have hr2l:r2.length<1000000:=by rw[hr2,yax];omega
   obtain⟨v,hv⟩: ∃v,u.length=v+1:=⟨u.length - 1,by omega⟩
   have hv1:(u.length:Int) - 1=v:=by omega
   have hvl:v<u.length:=by omega
   have gv:=get_at hvl;have hlast:=zEx hui hvl;have hvv:u.length - 1=v:=by omega
   obtain⟨la,hla⟩: ∃la,la=at' u v:=⟨_,rfl⟩;rw[<- hla]at gv hlast;obtain⟨mx,hmx⟩: ∃mx:Nat,(mx:Int)=9223372036854775807 - la:=⟨(9223372036854775807 - la).toNat,by unfold zah at hlast;omega⟩
   have hmxw:IntKind.u64.wrap (9223372036854775807 - IntKind.u64.wrap la)=mx:=by unfold zah at hlast;rw[zai,zai];omega
   obtain⟨y,hy⟩: ∃y,y=IntKind.i64.wrap (IntKind.u64.wrap (IntKind.u64.wrap la+(get b).1)):=⟨_,rfl⟩;have hyi:zah y:=by rw[hy];exact zen _
   by_cases he2:(get b).2.2=0
   ·have hI:=zhk he2
    rw[<- hr2]at hI w2;rw[he2,zfZ]at w2;obtain⟨d,hdd⟩: ∃d,d=(get b).1:=⟨_,rfl⟩;rw[<- hdd]at hI w2 hd hy;have f2:=zhf (.list (bytes r2)) 40
    by_cases hc2:d=0\/9223372036854775807<la+d
    ·have hst:ze6 many u b= .err 40:=zk6 hI hu0 hu2 (by rw[hvv,<- hla];exact hc2)
     by_cases hd0:d=0
     ·subst hd0
      rw[zdy]at w2 hy;rw[Int.add_zero]at hy;simp -dsimp -implicitDefEqProofs (disch:=omega) [hul,hu2,hu2',hul0',hul1,hv1,hvl,gv,w2,f2,hy.symm]
      refine ih (u++[y],r2,40) _ _ ⟨by simp;omega,hr2l,ze7 hui hyi,λh=>by simp at h,λ_=>by rw[hh];exact hst⟩ (by simp;omega) (by simp -dsimp -implicitDefEqProofs (disch:=omega) [B,E])
     ·have hd1:(mx:Int)<d:=by omega
      simp -dsimp -implicitDefEqProofs (disch:=omega) [hul,hu2,hu2',hul0',hul1,hv1,hvl,gv,w2,f2,hy.symm,hd0,hmxw,hd1]
      refine ih (u++[y],r2,40) _ _ ⟨by simp;omega,hr2l,ze7 hui hyi,λh=>by simp at h,λ_=>by rw[hh];exact hst⟩ (by simp;omega) (by simp -dsimp -implicitDefEqProofs (disch:=omega) [B,E])
    ·have hd0: ¬ d=0:=by omega
     have hd1: ¬ (mx:Int)<d:=by omega
     have hst:=ztB hI hu0 hu2 (by rw[hvv,<- hla];exact hc2)
     have hyl:y=la+d:=by
      unfold zah at hlast;rw[hy,zai,zai,za0];split <;> omega
     rw[hvv,<- hla,<- hyl]at hst;simp -dsimp -implicitDefEqProofs (disch:=omega) [hul,hu2,hu2',hul0',hul1,hv1,hvl,gv,w2,hy.symm,hd0,hmxw,hd1]
     refine ih (u++[y],r2,0) _ _ ⟨by simp;omega,hr2l,ze7 hui hyi,λ_=>by rw[hh];exact hst,λh=>absurd rfl h⟩ (by simp;omega) (by simp -dsimp -implicitDefEqProofs (disch:=omega) [B,E])
   ·have hI:=zjc he2
    have hst:=zk5 hI hu0 hu2;rw[zdx he2,zdy,<- hr2]at w2;rw[zdx he2,zdy,Int.add_zero]at hy;obtain⟨e2,hee⟩: ∃e2,e2=(get b).2.2:=⟨_,rfl⟩;rw[<- hee]at hst w2 he2;simp -dsimp -implicitDefEqProofs (disch:=omega) [hul,hu2,hu2',hul0',hul1,hv1,hvl,gv,w2,hy.symm,he2]
    refine ih (u++[y],r2,e2) _ _ ⟨by simp;omega,hr2l,ze7 hui hyi,λh=>absurd h he2,λ_=>by rw[hh];exact hst⟩ (by simp[he2];omega) (by simp -dsimp -implicitDefEqProofs (disch:=omega) [B,E])
 have hum:u.length=many:=by omega
 have hu2': ¬ (u.length:Int)<many:=by omega
 rw[ztA hum]at hh;rw[hh]at hP;simp only[zmN,yac hn0]at hP;rw[<- hw]at hP;have hu0l:0<u.length:=by omega
 have gu0:=get_at hu0l;clear hh ih hc w1 f1;cases hpk:zbN n w b with
 |err e=>
  rw[hpk]at hP;have he:=zeq hpk;have g:=zlZ hpk hn hw64 (by omega)
  subst hT';simp -dsimp -implicitDefEqProofs (disch:=omega) [hul,hu2,hu2',hn0,hn0',hmm,hwd2,g]
  generalize hz:zaf _ _ _ _ _ _=z;revert z;refine zaa (σ:=Nat) (λi=>[(0,.ptr 0 0),(5,.d (.int .u64 many)),(6,.arr 1 u.length),(9,.arr 2 i),(104,.arr 3 n),(105,.d (.int .i64 n)),(106,.d (.int .i64 i))]) (λi=>[.box [B b,E e],.arr 1 (cs u) 0,.arr 1 (cs (List.replicate i (at' u 0))) 0,.arr 1 (List.replicate n (.int .u64 0)) 0]) (λi=>i<=n) (λi=>n - i) 0 ?_ ?_ ?_
  ·exact yai _
  ·simp -dsimp -implicitDefEqProofs (disch:=omega) [B,E]
  intro T2 f2 hT2 i hi ih
  by_cases h1:i<n
  ·have h1':(i:Int)<n:=by omega
   have hmp: ¬ (many:Int)<=0:=by omega
   have hrs:List.replicate (i+1) (at' u 0)=List.replicate i (at' u 0)++[at' u 0]:=List.replicate_succ';simp -dsimp -implicitDefEqProofs (disch:=omega) [h1,h1',hmp,hm0,hu0l,gu0]
   refine ih (i+1) _ _ h1 (by omega) ?_
   rw[hrs];simp -dsimp -implicitDefEqProofs (disch:=omega) [B,E]
  ·have hin:i=n:=by omega
   have fin:=ze4 hP.symm b (List.replicate n (at' u 0)) (by simpa using hn) (λx hx=>by rw[(List.mem_replicate.1 hx).2];exact zEx hui hu0l)
   rw[hT0,ya6]at fin;subst hT2;rw[hin];simp -dsimp -implicitDefEqProofs (disch:=omega)
   simpa using fin
 |ok p r2=>
  obtain⟨rfl,hpl,hplt,g⟩:=zoy hpk hn hw64 (by omega)
  rw[hpk]at hP;simp only at hP;subst hT';simp -dsimp -implicitDefEqProofs (disch:=omega) [hul,hu2,hu2',hn0,hn0',hmm,hwd2,g]
  generalize hz:zaf _ _ _ _ _ _=z;revert z;refine zaa (σ:=Nat) (λi=>[(0,.ptr 0 0),(5,.d (.int .u64 many)),(6,.arr 1 u.length),(9,.arr 2 i),(104,.arr 3 n),(105,.d (.int .i64 n)),(106,.d (.int .i64 i))]) (λi=>[.box [.nilS,Z],.arr 1 (cs u) 0,.arr 1 (cs (zw4 (at' u) p i)) 0,.arr 1 (us p) 0]) (λi=>i<=n/\ ∀q∈p.take i,q<many) (λi=>n - i) 0 ?_ ?_ ?_
  ·exact⟨yai _,by simp⟩
  ·simp -dsimp -implicitDefEqProofs (disch:=omega) [E,zoH]
  intro T2 f2 hT2 i ⟨hi,hall⟩ ih;have hti:=zkn (g:=at' u) (p:=p) (i:=i) (by omega)
  by_cases h1:i<n
  ·have h1':(i:Int)<n:=by omega
   have h1p:i<p.length:=by omega
   have hts:=zaN h1p
   by_cases h3:p[i]<many
   ·have h3': ¬ (many:Int)<=(p[i]:Nat):=by omega
    have h3l:p[i]<u.length:=by omega
    have gp:=get_at h3l;simp -dsimp -implicitDefEqProofs (disch:=omega) [h1,h1',h1p,h3,h3',h3l,gp,hti]
    refine ih (i+1) _ _ ⟨h1,λq hq=> ?_⟩ (by omega) ?_
    ·rw[hts]at hq
     rcases List.mem_append.1 hq with hq | hq
     ·exact hall q hq
     ·rw[List.mem_singleton.1 hq];exact h3
    ·rw[zoI h1p]
     simp -dsimp -implicitDefEqProofs (disch:=omega) [E,hti]
   ·have h3':(many:Int)<=(p[i]:Nat):=by omega
    have f2:=zvn 40;rw[yac (λh=>h3 (h _ (yam h1p)))]at hP
    have fin:=zAH hP.symm [] (by simp) (by simp)
    rw[hT0]at fin;subst hT2;simp -dsimp -implicitDefEqProofs (disch:=omega) [h1,h1',h1p,h3,h3',f2]
    exact fin
  ·have hin:i=n:=by omega
   rw[hin,yaA (by omega)]at hall
   rw[yag hall]at hP;have fin:=zzz hP.symm;rw[hT0,yah,hpl,<- zrE (i:=n) (by omega)]at fin
   rw[hin]at hti;subst hT2;rw[hin];simp -dsimp -implicitDefEqProofs (disch:=omega) [hti]
   exact fin
end Go.Am.Ab
namespace Go.Am.Ab
open Go.Proofs
set_option maxHeartbeats 4000000
set_option maxRecDepth 4000
def QR (pr:PR (List Int)) (c0:UInt8) (r0:List UInt8) (n:Nat) (z:Res):Prop:=match pr with
 |.err e=> ∃ (s:Slots) (x:V) (l:List Int),z=some (.normal,s,[.box [x,E e],.arr 1 (cs l) 0])/\zbF s 0=B (c0::r0)/\zbF s 6= .ptr 0 0/\zbF s 7= .arr 1 l.length/\(x= .nilS\/ ∃b,x=B b)/\l.length<=256/\ ∀n∈l,zah n
 |.ok l b=> ∃ (s:Slots) (x:V),z=some (.normal,s,[.box [x,Z],.arr 1 (cs l) 0])/\zbF s 0=B (c0::r0)/\zbF s 6= .ptr 0 0/\zbF s 7= .arr 1 l.length/\(x=B b\/b=[]/\x= .nilS)
def zI9 (dl:Bool) (n:Nat) (r0:List UInt8) (x:List Int × List UInt8 × Nat × Int):Prop:=
 x.1.length<=n/\x.2.1.length<1000000/\(∀n∈x.1,zah n)/\zah x.2.2.2/\(x.2.2.1=0->zkd dl n 0 r0=(zkd dl (n - x.1.length) x.2.2.2 x.2.1).map (x.1++ ·))/\(x.2.2.1≠0->zkd dl n 0 r0= .err x.2.2.1)
def zc3 {h:List Obj} (H: ∀ (i sz:Nat) (xs:List D) (wm:Nat),h[i]? =some (.arr sz xs wm)->wm=xs.length): ∀s:Slots,zbG h s=h
 |[]=>rfl
 |(t,v)::s=>by
  have key: ∀ {id sz:Nat} {xs:List D} {wm:Nat},h[id]? =some (.arr sz xs wm)->h.set id (.arr sz xs xs.length)=h:=by
   intro id sz xs wm e;have e2:=H _ _ _ _ e;apply ybV;intro i;rw[yb2];split
   ·rename_i hi
    subst hi;split
    ·rw[e,e2]
    ·rename_i hl
     rw[yaL (by omega)]at e;cases e
   ·rfl
  unfold zbG;split
  ·rename_i x h1 hp
   have:h1=h:=by
    unfold za6 at hp;split at hp
    ·cases hp;rfl
    ·cases hp;rfl
    ·cases hp;rfl
    ·split at hp
     ·rename_i e
      split at hp
      ·cases hp;exact key e
      ·cases hp
     ·cases hp
    ·split at hp
     ·rename_i e
      split at hp
      ·cases hp;exact key e
      ·cases hp
     ·cases hp
    ·cases hp
   rw[this];exact zc3 H s
  ·exact zc3 H s
def zzA (cs1:List V) (l:List Int) (b:List UInt8) (s:Slots):zbG [.box cs1,.arr 1 (cs l) l.length,.arr 1 (bytes b) b.length] s=[.box cs1,.arr 1 (cs l) l.length,.arr 1 (bytes b) b.length]:=
 zc3 (λi sz xs wm e=>by
  match i,e with
  |0,e=>cases e
  |1,e=>cases e;simp
  |2,e=>cases e;simp
  |i+3,e=>simp at e) s
def zEy {pr:PR (List Int)} {c0:UInt8} {r0 b:List UInt8} {n:Nat} {l:List Int} (h:pr= .ok l b) (s:Slots) (h0:zbF s 0=B (c0::r0)) (h6:zbF s 6= .ptr 0 0) (h7:zbF s 7= .arr 1 l.length):QR pr c0 r0 n (some (.normal,s,[.box [.d (.list (bytes b)),.d (.int .i64 0)],.arr 1 (cs l) 0])):=by
 subst h;exact⟨s,_,rfl,h0,h6,h7,.inl rfl⟩
def zrF {pr:PR (List Int)} {c0:UInt8} {r0 b:List UInt8} {n e:Nat} {l:List Int} (h:pr= .err e) (hl:l.length<=256) (hi: ∀n∈l,zah n) (s:Slots) (h0:zbF s 0=B (c0::r0)) (h6:zbF s 6= .ptr 0 0) (h7:zbF s 7= .arr 1 l.length):QR pr c0 r0 n (some (.normal,s,[.box [.d (.list (bytes b)),.d (.int .i64 (e:Int))],.arr 1 (cs l) 0])):=by
 subst h;exact⟨s,_,l,rfl,h0,h6,h7,.inr ⟨b,rfl⟩,hl,hi⟩
def zqo {pr:PR (List Int)} {r:Option (List V × List Obj)} (c0:UInt8) (r0:List UInt8) (n:Nat) (h:RP pr r): ∃ (l:List Int) (e:Nat),
 (∃b,r=some ([.arr 1 l.length],[.box [.d (.list (bytes b)),E e],.arr 1 (cs l) 0])/\ ∀s:Slots,zbF s 0=B (c0::r0)->zbF s 6= .ptr 0 0->zbF s 7= .arr 1 l.length->QR pr c0 r0 n (some (.normal,s,[.box [.d (.list (bytes b)),.d (.int .i64 (e:Int))],.arr 1 (cs l) 0])))\/
 (r=some ([.arr 1 l.length],[.box [.nilS,E e],.arr 1 (cs l) 0])/\ ∀s:Slots,zbF s 0=B (c0::r0)->zbF s 6= .ptr 0 0->zbF s 7= .arr 1 l.length->QR pr c0 r0 n (some (.normal,s,[.box [.nilS,.d (.int .i64 (e:Int))],.arr 1 (cs l) 0]))):=by
 cases pr with
 |err e=>
  obtain⟨x,l,hx,h1,h2,h3⟩:=h;rcases hx with rfl | ⟨b,rfl⟩
  ·exact⟨l,e,.inr ⟨h3,λs s0 s6 s7=>⟨s,_,l,rfl,s0,s6,s7,.inl rfl,h1,h2⟩⟩⟩
  ·exact⟨l,e,.inl ⟨b,h3,λs s0 s6 s7=>⟨s,_,l,rfl,s0,s6,s7,.inr ⟨b,rfl⟩,h1,h2⟩⟩⟩
 |ok l b=>
  obtain⟨x,hx,h3⟩:=h;rcases hx with rfl | ⟨rfl,rfl⟩
  ·exact⟨l,0,.inl ⟨b,h3,λs s0 s6 s7=>⟨s,_,rfl,s0,s6,s7,.inl rfl⟩⟩⟩
  ·exact⟨l,0,.inr ⟨h3,λs s0 s6 s7=>⟨s,_,rfl,s0,s6,s7,.inr ⟨rfl,rfl⟩⟩⟩⟩
def zrG {dl:Bool} {k:Nat} {a x:Int} {b r:List UInt8} {l:List Int} (h:zpm b= .ok x r):(zkd dl (k+1) a b).map (l++ ·)=(zkd dl k (if dl then IntKind.i64.wrap (x+a) else x) r).map ((l++[if dl then IntKind.i64.wrap (x+a) else x])++ ·):=by
 rw[zkd,h];simp only[PR.map_map];congr 1;funext l;simp
def zvO {dl:Bool} {k e:Nat} {a:Int} {b:List UInt8} {l:List Int} (h:zpm b= .err e):(zkd dl (k+1) a b).map (l++ ·)= .err e:=by
 rw[zkd,h];rfl
def zkp (b:List UInt8) (n:Int) (hb:b.length<1000000) (hn:zah n):R 195 [B b,.d (.int .i64 n)] []=some ([.arr 0 (zbO b n).1.length,E (zbO b n).2],[.arr 1 (cs (zbO b n).1) 0]):=by
 unfold zbO
 by_cases h1:n<0\/256<n
 ·rw[yag h1]
  by_cases h2:n<0
  ·refine rg zEe rfl ?_
   intro T hT;simp -dsimp -implicitDefEqProofs (disch:=omega) [h2]
   simpa -dsimp -implicitDefEqProofs (disch:=omega) [E]using hT
  ·have h3:256<n:=by omega
   refine rg zEe rfl ?_;intro T hT;simp -dsimp -implicitDefEqProofs (disch:=omega) [h2,h3]
   simpa -dsimp -implicitDefEqProofs (disch:=omega) [E]using hT
 rw[yac h1];have h2: ¬ n<0:=by omega
 have h3: ¬ 256<n:=by omega
 cases b with
 |nil=>
  refine rg zEe rfl ?_;intro T hT;simp -dsimp -implicitDefEqProofs (disch:=omega) [h2,h3]
  simpa -dsimp -implicitDefEqProofs (disch:=omega) [E]using hT
 |cons c0 r0=>
 simp only;simp only[yaf]at hb;have hr0:r0.length<1000000:=by omega
 have hlen: ¬ ((r0.length:Int)+1=0):=by omega
 by_cases h4:4<c0.toNat
 ·rw[yag h4]
  have h4':(4:Int)<c0.toNat:=by omega
  refine rg zEe rfl ?_;intro T hT;simp -dsimp -implicitDefEqProofs (disch:=omega) [h2,h3,h4,h4',hlen]
  simpa -dsimp -implicitDefEqProofs (disch:=omega) [E]using hT
 rw[yac h4];have h4': ¬ (4:Int)<c0.toNat:=by omega
 obtain⟨m,hm⟩: ∃m:Nat,n=m:=⟨n.toNat,by omega⟩
 subst hm;have hm256:m<=256:=by omega
 rw[yat];refine rg zEe rfl ?_;intro T hT;simp -dsimp -implicitDefEqProofs (disch:=omega) [-zge,h2,h3,h4,h4',hlen]
 rw[zge];simp -dsimp -implicitDefEqProofs (disch:=omega) [-zge,h2,h3,h4,h4',hlen]
 generalize hz:zcL _ _ _ _ _ _ _ _ (Code.block _ _) _ _ _=z;revert z;refine zAj (QR (zgj c0.toNat m r0) c0 r0 m) ?_ ?_
 ·have hcc:c0.toNat=0\/c0.toNat=1\/c0.toNat=2\/c0.toNat=3\/c0.toNat=4:=by omega
  rcases hcc with hc | hc | hc | hc | hc
  ·rw[hc,show zgj 0 m r0=zkd false m 0 r0 from rfl]
   simp -dsimp -implicitDefEqProofs (disch:=omega) [hc]
   generalize hz:zaf _ _ _ _ _ _=z;revert z;refine zaa (σ:=List Int × List UInt8 × Nat × Int) (λx=>[(0,B (c0::r0)),(1,.d (.int .i64 m)),(6,.ptr 0 0),(7,.arr 1 x.1.length),(8,.d (.int .i64 x.2.2.2))]) (λx=>[.box [B x.2.1,E x.2.2.1],.arr 1 (cs x.1) 0]) (zI9 false m r0) (λx=>m - x.1.length+(if x.2.2.1=0 then 1 else 0)) ([],r0,0,0) ?_ ?_ ?_
   ·exact⟨yai _,hr0,by simp,by unfold zah;simp only;omega,λ_=>(PR.map_id (λa=>rfl) _).symm,λh=>absurd rfl h⟩
   ·simp -dsimp -implicitDefEqProofs (disch:=omega) [B,E]
   intro T' f hT' ⟨l,b,e,a⟩ ⟨hl,hb,hli,hai,hok,hbad⟩ ih;simp only at hl hb hli hai hok hbad ih
   by_cases he:e=0
   case neg=>
    have hh:=hbad he;subst hT'
    by_cases h1:l.length<m
    ·have h1':(l.length:Int)<m:=by omega
     simp -dsimp -implicitDefEqProofs (disch:=omega) [h1,h1',he]
     exact zrF hh (by omega) hli _ (by simp) (by simp) (by simp)
    ·have h1': ¬ (l.length:Int)<m:=by omega
     simp -dsimp -implicitDefEqProofs (disch:=omega) [h1,h1',he]
     exact zrF hh (by omega) hli _ (by simp) (by simp) (by simp)
   subst he;have hh:=hok rfl;clear hok hbad
   by_cases h1:l.length<m
   case neg=>
    have h1': ¬ (l.length:Int)<m:=by omega
    rw[show m - l.length=0 by omega,zkd,PR.map_ok,yap]at hh
    subst hT';simp -dsimp -implicitDefEqProofs (disch:=omega) [h1,h1']
    exact zEy hh _ (by simp) (by simp) (by simp)
   have h1':(l.length:Int)<m:=by omega
   rw[show m - l.length=m - (l.length+1)+1 by omega]at hh
   have w1:=zhg b (by omega)
   have hz:=zlS (zdu b);obtain⟨r2,hr2⟩: ∃r2,r2=b.drop (get b).2.1:=⟨_,rfl⟩;have hr2l:r2.length<1000000:=by rw[hr2,yax];omega
   by_cases he2:(get b).2.2=0
   ·have hI:=ze5 he2
    rw[<- hr2]at hI w1;rw[he2,zfZ]at w1;obtain⟨x,hx⟩: ∃x,x=zag (get b).1:=⟨_,rfl⟩;rw[<- hx]at hI w1 hz;rw[zrG hI]at hh;simp only[yaD,ybd]at hh;obtain⟨y,hyx⟩: ∃y,y=x:=⟨_,rfl⟩;have hyi:zah y:=by rw[hyx];exact hz
    have hyy:=hyx.symm
    try rw[<- hyx]at hh
    simp -dsimp -implicitDefEqProofs (disch:=omega) [h1,h1',w1,hc,hyy]
    refine ih (l++[y],r2,0,y) _ _ ⟨by simp;omega,hr2l,ze7 hli hyi,hyi,λ_=>by simp only[yae,ybg];exact hh,λh=>absurd rfl h⟩ (by simp;omega) (by simp -dsimp -implicitDefEqProofs (disch:=omega) [B,E])
   ·have hI:=zhj he2
    rw[<- hr2]at w1;obtain⟨e2,hee⟩: ∃e2,e2=(get b).2.2:=⟨_,rfl⟩;rw[<- hee]at hI w1 he2;obtain⟨x,hx⟩: ∃x,x=zag (get b).1:=⟨_,rfl⟩;rw[<- hx]at w1 hz;rw[zvO hI]at hh;obtain⟨y,hyx⟩: ∃y,y=x:=⟨_,rfl⟩;have hyi:zah y:=by rw[hyx];exact hz
    have hyy:=hyx.symm
    try rw[<- hyx]at hh
    simp -dsimp -implicitDefEqProofs (disch:=omega) [h1,h1',w1,hc,hyy]
    refine ih (l++[y],r2,e2,y) _ _ ⟨by simp;omega,hr2l,ze7 hli hyi,hyi,λh=>absurd h he2,λ_=>hh⟩ (by simp[he2];omega) (by simp -dsimp -implicitDefEqProofs (disch:=omega) [B,E])
  ·rw[hc,show zgj 1 m r0=zkd true m 0 r0 from rfl]
   simp -dsimp -implicitDefEqProofs (disch:=omega) [hc]
   generalize hz:zaf _ _ _ _ _ _=z;revert z;refine zaa (σ:=List Int × List UInt8 × Nat × Int) (λx=>[(0,B (c0::r0)),(1,.d (.int .i64 m)),(6,.ptr 0 0),(7,.arr 1 x.1.length),(8,.d (.int .i64 x.2.2.2))]) (λx=>[.box [B x.2.1,E x.2.2.1],.arr 1 (cs x.1) 0]) (zI9 true m r0) (λx=>m - x.1.length+(if x.2.2.1=0 then 1 else 0)) ([],r0,0,0) ?_ ?_ ?_
   ·exact⟨yai _,hr0,by simp,by unfold zah;simp only;omega,λ_=>(PR.map_id (λa=>rfl) _).symm,λh=>absurd rfl h⟩
   ·simp -dsimp -implicitDefEqProofs (disch:=omega) [B,E]
   intro T' f hT' ⟨l,b,e,a⟩ ⟨hl,hb,hli,hai,hok,hbad⟩ ih;simp only at hl hb hli hai hok hbad ih
   by_cases he:e=0
   case neg=>
    have hh:=hbad he;subst hT'
    by_cases h1:l.length<m
    ·have h1':(l.length:Int)<m:=by omega
     simp -dsimp -implicitDefEqProofs (disch:=omega) [h1,h1',he]
     exact zrF hh (by omega) hli _ (by simp) (by simp) (by simp)
    ·have h1': ¬ (l.length:Int)<m:=by omega
     simp -dsimp -implicitDefEqProofs (disch:=omega) [h1,h1',he]
     exact zrF hh (by omega) hli _ (by simp) (by simp) (by simp)
   subst he;have hh:=hok rfl;clear hok hbad
   by_cases h1:l.length<m
   case neg=>
    have h1': ¬ (l.length:Int)<m:=by omega
    rw[show m - l.length=0 by omega,zkd,PR.map_ok,yap]at hh
    subst hT';simp -dsimp -implicitDefEqProofs (disch:=omega) [h1,h1']
    exact zEy hh _ (by simp) (by simp) (by simp)
   have h1':(l.length:Int)<m:=by omega
   rw[show m - l.length=m - (l.length+1)+1 by omega]at hh
   have w1:=zhg b (by omega)
   have hz:=zlS (zdu b);obtain⟨r2,hr2⟩: ∃r2,r2=b.drop (get b).2.1:=⟨_,rfl⟩;have hr2l:r2.length<1000000:=by rw[hr2,yax];omega
   by_cases he2:(get b).2.2=0
   ·have hI:=ze5 he2
    rw[<- hr2]at hI w1;rw[he2,zfZ]at w1;obtain⟨x,hx⟩: ∃x,x=zag (get b).1:=⟨_,rfl⟩;rw[<- hx]at hI w1 hz;rw[zrG hI]at hh;simp only[ybk]at hh;obtain⟨y,hy⟩: ∃y,y=IntKind.i64.wrap (x+a):=⟨_,rfl⟩;have hyi:zah y:=by rw[hy];exact zen _
    have hyy:=hy.symm
    try rw[<- hy]at hh
    simp -dsimp -implicitDefEqProofs (disch:=omega) [h1,h1',w1,hc,hyy]
    refine ih (l++[y],r2,0,y) _ _ ⟨by simp;omega,hr2l,ze7 hli hyi,hyi,λ_=>by simp only[yae,ybg];exact hh,λh=>absurd rfl h⟩ (by simp;omega) (by simp -dsimp -implicitDefEqProofs (disch:=omega) [B,E])
   ·have hI:=zhj he2
    rw[<- hr2]at w1;obtain⟨e2,hee⟩: ∃e2,e2=(get b).2.2:=⟨_,rfl⟩;rw[<- hee]at hI w1 he2;obtain⟨x,hx⟩: ∃x,x=zag (get b).1:=⟨_,rfl⟩;rw[<- hx]at w1 hz;rw[zvO hI]at hh;obtain⟨y,hy⟩: ∃y,y=IntKind.i64.wrap (x+a):=⟨_,rfl⟩;have hyi:zah y:=by rw[hy];exact zen _
    have hyy:=hy.symm
    try rw[<- hy]at hh
    simp -dsimp -implicitDefEqProofs (disch:=omega) [h1,h1',w1,hc,hyy]
    refine ih (l++[y],r2,e2,y) _ _ ⟨by simp;omega,hr2l,ze7 hli hyi,hyi,λh=>absurd h he2,λ_=>hh⟩ (by simp[he2];omega) (by simp -dsimp -implicitDefEqProofs (disch:=omega) [B,E])
  ·rw[hc,show zgj 2 m r0=zfK m m r0 from rfl]
   obtain⟨l,e,h⟩:=zqo c0 r0 m (zty r0 m hm256 hr0);rcases h with ⟨b,hr,hq⟩ | ⟨hr,hq⟩
   ·simp -dsimp -implicitDefEqProofs (disch:=omega) [hc,hr]
    exact hq _ (by simp) (by simp) (by simp)
   ·simp -dsimp -implicitDefEqProofs (disch:=omega) [hc,hr]
    exact hq _ (by simp) (by simp) (by simp)
  ·rw[hc,show zgj 3 m r0=zh5 m r0 from rfl]
   obtain⟨l,e,h⟩:=zqo c0 r0 m (zvN r0 m hm256 hr0);rcases h with ⟨b,hr,hq⟩ | ⟨hr,hq⟩
   ·simp -dsimp -implicitDefEqProofs (disch:=omega) [hc,hr]
    exact hq _ (by simp) (by simp) (by simp)
   ·simp -dsimp -implicitDefEqProofs (disch:=omega) [hc,hr]
    exact hq _ (by simp) (by simp) (by simp)
  ·rw[hc,show zgj 4 m r0=zdw m r0 from rfl]
   obtain⟨l,e,h⟩:=zqo c0 r0 m (ztz r0 m hm256 hr0);rcases h with ⟨b,hr,hq⟩ | ⟨hr,hq⟩
   ·simp -dsimp -implicitDefEqProofs (disch:=omega) [hc,hr]
    exact hq _ (by simp) (by simp) (by simp)
   ·simp -dsimp -implicitDefEqProofs (disch:=omega) [hc,hr]
    exact hq _ (by simp) (by simp) (by simp)
 intro z hz;have he0:c0.toNat<5:=by omega
 unfold zAC at hT;cases hpl:zgj c0.toNat m r0 with
 |err e=>
  rw[hpl]at hz hT;have he:=zox hpl;obtain⟨s,x,l,rfl,s0,s6,s7,hx,hl,hli⟩:=hz;have enc:=zgi c0.toNat l hli hl he0;rcases hx with rfl | ⟨b,rfl⟩
  ·simp -dsimp -implicitDefEqProofs (disch:=omega) [s0,s6,s7,zzA,enc,he,hlen]
   simpa -dsimp -implicitDefEqProofs (disch:=omega) [E]using hT
  ·by_cases hb0:0<b.length
   ·have f1:=zvo (.list (bytes b)) e 32 he
    simp -dsimp -implicitDefEqProofs (disch:=omega) [s0,s6,s7,zzA,enc,he,hlen,hb0,f1]
    simpa -dsimp -implicitDefEqProofs (disch:=omega) [E]using hT
   ·simp -dsimp -implicitDefEqProofs (disch:=omega) [s0,s6,s7,zzA,enc,he,hlen,hb0]
    simpa -dsimp -implicitDefEqProofs (disch:=omega) [E]using hT
 |ok l r=>
  rw[hpl]at hz hT;obtain⟨hl,hli⟩:=zmQ hpl;obtain⟨s,x,rfl,s0,s6,s7,hx⟩:=hz;have enc:=zgi c0.toNat l hli (by omega) he0
  have heq:=zfz (zhX c0.toNat l) r0 (by have:=zqa c0.toNat hli (by omega:l.length<=256);omega)
  simp only at hT
  by_cases hr:r=[]
  ·subst hr
   rw[yac (λh=>h rfl)]at hT
   by_cases hq:zhX c0.toNat l=r0
   ·rw[yag hq]at hT
    rw[yaI hq]at heq;rcases hx with rfl | ⟨_,rfl⟩
    ·simp -dsimp -implicitDefEqProofs (disch:=omega) [s0,s6,s7,zzA,enc,hlen,heq]
     simpa -dsimp -implicitDefEqProofs (disch:=omega) [E]using hT
    ·simp -dsimp -implicitDefEqProofs (disch:=omega) [s0,s6,s7,zzA,enc,hlen,heq]
     simpa -dsimp -implicitDefEqProofs (disch:=omega) [E]using hT
   ·rw[yac hq]at hT
    rw[yaO hq]at heq;rcases hx with rfl | ⟨_,rfl⟩
    ·have f1:=zhf (.list []) 40
     simp -dsimp -implicitDefEqProofs (disch:=omega) [s0,s6,s7,zzA,enc,hlen,heq,f1]
     simpa -dsimp -implicitDefEqProofs (disch:=omega) [E]using hT
    ·have f1:=zvn 40
     simp -dsimp -implicitDefEqProofs (disch:=omega) [s0,s6,s7,zzA,enc,hlen,heq,f1]
     simpa -dsimp -implicitDefEqProofs (disch:=omega) [E]using hT
  ·rw[yag hr]at hT
   rcases hx with rfl | ⟨h,_⟩
   ·have hb0:0<r.length:=List.length_pos_iff.2 hr
    have f1:=zhf (.list (bytes r)) 32;simp -dsimp -implicitDefEqProofs (disch:=omega) [s0,s6,s7,zzA,enc,hlen,hb0,f1]
    simpa -dsimp -implicitDefEqProofs (disch:=omega) [E]using hT
   ·exact absurd h hr
end Go.Am.Ab
