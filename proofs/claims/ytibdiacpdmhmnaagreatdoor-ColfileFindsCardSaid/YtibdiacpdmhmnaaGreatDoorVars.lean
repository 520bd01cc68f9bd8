/- Numbers of varying length. -/
import Derived.Test.YtibdiacpdmhmnaaGreatDoorBase
set_option linter.all false
namespace Go.Am.Ab
open Go.Proofs
set_option maxHeartbeats 2000000
def put (n:Nat):List UInt8:=if n<128 then [u8n n] else u8n (n % 128+128)::put (n / 128)
termination_by n
decreasing_by omega
def ziA {n:Nat} (h:n<128):put n=[u8n n]:=by rw[put,yag h]
def zuW {n:Nat} (h:128<=n):put n=u8n (n % 128+128)::put (n / 128):=by rw[put,yac (by omega)]
def zlF (k:Nat): ∀n,n<128 ^ (k+1)->(put n).length<=k+1:=by
 induction k with
 |zero=>intro n h;rw[ziA (by simpa using h)];simp
 |succ k ih=>
  intro n h
  by_cases h1:n<128
  ·rw[ziA h1];simp
  ·rw[zuW (by omega)]
   have:=ih (n / 128) (by rw[yb3 (by decide)];rw[ycP]at h;exact h)
   simpa using this
def zaq {n:Nat} (h:n<18446744073709551616):(put n).length<=10:=zlF 9 n (by simp;omega)
def zaZ (n:Nat) (hn:n<18446744073709551616):R 42 [.d (.int .u64 n)] []=some ([.arr 0 (put n).length],[.arr 1 (bytes (put n)) 0]):=by
 have hl:=zaq hn;refine rg b42 rfl ?_;intro T hT;simp -dsimp -implicitDefEqProofs (disch:=omega)
 generalize hz:zaf _ _ _ _ _ _=z;revert z;refine zaa (σ:=Nat × List UInt8) (λx=>[(0,.d (.int .u64 x.1)),(3,.arr 0 x.2.length)]) (λx=>[.arr 1 (bytes x.2) 0]) (λx=>x.1<18446744073709551616/\x.2++put x.1=put n) (λx=>x.1) (n,[]) ?_ ?_ ?_
 ·simp[hn]
 ·simp
 intro T' f hT' ⟨m,bs⟩ ⟨hm,hb⟩ ih;simp only at hm hb ih;have hbl:bs.length<=(put n).length:=by rw[<- hb];simp
 simp -dsimp -implicitDefEqProofs (disch:=omega)
 repeat' ((with_reducible refine zgV ?_ ?_) <;> intro c <;> (try simp only[yaB,yaS]at c) <;> (try simp -dsimp -implicitDefEqProofs (disch:=omega) [c,nI,wI]))
 ·refine ih (m / 128,bs++[u8n (m % 128+128)]) _ _ ⟨by omega, ?_⟩ (Nat.div_lt_self (by omega) (by decide)) (by simp -dsimp -implicitDefEqProofs (disch:=omega))
  rw[<- hb,zuW (n:=m) (by omega)];simp
 ·subst hT'
  rw[ziA (by omega)]at hb
  have hm2:m % 256=m:=by omega
  have hm3:((m:Int) % 256)=m:=by omega
  simp only[<- hb,yae,ya7,yaV,ybX]at hT hl;simp -dsimp -implicitDefEqProofs (disch:=omega) [hm3]
  simp -dsimp -implicitDefEqProofs (disch:=omega) at hT
  simpa -dsimp -implicitDefEqProofs (disch:=omega) using hT
def zig (n:Int):Nat:=if 0<=n then (2*n).toNat else (2*(-(n+1))+1).toNat
def zbe (n:Int):List UInt8:=put (zig n)
def zre {n:Int} (h1: -9223372036854775808<=n) (h2:n<=9223372036854775807):zig n<18446744073709551616:=by
 unfold zig;split <;> omega
def zcc (n:Int) (h1: -9223372036854775808<=n) (h2:n<=9223372036854775807):R 134 [.d (.int .i64 n)] []=some ([.arr 0 (zbe n).length],[.arr 1 (bytes (zbe n)) 0]):=by
 have hz:=zre h1 h2;have hp:=zaZ (zig n) hz
 by_cases h0:0<=n
 ·have e1:n / 9223372036854775808=0:=by omega
  have e2:IntKind.u64.wrap (IntKind.i64.wrap (n*2))=((zig n:Nat):Int):=by unfold zig;rw[yag h0,zai,za0];split <;> omega
  have e3:(zig n ^^^ 0)=zig n:=Nat.xor_zero _;refine rg zIX rfl ?_;intro T hT;simp -dsimp -implicitDefEqProofs (disch:=omega) [e1,e2,e3,hp,zal]
  simpa -dsimp -implicitDefEqProofs (disch:=omega) [zbe]using hT
 ·have e1:n / 9223372036854775808= -1:=by omega
  obtain⟨a,ha⟩: ∃a:Nat,(a:Int)=n*2+18446744073709551616:=⟨(n*2+18446744073709551616).toNat,by omega⟩
  have e2:IntKind.u64.wrap (IntKind.i64.wrap (n*2))=(a:Int):=by rw[zai,za0];split <;> omega
  have e3:(a ^^^ 18446744073709551615)=zig n:=by rw[zxV (by omega)];unfold zig;rw[yac h0];omega
  have e4:IntKind.u64.wrap (-1)=18446744073709551615:=by decide
  refine rg zIX rfl ?_;intro T hT;simp -dsimp -implicitDefEqProofs (disch:=omega) [e1,e2,e3,e4,hp]
  simpa -dsimp -implicitDefEqProofs (disch:=omega) [zbe]using hT
def zbu:Nat->Nat->List UInt8->Nat × Nat × Nat
 |_,_,[]=>(0,0,30)
 |i,n,c::r=>
  if i=9/\1<c.toNat then (0,0,31)
  else if c.toNat<128 then (if c.toNat=0/\0<i then (0,0,31) else (n+c.toNat*2 ^ (7*i),i+1,0))
  else zbu (i+1) (n+(c.toNat % 128)*2 ^ (7*i)) r
def get (b:List UInt8):Nat × Nat × Nat:=zbu 0 0 b
def zfo (b:List UInt8) (hb:b.length<4611686018427387904):R 149 [.d (.list (bytes b))] []=some ([.d (.int .u64 (get b).1),.d (.int .i64 (get b).2.1),.d (.int .i64 (get b).2.2)],[]):=by
 refine rg zJ7 rfl ?_;intro T hT;simp -dsimp -implicitDefEqProofs (disch:=omega)
 generalize hz:zaf _ _ _ _ _ _=z;revert z;refine zaa (σ:=Nat × Nat) (λx=>[(5,.d (.int .u64 x.2)),(8,.d (.list (bytes b))),(9,.d (.int .i64 b.length)),(10,.d (.int .i64 x.1))]) (λx=>[]) (λx=>x.1<=b.length/\x.1<=9/\x.2<2 ^ (7*x.1)/\zbu x.1 x.2 (b.drop x.1)=get b) (λx=>b.length - x.1) (0,0) ?_ ?_ ?_
 ·simp[get]
 ·simp
 intro T' f hT' ⟨i,n⟩ ⟨hi,hi9,hn,hg⟩ ih;simp only at hi hi9 hn hg ih
 by_cases hlt:i<b.length
 ·have hd:b.drop i=b[i]::b.drop (i+1):=(yao hlt)
  have hc:b[i].toNat<256:=b[i].toNat_lt;rw[hd,zbu]at hg;have hcm:b[i].toNat % 128<128:=ycC _ (by decide)
  by_cases h9:i=9
  ·subst h9
   have hlt':(9:Int)<b.length:=by omega
   by_cases h1:1<b[9].toNat
   ·rw[yag ⟨rfl,h1⟩]at hg
    rw[<- hg]at hT;have h1':(1:Int)<b[9].toNat:=by omega
    simp -dsimp -implicitDefEqProofs (disch:=omega) [hlt,hlt',wI,h1']
    subst hT';simp -dsimp -implicitDefEqProofs (disch:=omega)
    simpa -dsimp -implicitDefEqProofs (disch:=omega) using hT
   ·rw[yac (by omega),yag (by omega)]at hg
    obtain⟨m,hm⟩: ∃m,m=b[9].toNat*2 ^ (7*9):=⟨_,rfl⟩;have hn':n<9223372036854775808:=hn;have hm':m=b[9].toNat*9223372036854775808:=hm;have e1:IntKind.u64.wrap (IntKind.u64.wrap ((b[9].toNat:Int) % 128)*9223372036854775808)=(m:Int):=by rw[zai,zai];omega
    have e2:(n ||| m)=n+m:=zgf (i:=63) (by omega) (by omega)
    rw[<- hm]at hg;have h128':(b[9].toNat:Int)<128:=by omega
    have h1': ¬ (1:Int)<b[9].toNat:=by omega
    simp -dsimp -implicitDefEqProofs (disch:=omega) [hlt,hlt',wI,e1,e2,h1',h128']
    refine zgV (λc=> ?_) (λc=> ?_) <;> simp only[yaB,yaS]at c
    ·rw[yag ⟨c,by decide⟩]at hg
     rw[<- hg]at hT;simp -dsimp -implicitDefEqProofs (disch:=omega) [c]
     subst hT';simpa -dsimp -implicitDefEqProofs (disch:=omega) using hT
    ·rw[yac (λh=>c h.1)]at hg
     rw[<- hg]at hT;simp -dsimp -implicitDefEqProofs (disch:=omega) [c]
     subst hT';simpa -dsimp -implicitDefEqProofs (disch:=omega) using hT
  ·have hi8:i<=8:=by omega
   have hpw:2 ^ (7*i)<=2 ^ 56:=yby (by decide) (by omega)
   obtain⟨m,hm⟩: ∃m,m=b[i].toNat % 128*2 ^ (7*i):=⟨_,rfl⟩;have hm2:m<=127*2 ^ 56:=by rw[hm];exact ybA (by omega) hpw
   have hn2:n<2 ^ 56:=ybp hn hpw;have hn3:n<18446744073709551616:=by omega
   have hm3:m<18446744073709551616:=by omega
   have e0:(7*(i:Int)).toNat=7*i:=by omega
   have e1:IntKind.u64.wrap (IntKind.u64.wrap ((b[i].toNat:Int) % 128)*2 ^ (7*i))=(m:Int):=by
    have h1:IntKind.u64.wrap ((b[i].toNat:Int) % 128)=((b[i].toNat % 128:Nat):Int):=by rw[zai];omega
    have h2:((b[i].toNat % 128:Nat):Int)*2 ^ (7*i)=(m:Int):=by rw[hm,ybt,yb6];rfl
    rw[h1,h2,zai];omega
   have e2:(n ||| m)=n+m:=zgf (i:=7*i) (by rw[hm];exact ydh _ _) hn
   have e3:min (7*i) 64=7*i:=by omega
   rw[yac (λh=>h9 h.1)]at hg
   have h9': ¬ (i:Int)=9:=by omega
   by_cases h128:b[i].toNat<128
   ·rw[yag h128]at hg
    have hmm:b[i].toNat % 128=b[i].toNat:=yaK h128;rw[hmm]at hm;rw[<- hm]at hg;have h128':(b[i].toNat:Int)<128:=by omega
    simp -dsimp -implicitDefEqProofs (disch:=omega) [hlt,wI,h9',e0,e3,e1,e2,h128']
    refine zgV (λc=> ?_) (λc=> ?_) <;> simp only[yaB,yaS]at c
    ·simp -dsimp -implicitDefEqProofs (disch:=omega) [c]
     refine zgV (λd=> ?_) (λd=> ?_) <;> simp only[yaB,yaS]at d
     ·rw[yag ⟨c,d⟩]at hg
      rw[<- hg]at hT;simp -dsimp -implicitDefEqProofs (disch:=omega) [d]
      subst hT';simpa -dsimp -implicitDefEqProofs (disch:=omega) using hT
     ·rw[yac (λh=>d h.2)]at hg
      rw[<- hg]at hT;simp -dsimp -implicitDefEqProofs (disch:=omega) [d]
      subst hT';simpa -dsimp -implicitDefEqProofs (disch:=omega) using hT
    ·rw[yac (λh=>c h.1)]at hg
     rw[<- hg]at hT;simp -dsimp -implicitDefEqProofs (disch:=omega) [c]
     subst hT';simpa -dsimp -implicitDefEqProofs (disch:=omega) using hT
   ·rw[yac h128,<- hm]at hg
    have h128': ¬ (b[i].toNat:Int)<128:=by omega
    simp -dsimp -implicitDefEqProofs (disch:=omega) [hlt,wI,h9',e0,e3,e1,e2,h128',h128]
    refine ih (i+1,n+m) _ _ ⟨by simp only;omega,by simp only;omega, ?_,hg⟩ (by simp only;omega) (by simp -dsimp -implicitDefEqProofs (disch:=omega))
    have hpe:2 ^ (7*(i+1))=128*2 ^ (7*i):=by rw[ycM,ybC,ybW]
    have hm4:m<=127*2 ^ (7*i):=by rw[hm];exact yaG _ (by omega)
    simp only;rw[hpe];omega
 ·have he:i=b.length:=by omega
  have hd:b.drop i=[]:=yaJ (by omega)
  rw[hd,zbu]at hg;rw[<- hg]at hT;simp -dsimp -implicitDefEqProofs (disch:=omega) [hlt]
  subst hT';simp -dsimp -implicitDefEqProofs (disch:=omega)
  simpa -dsimp -implicitDefEqProofs (disch:=omega) using hT
def zag (n:Nat):Int:=if n % 2=0 then (n / 2:Nat) else -((n / 2:Nat):Int) - 1
def zlG: ∀ (b:List UInt8) (i n:Nat),i<=9->n<2 ^ (7*i)->(zbu i n b).1<18446744073709551616
 |[],_,_,_,_=>by simp[zbu]
 |c::r,i,n,hi,hn=>by
  have hc:c.toNat<256:=c.toNat_lt;rw[zbu];split
  ·simp
  ·rename_i h9
   have hpw:i<=8->2 ^ (7*i)<=2 ^ 56:=λh=>yby (by decide) (by omega)
   split
   ·rename_i h128
    split
    ·simp
    ·simp only
     by_cases e:i=9
     ·subst e
      have:n<2 ^ 63:=hn;have:c.toNat<=1:=by omega
      have:c.toNat*2 ^ (7*9)<=1*2 ^ 63:=yaG _ this;omega
     ·have:=hpw (by omega)
      have:c.toNat*2 ^ (7*i)<=127*2 ^ 56:=ybA (by omega) this
      omega
   ·rename_i h128
    have hi8:i<=8:=by
     by_cases e:i=9
     ·subst e;omega
     ·omega
    have hpe:2 ^ (7*(i+1))=128*2 ^ (7*i):=by rw[ycM,ybC,ybW]
    refine zlG r (i+1) _ (by omega) ?_
    have:c.toNat % 128*2 ^ (7*i)<=127*2 ^ (7*i):=yaG _ (by omega)
    rw[hpe];omega
def zdu (b:List UInt8):(get b).1<18446744073709551616:=zlG b 0 0 (by decide) (by decide)
def zjX (b:List UInt8) (hb:b.length<4611686018427387904):R 176 [.d (.list (bytes b))] []=some ([.d (.int .i64 (zag (get b).1)),.d (.int .i64 (get b).2.1),.d (.int .i64 (get b).2.2)],[]):=by
 have hg:=zfo b hb;have hl:=zdu b;unfold zag;generalize get b=x at*
 by_cases h:x.1 % 2=0
 ·have h':(x.1:Int) % 2=0:=by omega
  rw[yag h];refine rg zI3 rfl ?_;intro T hT;simp -dsimp -implicitDefEqProofs (disch:=omega) [hg,zal,h,h']
  simpa -dsimp -implicitDefEqProofs (disch:=omega) using hT
 ·have h2:x.1 % 2=1:=by omega
  have h':(x.1:Int) % 2=1:=by omega
  rw[yac h];refine rg zI3 rfl ?_;intro T hT;simp -dsimp -implicitDefEqProofs (disch:=omega) [hg,zal,h2,h']
  simpa -dsimp -implicitDefEqProofs (disch:=omega) using hT
end Go.Am.Ab
namespace Go.Am.Ab
open Go.Proofs
set_option maxHeartbeats 2000000
def val:List UInt8->Nat
 |[]=>0
 |c::r=>c.toNat % 128+128*val r
end Go.Am.Ab
namespace Go.Am.Ab
open Go.Proofs
set_option maxHeartbeats 2000000
def zEk {a b:UInt8} (h:a.toNat=b.toNat):a=b:=UInt8.toNat_inj.1 h
end Go.Am.Ab
