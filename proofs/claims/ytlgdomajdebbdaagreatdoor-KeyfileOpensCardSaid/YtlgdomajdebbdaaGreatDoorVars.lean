/- Numbers of varying length. -/
import Derived.Test.YtlgdomajdebbdaaGreatDoorBase
set_option linter.all false
namespace Go.Am.Ab
open Go.Proofs
set_option maxHeartbeats 2000000
def put (n:Nat):List UInt8:=if n<128 then [u8n n] else u8n (n % 128+128)::put (n / 128)
termination_by n
decreasing_by omega
def zc7 {n:Nat} (h:n<128):put n=[u8n n]:=by rw[put,if_pos h]
def zmo {n:Nat} (h:128<=n):put n=u8n (n % 128+128)::put (n / 128):=by rw[put,if_neg (by omega)]
def zp9 (k:Nat): ∀n,n<128 ^ (k+1)->(put n).length<=k+1:=by
 induction k with
 |zero=>intro n h;rw[zc7 (by simpa using h)];simp
 |succ k ih=>
  intro n h
  by_cases h1:n<128
  ·rw[zc7 h1];simp
  ·rw[zmo (by omega)]
   have:=ih (n / 128) (by rw[Nat.div_lt_iff_lt_mul (by decide)];rw[Nat.pow_succ]at h;exact h)
   simpa using this
def zaZ {n:Nat} (h:n<18446744073709551616):(put n).length<=10:=zp9 9 n (by simp;omega)
def zcl (n:Nat) (hn:n<18446744073709551616):R 65 [.d (.int .u64 n)] []=some ([.arr 0 (put n).length],[.arr 1 (bytes (put n)) 0]):=by
 have hl:=zaZ hn;refine rg b65 rfl ?_;intro T hT;simp -dsimp -implicitDefEqProofs (disch:=first|omega|assumption)
 generalize hz:zac _ _ _ _ _ _=z;revert z;refine zaa (σ:=Nat × List UInt8) (λx=>[(0,.d (.int .u64 x.1)),(3,.arr 0 x.2.length)]) (λx=>[.arr 1 (bytes x.2) 0]) (λx=>x.1<18446744073709551616/\x.2++put x.1=put n) (λx=>x.1) (n,[]) ?_ ?_ ?_
 ·simp[hn]
 ·simp
 intro T' f hT' ⟨m,bs⟩ ⟨hm,hb⟩ ih;simp only at hm hb ih;have hbl:bs.length<=(put n).length:=by rw[<- hb];simp
 simp -dsimp -implicitDefEqProofs (disch:=first|omega|assumption)
 repeat' ((with_reducible refine zeh ?_ ?_) <;> intro c <;> (try simp only[decide_eq_true_eq,decide_eq_false_iff_not]at c) <;> (try simp -dsimp -implicitDefEqProofs (disch:=first|omega|assumption) [c,nI,wI]))
 ·refine ih (m / 128,bs++[u8n (m % 128+128)]) _ _ ⟨by omega, ?_⟩ (Nat.div_lt_self (by omega) (by decide)) (by simp -dsimp -implicitDefEqProofs (disch:=first|omega|assumption))
  rw[<- hb,zmo (n:=m) (by omega)];simp
 ·subst hT'
  rw[zc7 (by omega)]at hb
  have hm2:m % 256=m:=by omega
  have hm3:((m:Int) % 256)=m:=by omega
  simp only[<- hb,List.length_append,List.map_append,List.map_cons,List.map_nil]at hT hl;simp -dsimp -implicitDefEqProofs (disch:=first|omega|assumption) [hm3]
  simp -dsimp -implicitDefEqProofs (disch:=first|omega|assumption) at hT
  simpa -dsimp -implicitDefEqProofs (disch:=first|omega|assumption) using hT
def zig (n:Int):Nat:=if 0<=n then (2*n).toNat else (2*(-(n+1))+1).toNat
def za1 (n:Int):List UInt8:=put (zig n)
def zoZ {n:Int} (h1: -9223372036854775808<=n) (h2:n<=9223372036854775807):zig n<18446744073709551616:=by
 unfold zig;split <;> omega
def zcR (n:Int) (h1: -9223372036854775808<=n) (h2:n<=9223372036854775807):R 196 [.d (.int .i64 n)] []=some ([.arr 0 (za1 n).length],[.arr 1 (bytes (za1 n)) 0]):=by
 have hz:=zoZ h1 h2;have hp:=zcl (zig n) hz
 by_cases h0:0<=n
 ·have e1:n / 9223372036854775808=0:=by omega
  have e2:IntKind.u64.wrap (IntKind.i64.wrap (n*2))=((zig n:Nat):Int):=by unfold zig;rw[if_pos h0,zab,zat];split <;> omega
  have e3:(zig n ^^^ 0)=zig n:=Nat.xor_zero _;refine rg zDq rfl ?_;intro T hT;simp -dsimp -implicitDefEqProofs (disch:=first|omega|assumption) [e1,e2,e3,hp,zae]
  simpa -dsimp -implicitDefEqProofs (disch:=first|omega|assumption) [za1]using hT
 ·have e1:n / 9223372036854775808= -1:=by omega
  obtain⟨a,ha⟩: ∃a:Nat,(a:Int)=n*2+18446744073709551616:=⟨(n*2+18446744073709551616).toNat,by omega⟩
  have e2:IntKind.u64.wrap (IntKind.i64.wrap (n*2))=(a:Int):=by rw[zab,zat];split <;> omega
  have e3:(a ^^^ 18446744073709551615)=zig n:=by rw[zt0 (by omega)];unfold zig;rw[if_neg h0];omega
  have e4:IntKind.u64.wrap (-1)=18446744073709551615:=by decide
  refine rg zDq rfl ?_;intro T hT;simp -dsimp -implicitDefEqProofs (disch:=first|omega|assumption) [e1,e2,e3,e4,hp]
  simpa -dsimp -implicitDefEqProofs (disch:=first|omega|assumption) [za1]using hT
def zaU:Nat->Nat->List UInt8->Nat × Nat × Nat
 |_,_,[]=>(0,0,30)
 |i,n,c::r=>
  if i=9/\1<c.toNat then (0,0,31)
  else if c.toNat<128 then (if c.toNat=0/\0<i then (0,0,31) else (n+c.toNat*2 ^ (7*i),i+1,0))
  else zaU (i+1) (n+(c.toNat % 128)*2 ^ (7*i)) r
def get (b:List UInt8):Nat × Nat × Nat:=zaU 0 0 b
def zfa (b:List UInt8) (hb:b.length<4611686018427387904):R 70 [.d (.list (bytes b))] []=some ([.d (.int .u64 (get b).1),.d (.int .i64 (get b).2.1),.d (.int .i64 (get b).2.2)],[]):=by
 refine rg b70 rfl ?_;intro T hT;simp -dsimp -implicitDefEqProofs (disch:=first|omega|assumption)
 generalize hz:zac _ _ _ _ _ _=z;revert z;refine zaa (σ:=Nat × Nat) (λx=>[(5,.d (.int .u64 x.2)),(8,.d (.list (bytes b))),(9,.d (.int .i64 b.length)),(10,.d (.int .i64 x.1))]) (λx=>[]) (λx=>x.1<=b.length/\x.1<=9/\x.2<2 ^ (7*x.1)/\zaU x.1 x.2 (b.drop x.1)=get b) (λx=>b.length - x.1) (0,0) ?_ ?_ ?_
 ·simp[get]
 ·simp
 intro T' f hT' ⟨i,n⟩ ⟨hi,hi9,hn,hg⟩ ih;simp only at hi hi9 hn hg ih
 by_cases hlt:i<b.length
 ·have hd:b.drop i=b[i]::b.drop (i+1):=(List.drop_eq_getElem_cons hlt)
  have hc:b[i].toNat<256:=b[i].toNat_lt;rw[hd,zaU]at hg;have hcm:b[i].toNat % 128<128:=Nat.mod_lt _ (by decide)
  by_cases h9:i=9
  ·subst h9
   have hlt':(9:Int)<b.length:=by omega
   by_cases h1:1<b[9].toNat
   ·rw[if_pos ⟨rfl,h1⟩]at hg
    rw[<- hg]at hT;have h1':(1:Int)<b[9].toNat:=by omega
    simp -dsimp -implicitDefEqProofs (disch:=first|omega|assumption) [hlt,hlt',wI,h1']
    subst hT';simp -dsimp -implicitDefEqProofs (disch:=first|omega|assumption)
    simpa -dsimp -implicitDefEqProofs (disch:=first|omega|assumption) using hT
   ·rw[if_neg (by omega),if_pos (by omega)]at hg
    obtain⟨m,hm⟩: ∃m,m=b[9].toNat*2 ^ (7*9):=⟨_,rfl⟩;have hn':n<9223372036854775808:=hn;have hm':m=b[9].toNat*9223372036854775808:=hm;have e1:IntKind.u64.wrap (IntKind.u64.wrap ((b[9].toNat:Int) % 128)*9223372036854775808)=(m:Int):=by rw[zab,zab];omega
    have e2:(n ||| m)=n+m:=zgO (i:=63) (by omega) (by omega)
    rw[<- hm]at hg;have h128':(b[9].toNat:Int)<128:=by omega
    have h1': ¬ (1:Int)<b[9].toNat:=by omega
    simp -dsimp -implicitDefEqProofs (disch:=first|omega|assumption) [hlt,hlt',wI,e1,e2,h1',h128']
    refine zeh (λc=> ?_) (λc=> ?_) <;> simp only[decide_eq_true_eq,decide_eq_false_iff_not]at c
    ·rw[if_pos ⟨c,by decide⟩]at hg
     rw[<- hg]at hT;simp -dsimp -implicitDefEqProofs (disch:=first|omega|assumption) [c]
     subst hT';simpa -dsimp -implicitDefEqProofs (disch:=first|omega|assumption) using hT
    ·rw[if_neg (λh=>c h.1)]at hg
     rw[<- hg]at hT;simp -dsimp -implicitDefEqProofs (disch:=first|omega|assumption) [c]
     subst hT';simpa -dsimp -implicitDefEqProofs (disch:=first|omega|assumption) using hT
  ·have hi8:i<=8:=by omega
   have hpw:2 ^ (7*i)<=2 ^ 56:=Nat.pow_le_pow_right (by decide) (by omega)
   obtain⟨m,hm⟩: ∃m,m=b[i].toNat % 128*2 ^ (7*i):=⟨_,rfl⟩;have hm2:m<=127*2 ^ 56:=by rw[hm];exact Nat.mul_le_mul (by omega) hpw
   have hn2:n<2 ^ 56:=Nat.lt_of_lt_of_le hn hpw;have hn3:n<18446744073709551616:=by omega
   have hm3:m<18446744073709551616:=by omega
   have e0:(7*(i:Int)).toNat=7*i:=by omega
   have e1:IntKind.u64.wrap (IntKind.u64.wrap ((b[i].toNat:Int) % 128)*2 ^ (7*i))=(m:Int):=by
    have h1:IntKind.u64.wrap ((b[i].toNat:Int) % 128)=((b[i].toNat % 128:Nat):Int):=by rw[zab];omega
    have h2:((b[i].toNat % 128:Nat):Int)*2 ^ (7*i)=(m:Int):=by rw[hm,Int.natCast_mul,Int.natCast_pow];rfl
    rw[h1,h2,zab];omega
   have e2:(n ||| m)=n+m:=zgO (i:=7*i) (by rw[hm];exact Nat.mul_mod_left _ _) hn
   have e3:min (7*i) 64=7*i:=by omega
   rw[if_neg (λh=>h9 h.1)]at hg
   have h9': ¬ (i:Int)=9:=by omega
   by_cases h128:b[i].toNat<128
   ·rw[if_pos h128]at hg
    have hmm:b[i].toNat % 128=b[i].toNat:=Nat.mod_eq_of_lt h128;rw[hmm]at hm;rw[<- hm]at hg;have h128':(b[i].toNat:Int)<128:=by omega
    simp -dsimp -implicitDefEqProofs (disch:=first|omega|assumption) [hlt,wI,h9',e0,e3,e1,e2,h128']
    refine zeh (λc=> ?_) (λc=> ?_) <;> simp only[decide_eq_true_eq,decide_eq_false_iff_not]at c
    ·simp -dsimp -implicitDefEqProofs (disch:=first|omega|assumption) [c]
     refine zeh (λd=> ?_) (λd=> ?_) <;> simp only[decide_eq_true_eq,decide_eq_false_iff_not]at d
     ·rw[if_pos ⟨c,d⟩]at hg
      rw[<- hg]at hT;simp -dsimp -implicitDefEqProofs (disch:=first|omega|assumption) [d]
      subst hT';simpa -dsimp -implicitDefEqProofs (disch:=first|omega|assumption) using hT
     ·rw[if_neg (λh=>d h.2)]at hg
      rw[<- hg]at hT;simp -dsimp -implicitDefEqProofs (disch:=first|omega|assumption) [d]
      subst hT';simpa -dsimp -implicitDefEqProofs (disch:=first|omega|assumption) using hT
    ·rw[if_neg (λh=>c h.1)]at hg
     rw[<- hg]at hT;simp -dsimp -implicitDefEqProofs (disch:=first|omega|assumption) [c]
     subst hT';simpa -dsimp -implicitDefEqProofs (disch:=first|omega|assumption) using hT
   ·rw[if_neg h128,<- hm]at hg
    have h128': ¬ (b[i].toNat:Int)<128:=by omega
    simp -dsimp -implicitDefEqProofs (disch:=first|omega|assumption) [hlt,wI,h9',e0,e3,e1,e2,h128',h128]
    refine ih (i+1,n+m) _ _ ⟨by simp only;omega,by simp only;omega, ?_,hg⟩ (by simp only;omega) (by simp -dsimp -implicitDefEqProofs (disch:=first|omega|assumption))
    have hpe:2 ^ (7*(i+1))=128*2 ^ (7*i):=by rw[Nat.mul_add,Nat.pow_add,Nat.mul_comm]
    have hm4:m<=127*2 ^ (7*i):=by rw[hm];exact Nat.mul_le_mul_right _ (by omega)
    simp only;rw[hpe];omega
 ·have he:i=b.length:=by omega
  have hd:b.drop i=[]:=List.drop_of_length_le (by omega)
  rw[hd,zaU]at hg;rw[<- hg]at hT;simp -dsimp -implicitDefEqProofs (disch:=first|omega|assumption) [hlt]
  subst hT';simp -dsimp -implicitDefEqProofs (disch:=first|omega|assumption)
  simpa -dsimp -implicitDefEqProofs (disch:=first|omega|assumption) using hT
def zag (n:Nat):Int:=if n % 2=0 then (n / 2:Nat) else -((n / 2:Nat):Int) - 1
def zke: ∀ (b:List UInt8) (i n:Nat),i<=9->n<2 ^ (7*i)->(zaU i n b).1<18446744073709551616
 |[],_,_,_,_=>by simp[zaU]
 |c::r,i,n,hi,hn=>by
  have hc:c.toNat<256:=c.toNat_lt;rw[zaU];split
  ·simp
  ·rename_i h9
   have hpw:i<=8->2 ^ (7*i)<=2 ^ 56:=λh=>Nat.pow_le_pow_right (by decide) (by omega)
   split
   ·rename_i h128
    split
    ·simp
    ·simp only
     by_cases e:i=9
     ·subst e
      have:n<2 ^ 63:=hn;have:c.toNat<=1:=by omega
      have:c.toNat*2 ^ (7*9)<=1*2 ^ 63:=Nat.mul_le_mul_right _ this;omega
     ·have:=hpw (by omega)
      have:c.toNat*2 ^ (7*i)<=127*2 ^ 56:=Nat.mul_le_mul (by omega) this
      omega
   ·rename_i h128
    have hi8:i<=8:=by
     by_cases e:i=9
     ·subst e;omega
     ·omega
    have hpe:2 ^ (7*(i+1))=128*2 ^ (7*i):=by rw[Nat.mul_add,Nat.pow_add,Nat.mul_comm]
    refine zke r (i+1) _ (by omega) ?_
    have:c.toNat % 128*2 ^ (7*i)<=127*2 ^ (7*i):=Nat.mul_le_mul_right _ (by omega)
    rw[hpe];omega
def zbq (b:List UInt8):(get b).1<18446744073709551616:=zke b 0 0 (by decide) (by decide)
def znP (b:List UInt8) (hb:b.length<4611686018427387904):R 233 [.d (.list (bytes b))] []=some ([.d (.int .i64 (zag (get b).1)),.d (.int .i64 (get b).2.1),.d (.int .i64 (get b).2.2)],[]):=by
 have hg:=zfa b hb;have hl:=zbq b;unfold zag;generalize get b=x at*
 by_cases h:x.1 % 2=0
 ·have h':(x.1:Int) % 2=0:=by omega
  rw[if_pos h];refine rg zDw rfl ?_;intro T hT;simp -dsimp -implicitDefEqProofs (disch:=first|omega|assumption) [hg,zae,h,h']
  simpa -dsimp -implicitDefEqProofs (disch:=first|omega|assumption) using hT
 ·have h2:x.1 % 2=1:=by omega
  have h':(x.1:Int) % 2=1:=by omega
  rw[if_neg h];refine rg zDw rfl ?_;intro T hT;simp -dsimp -implicitDefEqProofs (disch:=first|omega|assumption) [hg,zae,h2,h']
  simpa -dsimp -implicitDefEqProofs (disch:=first|omega|assumption) using hT
end Go.Am.Ab
namespace Go.Am.Ab
open Go.Proofs
set_option maxHeartbeats 2000000
def zcJ (n:Nat):n<18446744073709551616->R 68 [.d (.int .u64 n)] []=some ([.arr 0 (put n).length],[.arr 1 (bytes (put n)) 0]):=by
 induction n using Nat.strongRecOn with
 |_ n ih=>
  intro hn;have hl:=zaZ hn
  by_cases h:n<128
  ·rw[zc7 h]
   have h':(n:Int)<128:=by omega
   have h2:n % 256=n:=by omega
   have h3:(n:Int) % 256=n:=by omega
   refine rg b68 rfl ?_;intro T hT;simp -dsimp -implicitDefEqProofs (disch:=first|omega|assumption) [h',h3]
   simp -dsimp -implicitDefEqProofs (disch:=first|omega|assumption) at hT
   simpa -dsimp -implicitDefEqProofs (disch:=first|omega|assumption) using hT
  ·have ih':=ih (n / 128) (by omega) (by omega)
   rw[zmo (by omega)]at hl ⊢
   simp only[List.length_cons]at hl;have h': ¬ (n:Int)<128:=by omega
   have h3:((n:Int) % 128+128) % 256=n % 128+128:=by omega
   simp only[Int.natCast_ediv,Int.cast_ofNat_Int]at ih';refine rg b68 rfl ?_;intro T hT;simp -dsimp -implicitDefEqProofs (disch:=first|omega|assumption) [h',h3,zae,ih']
   simpa -dsimp -implicitDefEqProofs (disch:=first|omega|assumption) [Nat.add_comm 1]using hT
def zcx (n:Int) (h1: -9223372036854775808<=n) (h2:n<=9223372036854775807):R 200 [.d (.int .i64 n)] []=some ([.arr 0 (za1 n).length],[.arr 1 (bytes (za1 n)) 0]):=by
 have hz:=zoZ h1 h2;have hp:=zcJ (zig n) hz
 by_cases h0:0<=n
 ·have e2:IntKind.u64.wrap (2*IntKind.u64.wrap n)=((zig n:Nat):Int):=by unfold zig;rw[if_pos h0,zab,zab];omega
  refine rg zDr rfl ?_;intro T hT;simp -dsimp -implicitDefEqProofs (disch:=first|omega|assumption) [h0,e2,hp]
  simpa -dsimp -implicitDefEqProofs (disch:=first|omega|assumption) [za1]using hT
 ·have e2:IntKind.u64.wrap (IntKind.u64.wrap (2*IntKind.u64.wrap (-(n+1)))+1)=((zig n:Nat):Int):=by unfold zig;rw[if_neg h0,zab,zab,zab];omega
  refine rg zDr rfl ?_;intro T hT;simp -dsimp -implicitDefEqProofs (disch:=first|omega|assumption) [h0,e2,hp]
  simpa -dsimp -implicitDefEqProofs (disch:=first|omega|assumption) [za1]using hT
def zcf:Nat->List UInt8->Nat
 |0,_=>0
 |_+1,[]=>0
 |k+1,c::r=>if 128<=c.toNat then zcf k r+1 else 0
def val:List UInt8->Nat
 |[]=>0
 |c::r=>c.toNat % 128+128*val r
def zwO (b:List UInt8):Nat × Nat × Nat:=
 if zcf 10 b=10 then (0,0,31)
 else if zcf 10 b=9/\9<b.length/\1<(b.getD 9 0).toNat then (0,0,31)
 else if zcf 10 b=b.length then (0,0,30)
 else if put (val (b.take (zcf 10 b+1)))=b.take (zcf 10 b+1) then (val (b.take (zcf 10 b+1)),zcf 10 b+1,0)
 else (0,0,31)
def znQ: ∀ (k:Nat) (b:List UInt8),zcf k b<=k/\zcf k b<=b.length
 |0,b=>by simp[zcf]
 |k+1,[]=>by simp[zcf]
 |k+1,c::r=>by
  have:=znQ k r;simp only[zcf,List.length_cons];split <;> omega
def ziI: ∀ (l:List UInt8) (i:Nat),val (l.drop i)<=val l
 |[],i=>by simp[val]
 |c::r,0=>by simp
 |c::r,i+1=>by
  have:=ziI r i;simp only[List.drop_succ_cons,val];omega
def zrN: ∀l:List UInt8,val l<128 ^ l.length
 |[]=>by simp[val]
 |c::r=>by
  have:=zrN r;simp only[val,List.length_cons,Nat.pow_succ];omega
def zkf: ∀a b:List UInt8,val (a++b)=val a+128 ^ a.length*val b
 |[],b=>by simp[val]
 |c::r,b=>by
  rw[List.cons_append,val,val,zkf r b,List.length_cons,Nat.pow_succ,Nat.mul_add,Nat.add_assoc,<- Nat.mul_assoc,Nat.mul_comm 128 (128 ^ r.length)]
def zt6 {b:List UInt8} {s:Nat} (h:s<b.length) (hs:s<10) (h9:s=9->(b.getD 9 0).toNat<=1):val (b.take (s+1))<18446744073709551616:=by
 by_cases e:s=9
 ·subst e
  have e1:b.take (9+1)=b.take 9++[b[9]]:=by rw[List.take_succ_eq_append_getElem h]
  have e2:=h9 rfl;have e3:b.getD 9 0=b[9]:=by simp[List.getD_eq_getElem?_getD,h]
  rw[e3]at e2;have e4:=zrN (b.take 9);rw[List.length_take,Nat.min_eq_left (by omega)]at e4
  rw[e1,zkf,List.length_take,Nat.min_eq_left (by omega),val,val]
  omega
 ·have e4:=zrN (b.take (s+1))
  rw[List.length_take,Nat.min_eq_left (by omega)]at e4
  have:128 ^ (s+1)<=128 ^ 9:=Nat.pow_le_pow_right (by decide) (by omega)
  omega
def zeL (b:List UInt8) (hb:b.length<4611686018427387904):R 80 [.d (.list (bytes b))] []=some ([.d (.int .u64 (zwO b).1),.d (.int .i64 (zwO b).2.1),.d (.int .i64 (zwO b).2.2)],[]):=by
 refine rg b80 rfl ?_;intro T hT;simp -dsimp -implicitDefEqProofs (disch:=first|omega|assumption)
 generalize hz:zac _ _ _ _ _ _=z;revert z;refine zaa (σ:=Nat) (λi=>[(0,.d (.list (bytes b))),(5,.d (.int .i64 i))]) (λ_=>[]) (λi=>i<=10/\i<=b.length/\i+zcf (10 - i) (b.drop i)=zcf 10 b) (λi=>10 - i) 0 ?_ ?_ ?_
 ·simp
 ·simp
 intro T' f hT' i ⟨hi,hil,hld⟩ ih;have exits: ∀s1:Slots,zak s1 0= .d (.list (bytes b))->zak s1 5= .d (.int .i64 i)->i=zcf 10 b->T' (some (.exit 0,s1,[])):=by
  intro s1 e0 e5 hs;subst hT';unfold zwO at hT;rw[<- hs]at hT
  by_cases h10:i=10
  ·rw[if_pos h10]at hT
   subst h10;simp -dsimp -implicitDefEqProofs (disch:=first|omega|assumption) [e0,e5]
   simpa -dsimp -implicitDefEqProofs (disch:=first|omega|assumption) using hT
  rw[if_neg h10]at hT;have h10': ¬ (i:Int)=10:=by omega
  by_cases h9:i=9/\9<b.length/\1<(b.getD 9 0).toNat
  ·rw[if_pos h9]at hT
   obtain⟨rfl,hl9,hb9⟩:=h9;have e3:b.getD 9 0=b[9]:=by simp[List.getD_eq_getElem?_getD,hl9]
   rw[e3]at hb9;have hl9':(9:Int)<b.length:=by omega
   have hb9':(1:Int)<b[9].toNat:=by omega
   simp -dsimp -implicitDefEqProofs (disch:=first|omega|assumption) [e0,e5,hl9,hl9',hb9']
   simpa -dsimp -implicitDefEqProofs (disch:=first|omega|assumption) using hT
  rw[if_neg h9]at hT;have zaB: ∀s2:Slots,zak s2 0= .d (.list (bytes b))->zak s2 5= .d (.int .i64 i)->(i<b.length->i<10/\(i=9->(b.getD 9 0).toNat<=1))->True:=λ_ _ _ _=>trivial
  by_cases hlen:i=b.length
  ·rw[if_pos hlen]at hT
   have hn9: ¬ (9:Int)<b.length\/ ¬ (i:Int)=9:=by omega
   have hlen':(i:Int)=b.length:=by omega
   simp -dsimp -implicitDefEqProofs (disch:=first|omega|assumption) [e0,e5,h10']
   repeat' ((with_reducible refine zeh ?_ ?_) <;> intro c <;> (try simp only[decide_eq_true_eq,decide_eq_false_iff_not]at c) <;> (try simp -dsimp -implicitDefEqProofs (disch:=first|omega|assumption) [c,nI,wI,e0,e5]))
   all_goals first
    |(exfalso;omega)
    |(simpa -dsimp -implicitDefEqProofs (disch:=first|omega|assumption) using hT)
  rw[if_neg hlen]at hT;have hls:=znQ 10 b;have hlt:i<b.length:=by omega
  have hb1:i=9->(b.getD 9 0).toNat<=1:=λe=>by
   rcases Nat.lt_or_ge 1 (b.getD 9 0).toNat with h | h
   ·exact absurd ⟨e,by omega,h⟩ h9
   ·exact h
  have hv:=zt6 hlt (by omega) hb1
  have hlen': ¬ (i:Int)=b.length:=by omega
  have hp0:(b.take (i+1)).drop (i+1)=[]:=List.drop_of_length_le (by simp;omega)
  by_cases hi9:(i:Int)=9
  case' pos=>
   have f1:9<b.length:=by omega
   have f2:(9:Int)<b.length:=by omega
   have f3: ¬ (1:Int)<(b[9]'f1).toNat:=by
    have:=hb1 (by omega)
    rw[List.getD_eq_getElem?_getD,List.getElem?_eq_getElem f1]at this;simp only[Option.getD_some]at this;omega
   have f4: ¬ (9:Int)=b.length:=by omega
   simp -dsimp -implicitDefEqProofs (disch:=first|omega|assumption) [e0,e5,h10',hi9,f1,f2,f3,f4]
  case' neg=>
   simp -dsimp -implicitDefEqProofs (disch:=first|omega|assumption) [e0,e5,h10',hi9,hlen']
  all_goals
   generalize hz:zac _ _ _ _ _ _=z;revert z;refine zaa (σ:=Nat) (λj=>[(0,.d (.list (bytes b))),(5,.d (.int .i64 i)),(6,.d (.int .u64 (val ((b.take (i+1)).drop j)))),(7,.d (.int .i64 ((j:Int) - 1)))]) (λ_=>[]) (λj=>j<=i+1) (λj=>j) (i+1) ?_ ?_ ?_
   ·simp
   ·simp -dsimp -implicitDefEqProofs (disch:=first|omega|assumption) [e0,e5,hi9,hp0,val]
   intro T2 f2 hT2 j hj ih2;cases j with
   |zero=>
    have hv1:val (List.drop 0 (b.take (i+1)))=val (b.take (i+1)):=by simp
    have hput:=zcJ _ hv;have hpl:=zaZ hv;subst hT2;simp -dsimp -implicitDefEqProofs (disch:=first|omega|assumption) [hv1,hput]
    have hbeq:(put (val (b.take (i+1))) == b.take (i+1))=decide (put (val (b.take (i+1)))=b.take (i+1)):=by rw[Bool.eq_iff_iff];simp
    simp -dsimp -implicitDefEqProofs (disch:=first|omega|assumption) [hbeq]
    by_cases hpe:put (val (b.take (i+1)))=b.take (i+1)
    ·rw[if_pos hpe]at hT
     simp -dsimp -implicitDefEqProofs (disch:=first|omega|assumption) [hpe]
     simpa -dsimp -implicitDefEqProofs (disch:=first|omega|assumption) using hT
    ·rw[if_neg hpe]at hT
     simp -dsimp -implicitDefEqProofs (disch:=first|omega|assumption) [hpe]
     simpa -dsimp -implicitDefEqProofs (disch:=first|omega|assumption) using hT
   |succ q=>
    have hq:q<b.length:=by omega
    have hqp:(b.take (i+1)).drop q=b[q]::(b.take (i+1)).drop (q+1):=by
     rw[List.drop_eq_getElem_cons (by simp;omega)]
     simp
    have hvd:val ((b.take (i+1)).drop q)=b[q].toNat % 128+128*val ((b.take (i+1)).drop (q+1)):=by rw[hqp,val]
    have hvle:=ziI (b.take (i+1)) q;have hsub:((q:Int)+1 - 1)=q:=by omega
    simp -dsimp -implicitDefEqProofs (disch:=first|omega|assumption) [hsub,zae,hq]
    refine ih2 q _ _ (by omega) (by omega) ?_
    simp -dsimp -implicitDefEqProofs (disch:=first|omega|assumption) [hvd]
    omega
 by_cases h1:i<b.length
 ·have hc:b[i].toNat<256:=b[i].toNat_lt
  have hd:b.drop i=b[i]::b.drop (i+1):=List.drop_eq_getElem_cons h1
  by_cases h2:i<10
  ·obtain⟨k,hk⟩: ∃k,10 - i=k+1:=⟨10 - i - 1,by omega⟩
   rw[hk,hd,zcf]at hld;have h2':(i:Int)<10:=by omega
   by_cases h3:128<=b[i].toNat
   ·rw[if_pos h3]at hld
    have h3':(128:Int)<=b[i].toNat:=by omega
    simp -dsimp -implicitDefEqProofs (disch:=first|omega|assumption) [h1,h2',h3']
    refine ih (i+1) _ _ ⟨by omega,by omega, ?_⟩ (by omega) (by simp -dsimp -implicitDefEqProofs (disch:=first|omega|assumption))
    rw[show 10 - (i+1)=k by omega];omega
   ·rw[if_neg h3]at hld
    have h3': ¬ (128:Int)<=b[i].toNat:=by omega
    simp -dsimp -implicitDefEqProofs (disch:=first|omega|assumption) [h1,h2',h3']
    exact exits _ (by simp) (by simp) (by omega)
  ·have h2': ¬ (i:Int)<10:=by omega
   have:10 - i=0:=by omega
   rw[this,zcf]at hld;simp -dsimp -implicitDefEqProofs (disch:=first|omega|assumption) [h1,h2']
   exact exits _ (by simp) (by simp) (by omega)
 ·have hd:b.drop i=[]:=List.drop_of_length_le (by omega)
  have hl:zcf (10 - i) (b.drop i)=0:=by rw[hd];cases 10 - i <;> rfl
  simp -dsimp -implicitDefEqProofs (disch:=first|omega|assumption) [h1]
  exact exits _ (by simp) (by simp) (by omega)
end Go.Am.Ab
namespace Go.Am.Ab
open Go.Proofs
set_option maxHeartbeats 2000000
def zhq: ∀ (b:List UInt8) (i n:Nat),i<=9->zaU i n b=
 if i+zcf (10 - i) b=10 then (0,0,31)
 else if i+zcf (10 - i) b=9/\zcf (10 - i) b<b.length/\1<(b.getD (zcf (10 - i) b) 0).toNat then (0,0,31)
 else if zcf (10 - i) b=b.length then (0,0,30)
 else if (b.getD (zcf (10 - i) b) 0).toNat=0/\0<i+zcf (10 - i) b then (0,0,31)
 else (n+val (b.take (zcf (10 - i) b+1))*2 ^ (7*i),i+zcf (10 - i) b+1,0)
 |[],i,n,hi=>by
  have:zcf (10 - i) []=0:=by cases 10 - i <;> rfl
  rw[this,zaU];rw[if_neg (by omega),if_neg (by simp),if_pos (by simp)]
 |c::r,i,n,hi=>by
  obtain⟨k,hk⟩: ∃k,10 - i=k+1:=⟨9 - i,by omega⟩
  have hc:c.toNat<256:=c.toNat_lt;rw[hk,zaU]
  by_cases h:128<=c.toNat
  ·have hl:zcf (k+1) (c::r)=zcf k r+1:=by rw[zcf,if_pos h]
   rw[hl]
   by_cases h9:i=9
   ·have hk0:k=0:=by omega
    subst h9;subst hk0;rw[if_pos ⟨rfl,by omega⟩,if_pos (by simp[zcf])]
   ·rw[if_neg (λx=>h9 x.1),if_neg (by omega)]
    have ih:=zhq r (i+1) (n+c.toNat % 128*2 ^ (7*i)) (by omega)
    rw[show 10 - (i+1)=k by omega]at ih
    rw[ih];have e1:(c::r).getD (zcf k r+1) 0=r.getD (zcf k r) 0:=by simp[List.getD_eq_getElem?_getD]
    rw[e1,List.length_cons];have e2:val (List.take (zcf k r+1+1) (c::r))=c.toNat % 128+128*val (List.take (zcf k r+1) r):=by rw[List.take_succ_cons,val]
    have e3:n+c.toNat % 128*2 ^ (7*i)+val (List.take (zcf k r+1) r)*2 ^ (7*(i+1))=n+(c.toNat % 128+128*val (List.take (zcf k r+1) r))*2 ^ (7*i):=by
     rw[show 7*(i+1)=7*i+7 by omega,Nat.pow_add,Nat.add_mul,Nat.mul_comm 128,Nat.mul_assoc,Nat.mul_comm 128 (2 ^ (7*i)),Nat.add_assoc]
    rw[e2,e3];rw[show i+1+zcf k r=i+(zcf k r+1) by omega]
    simp only[Nat.add_lt_add_iff_right,Nat.add_right_cancel_iff]
  ·have hl:zcf (k+1) (c::r)=0:=by rw[zcf,if_neg h]
   rw[hl];have e1:(c::r).getD 0 0=c:=rfl;have e2:val (List.take (0+1) (c::r))=c.toNat:=by simp[val];omega
   rw[e1,e2,if_neg (show ¬ i+0=10 by omega),if_pos (show c.toNat<128 by omega)]
   simp only[Nat.add_zero,List.length_cons]
   by_cases h9:i=9/\1<c.toNat
   ·rw[if_pos h9,if_pos ⟨h9.1,by omega,h9.2⟩]
   ·have h9': ¬ (i=9/\0<r.length+1/\1<c.toNat):=λx=>h9 ⟨x.1,x.2.2⟩
    rw[if_neg h9,if_neg h9',if_neg (show ¬ 0=r.length+1 by omega)]
def zjO:List UInt8->Prop
 |[]=>False
 |[c]=>c.toNat<128
 |c::d::r=>128<=c.toNat/\zjO (d::r)
def zu0 {a b:UInt8} (h:a.toNat=b.toNat):a=b:=UInt8.toNat_inj.1 h
def zo0: ∀p,zjO p->val p=0->(p.getLastD 0).toNat=0
 |[],h,_=>h.elim
 |[c],h,hv=>by simp only[zjO,val]at h hv;simp;omega
 |c::d::r,h,hv=>by
  simp only[zjO]at h;rw[val]at hv;have:=zo0 (d::r) h.2 (by omega)
  simpa using this
def zrO: ∀p,zjO p->(put (val p)=p↔ ¬ ((p.getLastD 0).toNat=0/\1<p.length))
 |[],h=>h.elim
 |[c],h=>by
  simp only[zjO]at h;have:val [c]=c.toNat:=by simp[val];omega
  rw[this,zc7 h];simp
 |c::d::r,h=>by
  simp only[zjO]at h;have hc:c.toNat<256:=c.toNat_lt;have ih:=zrO (d::r) h.2;have hz:=zo0 (d::r) h.2;rw[val]
  by_cases h0:val (d::r)=0
  ·have hl:=hz h0
   rw[h0,Nat.mul_zero,Nat.add_zero,zc7 (by omega)]
   simp only[List.length_cons];constructor
   ·intro e
    have:=congrArg List.length e;simp at this
   ·intro e
    exact absurd ⟨by simpa using hl,by omega⟩ e
  ·rw[zmo (by omega)]
   have e1:(c.toNat % 128+128*val (d::r)) / 128=val (d::r):=by omega
   have e2:u8n ((c.toNat % 128+128*val (d::r)) % 128+128)=c:=zu0 (by rw[zce (by omega)];omega)
   rw[e1,e2];simp only[List.cons.injEq,true_and,ih,List.length_cons];have hlast:((c::d::r).getLastD 0)=(d::r).getLastD 0:=by simp
   rw[hlast];constructor
   ·rintro a ⟨b1,b2⟩
    by_cases hr:r=[]
    ·subst hr
     simp only[zjO]at h;have hd:=h.2;simp only[val]at h0;simp at b1;omega
    ·exact a ⟨b1,by have:0<r.length:=List.length_pos_iff.2 hr;omega⟩
   ·rintro a ⟨b1,b2⟩
    exact a ⟨b1,by omega⟩
def zkg: ∀ (k:Nat) (b:List UInt8),zcf k b<k->zcf k b<b.length->zjO (b.take (zcf k b+1))/\(b.take (zcf k b+1)).getLastD 0=b.getD (zcf k b) 0
 |0,b,h,_=>by omega
 |k+1,[],h,h2=>by simp at h2
 |k+1,c::r,h,h2=>by
  by_cases hc:128<=c.toNat
  ·have hl:zcf (k+1) (c::r)=zcf k r+1:=by rw[zcf,if_pos hc]
   rw[hl]at h h2 ⊢;simp only[List.length_cons]at h2;obtain⟨a1,a2⟩:=zkg k r (by omega) (by omega)
   have hne:r≠[]:=by rintro rfl;simp at h2
   obtain⟨d,r',rfl⟩:=List.exists_cons_of_ne_nil hne;simp only[List.take_succ_cons]at a1 a2 ⊢;refine⟨⟨hc,a1⟩, ?_⟩;have:(c::d::List.take (zcf k (d::r')) r').getLastD 0=(d::List.take (zcf k (d::r')) r').getLastD 0:=by simp
   rw[this,a2];simp[List.getD_eq_getElem?_getD]
  ·have hl:zcf (k+1) (c::r)=0:=by rw[zcf,if_neg hc]
   rw[hl];simp[zjO];omega
def ziJ (b:List UInt8):zwO b=get b:=by
 unfold get zwO;rw[zhq b 0 0 (by decide)]
 have hl:=znQ 10 b;simp only[Nat.zero_add,Nat.sub_zero,Nat.mul_zero,Nat.pow_zero,Nat.mul_one]
 by_cases h10:zcf 10 b=10
 ·rw[if_pos h10,if_pos h10]
 rw[if_neg h10,if_neg h10]
 by_cases h9:zcf 10 b=9/\9<b.length/\1<(b.getD 9 0).toNat
 ·rw[if_pos h9,if_pos ⟨h9.1,by omega,by rw[h9.1];exact h9.2.2⟩]
 have h9': ¬ (zcf 10 b=9/\zcf 10 b<b.length/\1<(b.getD (zcf 10 b) 0).toNat):=λx=>h9 ⟨x.1,by omega,by have:=x.2.2;rw[x.1]at this;exact this⟩
 rw[if_neg h9,if_neg h9']
 by_cases hlen:zcf 10 b=b.length
 ·rw[if_pos hlen,if_pos hlen]
 rw[if_neg hlen,if_neg hlen];obtain⟨s1,s2⟩:=zkg 10 b (by omega) (by omega)
 have hp:=zrO _ s1;rw[s2,List.length_take,Nat.min_eq_left (by omega)]at hp
 by_cases hc:put (val (b.take (zcf 10 b+1)))=b.take (zcf 10 b+1)
 ·rw[if_pos hc,if_neg]
  intro x;exact (hp.1 hc) ⟨x.1,by omega⟩
 ·rw[if_neg hc,if_pos]
  have h': ¬ ¬ ((b.getD (zcf 10 b) 0).toNat=0/\1<zcf 10 b+1):=λx=>hc (hp.2 x)
  have h'':=Classical.not_not.1 h';exact⟨h''.1,by omega⟩
def zmp (b:List UInt8) (hb:b.length<4611686018427387904):R 255 [.d (.list (bytes b))] []=some ([.d (.int .i64 (zag (get b).1)),.d (.int .i64 (get b).2.1),.d (.int .i64 (get b).2.2)],[]):=by
 have hg:=zeL b hb;rw[ziJ]at hg;have hl:=zbq b;unfold zag;generalize get b=x at*
 by_cases h:x.1 % 2=0
 ·have h':(x.1:Int) % 2=0:=by omega
  rw[if_pos h];refine rg zDz rfl ?_;intro T hT;simp -dsimp -implicitDefEqProofs (disch:=first|omega|assumption) [hg,zae,h,h']
  simpa -dsimp -implicitDefEqProofs (disch:=first|omega|assumption) using hT
 ·have h2:x.1 % 2=1:=by omega
  have h':(x.1:Int) % 2=1:=by omega
  rw[if_neg h];refine rg zDz rfl ?_;intro T hT;simp -dsimp -implicitDefEqProofs (disch:=first|omega|assumption) [hg,zae,h2,h']
  simpa -dsimp -implicitDefEqProofs (disch:=first|omega|assumption) using hT
end Go.Am.Ab
