/- Numbers of varying length. -/
import Derived.Test.YtibdiacpdmhmnaaGreatDoorBase
set_option linter.all false
namespace Go.Am.Ab
open Go.Proofs
set_option maxHeartbeats 2000000
def put (n:Nat):List UInt8:=if n<128 then [u8n n] else u8n (n % 128+128)::put (n / 128)
termination_by n
decreasing_by omega
def ziG {n:Nat} (h:n<128):put n=[u8n n]:=by rw[put,if_pos h]
def zpg {n:Nat} (h:128<=n):put n=u8n (n % 128+128)::put (n / 128):=by rw[put,if_neg (by omega)]
def znW (k:Nat): ∀n,n<128 ^ (k+1)->(put n).length<=k+1:=by
 induction k with
 |zero=>intro n h;rw[ziG (by simpa using h)];simp
 |succ k ih=>
  intro n h
  by_cases h1:n<128
  ·rw[ziG h1];simp
  ·rw[zpg (by omega)]
   have:=ih (n / 128) (by rw[Nat.div_lt_iff_lt_mul (by decide)];rw[Nat.pow_succ]at h;exact h)
   simpa using this
def zak {n:Nat} (h:n<18446744073709551616):(put n).length<=10:=znW 9 n (by simp;omega)
def zaS (n:Nat) (hn:n<18446744073709551616):R 42 [.d (.int .u64 n)] []=some ([.arr 0 (put n).length],[.arr 1 (bytes (put n)) 0]):=by
 have hl:=zak hn;refine rg b42 rfl ?_;intro T hT;simp -dsimp -implicitDefEqProofs (disch:=first|omega|assumption)
 generalize hz:zaf _ _ _ _ _ _=z;revert z;refine zaa (σ:=Nat × List UInt8) (λx=>[(0,.d (.int .u64 x.1)),(3,.arr 0 x.2.length)]) (λx=>[.arr 1 (bytes x.2) 0]) (λx=>x.1<18446744073709551616/\x.2++put x.1=put n) (λx=>x.1) (n,[]) ?_ ?_ ?_
 ·simp[hn]
 ·simp
 intro T' f hT' ⟨m,bs⟩ ⟨hm,hb⟩ ih;simp only at hm hb ih;have hbl:bs.length<=(put n).length:=by rw[<- hb];simp
 simp -dsimp -implicitDefEqProofs (disch:=first|omega|assumption)
 repeat' ((with_reducible refine zqU ?_ ?_) <;> intro c <;> (try simp only[decide_eq_true_eq,decide_eq_false_iff_not]at c) <;> (try simp -dsimp -implicitDefEqProofs (disch:=first|omega|assumption) [c,nI,wI]))
 ·refine ih (m / 128,bs++[u8n (m % 128+128)]) _ _ ⟨by omega, ?_⟩ (Nat.div_lt_self (by omega) (by decide)) (by simp -dsimp -implicitDefEqProofs (disch:=first|omega|assumption))
  rw[<- hb,zpg (n:=m) (by omega)];simp
 ·subst hT'
  rw[ziG (by omega)]at hb
  have hm2:m % 256=m:=by omega
  have hm3:((m:Int) % 256)=m:=by omega
  simp only[<- hb,List.length_append,List.map_append,List.map_cons,List.map_nil]at hT hl;simp -dsimp -implicitDefEqProofs (disch:=first|omega|assumption) [hm3]
  simp -dsimp -implicitDefEqProofs (disch:=first|omega|assumption) at hT
  simpa -dsimp -implicitDefEqProofs (disch:=first|omega|assumption) using hT
def zig (n:Int):Nat:=if 0<=n then (2*n).toNat else (2*(-(n+1))+1).toNat
def zaY (n:Int):List UInt8:=put (zig n)
def zph {n:Int} (h1: -9223372036854775808<=n) (h2:n<=9223372036854775807):zig n<18446744073709551616:=by
 unfold zig;split <;> omega
def zbZ (n:Int) (h1: -9223372036854775808<=n) (h2:n<=9223372036854775807):R 134 [.d (.int .i64 n)] []=some ([.arr 0 (zaY n).length],[.arr 1 (bytes (zaY n)) 0]):=by
 have hz:=zph h1 h2;have hp:=zaS (zig n) hz
 by_cases h0:0<=n
 ·have e1:n / 9223372036854775808=0:=by omega
  have e2:IntKind.u64.wrap (IntKind.i64.wrap (n*2))=((zig n:Nat):Int):=by unfold zig;rw[if_pos h0,zad,zbB];split <;> omega
  have e3:(zig n ^^^ 0)=zig n:=Nat.xor_zero _;refine rg zAz rfl ?_;intro T hT;simp -dsimp -implicitDefEqProofs (disch:=first|omega|assumption) [e1,e2,e3,hp,zaj]
  simpa -dsimp -implicitDefEqProofs (disch:=first|omega|assumption) [zaY]using hT
 ·have e1:n / 9223372036854775808= -1:=by omega
  obtain⟨a,ha⟩: ∃a:Nat,(a:Int)=n*2+18446744073709551616:=⟨(n*2+18446744073709551616).toNat,by omega⟩
  have e2:IntKind.u64.wrap (IntKind.i64.wrap (n*2))=(a:Int):=by rw[zad,zbB];split <;> omega
  have e3:(a ^^^ 18446744073709551615)=zig n:=by rw[zre (by omega)];unfold zig;rw[if_neg h0];omega
  have e4:IntKind.u64.wrap (-1)=18446744073709551615:=by decide
  refine rg zAz rfl ?_;intro T hT;simp -dsimp -implicitDefEqProofs (disch:=first|omega|assumption) [e1,e2,e3,e4,hp]
  simpa -dsimp -implicitDefEqProofs (disch:=first|omega|assumption) [zaY]using hT
def zpi:Nat->Nat->List UInt8->Nat × Nat × Nat
 |_,_,[]=>(0,0,30)
 |i,n,c::r=>
  if i=9/\1<c.toNat then (0,0,31)
  else if c.toNat<128 then (if c.toNat=0/\0<i then (0,0,31) else (n+c.toNat*2 ^ (7*i),i+1,0))
  else zpi (i+1) (n+(c.toNat % 128)*2 ^ (7*i)) r
def get (b:List UInt8):Nat × Nat × Nat:=zpi 0 0 b
end Go.Am.Ab
namespace Go.Am.Ab
open Go.Proofs
set_option maxHeartbeats 2000000
def zaP (n:Nat):n<18446744073709551616->R 52 [.d (.int .u64 n)] []=some ([.arr 0 (put n).length],[.arr 1 (bytes (put n)) 0]):=by
 induction n using Nat.strongRecOn with
 |_ n ih=>
  intro hn;have hl:=zak hn
  by_cases h:n<128
  ·rw[ziG h]
   have h':(n:Int)<128:=by omega
   have h2:n % 256=n:=by omega
   have h3:(n:Int) % 256=n:=by omega
   refine rg b52 rfl ?_;intro T hT;simp -dsimp -implicitDefEqProofs (disch:=first|omega|assumption) [h',h3]
   simp -dsimp -implicitDefEqProofs (disch:=first|omega|assumption) at hT
   simpa -dsimp -implicitDefEqProofs (disch:=first|omega|assumption) using hT
  ·have ih':=ih (n / 128) (by omega) (by omega)
   rw[zpg (by omega)]at hl ⊢
   simp only[List.length_cons]at hl;have h': ¬ (n:Int)<128:=by omega
   have h3:((n:Int) % 128+128) % 256=n % 128+128:=by omega
   simp only[Int.natCast_ediv,Int.cast_ofNat_Int]at ih';refine rg b52 rfl ?_;intro T hT;simp -dsimp -implicitDefEqProofs (disch:=first|omega|assumption) [h',h3,zaj,ih']
   simpa -dsimp -implicitDefEqProofs (disch:=first|omega|assumption) [Nat.add_comm 1]using hT
def zbC (n:Int) (h1: -9223372036854775808<=n) (h2:n<=9223372036854775807):R 147 [.d (.int .i64 n)] []=some ([.arr 0 (zaY n).length],[.arr 1 (bytes (zaY n)) 0]):=by
 have hz:=zph h1 h2;have hp:=zaP (zig n) hz
 by_cases h0:0<=n
 ·have e2:IntKind.u64.wrap (2*IntKind.u64.wrap n)=((zig n:Nat):Int):=by unfold zig;rw[if_pos h0,zad,zad];omega
  refine rg zAA rfl ?_;intro T hT;simp -dsimp -implicitDefEqProofs (disch:=first|omega|assumption) [h0,e2,hp]
  simpa -dsimp -implicitDefEqProofs (disch:=first|omega|assumption) [zaY]using hT
 ·have e2:IntKind.u64.wrap (IntKind.u64.wrap (2*IntKind.u64.wrap (-(n+1)))+1)=((zig n:Nat):Int):=by unfold zig;rw[if_neg h0,zad,zad,zad];omega
  refine rg zAA rfl ?_;intro T hT;simp -dsimp -implicitDefEqProofs (disch:=first|omega|assumption) [h0,e2,hp]
  simpa -dsimp -implicitDefEqProofs (disch:=first|omega|assumption) [zaY]using hT
def val:List UInt8->Nat
 |[]=>0
 |c::r=>c.toNat % 128+128*val r
end Go.Am.Ab
namespace Go.Am.Ab
open Go.Proofs
set_option maxHeartbeats 2000000
end Go.Am.Ab
