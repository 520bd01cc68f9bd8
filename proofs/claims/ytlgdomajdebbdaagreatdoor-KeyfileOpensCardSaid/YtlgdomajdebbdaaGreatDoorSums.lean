/- The sum of bytes. -/
import Derived.Test.YtlgdomajdebbdaaGreatDoorMachD
import Derived.Test.YtlgdomajdebbdaaGreatDoorCellsA
import Derived.Test.YtlgdomajdebbdaaGreatDoorReadA
import Derived.Test.YtlgdomajdebbdaaGreatDoorColC
set_option linter.all false
namespace Go.Am.Ab
set_option maxHeartbeats 4000000
def zzV:BitVec 32:=0xedb88320#32
def zre (c:BitVec 32):BitVec 32:=(c >>>1) ^^^ (if c.getLsbD 0 then zzV else 0#32)
def zun (a b:BitVec 32):zre (a ^^^ b)=zre a ^^^ zre b:=by
 unfold zre;rw[BitVec.ushiftRight_xor_distrib,BitVec.getLsbD_xor];cases a.getLsbD 0 <;> cases b.getLsbD 0
 all_goals simp only[Bool.xor_false,Bool.false_xor,Bool.xor_true,Bool.not_true,Bool.not_false,if_true,if_false,Bool.false_eq_true,BitVec.xor_zero]
 ·ac_rfl
 ·ac_rfl
 ·have:zzV ^^^ zzV=0#32:=BitVec.xor_self
  calc a >>>1 ^^^ b >>>1=a >>>1 ^^^ b >>>1 ^^^ (zzV ^^^ zzV):=by rw[this,BitVec.xor_zero]
   _=_:=by ac_rfl
def zsD {c:BitVec 32} (h:c.getLsbD 0=false):zre c=c >>>1:=by
 unfold zre;rw[h];simp
def zdx (c:BitVec 32):Nat->BitVec 32
 |0=>c
 |n+1=>zre (zdx c n)
def zmT (a b:BitVec 32): ∀n,zdx (a ^^^ b) n=zdx a n ^^^ zdx b n
 |0=>rfl
 |n+1=>by rw[zdx,zmT a b n,zun];rfl
def zmU (a:BitVec 32) (m:Nat): ∀n,zdx a (m+n)=zdx (zdx a m) n
 |0=>rfl
 |n+1=>by rw[<- Nat.add_assoc,zdx,zmU a m n];rfl
def zvT:List Nat:=[0x00000000,0x1db71064,0x3b6e20c8,0x26d930ac,0x76dc4190,0x6b6b51f4,0x4db26158,0x5005713c,0xedb88320,0xf00f9344,0xd6d6a3e8,0xcb61b38c,0x9b64c2b0,0x86d3d2d4,0xa00ae278,0xbdbdf21c]
def zlu (n:Nat):BitVec 32:=BitVec.ofNat 32 (zvT.getD n 0)
def nib (c:BitVec 32):BitVec 32:=c >>>4 ^^^ zlu (c &&& 15#32).toNat
def zsE (c:BitVec 32):(c &&& 15#32).toNat<16:=by
 rw[BitVec.toNat_and];exact Nat.lt_of_le_of_lt Nat.and_le_right (by decide)
def zuo (c:BitVec 32):zdx (c &&& 15#32) 4=zlu (c &&& 15#32).toNat:=by
 have h:=zsE c;obtain⟨n,hn⟩: ∃n,n=(c &&& 15#32).toNat:=⟨_,rfl⟩;have e:c &&& 15#32=BitVec.ofNat 32 n:=by rw[hn];simp
 rw[<- hn]at h ⊢;rw[e];have key: ∀m:Fin 16,zdx (BitVec.ofNat 32 m.val) 4=zlu m.val:=by decide
 exact key ⟨n,h⟩
def zsF (c:BitVec 32):zdx (c &&& 0xfffffff0#32) 4=c >>>4:=by
 have hb: ∀i,i<4->(c &&& 0xfffffff0#32).getLsbD i=false:=by
  intro i hi;rw[BitVec.getLsbD_and];have:(0xfffffff0#32).getLsbD i=false:=by
   have:i=0\/i=1\/i=2\/i=3:=by omega
   rcases this with rfl | rfl | rfl | rfl <;> decide
  rw[this,Bool.and_false]
 have key: ∀n,n<=4->zdx (c &&& 0xfffffff0#32) n=(c &&& 0xfffffff0#32) >>>n:=by
  intro n
  induction n with
  |zero=>intro _;simp[zdx]
  |succ n ih=>
   intro hn;rw[zdx,ih (by omega),zsD]
   ·rw[BitVec.shiftRight_add]
   ·rw[BitVec.getLsbD_ushiftRight]
    exact hb _ (by omega)
 rw[key 4 (Nat.le_refl _)];apply BitVec.eq_of_getLsbD_eq;intro i hi;rw[BitVec.getLsbD_ushiftRight,BitVec.getLsbD_ushiftRight,BitVec.getLsbD_and]
 by_cases h:4+i<32
 ·have:(0xfffffff0#32).getLsbD (4+i)=true:=by
   have key: ∀m:Fin 28,(0xfffffff0#32).getLsbD (4+m.val)=true:=by decide
   exact key ⟨i,by omega⟩
  rw[this,Bool.and_true]
 ·rw[BitVec.getLsbD_of_ge c _ (by omega),Bool.false_and]
def zu2 (c:BitVec 32):zdx c 4=nib c:=by
 have h:c=(c &&& 0xfffffff0#32) ^^^ (c &&& 15#32):=by
  apply BitVec.eq_of_getLsbD_eq;intro i hi;rw[BitVec.getLsbD_xor,BitVec.getLsbD_and,BitVec.getLsbD_and];have key: ∀m:Fin 32,(0xfffffff0#32).getLsbD m.val= !(15#32).getLsbD m.val:=by decide
  rw[key ⟨i,hi⟩];cases c.getLsbD i <;> cases (15#32).getLsbD i <;> rfl
 conv=>lhs;rw[h]
 rw[zmT,zsF,zuo];rfl
def zn4 (c:BitVec 32) (x:UInt8):BitVec 32:=zdx (c ^^^ BitVec.ofNat 32 x.toNat) 8
def zsG (c:BitVec 32) (x:UInt8):zn4 c x=nib (nib (c ^^^ BitVec.ofNat 32 x.toNat)):=by
 unfold zn4;rw[show (8:Nat)=4+4 from rfl,zmU,zu2,zu2]
def zqH (c:BitVec 32) (b:List UInt8):BitVec 32:=b.foldl zn4 c
def zfU (c:BitVec 32) (b:List UInt8):BitVec 32:= ~~~ zqH (~~~ c) b
def zAU:BitVec 32:=0xffffffff#32
def zpp (c:BitVec 32):c ^^^ zAU= ~~~ c:=by
 apply BitVec.eq_of_getLsbD_eq;intro i hi;rw[BitVec.getLsbD_xor,BitVec.getLsbD_not];have key: ∀m:Fin 32,zAU.getLsbD m.val=true:=by decide
 rw[key ⟨i,hi⟩];simp[hi]
def znl (c:BitVec 32):List UInt8:=[UInt8.ofNat c.toNat,UInt8.ofNat (c.toNat / 256),UInt8.ofNat (c.toNat / 65536),UInt8.ofNat (c.toNat / 16777216)]
def zAV (b:List UInt8):List UInt8:=znl (zfU 0#32 b)
def zbB (b:List UInt8):List UInt8:=b++zAV b
def zn5 (b:List UInt8):(zAV b).length=4:=rfl
def zbp (b:List UInt8):(zbB b).length=b.length+4:=by rw[zbB,List.length_append,zn5]
def zhO (b:List UInt8):Option (List UInt8):=if b.length<4 then none else if zbB (b.take (b.length - 4))=b then some (b.take (b.length - 4)) else none
def zsH (t:List UInt8):zhO (zbB t)=some t:=by
 unfold zhO;rw[zbp,if_neg (by omega),Nat.add_sub_cancel]
 have:(zbB t).take t.length=t:=by rw[zbB,List.take_left]
 rw[this,if_pos rfl]
def zmV {b t:List UInt8} (h:zhO b=some t):zbB t=b:=by
 unfold zhO at h;split at h
 ·cases h
 ·split at h
  ·rename_i h2
   simp only[Option.some.injEq]at h;rw[<- h];exact h2
  ·cases h
end Go.Am.Ab
namespace Go.Am.Ab
open Go.Proofs
set_option maxHeartbeats 4000000
set_option maxRecDepth 4000
abbrev U32 (c:BitVec 32):V:= .d (.int .u32 (c.toNat:Int))
def zvU (c:BitVec 32):4294967295 ^^^ c.toNat=(~~~ c).toNat:=by
 rw[<- zpp,BitVec.toNat_xor,Nat.xor_comm];rfl
def zpq (c:BitVec 32) (x:UInt8):c.toNat ^^^ x.toNat=(c ^^^ BitVec.ofNat 32 x.toNat).toNat:=by
 have:=x.toNat_lt;rw[BitVec.toNat_xor,BitVec.toNat_ofNat,Nat.mod_eq_of_lt (by omega)]
def zvV (m:Nat) (h:m<16):znM[m]? =some (.int .u32 ((zlu m).toNat:Int)):=by
 have key: ∀k:Fin 16,zvT.getD k.val 0<4294967296/\znM[k.val]? =some (.int .u32 ((zvT.getD k.val 0:Nat):Int)):=by
  intro k;have:k.val=0\/k.val=1\/k.val=2\/k.val=3\/k.val=4\/k.val=5\/k.val=6\/k.val=7\/k.val=8\/k.val=9\/k.val=10\/k.val=11\/k.val=12\/k.val=13\/k.val=14\/k.val=15:=by omega
  rcases this with e | e | e | e | e | e | e | e | e | e | e | e | e | e | e | e <;> rw[e] <;> exact⟨by decide,rfl⟩
 obtain⟨h1,h2⟩:=key ⟨m,h⟩;rw[h2];unfold zlu;rw[BitVec.toNat_ofNat,Nat.mod_eq_of_lt h1]
def zsI (d:BitVec 32): ∃m:Nat,m<16/\d.toNat &&& 15=m/\znM[m]? =some (.int .u32 ((zlu m).toNat:Int))/\d.toNat / 16 ^^^ (zlu m).toNat=(nib d).toNat:=by
 refine⟨(d &&& 15#32).toNat,zsE d,by rw[BitVec.toNat_and];rfl,zvV _ (zsE d), ?_⟩
 unfold nib;rw[BitVec.toNat_xor,BitVec.toNat_ushiftRight,Nat.shiftRight_eq_div_pow]
def zsJ {c d:BitVec 32} (h:d= ~~~ c):unD .xor (.d (.int .u32 (c.toNat:Int)))=some (.int .u32 (d.toNat:Int)):=by
 have h1:BitVec.ofInt 32 (if IntKind.u32.signed then -1 else IntKind.u32.max)=zAU:=by decide
 have h2:BitVec.ofInt 32 ((c.toNat:Nat):Int)=c:=by
  apply BitVec.eq_of_toNat_eq;rw[BitVec.ofInt_natCast,BitVec.toNat_ofNat,Nat.mod_eq_of_lt c.isLt]
 show some (D.int .u32 (IntKind.u32.wrap (BitVec.ofInt 32 (if IntKind.u32.signed then -1 else IntKind.u32.max) ^^^ BitVec.ofInt 32 ((c.toNat:Nat):Int)).toNat))=_
 rw[h1,h2,BitVec.xor_comm,zpp,<- h,zc6];have:=d.isLt;congr 2;omega
def zlv (c:BitVec 32):(c.toNat:Int)<4294967296:=by have:=c.isLt;omega
def zsK (c:BitVec 32) (b:List UInt8) (hb:b.length<1000000000):R 185 [U32 c,B b] []=some ([U32 (zfU c b)],[]):=by
 have l1:=zlv c;obtain⟨d0,hd0⟩: ∃d,d= ~~~ c:=⟨_,rfl⟩;have n1:=zsJ hd0;have md:zfU c b= ~~~ zqH d0 b:=by rw[zfU,hd0]
 rw[md];clear md hd0;refine rg zEz rfl ?_;intro T hT;simp -dsimp -implicitDefEqProofs (disch:=first|omega|assumption) [n1,l1,-unD]
 generalize hz:zac _ _ _ _ _ _=z;revert z;refine zaa (σ:=Nat × BitVec 32) (λx=>[(0,U32 x.2),(9,B b),(10,.d (.int .i64 b.length)),(11,.d (.int .i64 x.1))]) (λx=>[]) (λx=>x.1<=b.length/\x.2=zqH d0 (b.take x.1)) (λx=>b.length - x.1) (0,d0) ?_ ?_ ?_
 ·exact⟨Nat.zero_le _,rfl⟩
 ·simp -dsimp -implicitDefEqProofs (disch:=first|omega|assumption) [B]
 intro T' f hT' ⟨i,d⟩ ⟨hi,hd⟩ ih;simp only at hi hd ih;have ld:=zlv d
 by_cases h1:i<b.length
 ·obtain⟨y,hy⟩: ∃y,y=b[i]:=⟨_,rfl⟩
  have gy:=hy.symm;have x1:=zpq d y;have yl:(y.toNat:Int)<4294967296:=by have:=y.toNat_lt;omega
  obtain⟨e,he⟩: ∃e,e=d ^^^ BitVec.ofNat 32 y.toNat:=⟨_,rfl⟩;rw[<- he]at x1;obtain⟨m,m1,m2,m3,m4⟩:=zsI e;obtain⟨n,n1,n2,n3,n4⟩:=zsI (nib e);have le:=zlv e;have ln:=zlv (nib e);have lm:=zlv (zlu m);have lk:=zlv (zlu n);have t1:((e.toNat:Int) / 16).toNat=e.toNat / 16:=by omega
  have t2:(((nib e).toNat:Int) / 16).toNat=(nib e).toNat / 16:=by omega
  have m1':(m:Int)<16:=by omega
  have n1':(n:Int)<16:=by omega
  simp -dsimp -implicitDefEqProofs (disch:=first|omega|assumption) [h1,gy,x1,yl,ld,m1,m1',m2,m3,m4,n1,n1',n2,n3,n4,le,ln,lm,lk,t1,t2]
  refine ih (i+1,nib (nib e)) _ _ ⟨h1, ?_⟩ (by simp only;omega) ?_
  ·simp only
   have hstep:zqH d0 (b.take (i+1))=zn4 (zqH d0 (b.take i)) b[i]:=by unfold zqH;rw[zam h1,List.foldl_append];rfl
   rw[hstep,<- hd,zsG,gy,he]
  ·simp -dsimp -implicitDefEqProofs (disch:=first|omega|assumption) [B]
 ·obtain rfl:i=b.length:=by omega
  rw[List.take_length]at hd;obtain⟨d9,hd9⟩: ∃e,e= ~~~ d:=⟨_,rfl⟩;have n2:=zsJ hd9;have md: ~~~ zqH d0 b=d9:=by rw[<- hd,hd9]
  rw[md]at hT;subst hT';simp -dsimp -implicitDefEqProofs (disch:=first|omega|assumption) [n2,ld,-unD]
  simpa -dsimp -implicitDefEqProofs (disch:=first|omega|assumption) [U32]using hT
end Go.Am.Ab
namespace Go.Am.Ab
open Go.Proofs
set_option maxHeartbeats 4000000
set_option maxRecDepth 4000
def zjf (b:List UInt8) (hn:b.length<1000000000):R 127 [B b] []=some ([.arr 0 b.length],[.arr 1 (bytes b) 0]):=by
 cases b with
 |nil=>
  refine zge (rs:=[.tmp 2]) (ts:=[24]) Tryz.func127 rfl rfl rfl (by kernel_rfl) (by kernel_rfl) zxK (by simp[Tryz.f127]) ?_
  intro T hT a ha;rcases ha with rfl | rfl
  all_goals simp -dsimp -implicitDefEqProofs (disch:=first|omega|assumption)
  all_goals exact hT
 |cons x r=>
  simp only[List.length_cons]at hn;refine zgd (rs:=[.tmp 2]) (ts:=[24]) Tryz.func127 rfl rfl rfl (by kernel_rfl) (by kernel_rfl) (.inr (by intro zaB h;simp at h)) (by simp[Tryz.f127]) ?_
  intro T hT;simp -dsimp -implicitDefEqProofs (disch:=first|omega|assumption)
  simpa -dsimp -implicitDefEqProofs (disch:=first|omega|assumption) using hT
def zqI (b:List UInt8) (hb:b.length<1000000000):R 185 [.d (.int .u32 0),B b] []=some ([U32 (zfU 0#32 b)],[]):=zsK 0#32 b hb
def zvW (b:List UInt8) (hb:b.length<1000000000):R 126 [B b] []=some ([U32 (zfU 0#32 b)],[]):=by
 have h:=zqI b hb;refine rg zEg rfl ?_;intro T hT;simp -dsimp -implicitDefEqProofs (disch:=first|omega|assumption) [h]
 simpa -dsimp -implicitDefEqProofs (disch:=first|omega|assumption) using hT
def zsL (c:BitVec 32):bytes (znl c)=[.int .u8 ((c.toNat:Int) % 256),.int .u8 ((c.toNat:Int) / 256 % 256),.int .u8 ((c.toNat:Int) / 65536 % 256),.int .u8 ((c.toNat:Int) / 16777216 % 256)]:=by
 simp[znl]
def zjg (b:List UInt8) (hb:b.length<1000000000):R 66 [B b] []=some ([.arr 0 (zbB b).length],[.arr 1 (bytes (zbB b)) 0]):=by
 have h:=zvW b hb;have h2:=zjf b hb;have h3:=zsL (zfU 0#32 b);have h4:bytes (zbB b)=bytes b++bytes (znl (zfU 0#32 b)):=by simp[zbB,zAV]
 rw[zbp,h4,h3];generalize zfU 0#32 b=c at*;clear h3 h4;refine rg b66 rfl ?_;intro T hT;simp -dsimp -implicitDefEqProofs (disch:=first|omega|assumption) [h,h2]
 simpa -dsimp -implicitDefEqProofs (disch:=first|omega|assumption) using hT
def OpR:Option (List UInt8)->Option (List V × List Obj)
 |none=>some ([.arr 0 0,.d (.bool false)],[.arr 1 [] 0])
 |some t=>some ([.arr 0 t.length,.d (.bool true)],[.arr 1 (bytes t) t.length])
def zqJ (b:List UInt8) (hb:b.length<1000000):R 69 [B b] []=OpR (zhO b):=by
 unfold zhO
 by_cases h1:b.length<4
 ·have h1':(b.length:Int)<4:=by omega
  rw[if_pos h1];unfold OpR;refine rg b69 rfl ?_;intro T hT;simp -dsimp -implicitDefEqProofs (disch:=first|omega|assumption) [h1']
  simpa -dsimp -implicitDefEqProofs (disch:=first|omega|assumption) using hT
 rw[if_neg h1];have h1': ¬ (b.length:Int)<4:=by omega
 have x1:((b.length:Int) - 4).toNat=b.length - 4:=by omega
 have x2:(4:Int)<=b.length:=by omega
 obtain⟨t,ht⟩: ∃t,t=b.take (b.length - 4):=⟨_,rfl⟩;have ht':List.take (b.length - 4) (bytes b)=bytes t:=by rw[ht,bytes,bytes,List.map_take]
 have htl:t.length<1000000000:=by rw[ht,List.length_take];omega
 have c1:=zjf t htl;have c2:=zjg t htl;have c3:=zfj (zbB t) b (by rw[zbp,ht,List.length_take];omega)
 rw[<- ht];clear ht
 by_cases h2:zbB t=b
 ·rw[if_pos h2]
  rw[decide_eq_true h2]at c3;unfold OpR;refine rg b69 rfl ?_;intro T hT;simp -dsimp -implicitDefEqProofs (disch:=first|omega|assumption) [h1',x1,x2,ht',c1,c2,c3]
  simpa -dsimp -implicitDefEqProofs (disch:=first|omega|assumption) using hT
 ·rw[if_neg h2]
  rw[decide_eq_false h2]at c3;unfold OpR;refine rg b69 rfl ?_;intro T hT;simp -dsimp -implicitDefEqProofs (disch:=first|omega|assumption) [h1',x1,x2,ht',c1,c2,c3]
  simpa -dsimp -implicitDefEqProofs (disch:=first|omega|assumption) using hT
def zvX (d:BitVec 32):(d.toNat % 2=0/\(zre d).toNat=d.toNat / 2)\/(d.toNat % 2=1/\(zre d).toNat=d.toNat / 2 ^^^ 3988292384):=by
 have h0:d.getLsbD 0=decide (d.toNat % 2=1):=by
  rw[BitVec.getLsbD,Nat.testBit_zero]
 unfold zre;rw[h0]
 by_cases h:d.toNat % 2=1
 ·right
  refine⟨h, ?_⟩;rw[decide_eq_true h,if_pos rfl,BitVec.toNat_xor,BitVec.toNat_ushiftRight,Nat.shiftRight_eq_div_pow];rfl
 ·left
  refine⟨by omega, ?_⟩
  rw[decide_eq_false h,if_neg (by simp),BitVec.xor_zero,BitVec.toNat_ushiftRight,Nat.shiftRight_eq_div_pow]
def zpr (c:BitVec 32):c.toNat ^^^ 4294967295=(~~~ c).toNat:=by rw[Nat.xor_comm,zvU]
def zqK (c:BitVec 32) (b:List UInt8) (hb:b.length<1000000000):R 79 [U32 c,B b] []=some ([U32 (zfU c b)],[]):=by
 have l1:=zlv c;obtain⟨d0,hd0⟩: ∃d,d= ~~~ c:=⟨_,rfl⟩;have n1:c.toNat ^^^ 4294967295=d0.toNat:=by rw[hd0];exact zpr c
 have md:zfU c b= ~~~ zqH d0 b:=by rw[zfU,hd0]
 rw[md];clear md hd0;refine rg b79 rfl ?_;intro T hT;simp -dsimp -implicitDefEqProofs (disch:=first|omega|assumption) [n1,l1]
 generalize hz:zac _ _ _ _ _ _=z;revert z;refine zaa (σ:=Nat × BitVec 32) (λx=>[(0,U32 x.2),(1,B b),(5,.d (.int .i64 x.1))]) (λx=>[]) (λx=>x.1<=b.length/\x.2=zqH d0 (b.take x.1)) (λx=>b.length - x.1) (0,d0) ?_ ?_ ?_
 ·exact⟨Nat.zero_le _,rfl⟩
 ·simp -dsimp -implicitDefEqProofs (disch:=first|omega|assumption) [B]
 intro T' f hT' ⟨i,d⟩ ⟨hi,hd⟩ ih;simp only at hi hd ih;have ld:=zlv d
 by_cases h1:i<b.length
 ·obtain⟨y,hy⟩: ∃y,y=b[i]:=⟨_,rfl⟩
  have gy:=hy.symm;have x1:=zpq d y;have yl:(y.toNat:Int)<4294967296:=by have:=y.toNat_lt;omega
  obtain⟨e,he⟩: ∃e,e=d ^^^ BitVec.ofNat 32 y.toNat:=⟨_,rfl⟩;rw[<- he]at x1;have fin:zn4 d y=zdx e 8:=by rw[zn4,he]
  simp -dsimp -implicitDefEqProofs (disch:=first|omega|assumption) [h1,gy,x1,yl,ld]
  generalize hz:zac _ _ _ _ _ _=z;revert z;refine zaa (σ:=Nat) (λk=>[(0,U32 (zdx e k)),(1,B b),(5,.d (.int .i64 i)),(6,.d (.int .i64 k))]) (λk=>[]) (λk=>k<=8) (λk=>8 - k) 0 ?_ ?_ ?_
  ·exact Nat.zero_le _
  ·simp -dsimp -implicitDefEqProofs (disch:=first|omega|assumption) [B,zdx]
  intro T2 f2 hT2 k hk ih2
  by_cases h2:k<8
  ·have h2':(k:Int)<8:=by omega
   obtain⟨g,hg⟩: ∃g,g=zdx e k:=⟨_,rfl⟩;have hs:zdx e (k+1)=zre g:=by rw[hg];rfl
   rw[<- hg];have lg:=zlv g;have lg2:(g.toNat:Int) / 2<4294967296:=by omega
   rcases zvX g with ⟨b1,b2⟩ | ⟨b1,b2⟩
   ·have b1': ¬ (g.toNat:Int) % 2=1:=by omega
    have b3:((zre g).toNat:Int)=(g.toNat:Int) / 2:=by omega
    simp -dsimp -implicitDefEqProofs (disch:=first|omega|assumption) [h2',lg,lg2,b1,b1']
    refine ih2 (k+1) _ _ h2 (by omega) ?_
    rw[hs];simp -dsimp -implicitDefEqProofs (disch:=first|omega|assumption) [B,U32,b3]
   ·have b1':(g.toNat:Int) % 2=1:=by omega
    have b3:=b2.symm;have t1:((g.toNat:Int) / 2).toNat=g.toNat / 2:=by omega
    simp -dsimp -implicitDefEqProofs (disch:=first|omega|assumption) [h2',lg,lg2,b1,b1',b3,t1]
    refine ih2 (k+1) _ _ h2 (by omega) ?_
    rw[hs];simp -dsimp -implicitDefEqProofs (disch:=first|omega|assumption) [B,U32,b3,t1]
  ·obtain rfl:k=8:=by omega
   subst hT2;simp -dsimp -implicitDefEqProofs (disch:=first|omega|assumption)
   refine ih (i+1,zdx e 8) _ _ ⟨h1, ?_⟩ (by simp only;omega) (by simp -dsimp -implicitDefEqProofs (disch:=first|omega|assumption) [B])
   simp only;have hstep:zqH d0 (b.take (i+1))=zn4 (zqH d0 (b.take i)) b[i]:=by unfold zqH;rw[zam h1,List.foldl_append];rfl
   rw[hstep,<- hd,gy,fin]
 ·obtain rfl:i=b.length:=by omega
  rw[List.take_length]at hd;obtain⟨d9,hd9⟩: ∃e,e= ~~~ d:=⟨_,rfl⟩;have n2:d.toNat ^^^ 4294967295=d9.toNat:=by rw[hd9];exact zpr d
  have md: ~~~ zqH d0 b=d9:=by rw[<- hd,hd9]
  rw[md]at hT;subst hT';simp -dsimp -implicitDefEqProofs (disch:=first|omega|assumption) [n2,ld]
  simpa -dsimp -implicitDefEqProofs (disch:=first|omega|assumption) [U32]using hT
def zn6 (b:List UInt8) (hb:b.length<1000000000):R 79 [.d (.int .u32 0),B b] []=some ([U32 (zfU 0#32 b)],[]):=zqK 0#32 b hb
def zfn (b:List UInt8) (hb:b.length<1000000000):R 31 [B b] []=some ([.arr 0 (zbB b).length],[.arr 1 (bytes (zbB b)) 0]):=by
 have h:=zn6 b hb;have h4:zbB b=b++znl (zfU 0#32 b):=rfl;rw[h4];generalize zfU 0#32 b=c at*;have hc:=c.isLt;refine rg b31 rfl ?_;intro T hT;simp -dsimp -implicitDefEqProofs (disch:=first|omega|assumption) [h]
 generalize hz:zac _ _ _ _ _ _=z;revert z;refine zaa (σ:=Nat) (λi=>[(3,.arr 0 (b.length+i)),(4,.d (.int .u32 ((c.toNat / 256 ^ i:Nat):Int))),(5,.d (.int .i64 i))]) (λi=>[.arr 1 (bytes (b++(znl c).take i)) 0]) (λi=>i<=4) (λi=>4 - i) 0 ?_ ?_ ?_
 ·exact Nat.zero_le _
 ·simp -dsimp -implicitDefEqProofs (disch:=first|omega|assumption)
 intro T' f hT' i hi ih;have hln:((znl c).take i).length=i:=by rw[List.length_take];simp[znl];omega
 by_cases h1:i<4
 ·have h1':(i:Int)<4:=by omega
  obtain⟨s,hs⟩: ∃s,s=c.toNat / 256 ^ i:=⟨_,rfl⟩;have hs32:s<4294967296:=by rw[hs];exact Nat.lt_of_le_of_lt (Nat.div_le_self _ _) hc
  have hs2:c.toNat / 256 ^ (i+1)=s / 256:=by rw[hs,Nat.pow_succ,Nat.div_div_eq_div_mul]
  have hs3:(s:Int) / 256 % 4294967296=((s / 256:Nat):Int):=by omega
  have htk:(znl c).take (i+1)=(znl c).take i++[UInt8.ofNat s]:=by
   have:i=0\/i=1\/i=2\/i=3:=by omega
   rw[hs];rcases this with rfl | rfl | rfl | rfl <;> simp[znl]
  rw[<- hs];have hmn:min i (znl c).length=i:=by rw[show (znl c).length=4 from rfl];omega
  simp -dsimp -implicitDefEqProofs (disch:=first|omega|assumption) [h1',hln,hs3,hmn]
  refine ih (i+1) _ _ h1 (by omega) ?_
  rw[htk,hs2];simp -dsimp -implicitDefEqProofs (disch:=first|omega|assumption) [hs3,hln,Nat.add_assoc]
 ·obtain rfl:i=4:=by omega
  have h1': ¬ ((4:Nat):Int)<4:=by omega
  have hf:(znl c).take 4=znl c:=rfl;rw[hf];have hl4:(znl c).length=4:=rfl;subst hT';simp -dsimp -implicitDefEqProofs (disch:=first|omega|assumption) [h1',hl4]
  simpa -dsimp -implicitDefEqProofs (disch:=first|omega|assumption) [hl4]using hT
def zwU:Option (List UInt8)->Option (List V × List Obj)
 |none=>some ([.arr 0 0,.d (.bool false)],[.arr 1 [] 0])
 |some t=>some ([B t,.d (.bool true)],[])
def zqL (b:List UInt8) (hb:b.length<1000000):R 48 [B b] []=zwU (zhO b):=by
 unfold zhO
 by_cases h1:b.length<4
 ·have h1':(b.length:Int)<4:=by omega
  rw[if_pos h1];unfold zwU;refine rg b48 rfl ?_;intro T hT;simp -dsimp -implicitDefEqProofs (disch:=first|omega|assumption) [h1']
  simpa -dsimp -implicitDefEqProofs (disch:=first|omega|assumption) using hT
 rw[if_neg h1];have h1': ¬ (b.length:Int)<4:=by omega
 have x1:((b.length:Int) - 4).toNat=b.length - 4:=by omega
 have x2:(4:Int)<=b.length:=by omega
 obtain⟨t,ht⟩: ∃t,t=b.take (b.length - 4):=⟨_,rfl⟩;have ht':List.take (b.length - 4) (bytes b)=bytes t:=by rw[ht,bytes,bytes,List.map_take]
 have htl:t.length<1000000000:=by rw[ht,List.length_take];omega
 have c2:=zfn t htl;have hM:=zaP b;have hMs:=zaP (zbB t);have hstr:(zbB t == b)=decide (zbB t=b):=by by_cases h:zbB t=b <;> simp[h]
 rw[<- ht];clear ht
 by_cases h2:zbB t=b
 ·rw[if_pos h2]
  rw[decide_eq_true h2]at hstr;unfold zwU;refine rg b48 rfl ?_;intro T hT;simp -dsimp -implicitDefEqProofs (disch:=first|omega|assumption) [h1',x1,x2,ht',c2,hM,hMs,hstr]
  simpa -dsimp -implicitDefEqProofs (disch:=first|omega|assumption) using hT
 ·rw[if_neg h2]
  rw[decide_eq_false h2]at hstr;unfold zwU;refine rg b48 rfl ?_;intro T hT;simp -dsimp -implicitDefEqProofs (disch:=first|omega|assumption) [h1',x1,x2,ht',c2,hM,hMs,hstr]
  simpa -dsimp -implicitDefEqProofs (disch:=first|omega|assumption) using hT
end Go.Am.Ab
