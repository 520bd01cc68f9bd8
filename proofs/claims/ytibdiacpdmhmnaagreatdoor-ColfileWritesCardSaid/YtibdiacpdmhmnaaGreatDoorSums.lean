/- The sum of bytes. -/
import Derived.Test.YtibdiacpdmhmnaaGreatDoorMachD
import Derived.Test.YtibdiacpdmhmnaaGreatDoorCellsA
import Derived.Test.YtibdiacpdmhmnaaGreatDoorReadA
import Derived.Test.YtibdiacpdmhmnaaGreatDoorColC
set_option linter.all false
namespace Go.Am.Ab
set_option maxHeartbeats 4000000
def zwW:BitVec 32:=0xedb88320#32
def zox (c:BitVec 32):BitVec 32:=(c >>>1) ^^^ (if c.getLsbD 0 then zwW else 0#32)
def zrH (a b:BitVec 32):zox (a ^^^ b)=zox a ^^^ zox b:=by
 unfold zox;rw[BitVec.ushiftRight_xor_distrib,BitVec.getLsbD_xor];cases a.getLsbD 0 <;> cases b.getLsbD 0
 all_goals simp only[Bool.xor_false,Bool.false_xor,Bool.xor_true,Bool.not_true,Bool.not_false,if_true,if_false,Bool.false_eq_true,BitVec.xor_zero]
 ·ac_rfl
 ·ac_rfl
 ·have:zwW ^^^ zwW=0#32:=BitVec.xor_self
  calc a >>>1 ^^^ b >>>1=a >>>1 ^^^ b >>>1 ^^^ (zwW ^^^ zwW):=by rw[this,BitVec.xor_zero]
   _=_:=by ac_rfl
def zpV {c:BitVec 32} (h:c.getLsbD 0=false):zox c=c >>>1:=by
 unfold zox;rw[h];simp
def zcS (c:BitVec 32):Nat->BitVec 32
 |0=>c
 |n+1=>zox (zcS c n)
def zkS (a b:BitVec 32): ∀n,zcS (a ^^^ b) n=zcS a n ^^^ zcS b n
 |0=>rfl
 |n+1=>by rw[zcS,zkS a b n,zrH];rfl
def zkT (a:BitVec 32) (m:Nat): ∀n,zcS a (m+n)=zcS (zcS a m) n
 |0=>rfl
 |n+1=>by rw[<- Nat.add_assoc,zcS,zkT a m n];rfl
def ztr:List Nat:=[0x00000000,0x1db71064,0x3b6e20c8,0x26d930ac,0x76dc4190,0x6b6b51f4,0x4db26158,0x5005713c,0xedb88320,0xf00f9344,0xd6d6a3e8,0xcb61b38c,0x9b64c2b0,0x86d3d2d4,0xa00ae278,0xbdbdf21c]
def zju (n:Nat):BitVec 32:=BitVec.ofNat 32 (ztr.getD n 0)
def nib (c:BitVec 32):BitVec 32:=c >>>4 ^^^ zju (c &&& 15#32).toNat
def zpW (c:BitVec 32):(c &&& 15#32).toNat<16:=by
 rw[BitVec.toNat_and];exact Nat.lt_of_le_of_lt Nat.and_le_right (by decide)
def zrI (c:BitVec 32):zcS (c &&& 15#32) 4=zju (c &&& 15#32).toNat:=by
 have h:=zpW c;obtain⟨n,hn⟩: ∃n,n=(c &&& 15#32).toNat:=⟨_,rfl⟩;have e:c &&& 15#32=BitVec.ofNat 32 n:=by rw[hn];simp
 rw[<- hn]at h ⊢;rw[e];have key: ∀m:Fin 16,zcS (BitVec.ofNat 32 m.val) 4=zju m.val:=by decide
 exact key ⟨n,h⟩
def zpX (c:BitVec 32):zcS (c &&& 0xfffffff0#32) 4=c >>>4:=by
 have hb: ∀i,i<4->(c &&& 0xfffffff0#32).getLsbD i=false:=by
  intro i hi;rw[BitVec.getLsbD_and];have:(0xfffffff0#32).getLsbD i=false:=by
   have:i=0\/i=1\/i=2\/i=3:=by omega
   rcases this with rfl | rfl | rfl | rfl <;> decide
  rw[this,Bool.and_false]
 have key: ∀n,n<=4->zcS (c &&& 0xfffffff0#32) n=(c &&& 0xfffffff0#32) >>>n:=by
  intro n
  induction n with
  |zero=>intro _;simp[zcS]
  |succ n ih=>
   intro hn;rw[zcS,ih (by omega),zpV]
   ·rw[BitVec.shiftRight_add]
   ·rw[BitVec.getLsbD_ushiftRight]
    exact hb _ (by omega)
 rw[key 4 (Nat.le_refl _)];apply BitVec.eq_of_getLsbD_eq;intro i hi;rw[BitVec.getLsbD_ushiftRight,BitVec.getLsbD_ushiftRight,BitVec.getLsbD_and]
 by_cases h:4+i<32
 ·have:(0xfffffff0#32).getLsbD (4+i)=true:=by
   have key: ∀m:Fin 28,(0xfffffff0#32).getLsbD (4+m.val)=true:=by decide
   exact key ⟨i,by omega⟩
  rw[this,Bool.and_true]
 ·rw[BitVec.getLsbD_of_ge c _ (by omega),Bool.false_and]
def zsp (c:BitVec 32):zcS c 4=nib c:=by
 have h:c=(c &&& 0xfffffff0#32) ^^^ (c &&& 15#32):=by
  apply BitVec.eq_of_getLsbD_eq;intro i hi;rw[BitVec.getLsbD_xor,BitVec.getLsbD_and,BitVec.getLsbD_and];have key: ∀m:Fin 32,(0xfffffff0#32).getLsbD m.val= !(15#32).getLsbD m.val:=by decide
  rw[key ⟨i,hi⟩];cases c.getLsbD i <;> cases (15#32).getLsbD i <;> rfl
 conv=>lhs;rw[h]
 rw[zkS,zpX,zrI];rfl
def zl5 (c:BitVec 32) (x:UInt8):BitVec 32:=zcS (c ^^^ BitVec.ofNat 32 x.toNat) 8
def zpY (c:BitVec 32) (x:UInt8):zl5 c x=nib (nib (c ^^^ BitVec.ofNat 32 x.toNat)):=by
 unfold zl5;rw[show (8:Nat)=4+4 from rfl,zkT,zsp,zsp]
def zoh (c:BitVec 32) (b:List UInt8):BitVec 32:=b.foldl zl5 c
def zeJ (c:BitVec 32) (b:List UInt8):BitVec 32:= ~~~ zoh (~~~ c) b
def zxX:BitVec 32:=0xffffffff#32
def zm7 (c:BitVec 32):c ^^^ zxX= ~~~ c:=by
 apply BitVec.eq_of_getLsbD_eq;intro i hi;rw[BitVec.getLsbD_xor,BitVec.getLsbD_not];have key: ∀m:Fin 32,zxX.getLsbD m.val=true:=by decide
 rw[key ⟨i,hi⟩];simp[hi]
def zk6 (c:BitVec 32):List UInt8:=[UInt8.ofNat c.toNat,UInt8.ofNat (c.toNat / 256),UInt8.ofNat (c.toNat / 65536),UInt8.ofNat (c.toNat / 16777216)]
def zz2 (b:List UInt8):List UInt8:=zk6 (zeJ 0#32 b)
def zfW (b:List UInt8):List UInt8:=b++zz2 b
def zl6 (b:List UInt8):(zz2 b).length=4:=rfl
def zd1 (b:List UInt8):(zfW b).length=b.length+4:=by rw[zfW,List.length_append,zl6]
end Go.Am.Ab
namespace Go.Am.Ab
open Go.Proofs
set_option maxHeartbeats 4000000
set_option maxRecDepth 4000
abbrev U32 (c:BitVec 32):V:= .d (.int .u32 (c.toNat:Int))
def zts (c:BitVec 32):4294967295 ^^^ c.toNat=(~~~ c).toNat:=by
 rw[<- zm7,BitVec.toNat_xor,Nat.xor_comm];rfl
def zm8 (c:BitVec 32) (x:UInt8):c.toNat ^^^ x.toNat=(c ^^^ BitVec.ofNat 32 x.toNat).toNat:=by
 have:=x.toNat_lt;rw[BitVec.toNat_xor,BitVec.toNat_ofNat,Nat.mod_eq_of_lt (by omega)]
def ztt (m:Nat) (h:m<16):zlC[m]? =some (.int .u32 ((zju m).toNat:Int)):=by
 have key: ∀k:Fin 16,ztr.getD k.val 0<4294967296/\zlC[k.val]? =some (.int .u32 ((ztr.getD k.val 0:Nat):Int)):=by
  intro k;have:k.val=0\/k.val=1\/k.val=2\/k.val=3\/k.val=4\/k.val=5\/k.val=6\/k.val=7\/k.val=8\/k.val=9\/k.val=10\/k.val=11\/k.val=12\/k.val=13\/k.val=14\/k.val=15:=by omega
  rcases this with e | e | e | e | e | e | e | e | e | e | e | e | e | e | e | e <;> rw[e] <;> exact⟨by decide,rfl⟩
 obtain⟨h1,h2⟩:=key ⟨m,h⟩;rw[h2];unfold zju;rw[BitVec.toNat_ofNat,Nat.mod_eq_of_lt h1]
def zpZ (d:BitVec 32): ∃m:Nat,m<16/\d.toNat &&& 15=m/\zlC[m]? =some (.int .u32 ((zju m).toNat:Int))/\d.toNat / 16 ^^^ (zju m).toNat=(nib d).toNat:=by
 refine⟨(d &&& 15#32).toNat,zpW d,by rw[BitVec.toNat_and];rfl,ztt _ (zpW d), ?_⟩
 unfold nib;rw[BitVec.toNat_xor,BitVec.toNat_ushiftRight,Nat.shiftRight_eq_div_pow]
def zp0 {c d:BitVec 32} (h:d= ~~~ c):unD .xor (.d (.int .u32 (c.toNat:Int)))=some (.int .u32 (d.toNat:Int)):=by
 have h1:BitVec.ofInt 32 (if IntKind.u32.signed then -1 else IntKind.u32.max)=zxX:=by decide
 have h2:BitVec.ofInt 32 ((c.toNat:Nat):Int)=c:=by
  apply BitVec.eq_of_toNat_eq;rw[BitVec.ofInt_natCast,BitVec.toNat_ofNat,Nat.mod_eq_of_lt c.isLt]
 show some (D.int .u32 (IntKind.u32.wrap (BitVec.ofInt 32 (if IntKind.u32.signed then -1 else IntKind.u32.max) ^^^ BitVec.ofInt 32 ((c.toNat:Nat):Int)).toNat))=_
 rw[h1,h2,BitVec.xor_comm,zm7,<- h,zct];have:=d.isLt;congr 2;omega
def zjv (c:BitVec 32):(c.toNat:Int)<4294967296:=by have:=c.isLt;omega
def zp1 (c:BitVec 32) (b:List UInt8) (hb:b.length<1000000000):R 143 [U32 c,B b] []=some ([U32 (zeJ c b)],[]):=by
 have l1:=zjv c;obtain⟨d0,hd0⟩: ∃d,d= ~~~ c:=⟨_,rfl⟩;have n1:=zp0 hd0;have md:zeJ c b= ~~~ zoh d0 b:=by rw[zeJ,hd0]
 rw[md];clear md hd0;refine rg zBy rfl ?_;intro T hT;simp -dsimp -implicitDefEqProofs (disch:=first|omega|assumption) [n1,l1,-unD]
 generalize hz:zaf _ _ _ _ _ _=z;revert z;refine zaa (σ:=Nat × BitVec 32) (λx=>[(0,U32 x.2),(9,B b),(10,.d (.int .i64 b.length)),(11,.d (.int .i64 x.1))]) (λx=>[]) (λx=>x.1<=b.length/\x.2=zoh d0 (b.take x.1)) (λx=>b.length - x.1) (0,d0) ?_ ?_ ?_
 ·exact⟨Nat.zero_le _,rfl⟩
 ·simp -dsimp -implicitDefEqProofs (disch:=first|omega|assumption) [B]
 intro T' f hT' ⟨i,d⟩ ⟨hi,hd⟩ ih;simp only at hi hd ih;have ld:=zjv d
 by_cases h1:i<b.length
 ·obtain⟨y,hy⟩: ∃y,y=b[i]:=⟨_,rfl⟩
  have gy:=hy.symm;have x1:=zm8 d y;have yl:(y.toNat:Int)<4294967296:=by have:=y.toNat_lt;omega
  obtain⟨e,he⟩: ∃e,e=d ^^^ BitVec.ofNat 32 y.toNat:=⟨_,rfl⟩;rw[<- he]at x1;obtain⟨m,m1,m2,m3,m4⟩:=zpZ e;obtain⟨n,n1,n2,n3,n4⟩:=zpZ (nib e);have le:=zjv e;have ln:=zjv (nib e);have lm:=zjv (zju m);have lk:=zjv (zju n);have t1:((e.toNat:Int) / 16).toNat=e.toNat / 16:=by omega
  have t2:(((nib e).toNat:Int) / 16).toNat=(nib e).toNat / 16:=by omega
  have m1':(m:Int)<16:=by omega
  have n1':(n:Int)<16:=by omega
  simp -dsimp -implicitDefEqProofs (disch:=first|omega|assumption) [h1,gy,x1,yl,ld,m1,m1',m2,m3,m4,n1,n1',n2,n3,n4,le,ln,lm,lk,t1,t2]
  refine ih (i+1,nib (nib e)) _ _ ⟨h1, ?_⟩ (by simp only;omega) ?_
  ·simp only
   have hstep:zoh d0 (b.take (i+1))=zl5 (zoh d0 (b.take i)) b[i]:=by unfold zoh;rw[zaq h1,List.foldl_append];rfl
   rw[hstep,<- hd,zpY,gy,he]
  ·simp -dsimp -implicitDefEqProofs (disch:=first|omega|assumption) [B]
 ·obtain rfl:i=b.length:=by omega
  rw[List.take_length]at hd;obtain⟨d9,hd9⟩: ∃e,e= ~~~ d:=⟨_,rfl⟩;have n2:=zp0 hd9;have md: ~~~ zoh d0 b=d9:=by rw[<- hd,hd9]
  rw[md]at hT;subst hT';simp -dsimp -implicitDefEqProofs (disch:=first|omega|assumption) [n2,ld,-unD]
  simpa -dsimp -implicitDefEqProofs (disch:=first|omega|assumption) [U32]using hT
end Go.Am.Ab
namespace Go.Am.Ab
open Go.Proofs
set_option maxHeartbeats 4000000
set_option maxRecDepth 4000
def zl7 (b:List UInt8) (hn:b.length<1000000000):R 100 [B b] []=some ([.arr 0 b.length],[.arr 1 (bytes b) 0]):=by
 cases b with
 |nil=>
  refine zhh (rs:=[.tmp 2]) (ts:=[30]) Tryz.func100 rfl rfl rfl (by kernel_rfl) (by kernel_rfl) zvd (by simp[Tryz.f100]) ?_
  intro T hT a ha;rcases ha with rfl | rfl
  all_goals simp -dsimp -implicitDefEqProofs (disch:=first|omega|assumption)
  all_goals exact hT
 |cons x r=>
  simp only[List.length_cons]at hn;refine zgz (rs:=[.tmp 2]) (ts:=[30]) Tryz.func100 rfl rfl rfl (by kernel_rfl) (by kernel_rfl) (.inr (by intro zbH h;simp at h)) (by simp[Tryz.f100]) ?_
  intro T hT;simp -dsimp -implicitDefEqProofs (disch:=first|omega|assumption)
  simpa -dsimp -implicitDefEqProofs (disch:=first|omega|assumption) using hT
def zoi (b:List UInt8) (hb:b.length<1000000000):R 143 [.d (.int .u32 0),B b] []=some ([U32 (zeJ 0#32 b)],[]):=zp1 0#32 b hb
def ztu (b:List UInt8) (hb:b.length<1000000000):R 99 [B b] []=some ([U32 (zeJ 0#32 b)],[]):=by
 have h:=zoi b hb;refine rg b99 rfl ?_;intro T hT;simp -dsimp -implicitDefEqProofs (disch:=first|omega|assumption) [h]
 simpa -dsimp -implicitDefEqProofs (disch:=first|omega|assumption) using hT
def zp2 (c:BitVec 32):bytes (zk6 c)=[.int .u8 ((c.toNat:Int) % 256),.int .u8 ((c.toNat:Int) / 256 % 256),.int .u8 ((c.toNat:Int) / 65536 % 256),.int .u8 ((c.toNat:Int) / 16777216 % 256)]:=by
 simp[zk6]
def zp3 (b:List UInt8) (hb:b.length<1000000000):R 48 [B b] []=some ([.arr 0 (zfW b).length],[.arr 1 (bytes (zfW b)) 0]):=by
 have h:=ztu b hb;have h2:=zl7 b hb;have h3:=zp2 (zeJ 0#32 b);have h4:bytes (zfW b)=bytes b++bytes (zk6 (zeJ 0#32 b)):=by simp[zfW,zz2]
 rw[zd1,h4,h3];generalize zeJ 0#32 b=c at*;clear h3 h4;refine rg b48 rfl ?_;intro T hT;simp -dsimp -implicitDefEqProofs (disch:=first|omega|assumption) [h,h2]
 simpa -dsimp -implicitDefEqProofs (disch:=first|omega|assumption) using hT
def ztv (d:BitVec 32):(d.toNat % 2=0/\(zox d).toNat=d.toNat / 2)\/(d.toNat % 2=1/\(zox d).toNat=d.toNat / 2 ^^^ 3988292384):=by
 have h0:d.getLsbD 0=decide (d.toNat % 2=1):=by
  rw[BitVec.getLsbD,Nat.testBit_zero]
 unfold zox;rw[h0]
 by_cases h:d.toNat % 2=1
 ·right
  refine⟨h, ?_⟩;rw[decide_eq_true h,if_pos rfl,BitVec.toNat_xor,BitVec.toNat_ushiftRight,Nat.shiftRight_eq_div_pow];rfl
 ·left
  refine⟨by omega, ?_⟩
  rw[decide_eq_false h,if_neg (by simp),BitVec.xor_zero,BitVec.toNat_ushiftRight,Nat.shiftRight_eq_div_pow]
def zm9 (c:BitVec 32):c.toNat ^^^ 4294967295=(~~~ c).toNat:=by rw[Nat.xor_comm,zts]
def zoj (c:BitVec 32) (b:List UInt8) (hb:b.length<1000000000):R 75 [U32 c,B b] []=some ([U32 (zeJ c b)],[]):=by
 have l1:=zjv c;obtain⟨d0,hd0⟩: ∃d,d= ~~~ c:=⟨_,rfl⟩;have n1:c.toNat ^^^ 4294967295=d0.toNat:=by rw[hd0];exact zm9 c
 have md:zeJ c b= ~~~ zoh d0 b:=by rw[zeJ,hd0]
 rw[md];clear md hd0;refine rg b75 rfl ?_;intro T hT;simp -dsimp -implicitDefEqProofs (disch:=first|omega|assumption) [n1,l1]
 generalize hz:zaf _ _ _ _ _ _=z;revert z;refine zaa (σ:=Nat × BitVec 32) (λx=>[(0,U32 x.2),(1,B b),(5,.d (.int .i64 x.1))]) (λx=>[]) (λx=>x.1<=b.length/\x.2=zoh d0 (b.take x.1)) (λx=>b.length - x.1) (0,d0) ?_ ?_ ?_
 ·exact⟨Nat.zero_le _,rfl⟩
 ·simp -dsimp -implicitDefEqProofs (disch:=first|omega|assumption) [B]
 intro T' f hT' ⟨i,d⟩ ⟨hi,hd⟩ ih;simp only at hi hd ih;have ld:=zjv d
 by_cases h1:i<b.length
 ·obtain⟨y,hy⟩: ∃y,y=b[i]:=⟨_,rfl⟩
  have gy:=hy.symm;have x1:=zm8 d y;have yl:(y.toNat:Int)<4294967296:=by have:=y.toNat_lt;omega
  obtain⟨e,he⟩: ∃e,e=d ^^^ BitVec.ofNat 32 y.toNat:=⟨_,rfl⟩;rw[<- he]at x1;have fin:zl5 d y=zcS e 8:=by rw[zl5,he]
  simp -dsimp -implicitDefEqProofs (disch:=first|omega|assumption) [h1,gy,x1,yl,ld]
  generalize hz:zaf _ _ _ _ _ _=z;revert z;refine zaa (σ:=Nat) (λk=>[(0,U32 (zcS e k)),(1,B b),(5,.d (.int .i64 i)),(6,.d (.int .i64 k))]) (λk=>[]) (λk=>k<=8) (λk=>8 - k) 0 ?_ ?_ ?_
  ·exact Nat.zero_le _
  ·simp -dsimp -implicitDefEqProofs (disch:=first|omega|assumption) [B,zcS]
  intro T2 f2 hT2 k hk ih2
  by_cases h2:k<8
  ·have h2':(k:Int)<8:=by omega
   obtain⟨g,hg⟩: ∃g,g=zcS e k:=⟨_,rfl⟩;have hs:zcS e (k+1)=zox g:=by rw[hg];rfl
   rw[<- hg];have lg:=zjv g;have lg2:(g.toNat:Int) / 2<4294967296:=by omega
   rcases ztv g with ⟨b1,b2⟩ | ⟨b1,b2⟩
   ·have b1': ¬ (g.toNat:Int) % 2=1:=by omega
    have b3:((zox g).toNat:Int)=(g.toNat:Int) / 2:=by omega
    simp -dsimp -implicitDefEqProofs (disch:=first|omega|assumption) [h2',lg,lg2,b1,b1']
    refine ih2 (k+1) _ _ h2 (by omega) ?_
    rw[hs];simp -dsimp -implicitDefEqProofs (disch:=first|omega|assumption) [B,U32,b3]
   ·have b1':(g.toNat:Int) % 2=1:=by omega
    have b3:=b2.symm;have t1:((g.toNat:Int) / 2).toNat=g.toNat / 2:=by omega
    simp -dsimp -implicitDefEqProofs (disch:=first|omega|assumption) [h2',lg,lg2,b1,b1',b3,t1]
    refine ih2 (k+1) _ _ h2 (by omega) ?_
    rw[hs];simp -dsimp -implicitDefEqProofs (disch:=first|omega|assumption) [B,U32,b3,t1]
  ·obtain rfl:k=8:=by omega
   subst hT2;simp -dsimp -implicitDefEqProofs (disch:=first|omega|assumption)
   refine ih (i+1,zcS e 8) _ _ ⟨h1, ?_⟩ (by simp only;omega) (by simp -dsimp -implicitDefEqProofs (disch:=first|omega|assumption) [B])
   simp only;have hstep:zoh d0 (b.take (i+1))=zl5 (zoh d0 (b.take i)) b[i]:=by unfold zoh;rw[zaq h1,List.foldl_append];rfl
   rw[hstep,<- hd,gy,fin]
 ·obtain rfl:i=b.length:=by omega
  rw[List.take_length]at hd;obtain⟨d9,hd9⟩: ∃e,e= ~~~ d:=⟨_,rfl⟩;have n2:d.toNat ^^^ 4294967295=d9.toNat:=by rw[hd9];exact zm9 d
  have md: ~~~ zoh d0 b=d9:=by rw[<- hd,hd9]
  rw[md]at hT;subst hT';simp -dsimp -implicitDefEqProofs (disch:=first|omega|assumption) [n2,ld]
  simpa -dsimp -implicitDefEqProofs (disch:=first|omega|assumption) [U32]using hT
def zl8 (b:List UInt8) (hb:b.length<1000000000):R 75 [.d (.int .u32 0),B b] []=some ([U32 (zeJ 0#32 b)],[]):=zoj 0#32 b hb
def zok (b:List UInt8) (hb:b.length<1000000000):R 24 [B b] []=some ([.arr 0 (zfW b).length],[.arr 1 (bytes (zfW b)) 0]):=by
 have h:=zl8 b hb;have h4:zfW b=b++zk6 (zeJ 0#32 b):=rfl;rw[h4];generalize zeJ 0#32 b=c at*;have hc:=c.isLt;refine rg b24 rfl ?_;intro T hT;simp -dsimp -implicitDefEqProofs (disch:=first|omega|assumption) [h]
 generalize hz:zaf _ _ _ _ _ _=z;revert z;refine zaa (σ:=Nat) (λi=>[(3,.arr 0 (b.length+i)),(4,.d (.int .u32 ((c.toNat / 256 ^ i:Nat):Int))),(5,.d (.int .i64 i))]) (λi=>[.arr 1 (bytes (b++(zk6 c).take i)) 0]) (λi=>i<=4) (λi=>4 - i) 0 ?_ ?_ ?_
 ·exact Nat.zero_le _
 ·simp -dsimp -implicitDefEqProofs (disch:=first|omega|assumption)
 intro T' f hT' i hi ih;have hln:((zk6 c).take i).length=i:=by rw[List.length_take];simp[zk6];omega
 by_cases h1:i<4
 ·have h1':(i:Int)<4:=by omega
  obtain⟨s,hs⟩: ∃s,s=c.toNat / 256 ^ i:=⟨_,rfl⟩;have hs32:s<4294967296:=by rw[hs];exact Nat.lt_of_le_of_lt (Nat.div_le_self _ _) hc
  have hs2:c.toNat / 256 ^ (i+1)=s / 256:=by rw[hs,Nat.pow_succ,Nat.div_div_eq_div_mul]
  have hs3:(s:Int) / 256 % 4294967296=((s / 256:Nat):Int):=by omega
  have htk:(zk6 c).take (i+1)=(zk6 c).take i++[UInt8.ofNat s]:=by
   have:i=0\/i=1\/i=2\/i=3:=by omega
   rw[hs];rcases this with rfl | rfl | rfl | rfl <;> simp[zk6]
  rw[<- hs];have hmn:min i (zk6 c).length=i:=by rw[show (zk6 c).length=4 from rfl];omega
  simp -dsimp -implicitDefEqProofs (disch:=first|omega|assumption) [h1',hln,hs3,hmn]
  refine ih (i+1) _ _ h1 (by omega) ?_
  rw[htk,hs2];simp -dsimp -implicitDefEqProofs (disch:=first|omega|assumption) [hs3,hln,Nat.add_assoc]
 ·obtain rfl:i=4:=by omega
  have h1': ¬ ((4:Nat):Int)<4:=by omega
  have hf:(zk6 c).take 4=zk6 c:=rfl;rw[hf];have hl4:(zk6 c).length=4:=rfl;subst hT';simp -dsimp -implicitDefEqProofs (disch:=first|omega|assumption) [h1',hl4]
  simpa -dsimp -implicitDefEqProofs (disch:=first|omega|assumption) [hl4]using hT
end Go.Am.Ab
