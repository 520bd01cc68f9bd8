/- The sum of bytes. -/
import Derived.Test.YtibdiacpdmhmnaaGreatDoorMachD
import Derived.Test.YtibdiacpdmhmnaaGreatDoorReadA
import Derived.Test.YtibdiacpdmhmnaaGreatDoorCellsA
import Derived.Test.YtibdiacpdmhmnaaGreatDoorColC
set_option linter.all false
namespace Go.Am.Ab
set_option maxHeartbeats 4000000
def zD0:BitVec 32:=0xedb88320#32
def zuz (c:BitVec 32):BitVec 32:=(c >>>1) ^^^ (if c.getLsbD 0 then zD0 else 0#32)
def zyg (a b:BitVec 32):zuz (a ^^^ b)=zuz a ^^^ zuz b:=by
 unfold zuz;rw[BitVec.ushiftRight_xor_distrib,ydH];cases a.getLsbD 0 <;> cases b.getLsbD 0
 all_goals simp only[Bool.xor_false,Bool.false_xor,Bool.xor_true,Bool.not_true,yd3,ya6,yaY,yau,ydv]
 ·ac_rfl
 ·ac_rfl
 ·have:zD0 ^^^ zD0=0#32:=BitVec.xor_self
  calc a >>>1 ^^^ b >>>1=a >>>1 ^^^ b >>>1 ^^^ (zD0 ^^^ zD0):=by rw[this,ydv]
   _=_:=by ac_rfl
def zv3 {c:BitVec 32} (h:c.getLsbD 0=false):zuz c=c >>>1:=by
 unfold zuz;rw[h];simp
def zdy (c:BitVec 32):Nat->BitVec 32
 |0=>c
 |n+1=>zuz (zdy c n)
def zpo (a b:BitVec 32): ∀n,zdy (a ^^^ b) n=zdy a n ^^^ zdy b n
 |0=>rfl
 |n+1=>by rw[zdy,zpo a b n,zyg];rfl
def zpp (a:BitVec 32) (m:Nat): ∀n,zdy a (m+n)=zdy (zdy a m) n
 |0=>rfl
 |n+1=>by rw[<- yaH,zdy,zpp a m n];rfl
def zAf:List Nat:=[0x00000000,0x1db71064,0x3b6e20c8,0x26d930ac,0x76dc4190,0x6b6b51f4,0x4db26158,0x5005713c,0xedb88320,0xf00f9344,0xd6d6a3e8,0xcb61b38c,0x9b64c2b0,0x86d3d2d4,0xa00ae278,0xbdbdf21c]
def znA (n:Nat):BitVec 32:=BitVec.ofNat 32 (zAf.getD n 0)
def nib (c:BitVec 32):BitVec 32:=c >>>4 ^^^ znA (c &&& 15#32).toNat
def zv4 (c:BitVec 32):(c &&& 15#32).toNat<16:=by
 rw[ycO];exact ybE Nat.and_le_right (by decide)
def zyh (c:BitVec 32):zdy (c &&& 15#32) 4=znA (c &&& 15#32).toNat:=by
 have h:=zv4 c;obtain⟨n,hn⟩: ∃n,n=(c &&& 15#32).toNat:=⟨_,rfl⟩;have e:c &&& 15#32=BitVec.ofNat 32 n:=by rw[hn];simp
 rw[<- hn]at h ⊢;rw[e];have key: ∀m:Fin 16,zdy (BitVec.ofNat 32 m.val) 4=znA m.val:=by decide
 exact key ⟨n,h⟩
def zv5 (c:BitVec 32):zdy (c &&& 0xfffffff0#32) 4=c >>>4:=by
 have hb: ∀i,i<4->(c &&& 0xfffffff0#32).getLsbD i=false:=by
  intro i hi;rw[yc4];have:(0xfffffff0#32).getLsbD i=false:=by
   have:i=0\/i=1\/i=2\/i=3:=by omega
   rcases this with rfl | rfl | rfl | rfl <;> decide
  rw[this,yco]
 have key: ∀n,n<=4->zdy (c &&& 0xfffffff0#32) n=(c &&& 0xfffffff0#32) >>>n:=by
  intro n
  induction n with
  |zero=>intro _;simp[zdy]
  |succ n ih=>
   intro hn;rw[zdy,ih (by omega),zv3]
   ·rw[BitVec.shiftRight_add]
   ·rw[ycH]
    exact hb _ (by omega)
 rw[key 4 (yaf _)];apply yc5;intro i hi;rw[ycH,ycH,yc4]
 by_cases h:4+i<32
 ·have:(0xfffffff0#32).getLsbD (4+i)=true:=by
   have key: ∀m:Fin 28,(0xfffffff0#32).getLsbD (4+m.val)=true:=by decide
   exact key ⟨i,by omega⟩
  rw[this,ybW]
 ·rw[BitVec.getLsbD_of_ge c _ (by omega),ydL]
def zze (c:BitVec 32):zdy c 4=nib c:=by
 have h:c=(c &&& 0xfffffff0#32) ^^^ (c &&& 15#32):=by
  apply yc5;intro i hi;rw[ydH,yc4,yc4];have key: ∀m:Fin 32,(0xfffffff0#32).getLsbD m.val= !(15#32).getLsbD m.val:=by decide
  rw[key ⟨i,hi⟩];cases c.getLsbD i <;> cases (15#32).getLsbD i <;> rfl
 conv=>lhs;rw[h]
 rw[zpo,zv5,zyh];rfl
def zqX (c:BitVec 32) (x:UInt8):BitVec 32:=zdy (c ^^^ BitVec.ofNat 32 x.toNat) 8
def zv6 (c:BitVec 32) (x:UInt8):zqX c x=nib (nib (c ^^^ BitVec.ofNat 32 x.toNat)):=by
 unfold zqX;rw[show (8:Nat)=4+4 from rfl,zpp,zze,zze]
def zuc (c:BitVec 32) (b:List UInt8):BitVec 32:=b.foldl zqX c
def zgE (c:BitVec 32) (b:List UInt8):BitVec 32:= ~~~ zuc (~~~ c) b
def zFb:BitVec 32:=0xffffffff#32
def zsh (c:BitVec 32):c ^^^ zFb= ~~~ c:=by
 apply yc5;intro i hi;rw[ydH,BitVec.getLsbD_not];have key: ∀m:Fin 32,zFb.getLsbD m.val=true:=by decide
 rw[key ⟨i,hi⟩];simp[hi]
def zp3 (c:BitVec 32):List UInt8:=[UInt8.ofNat c.toNat,UInt8.ofNat (c.toNat / 256),UInt8.ofNat (c.toNat / 65536),UInt8.ofNat (c.toNat / 16777216)]
def zHD (b:List UInt8):List UInt8:=zp3 (zgE 0#32 b)
def zdc (b:List UInt8):List UInt8:=b++zHD b
def zqY (b:List UInt8):(zHD b).length=4:=rfl
def za4 (b:List UInt8):(zdc b).length=b.length+4:=by rw[zdc,yab,zqY]
def zgF (b:List UInt8):Option (List UInt8):=if b.length<4 then none else if zdc (b.take (b.length - 4))=b then some (b.take (b.length - 4)) else none
def zpq (t:List UInt8):zgF (zdc t)=some t:=by
 unfold zgF;rw[za4,yag (by omega),ybN]
 have:(zdc t).take t.length=t:=by rw[zdc,yd5]
 rw[this,yaj rfl]
def zpr {b t:List UInt8} (h:zgF b=some t):zdc t=b:=by
 unfold zgF at h;split at h
 ·cases h
 ·split at h
  ·rename_i h2
   simp only[yaa]at h;rw[<- h];exact h2
  ·cases h
end Go.Am.Ab
namespace Go.Am.Ab
open Go.Proofs
set_option maxHeartbeats 4000000
set_option maxRecDepth 4000
abbrev U32 (c:BitVec 32):V:= .d (.int .u32 (c.toNat:Int))
def zAg (c:BitVec 32):4294967295 ^^^ c.toNat=(~~~ c).toNat:=by
 rw[<- zsh,yca,Nat.xor_comm];rfl
def zsi (c:BitVec 32) (x:UInt8):c.toNat ^^^ x.toNat=(c ^^^ BitVec.ofNat 32 x.toNat).toNat:=by
 have:=x.toNat_lt;rw[yca,yc0,yaJ (by omega)]
def zAh (m:Nat) (h:m<16):zqA[m]? =some (.int .u32 ((znA m).toNat:Int)):=by
 have key: ∀k:Fin 16,zAf.getD k.val 0<4294967296/\zqA[k.val]? =some (.int .u32 ((zAf.getD k.val 0:Nat):Int)):=by
  intro k;have:k.val=0\/k.val=1\/k.val=2\/k.val=3\/k.val=4\/k.val=5\/k.val=6\/k.val=7\/k.val=8\/k.val=9\/k.val=10\/k.val=11\/k.val=12\/k.val=13\/k.val=14\/k.val=15:=by omega
  rcases this with e | e | e | e | e | e | e | e | e | e | e | e | e | e | e | e <;> rw[e] <;> exact⟨by decide,rfl⟩
 obtain⟨h1,h2⟩:=key ⟨m,h⟩;rw[h2];unfold znA;rw[yc0,yaJ h1]
def zv7 (d:BitVec 32): ∃m:Nat,m<16/\d.toNat &&& 15=m/\zqA[m]? =some (.int .u32 ((znA m).toNat:Int))/\d.toNat / 16 ^^^ (znA m).toNat=(nib d).toNat:=by
 refine⟨(d &&& 15#32).toNat,zv4 d,by rw[ycO];rfl,zAh _ (zv4 d), ?_⟩
 unfold nib;rw[yca,ycU,ycN]
def zv8 {c d:BitVec 32} (h:d= ~~~ c):unD .xor (.d (.int .u32 (c.toNat:Int)))=some (.int .u32 (d.toNat:Int)):=by
 have h1:BitVec.ofInt 32 (if IntKind.u32.signed then -1 else IntKind.u32.max)=zFb:=by decide
 have h2:BitVec.ofInt 32 ((c.toNat:Nat):Int)=c:=by
  apply BitVec.eq_of_toNat_eq;rw[BitVec.ofInt_natCast,yc0,yaJ c.isLt]
 show some (D.int .u32 (IntKind.u32.wrap (BitVec.ofInt 32 (if IntKind.u32.signed then -1 else IntKind.u32.max) ^^^ BitVec.ofInt 32 ((c.toNat:Nat):Int)).toNat))=_
 rw[h1,h2,BitVec.xor_comm,zsh,<- h,zc7];have:=d.isLt;congr 2;omega
def znB (c:BitVec 32):(c.toNat:Int)<4294967296:=by have:=c.isLt;omega
def zv9 (c:BitVec 32) (b:List UInt8) (hb:b.length<1000000000):R 143 [U32 c,B b] []=some ([U32 (zgE c b)],[]):=by
 have l1:=znB c;obtain⟨d0,hd0⟩: ∃d,d= ~~~ c:=⟨_,rfl⟩;have n1:=zv8 hd0;have md:zgE c b= ~~~ zuc d0 b:=by rw[zgE,hd0]
 rw[md];clear md hd0;refine rg zJo rfl ?_;intro T hT;simp -dsimp -implicitDefEqProofs (disch:=first|omega|assumption) [n1,l1,-unD]
 generalize hz:zaj _ _ _ _ _ _=z;revert z;refine zaa (σ:=Nat × BitVec 32) (λx=>[(0,U32 x.2),(9,B b),(10,.d (.int .i64 b.length)),(11,.d (.int .i64 x.1))]) (λx=>[]) (λx=>x.1<=b.length/\x.2=zuc d0 (b.take x.1)) (λx=>b.length - x.1) (0,d0) ?_ ?_ ?_
 ·exact⟨yai _,rfl⟩
 ·simp -dsimp -implicitDefEqProofs (disch:=first|omega|assumption) [B]
 intro T' f hT' ⟨i,d⟩ ⟨hi,hd⟩ ih;simp only at hi hd ih;have ld:=znB d
 by_cases h1:i<b.length
 ·obtain⟨y,hy⟩: ∃y,y=b[i]:=⟨_,rfl⟩
  have gy:=hy.symm;have x1:=zsi d y;have yl:(y.toNat:Int)<4294967296:=by have:=y.toNat_lt;omega
  obtain⟨e,he⟩: ∃e,e=d ^^^ BitVec.ofNat 32 y.toNat:=⟨_,rfl⟩;rw[<- he]at x1;obtain⟨m,m1,m2,m3,m4⟩:=zv7 e;obtain⟨n,n1,n2,n3,n4⟩:=zv7 (nib e);have le:=znB e;have ln:=znB (nib e);have lm:=znB (znA m);have lk:=znB (znA n);have t1:((e.toNat:Int) / 16).toNat=e.toNat / 16:=by omega
  have t2:(((nib e).toNat:Int) / 16).toNat=(nib e).toNat / 16:=by omega
  have m1':(m:Int)<16:=by omega
  have n1':(n:Int)<16:=by omega
  simp -dsimp -implicitDefEqProofs (disch:=first|omega|assumption) [h1,gy,x1,yl,ld,m1,m1',m2,m3,m4,n1,n1',n2,n3,n4,le,ln,lm,lk,t1,t2]
  refine ih (i+1,nib (nib e)) _ _ ⟨h1, ?_⟩ (by simp only;omega) ?_
  ·simp only
   have hstep:zuc d0 (b.take (i+1))=zqX (zuc d0 (b.take i)) b[i]:=by unfold zuc;rw[zao h1,yci];rfl
   rw[hstep,<- hd,zv6,gy,he]
  ·simp -dsimp -implicitDefEqProofs (disch:=first|omega|assumption) [B]
 ·obtain rfl:i=b.length:=by omega
  rw[yaQ]at hd;obtain⟨d9,hd9⟩: ∃e,e= ~~~ d:=⟨_,rfl⟩;have n2:=zv8 hd9;have md: ~~~ zuc d0 b=d9:=by rw[<- hd,hd9]
  rw[md]at hT;subst hT';simp -dsimp -implicitDefEqProofs (disch:=first|omega|assumption) [n2,ld,-unD]
  simpa -dsimp -implicitDefEqProofs (disch:=first|omega|assumption) [U32]using hT
end Go.Am.Ab
namespace Go.Am.Ab
open Go.Proofs
set_option maxHeartbeats 4000000
set_option maxRecDepth 4000
def zgG (b:List UInt8) (hn:b.length<1000000000):R 100 [B b] []=some ([.arr 0 b.length],[.arr 1 (bytes b) 0]):=by
 cases b with
 |nil=>
  refine ze3 (rs:=[.tmp 2]) (ts:=[30]) Tryz.func100 rfl rfl rfl (by kernel_rfl) (by kernel_rfl) zyV (by simp[Tryz.f100]) ?_
  intro T hT a ha;rcases ha with rfl | rfl
  all_goals simp -dsimp -implicitDefEqProofs (disch:=first|omega|assumption)
  all_goals exact hT
 |cons x r=>
  simp only[yad]at hn;refine zfx (rs:=[.tmp 2]) (ts:=[30]) Tryz.func100 rfl rfl rfl (by kernel_rfl) (by kernel_rfl) (.inr ⟨(zyV).2,by intro zaF h;simp at h⟩) (by simp[Tryz.f100]) ?_
  intro T hT;simp -dsimp -implicitDefEqProofs (disch:=first|omega|assumption)
  simpa -dsimp -implicitDefEqProofs (disch:=first|omega|assumption) using hT
def zud (b:List UInt8) (hb:b.length<1000000000):R 143 [.d (.int .u32 0),B b] []=some ([U32 (zgE 0#32 b)],[]):=zv9 0#32 b hb
def zAi (b:List UInt8) (hb:b.length<1000000000):R 99 [B b] []=some ([U32 (zgE 0#32 b)],[]):=by
 have h:=zud b hb;refine rg b99 rfl ?_;intro T hT;simp -dsimp -implicitDefEqProofs (disch:=first|omega|assumption) [h]
 simpa -dsimp -implicitDefEqProofs (disch:=first|omega|assumption) using hT
def zwa (c:BitVec 32):bytes (zp3 c)=[.int .u8 ((c.toNat:Int) % 256),.int .u8 ((c.toNat:Int) / 256 % 256),.int .u8 ((c.toNat:Int) / 65536 % 256),.int .u8 ((c.toNat:Int) / 16777216 % 256)]:=by
 simp[zp3]
def zps (b:List UInt8) (hb:b.length<1000000000):R 48 [B b] []=some ([.arr 0 (zdc b).length],[.arr 1 (bytes (zdc b)) 0]):=by
 have h:=zAi b hb;have h2:=zgG b hb;have h3:=zwa (zgE 0#32 b);have h4:bytes (zdc b)=bytes b++bytes (zp3 (zgE 0#32 b)):=by simp[zdc,zHD]
 rw[za4,h4,h3];generalize zgE 0#32 b=c at*;clear h3 h4;refine rg b48 rfl ?_;intro T hT;simp -dsimp -implicitDefEqProofs (disch:=first|omega|assumption) [h,h2]
 simpa -dsimp -implicitDefEqProofs (disch:=first|omega|assumption) using hT
def OpR:Option (List UInt8)->Option (List V × List Obj)
 |none=>some ([.arr 0 0,.d (.bool false)],[.arr 1 [] 0])
 |some t=>some ([.arr 0 t.length,.d (.bool true)],[.arr 1 (bytes t) t.length])
def zue (b:List UInt8) (hb:b.length<1000000):R 59 [B b] []=OpR (zgF b):=by
 unfold zgF
 by_cases h1:b.length<4
 ·have h1':(b.length:Int)<4:=by omega
  rw[yaj h1];unfold OpR;refine rg b59 rfl ?_;intro T hT;simp -dsimp -implicitDefEqProofs (disch:=first|omega|assumption) [h1']
  simpa -dsimp -implicitDefEqProofs (disch:=first|omega|assumption) using hT
 rw[yag h1];have h1': ¬ (b.length:Int)<4:=by omega
 have x1:((b.length:Int) - 4).toNat=b.length - 4:=by omega
 have x2:(4:Int)<=b.length:=by omega
 obtain⟨t,ht⟩: ∃t,t=b.take (b.length - 4):=⟨_,rfl⟩;have ht':List.take (b.length - 4) (bytes b)=bytes t:=by rw[ht,bytes,bytes,ybO]
 have htl:t.length<1000000000:=by rw[ht,yan];omega
 have c1:=zgG t htl;have c2:=zps t htl;have c3:=zfI (zdc t) b (by rw[za4,ht,yan];omega)
 rw[<- ht];clear ht
 by_cases h2:zdc t=b
 ·rw[yaj h2]
  rw[yaK h2]at c3;unfold OpR;refine rg b59 rfl ?_;intro T hT;simp -dsimp -implicitDefEqProofs (disch:=first|omega|assumption) [h1',x1,x2,ht',c1,c2,c3]
  simpa -dsimp -implicitDefEqProofs (disch:=first|omega|assumption) using hT
 ·rw[yag h2]
  rw[yaM h2]at c3;unfold OpR;refine rg b59 rfl ?_;intro T hT;simp -dsimp -implicitDefEqProofs (disch:=first|omega|assumption) [h1',x1,x2,ht',c1,c2,c3]
  simpa -dsimp -implicitDefEqProofs (disch:=first|omega|assumption) using hT
def zAj (d:BitVec 32):(d.toNat % 2=0/\(zuz d).toNat=d.toNat / 2)\/(d.toNat % 2=1/\(zuz d).toNat=d.toNat / 2 ^^^ 3988292384):=by
 have h0:d.getLsbD 0=decide (d.toNat % 2=1):=by
  rw[BitVec.getLsbD,Nat.testBit_zero]
 unfold zuz;rw[h0]
 by_cases h:d.toNat % 2=1
 ·right
  refine⟨h, ?_⟩;rw[yaK h,yaj rfl,yca,ycU,ycN];rfl
 ·left
  refine⟨by omega, ?_⟩
  rw[yaM h,yag (by simp),ydv,ycU,ycN]
def zsj (c:BitVec 32):c.toNat ^^^ 4294967295=(~~~ c).toNat:=by rw[Nat.xor_comm,zAg]
def zuf (c:BitVec 32) (b:List UInt8) (hb:b.length<1000000000):R 75 [U32 c,B b] []=some ([U32 (zgE c b)],[]):=by
 have l1:=znB c;obtain⟨d0,hd0⟩: ∃d,d= ~~~ c:=⟨_,rfl⟩;have n1:c.toNat ^^^ 4294967295=d0.toNat:=by rw[hd0];exact zsj c
 have md:zgE c b= ~~~ zuc d0 b:=by rw[zgE,hd0]
 rw[md];clear md hd0;refine rg b75 rfl ?_;intro T hT;simp -dsimp -implicitDefEqProofs (disch:=first|omega|assumption) [n1,l1]
 generalize hz:zaj _ _ _ _ _ _=z;revert z;refine zaa (σ:=Nat × BitVec 32) (λx=>[(0,U32 x.2),(1,B b),(5,.d (.int .i64 x.1))]) (λx=>[]) (λx=>x.1<=b.length/\x.2=zuc d0 (b.take x.1)) (λx=>b.length - x.1) (0,d0) ?_ ?_ ?_
 ·exact⟨yai _,rfl⟩
 ·simp -dsimp -implicitDefEqProofs (disch:=first|omega|assumption) [B]
 intro T' f hT' ⟨i,d⟩ ⟨hi,hd⟩ ih;simp only at hi hd ih;have ld:=znB d
 by_cases h1:i<b.length
 ·obtain⟨y,hy⟩: ∃y,y=b[i]:=⟨_,rfl⟩
  have gy:=hy.symm;have x1:=zsi d y;have yl:(y.toNat:Int)<4294967296:=by have:=y.toNat_lt;omega
  obtain⟨e,he⟩: ∃e,e=d ^^^ BitVec.ofNat 32 y.toNat:=⟨_,rfl⟩;rw[<- he]at x1;have fin:zqX d y=zdy e 8:=by rw[zqX,he]
  simp -dsimp -implicitDefEqProofs (disch:=first|omega|assumption) [h1,gy,x1,yl,ld]
  generalize hz:zaj _ _ _ _ _ _=z;revert z;refine zaa (σ:=Nat) (λk=>[(0,U32 (zdy e k)),(1,B b),(5,.d (.int .i64 i)),(6,.d (.int .i64 k))]) (λk=>[]) (λk=>k<=8) (λk=>8 - k) 0 ?_ ?_ ?_
  ·exact yai _
  ·simp -dsimp -implicitDefEqProofs (disch:=first|omega|assumption) [B,zdy]
  intro T2 f2 hT2 k hk ih2
  by_cases h2:k<8
  ·have h2':(k:Int)<8:=by omega
   obtain⟨g,hg⟩: ∃g,g=zdy e k:=⟨_,rfl⟩;have hs:zdy e (k+1)=zuz g:=by rw[hg];rfl
   rw[<- hg];have lg:=znB g;have lg2:(g.toNat:Int) / 2<4294967296:=by omega
   rcases zAj g with ⟨b1,b2⟩ | ⟨b1,b2⟩
   ·have b1': ¬ (g.toNat:Int) % 2=1:=by omega
    have b3:((zuz g).toNat:Int)=(g.toNat:Int) / 2:=by omega
    simp -dsimp -implicitDefEqProofs (disch:=first|omega|assumption) [h2',lg,lg2,b1,b1']
    refine ih2 (k+1) _ _ h2 (by omega) ?_
    rw[hs];simp -dsimp -implicitDefEqProofs (disch:=first|omega|assumption) [B,U32,b3]
   ·have b1':(g.toNat:Int) % 2=1:=by omega
    have b3:=b2.symm;have t1:((g.toNat:Int) / 2).toNat=g.toNat / 2:=by omega
    simp -dsimp -implicitDefEqProofs (disch:=first|omega|assumption) [h2',lg,lg2,b1,b1',b3,t1]
    refine ih2 (k+1) _ _ h2 (by omega) ?_
    rw[hs];simp -dsimp -implicitDefEqProofs (disch:=first|omega|assumption) [B,U32,b3,t1]
  ·obtain rfl:k=8:=by omega
   subst hT2;simp -dsimp -implicitDefEqProofs (disch:=first|omega|assumption)
   refine ih (i+1,zdy e 8) _ _ ⟨h1, ?_⟩ (by simp only;omega) (by simp -dsimp -implicitDefEqProofs (disch:=first|omega|assumption) [B])
   simp only;have hstep:zuc d0 (b.take (i+1))=zqX (zuc d0 (b.take i)) b[i]:=by unfold zuc;rw[zao h1,yci];rfl
   rw[hstep,<- hd,gy,fin]
 ·obtain rfl:i=b.length:=by omega
  rw[yaQ]at hd;obtain⟨d9,hd9⟩: ∃e,e= ~~~ d:=⟨_,rfl⟩;have n2:d.toNat ^^^ 4294967295=d9.toNat:=by rw[hd9];exact zsj d
  have md: ~~~ zuc d0 b=d9:=by rw[<- hd,hd9]
  rw[md]at hT;subst hT';simp -dsimp -implicitDefEqProofs (disch:=first|omega|assumption) [n2,ld]
  simpa -dsimp -implicitDefEqProofs (disch:=first|omega|assumption) [U32]using hT
def zqZ (b:List UInt8) (hb:b.length<1000000000):R 75 [.d (.int .u32 0),B b] []=some ([U32 (zgE 0#32 b)],[]):=zuf 0#32 b hb
def zil (b:List UInt8) (hb:b.length<1000000000):R 24 [B b] []=some ([.arr 0 (zdc b).length],[.arr 1 (bytes (zdc b)) 0]):=by
 have h:=zqZ b hb;have h4:zdc b=b++zp3 (zgE 0#32 b):=rfl;rw[h4];generalize zgE 0#32 b=c at*;have hc:=c.isLt;refine rg b24 rfl ?_;intro T hT;simp -dsimp -implicitDefEqProofs (disch:=first|omega|assumption) [h]
 generalize hz:zaj _ _ _ _ _ _=z;revert z;refine zaa (σ:=Nat) (λi=>[(3,.arr 0 (b.length+i)),(4,.d (.int .u32 ((c.toNat / 256 ^ i:Nat):Int))),(5,.d (.int .i64 i))]) (λi=>[.arr 1 (bytes (b++(zp3 c).take i)) 0]) (λi=>i<=4) (λi=>4 - i) 0 ?_ ?_ ?_
 ·exact yai _
 ·simp -dsimp -implicitDefEqProofs (disch:=first|omega|assumption)
 intro T' f hT' i hi ih;have hln:((zp3 c).take i).length=i:=by rw[yan];simp[zp3];omega
 by_cases h1:i<4
 ·have h1':(i:Int)<4:=by omega
  obtain⟨s,hs⟩: ∃s,s=c.toNat / 256 ^ i:=⟨_,rfl⟩;have hs32:s<4294967296:=by rw[hs];exact ybE (yc1 _ _) hc
  have hs2:c.toNat / 256 ^ (i+1)=s / 256:=by rw[hs,ycr,ybi]
  have hs3:(s:Int) / 256 % 4294967296=((s / 256:Nat):Int):=by omega
  have htk:(zp3 c).take (i+1)=(zp3 c).take i++[UInt8.ofNat s]:=by
   have:i=0\/i=1\/i=2\/i=3:=by omega
   rw[hs];rcases this with rfl | rfl | rfl | rfl <;> simp[zp3]
  rw[<- hs];have hmn:min i (zp3 c).length=i:=by rw[show (zp3 c).length=4 from rfl];omega
  simp -dsimp -implicitDefEqProofs (disch:=first|omega|assumption) [h1',hln,hs3,hmn]
  refine ih (i+1) _ _ h1 (by omega) ?_
  rw[htk,hs2];simp -dsimp -implicitDefEqProofs (disch:=first|omega|assumption) [hs3,hln,yaH]
 ·obtain rfl:i=4:=by omega
  have h1': ¬ ((4:Nat):Int)<4:=by omega
  have hf:(zp3 c).take 4=zp3 c:=rfl;rw[hf];have hl4:(zp3 c).length=4:=rfl;subst hT';simp -dsimp -implicitDefEqProofs (disch:=first|omega|assumption) [h1',hl4]
  simpa -dsimp -implicitDefEqProofs (disch:=first|omega|assumption) [hl4]using hT
def zAk:Option (List UInt8)->Option (List V × List Obj)
 |none=>some ([.arr 0 0,.d (.bool false)],[.arr 1 [] 0])
 |some t=>some ([B t,.d (.bool true)],[])
def zmC (b:List UInt8) (hb:b.length<1000000):R 25 [B b] []=zAk (zgF b):=by
 unfold zgF
 by_cases h1:b.length<4
 ·have h1':(b.length:Int)<4:=by omega
  rw[yaj h1];unfold zAk;refine rg b25 rfl ?_;intro T hT;simp -dsimp -implicitDefEqProofs (disch:=first|omega|assumption) [h1']
  simpa -dsimp -implicitDefEqProofs (disch:=first|omega|assumption) using hT
 rw[yag h1];have h1': ¬ (b.length:Int)<4:=by omega
 have x1:((b.length:Int) - 4).toNat=b.length - 4:=by omega
 have x2:(4:Int)<=b.length:=by omega
 obtain⟨t,ht⟩: ∃t,t=b.take (b.length - 4):=⟨_,rfl⟩;have ht':List.take (b.length - 4) (bytes b)=bytes t:=by rw[ht,bytes,bytes,ybO]
 have htl:t.length<1000000000:=by rw[ht,yan];omega
 have c2:=zil t htl;have hM:=zbn b;have hMs:=zbn (zdc t);have hstr:(zdc t == b)=decide (zdc t=b):=by by_cases h:zdc t=b <;> simp[h]
 rw[<- ht];clear ht
 by_cases h2:zdc t=b
 ·rw[yaj h2]
  rw[yaK h2]at hstr;unfold zAk;refine rg b25 rfl ?_;intro T hT;simp -dsimp -implicitDefEqProofs (disch:=first|omega|assumption) [h1',x1,x2,ht',c2,hM,hMs,hstr]
  simpa -dsimp -implicitDefEqProofs (disch:=first|omega|assumption) using hT
 ·rw[yag h2]
  rw[yaM h2]at hstr;unfold zAk;refine rg b25 rfl ?_;intro T hT;simp -dsimp -implicitDefEqProofs (disch:=first|omega|assumption) [h1',x1,x2,ht',c2,hM,hMs,hstr]
  simpa -dsimp -implicitDefEqProofs (disch:=first|omega|assumption) using hT
end Go.Am.Ab
