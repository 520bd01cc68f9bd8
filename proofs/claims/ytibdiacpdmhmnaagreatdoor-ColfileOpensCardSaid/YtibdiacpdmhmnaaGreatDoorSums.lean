/- The sum of bytes. -/
import Derived.Test.YtibdiacpdmhmnaaGreatDoorMachD
import Derived.Test.YtibdiacpdmhmnaaGreatDoorReadA
import Derived.Test.YtibdiacpdmhmnaaGreatDoorCellsA
import Derived.Test.YtibdiacpdmhmnaaGreatDoorColC
set_option linter.all false
namespace Go.Am.Ab
set_option maxHeartbeats 4000000
def zBa:BitVec 32:=0xedb88320#32
def zrO (c:BitVec 32):BitVec 32:=(c >>>1) ^^^ (if c.getLsbD 0 then zBa else 0#32)
def zvm (a b:BitVec 32):zrO (a ^^^ b)=zrO a ^^^ zrO b:=by
 unfold zrO;rw[BitVec.ushiftRight_xor_distrib,ydx];cases a.getLsbD 0 <;> cases b.getLsbD 0
 all_goals simp only[Bool.xor_false,Bool.false_xor,Bool.xor_true,Bool.not_true,ydT,ybk,ya8,yas,ydj]
 ·ac_rfl
 ·ac_rfl
 ·have:zBa ^^^ zBa=0#32:=BitVec.xor_self
  calc a >>>1 ^^^ b >>>1=a >>>1 ^^^ b >>>1 ^^^ (zBa ^^^ zBa):=by rw[this,ydj]
   _=_:=by ac_rfl
def ztq {c:BitVec 32} (h:c.getLsbD 0=false):zrO c=c >>>1:=by
 unfold zrO;rw[h];simp
def zdj (c:BitVec 32):Nat->BitVec 32
 |0=>c
 |n+1=>zrO (zdj c n)
def znf (a b:BitVec 32): ∀n,zdj (a ^^^ b) n=zdj a n ^^^ zdj b n
 |0=>rfl
 |n+1=>by rw[zdj,znf a b n,zvm];rfl
def zng (a:BitVec 32) (m:Nat): ∀n,zdj a (m+n)=zdj (zdj a m) n
 |0=>rfl
 |n+1=>by rw[<- yaC,zdj,zng a m n];rfl
def zw7:List Nat:=[0x00000000,0x1db71064,0x3b6e20c8,0x26d930ac,0x76dc4190,0x6b6b51f4,0x4db26158,0x5005713c,0xedb88320,0xf00f9344,0xd6d6a3e8,0xcb61b38c,0x9b64c2b0,0x86d3d2d4,0xa00ae278,0xbdbdf21c]
def zlD (n:Nat):BitVec 32:=BitVec.ofNat 32 (zw7.getD n 0)
def nib (c:BitVec 32):BitVec 32:=c >>>4 ^^^ zlD (c &&& 15#32).toNat
def ztr (c:BitVec 32):(c &&& 15#32).toNat<16:=by
 rw[ycO];exact ybx Nat.and_le_right (by decide)
def zvn (c:BitVec 32):zdj (c &&& 15#32) 4=zlD (c &&& 15#32).toNat:=by
 have h:=ztr c;obtain⟨n,hn⟩: ∃n,n=(c &&& 15#32).toNat:=⟨_,rfl⟩;have e:c &&& 15#32=BitVec.ofNat 32 n:=by rw[hn];simp
 rw[<- hn]at h ⊢;rw[e];have key: ∀m:Fin 16,zdj (BitVec.ofNat 32 m.val) 4=zlD m.val:=by decide
 exact key ⟨n,h⟩
def zts (c:BitVec 32):zdj (c &&& 0xfffffff0#32) 4=c >>>4:=by
 have hb: ∀i,i<4->(c &&& 0xfffffff0#32).getLsbD i=false:=by
  intro i hi;rw[ycZ];have:(0xfffffff0#32).getLsbD i=false:=by
   have:i=0\/i=1\/i=2\/i=3:=by omega
   rcases this with rfl | rfl | rfl | rfl <;> decide
  rw[this,ycl]
 have key: ∀n,n<=4->zdj (c &&& 0xfffffff0#32) n=(c &&& 0xfffffff0#32) >>>n:=by
  intro n
  induction n with
  |zero=>intro _;simp[zdj]
  |succ n ih=>
   intro hn;rw[zdj,ih (by omega),ztq]
   ·rw[BitVec.shiftRight_add]
   ·rw[ycH]
    exact hb _ (by omega)
 rw[key 4 (yab _)];apply yc0;intro i hi;rw[ycH,ycH,ycZ]
 by_cases h:4+i<32
 ·have:(0xfffffff0#32).getLsbD (4+i)=true:=by
   have key: ∀m:Fin 28,(0xfffffff0#32).getLsbD (4+m.val)=true:=by decide
   exact key ⟨i,by omega⟩
  rw[this,ybW]
 ·rw[BitVec.getLsbD_of_ge c _ (by omega),ydA]
def zwa (c:BitVec 32):zdj c 4=nib c:=by
 have h:c=(c &&& 0xfffffff0#32) ^^^ (c &&& 15#32):=by
  apply yc0;intro i hi;rw[ydx,ycZ,ycZ];have key: ∀m:Fin 32,(0xfffffff0#32).getLsbD m.val= !(15#32).getLsbD m.val:=by decide
  rw[key ⟨i,hi⟩];cases c.getLsbD i <;> cases (15#32).getLsbD i <;> rfl
 conv=>lhs;rw[h]
 rw[znf,zts,zvn];rfl
def zoG (c:BitVec 32) (x:UInt8):BitVec 32:=zdj (c ^^^ BitVec.ofNat 32 x.toNat) 8
def ztt (c:BitVec 32) (x:UInt8):zoG c x=nib (nib (c ^^^ BitVec.ofNat 32 x.toNat)):=by
 unfold zoG;rw[show (8:Nat)=4+4 from rfl,zng,zwa,zwa]
def zrv (c:BitVec 32) (b:List UInt8):BitVec 32:=b.foldl zoG c
def zfT (c:BitVec 32) (b:List UInt8):BitVec 32:= ~~~ zrv (~~~ c) b
def zCl:BitVec 32:=0xffffffff#32
def zpR (c:BitVec 32):c ^^^ zCl= ~~~ c:=by
 apply yc0;intro i hi;rw[ydx,BitVec.getLsbD_not];have key: ∀m:Fin 32,zCl.getLsbD m.val=true:=by decide
 rw[key ⟨i,hi⟩];simp[hi]
def znK (c:BitVec 32):List UInt8:=[UInt8.ofNat c.toNat,UInt8.ofNat (c.toNat / 256),UInt8.ofNat (c.toNat / 65536),UInt8.ofNat (c.toNat / 16777216)]
def zED (b:List UInt8):List UInt8:=znK (zfT 0#32 b)
def zdk (b:List UInt8):List UInt8:=b++zED b
def zoH (b:List UInt8):(zED b).length=4:=rfl
def zbR (b:List UInt8):(zdk b).length=b.length+4:=by rw[zdk,yaf,zoH]
def zjm (b:List UInt8):Option (List UInt8):=if b.length<4 then none else if zdk (b.take (b.length - 4))=b then some (b.take (b.length - 4)) else none
def znh {b t:List UInt8} (h:zjm b=some t):zdk t=b:=by
 unfold zjm at h;split at h
 ·cases h
 ·split at h
  ·rename_i h2
   simp only[yaa]at h;rw[<- h];exact h2
  ·cases h
end Go.Am.Ab
namespace Go.Am.Ab
open Go.Proofs
set_option maxHeartbeats 4000000
set_option maxRecDepth 4000
abbrev U32 (c:BitVec 32):V:= .d (.int .u32 (c.toNat:Int))
def zw8 (c:BitVec 32):4294967295 ^^^ c.toNat=(~~~ c).toNat:=by
 rw[<- zpR,ycf,Nat.xor_comm];rfl
def zpS (c:BitVec 32) (x:UInt8):c.toNat ^^^ x.toNat=(c ^^^ BitVec.ofNat 32 x.toNat).toNat:=by
 have:=x.toNat_lt;rw[ycf,ycX,yaI (by omega)]
def zw9 (m:Nat) (h:m<16):zoj[m]? =some (.int .u32 ((zlD m).toNat:Int)):=by
 have key: ∀k:Fin 16,zw7.getD k.val 0<4294967296/\zoj[k.val]? =some (.int .u32 ((zw7.getD k.val 0:Nat):Int)):=by
  intro k;have:k.val=0\/k.val=1\/k.val=2\/k.val=3\/k.val=4\/k.val=5\/k.val=6\/k.val=7\/k.val=8\/k.val=9\/k.val=10\/k.val=11\/k.val=12\/k.val=13\/k.val=14\/k.val=15:=by omega
  rcases this with e | e | e | e | e | e | e | e | e | e | e | e | e | e | e | e <;> rw[e] <;> exact⟨by decide,rfl⟩
 obtain⟨h1,h2⟩:=key ⟨m,h⟩;rw[h2];unfold zlD;rw[ycX,yaI h1]
def ztu (d:BitVec 32): ∃m:Nat,m<16/\d.toNat &&& 15=m/\zoj[m]? =some (.int .u32 ((zlD m).toNat:Int))/\d.toNat / 16 ^^^ (zlD m).toNat=(nib d).toNat:=by
 refine⟨(d &&& 15#32).toNat,ztr d,by rw[ycO];rfl,zw9 _ (ztr d), ?_⟩
 unfold nib;rw[ycf,ycT,ycN]
def ztv {c d:BitVec 32} (h:d= ~~~ c):unD .xor (.d (.int .u32 (c.toNat:Int)))=some (.int .u32 (d.toNat:Int)):=by
 have h1:BitVec.ofInt 32 (if IntKind.u32.signed then -1 else IntKind.u32.max)=zCl:=by decide
 have h2:BitVec.ofInt 32 ((c.toNat:Nat):Int)=c:=by
  apply BitVec.eq_of_toNat_eq;rw[BitVec.ofInt_natCast,ycX,yaI c.isLt]
 show some (D.int .u32 (IntKind.u32.wrap (BitVec.ofInt 32 (if IntKind.u32.signed then -1 else IntKind.u32.max) ^^^ BitVec.ofInt 32 ((c.toNat:Nat):Int)).toNat))=_
 rw[h1,h2,BitVec.xor_comm,zpR,<- h,zcL];have:=d.isLt;congr 2;omega
def zlE (c:BitVec 32):(c.toNat:Int)<4294967296:=by have:=c.isLt;omega
def ztw (c:BitVec 32) (b:List UInt8) (hb:b.length<1000000000):R 143 [U32 c,B b] []=some ([U32 (zfT c b)],[]):=by
 have l1:=zlE c;obtain⟨d0,hd0⟩: ∃d,d= ~~~ c:=⟨_,rfl⟩;have n1:=ztv hd0;have md:zfT c b= ~~~ zrv d0 b:=by rw[zfT,hd0]
 rw[md];clear md hd0;refine rg zGj rfl ?_;intro T hT;simp -dsimp -implicitDefEqProofs (disch:=first|omega|assumption) [n1,l1,-unD]
 generalize hz:zad _ _ _ _ _ _=z;revert z;refine zaa (σ:=Nat × BitVec 32) (λx=>[(0,U32 x.2),(9,B b),(10,.d (.int .i64 b.length)),(11,.d (.int .i64 x.1))]) (λx=>[]) (λx=>x.1<=b.length/\x.2=zrv d0 (b.take x.1)) (λx=>b.length - x.1) (0,d0) ?_ ?_ ?_
 ·exact⟨yai _,rfl⟩
 ·simp -dsimp -implicitDefEqProofs (disch:=first|omega|assumption) [B]
 intro T' f hT' ⟨i,d⟩ ⟨hi,hd⟩ ih;simp only at hi hd ih;have ld:=zlE d
 by_cases h1:i<b.length
 ·obtain⟨y,hy⟩: ∃y,y=b[i]:=⟨_,rfl⟩
  have gy:=hy.symm;have x1:=zpS d y;have yl:(y.toNat:Int)<4294967296:=by have:=y.toNat_lt;omega
  obtain⟨e,he⟩: ∃e,e=d ^^^ BitVec.ofNat 32 y.toNat:=⟨_,rfl⟩;rw[<- he]at x1;obtain⟨m,m1,m2,m3,m4⟩:=ztu e;obtain⟨n,n1,n2,n3,n4⟩:=ztu (nib e);have le:=zlE e;have ln:=zlE (nib e);have lm:=zlE (zlD m);have lk:=zlE (zlD n);have t1:((e.toNat:Int) / 16).toNat=e.toNat / 16:=by omega
  have t2:(((nib e).toNat:Int) / 16).toNat=(nib e).toNat / 16:=by omega
  have m1':(m:Int)<16:=by omega
  have n1':(n:Int)<16:=by omega
  simp -dsimp -implicitDefEqProofs (disch:=first|omega|assumption) [h1,gy,x1,yl,ld,m1,m1',m2,m3,m4,n1,n1',n2,n3,n4,le,ln,lm,lk,t1,t2]
  refine ih (i+1,nib (nib e)) _ _ ⟨h1, ?_⟩ (by simp only;omega) ?_
  ·simp only
   have hstep:zrv d0 (b.take (i+1))=zoG (zrv d0 (b.take i)) b[i]:=by unfold zrv;rw[zap h1,ycp];rfl
   rw[hstep,<- hd,ztt,gy,he]
  ·simp -dsimp -implicitDefEqProofs (disch:=first|omega|assumption) [B]
 ·obtain rfl:i=b.length:=by omega
  rw[yaR]at hd;obtain⟨d9,hd9⟩: ∃e,e= ~~~ d:=⟨_,rfl⟩;have n2:=ztv hd9;have md: ~~~ zrv d0 b=d9:=by rw[<- hd,hd9]
  rw[md]at hT;subst hT';simp -dsimp -implicitDefEqProofs (disch:=first|omega|assumption) [n2,ld,-unD]
  simpa -dsimp -implicitDefEqProofs (disch:=first|omega|assumption) [U32]using hT
end Go.Am.Ab
namespace Go.Am.Ab
open Go.Proofs
set_option maxHeartbeats 4000000
set_option maxRecDepth 4000
def zfU (b:List UInt8) (hn:b.length<1000000000):R 100 [B b] []=some ([.arr 0 b.length],[.arr 1 (bytes b) 0]):=by
 cases b with
 |nil=>
  refine zeE (rs:=[.tmp 2]) (ts:=[30]) Tryz.func100 rfl rfl rfl (by kernel_rfl) (by kernel_rfl) zyY (by simp[Tryz.f100]) ?_
  intro T hT a ha;rcases ha with rfl | rfl
  all_goals simp -dsimp -implicitDefEqProofs (disch:=first|omega|assumption)
  all_goals exact hT
 |cons x r=>
  simp only[yag]at hn;refine ze3 (rs:=[.tmp 2]) (ts:=[30]) Tryz.func100 rfl rfl rfl (by kernel_rfl) (by kernel_rfl) (.inr (by intro zaF h;simp at h)) (by simp[Tryz.f100]) ?_
  intro T hT;simp -dsimp -implicitDefEqProofs (disch:=first|omega|assumption)
  simpa -dsimp -implicitDefEqProofs (disch:=first|omega|assumption) using hT
def zrw (b:List UInt8) (hb:b.length<1000000000):R 143 [.d (.int .u32 0),B b] []=some ([U32 (zfT 0#32 b)],[]):=ztw 0#32 b hb
def zxa (b:List UInt8) (hb:b.length<1000000000):R 99 [B b] []=some ([U32 (zfT 0#32 b)],[]):=by
 have h:=zrw b hb;refine rg b99 rfl ?_;intro T hT;simp -dsimp -implicitDefEqProofs (disch:=first|omega|assumption) [h]
 simpa -dsimp -implicitDefEqProofs (disch:=first|omega|assumption) using hT
def ztx (c:BitVec 32):bytes (znK c)=[.int .u8 ((c.toNat:Int) % 256),.int .u8 ((c.toNat:Int) / 256 % 256),.int .u8 ((c.toNat:Int) / 65536 % 256),.int .u8 ((c.toNat:Int) / 16777216 % 256)]:=by
 simp[znK]
def zni (b:List UInt8) (hb:b.length<1000000000):R 48 [B b] []=some ([.arr 0 (zdk b).length],[.arr 1 (bytes (zdk b)) 0]):=by
 have h:=zxa b hb;have h2:=zfU b hb;have h3:=ztx (zfT 0#32 b);have h4:bytes (zdk b)=bytes b++bytes (znK (zfT 0#32 b)):=by simp[zdk,zED]
 rw[zbR,h4,h3];generalize zfT 0#32 b=c at*;clear h3 h4;refine rg b48 rfl ?_;intro T hT;simp -dsimp -implicitDefEqProofs (disch:=first|omega|assumption) [h,h2]
 simpa -dsimp -implicitDefEqProofs (disch:=first|omega|assumption) using hT
def OpR:Option (List UInt8)->Option (List V × List Obj)
 |none=>some ([.arr 0 0,.d (.bool false)],[.arr 1 [] 0])
 |some t=>some ([.arr 0 t.length,.d (.bool true)],[.arr 1 (bytes t) t.length])
def zrx (b:List UInt8) (hb:b.length<1000000):R 59 [B b] []=OpR (zjm b):=by
 unfold zjm
 by_cases h1:b.length<4
 ·have h1':(b.length:Int)<4:=by omega
  rw[yah h1];unfold OpR;refine rg b59 rfl ?_;intro T hT;simp -dsimp -implicitDefEqProofs (disch:=first|omega|assumption) [h1']
  simpa -dsimp -implicitDefEqProofs (disch:=first|omega|assumption) using hT
 rw[yae h1];have h1': ¬ (b.length:Int)<4:=by omega
 have x1:((b.length:Int) - 4).toNat=b.length - 4:=by omega
 have x2:(4:Int)<=b.length:=by omega
 obtain⟨t,ht⟩: ∃t,t=b.take (b.length - 4):=⟨_,rfl⟩;have ht':List.take (b.length - 4) (bytes b)=bytes t:=by rw[ht,bytes,bytes,ybE]
 have htl:t.length<1000000000:=by rw[ht,yao];omega
 have c1:=zfU t htl;have c2:=zni t htl;have c3:=zfa (zdk t) b (by rw[zbR,ht,yao];omega)
 rw[<- ht];clear ht
 by_cases h2:zdk t=b
 ·rw[yah h2]
  rw[yaJ h2]at c3;unfold OpR;refine rg b59 rfl ?_;intro T hT;simp -dsimp -implicitDefEqProofs (disch:=first|omega|assumption) [h1',x1,x2,ht',c1,c2,c3]
  simpa -dsimp -implicitDefEqProofs (disch:=first|omega|assumption) using hT
 ·rw[yae h2]
  rw[yaL h2]at c3;unfold OpR;refine rg b59 rfl ?_;intro T hT;simp -dsimp -implicitDefEqProofs (disch:=first|omega|assumption) [h1',x1,x2,ht',c1,c2,c3]
  simpa -dsimp -implicitDefEqProofs (disch:=first|omega|assumption) using hT
def zxb (d:BitVec 32):(d.toNat % 2=0/\(zrO d).toNat=d.toNat / 2)\/(d.toNat % 2=1/\(zrO d).toNat=d.toNat / 2 ^^^ 3988292384):=by
 have h0:d.getLsbD 0=decide (d.toNat % 2=1):=by
  rw[BitVec.getLsbD,Nat.testBit_zero]
 unfold zrO;rw[h0]
 by_cases h:d.toNat % 2=1
 ·right
  refine⟨h, ?_⟩;rw[yaJ h,yah rfl,ycf,ycT,ycN];rfl
 ·left
  refine⟨by omega, ?_⟩
  rw[yaL h,yae (by simp),ydj,ycT,ycN]
def zpT (c:BitVec 32):c.toNat ^^^ 4294967295=(~~~ c).toNat:=by rw[Nat.xor_comm,zw8]
def zry (c:BitVec 32) (b:List UInt8) (hb:b.length<1000000000):R 75 [U32 c,B b] []=some ([U32 (zfT c b)],[]):=by
 have l1:=zlE c;obtain⟨d0,hd0⟩: ∃d,d= ~~~ c:=⟨_,rfl⟩;have n1:c.toNat ^^^ 4294967295=d0.toNat:=by rw[hd0];exact zpT c
 have md:zfT c b= ~~~ zrv d0 b:=by rw[zfT,hd0]
 rw[md];clear md hd0;refine rg b75 rfl ?_;intro T hT;simp -dsimp -implicitDefEqProofs (disch:=first|omega|assumption) [n1,l1]
 generalize hz:zad _ _ _ _ _ _=z;revert z;refine zaa (σ:=Nat × BitVec 32) (λx=>[(0,U32 x.2),(1,B b),(5,.d (.int .i64 x.1))]) (λx=>[]) (λx=>x.1<=b.length/\x.2=zrv d0 (b.take x.1)) (λx=>b.length - x.1) (0,d0) ?_ ?_ ?_
 ·exact⟨yai _,rfl⟩
 ·simp -dsimp -implicitDefEqProofs (disch:=first|omega|assumption) [B]
 intro T' f hT' ⟨i,d⟩ ⟨hi,hd⟩ ih;simp only at hi hd ih;have ld:=zlE d
 by_cases h1:i<b.length
 ·obtain⟨y,hy⟩: ∃y,y=b[i]:=⟨_,rfl⟩
  have gy:=hy.symm;have x1:=zpS d y;have yl:(y.toNat:Int)<4294967296:=by have:=y.toNat_lt;omega
  obtain⟨e,he⟩: ∃e,e=d ^^^ BitVec.ofNat 32 y.toNat:=⟨_,rfl⟩;rw[<- he]at x1;have fin:zoG d y=zdj e 8:=by rw[zoG,he]
  simp -dsimp -implicitDefEqProofs (disch:=first|omega|assumption) [h1,gy,x1,yl,ld]
  generalize hz:zad _ _ _ _ _ _=z;revert z;refine zaa (σ:=Nat) (λk=>[(0,U32 (zdj e k)),(1,B b),(5,.d (.int .i64 i)),(6,.d (.int .i64 k))]) (λk=>[]) (λk=>k<=8) (λk=>8 - k) 0 ?_ ?_ ?_
  ·exact yai _
  ·simp -dsimp -implicitDefEqProofs (disch:=first|omega|assumption) [B,zdj]
  intro T2 f2 hT2 k hk ih2
  by_cases h2:k<8
  ·have h2':(k:Int)<8:=by omega
   obtain⟨g,hg⟩: ∃g,g=zdj e k:=⟨_,rfl⟩;have hs:zdj e (k+1)=zrO g:=by rw[hg];rfl
   rw[<- hg];have lg:=zlE g;have lg2:(g.toNat:Int) / 2<4294967296:=by omega
   rcases zxb g with ⟨b1,b2⟩ | ⟨b1,b2⟩
   ·have b1': ¬ (g.toNat:Int) % 2=1:=by omega
    have b3:((zrO g).toNat:Int)=(g.toNat:Int) / 2:=by omega
    simp -dsimp -implicitDefEqProofs (disch:=first|omega|assumption) [h2',lg,lg2,b1,b1']
    refine ih2 (k+1) _ _ h2 (by omega) ?_
    rw[hs];simp -dsimp -implicitDefEqProofs (disch:=first|omega|assumption) [B,U32,b3]
   ·have b1':(g.toNat:Int) % 2=1:=by omega
    have b3:=b2.symm;have t1:((g.toNat:Int) / 2).toNat=g.toNat / 2:=by omega
    simp -dsimp -implicitDefEqProofs (disch:=first|omega|assumption) [h2',lg,lg2,b1,b1',b3,t1]
    refine ih2 (k+1) _ _ h2 (by omega) ?_
    rw[hs];simp -dsimp -implicitDefEqProofs (disch:=first|omega|assumption) [B,U32,b3,t1]
  ·obtain rfl:k=8:=by omega
   subst hT2;simp -dsimp -implicitDefEqProofs (disch:=first|omega|assumption)
   refine ih (i+1,zdj e 8) _ _ ⟨h1, ?_⟩ (by simp only;omega) (by simp -dsimp -implicitDefEqProofs (disch:=first|omega|assumption) [B])
   simp only;have hstep:zrv d0 (b.take (i+1))=zoG (zrv d0 (b.take i)) b[i]:=by unfold zrv;rw[zap h1,ycp];rfl
   rw[hstep,<- hd,gy,fin]
 ·obtain rfl:i=b.length:=by omega
  rw[yaR]at hd;obtain⟨d9,hd9⟩: ∃e,e= ~~~ d:=⟨_,rfl⟩;have n2:d.toNat ^^^ 4294967295=d9.toNat:=by rw[hd9];exact zpT d
  have md: ~~~ zrv d0 b=d9:=by rw[<- hd,hd9]
  rw[md]at hT;subst hT';simp -dsimp -implicitDefEqProofs (disch:=first|omega|assumption) [n2,ld]
  simpa -dsimp -implicitDefEqProofs (disch:=first|omega|assumption) [U32]using hT
def zoI (b:List UInt8) (hb:b.length<1000000000):R 75 [.d (.int .u32 0),B b] []=some ([U32 (zfT 0#32 b)],[]):=zry 0#32 b hb
def zhj (b:List UInt8) (hb:b.length<1000000000):R 24 [B b] []=some ([.arr 0 (zdk b).length],[.arr 1 (bytes (zdk b)) 0]):=by
 have h:=zoI b hb;have h4:zdk b=b++znK (zfT 0#32 b):=rfl;rw[h4];generalize zfT 0#32 b=c at*;have hc:=c.isLt;refine rg b24 rfl ?_;intro T hT;simp -dsimp -implicitDefEqProofs (disch:=first|omega|assumption) [h]
 generalize hz:zad _ _ _ _ _ _=z;revert z;refine zaa (σ:=Nat) (λi=>[(3,.arr 0 (b.length+i)),(4,.d (.int .u32 ((c.toNat / 256 ^ i:Nat):Int))),(5,.d (.int .i64 i))]) (λi=>[.arr 1 (bytes (b++(znK c).take i)) 0]) (λi=>i<=4) (λi=>4 - i) 0 ?_ ?_ ?_
 ·exact yai _
 ·simp -dsimp -implicitDefEqProofs (disch:=first|omega|assumption)
 intro T' f hT' i hi ih;have hln:((znK c).take i).length=i:=by rw[yao];simp[znK];omega
 by_cases h1:i<4
 ·have h1':(i:Int)<4:=by omega
  obtain⟨s,hs⟩: ∃s,s=c.toNat / 256 ^ i:=⟨_,rfl⟩;have hs32:s<4294967296:=by rw[hs];exact ybx (ycY _ _) hc
  have hs2:c.toNat / 256 ^ (i+1)=s / 256:=by rw[hs,yb6,ybi]
  have hs3:(s:Int) / 256 % 4294967296=((s / 256:Nat):Int):=by omega
  have htk:(znK c).take (i+1)=(znK c).take i++[UInt8.ofNat s]:=by
   have:i=0\/i=1\/i=2\/i=3:=by omega
   rw[hs];rcases this with rfl | rfl | rfl | rfl <;> simp[znK]
  rw[<- hs];have hmn:min i (znK c).length=i:=by rw[show (znK c).length=4 from rfl];omega
  simp -dsimp -implicitDefEqProofs (disch:=first|omega|assumption) [h1',hln,hs3,hmn]
  refine ih (i+1) _ _ h1 (by omega) ?_
  rw[htk,hs2];simp -dsimp -implicitDefEqProofs (disch:=first|omega|assumption) [hs3,hln,yaC]
 ·obtain rfl:i=4:=by omega
  have h1': ¬ ((4:Nat):Int)<4:=by omega
  have hf:(znK c).take 4=znK c:=rfl;rw[hf];have hl4:(znK c).length=4:=rfl;subst hT';simp -dsimp -implicitDefEqProofs (disch:=first|omega|assumption) [h1',hl4]
  simpa -dsimp -implicitDefEqProofs (disch:=first|omega|assumption) [hl4]using hT
def zyb:Option (List UInt8)->Option (List V × List Obj)
 |none=>some ([.arr 0 0,.d (.bool false)],[.arr 1 [] 0])
 |some t=>some ([B t,.d (.bool true)],[])
def zrz (b:List UInt8) (hb:b.length<1000000):R 25 [B b] []=zyb (zjm b):=by
 unfold zjm
 by_cases h1:b.length<4
 ·have h1':(b.length:Int)<4:=by omega
  rw[yah h1];unfold zyb;refine rg b25 rfl ?_;intro T hT;simp -dsimp -implicitDefEqProofs (disch:=first|omega|assumption) [h1']
  simpa -dsimp -implicitDefEqProofs (disch:=first|omega|assumption) using hT
 rw[yae h1];have h1': ¬ (b.length:Int)<4:=by omega
 have x1:((b.length:Int) - 4).toNat=b.length - 4:=by omega
 have x2:(4:Int)<=b.length:=by omega
 obtain⟨t,ht⟩: ∃t,t=b.take (b.length - 4):=⟨_,rfl⟩;have ht':List.take (b.length - 4) (bytes b)=bytes t:=by rw[ht,bytes,bytes,ybE]
 have htl:t.length<1000000000:=by rw[ht,yao];omega
 have c2:=zhj t htl;have hM:=zbg b;have hMs:=zbg (zdk t);have hstr:(zdk t == b)=decide (zdk t=b):=by by_cases h:zdk t=b <;> simp[h]
 rw[<- ht];clear ht
 by_cases h2:zdk t=b
 ·rw[yah h2]
  rw[yaJ h2]at hstr;unfold zyb;refine rg b25 rfl ?_;intro T hT;simp -dsimp -implicitDefEqProofs (disch:=first|omega|assumption) [h1',x1,x2,ht',c2,hM,hMs,hstr]
  simpa -dsimp -implicitDefEqProofs (disch:=first|omega|assumption) using hT
 ·rw[yae h2]
  rw[yaL h2]at hstr;unfold zyb;refine rg b25 rfl ?_;intro T hT;simp -dsimp -implicitDefEqProofs (disch:=first|omega|assumption) [h1',x1,x2,ht',c2,hM,hMs,hstr]
  simpa -dsimp -implicitDefEqProofs (disch:=first|omega|assumption) using hT
end Go.Am.Ab
