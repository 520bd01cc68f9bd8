/- The sum of bytes. -/
import Derived.Test.YtibdiacpdmhmnaaGreatDoorMachD
import Derived.Test.YtibdiacpdmhmnaaGreatDoorCellsA
import Derived.Test.YtibdiacpdmhmnaaGreatDoorReadA
import Derived.Test.YtibdiacpdmhmnaaGreatDoorColC
set_option linter.all false
namespace Go.Am.Ab
set_option maxHeartbeats 4000000
def zEz:BitVec 32:=0xedb88320#32
def zAL (c:BitVec 32):BitVec 32:=(c >>>1) ^^^ (if c.getLsbD 0 then zEz else 0#32)
def zyr (a b:BitVec 32):zAL (a ^^^ b)=zAL a ^^^ zAL b:=by
 unfold zAL;rw[BitVec.ushiftRight_xor_distrib,ydA];cases a.getLsbD 0 <;> cases b.getLsbD 0
 all_goals simp only[Bool.xor_false,Bool.false_xor,Bool.xor_true,Bool.not_true,ydZ,ybk,ybd,yaD,ydR]
 ·ac_rfl
 ·ac_rfl
 ·have:zEz ^^^ zEz=0#32:=BitVec.xor_self
  calc a >>>1 ^^^ b >>>1=a >>>1 ^^^ b >>>1 ^^^ (zEz ^^^ zEz):=by rw[this,ydR]
   _=_:=by ac_rfl
def zvV {c:BitVec 32} (h:c.getLsbD 0=false):zAL c=c >>>1:=by
 unfold zAL;rw[h];simp
def zfb (c:BitVec 32):Nat->BitVec 32
 |0=>c
 |n+1=>zAL (zfb c n)
def zoW (a b:BitVec 32): ∀n,zfb (a ^^^ b) n=zfb a n ^^^ zfb b n
 |0=>rfl
 |n+1=>by rw[zfb,zoW a b n,zyr];rfl
def zoX (a:BitVec 32) (m:Nat): ∀n,zfb a (m+n)=zfb (zfb a m) n
 |0=>rfl
 |n+1=>by rw[<- yaY,zfb,zoX a m n];rfl
def zAM:List Nat:=[0x00000000,0x1db71064,0x3b6e20c8,0x26d930ac,0x76dc4190,0x6b6b51f4,0x4db26158,0x5005713c,0xedb88320,0xf00f9344,0xd6d6a3e8,0xcb61b38c,0x9b64c2b0,0x86d3d2d4,0xa00ae278,0xbdbdf21c]
def zm3 (n:Nat):BitVec 32:=BitVec.ofNat 32 (zAM.getD n 0)
def nib (c:BitVec 32):BitVec 32:=c >>>4 ^^^ zm3 (c &&& 15#32).toNat
def zvW (c:BitVec 32):(c &&& 15#32).toNat<16:=by
 rw[ycK];exact ybR Nat.and_le_right (by decide)
def zys (c:BitVec 32):zfb (c &&& 15#32) 4=zm3 (c &&& 15#32).toNat:=by
 have h:=zvW c;obtain⟨n,hn⟩: ∃n,n=(c &&& 15#32).toNat:=⟨_,rfl⟩;have e:c &&& 15#32=BitVec.ofNat 32 n:=by rw[hn];simp
 rw[<- hn]at h ⊢;rw[e];have key: ∀m:Fin 16,zfb (BitVec.ofNat 32 m.val) 4=zm3 m.val:=by decide
 exact key ⟨n,h⟩
def zvX (c:BitVec 32):zfb (c &&& 0xfffffff0#32) 4=c >>>4:=by
 have hb: ∀i,i<4->(c &&& 0xfffffff0#32).getLsbD i=false:=by
  intro i hi;rw[ycZ];have:(0xfffffff0#32).getLsbD i=false:=by
   have:i=0\/i=1\/i=2\/i=3:=by omega
   rcases this with rfl | rfl | rfl | rfl <;> decide
  rw[this,ycn]
 have key: ∀n,n<=4->zfb (c &&& 0xfffffff0#32) n=(c &&& 0xfffffff0#32) >>>n:=by
  intro n
  induction n with
  |zero=>intro _;simp[zfb]
  |succ n ih=>
   intro hn;rw[zfb,ih (by omega),zvV]
   ·rw[BitVec.shiftRight_add]
   ·rw[ycF]
    exact hb _ (by omega)
 rw[key 4 (yaj _)];apply yc0;intro i hi;rw[ycF,ycF,ycZ]
 by_cases h:4+i<32
 ·have:(0xfffffff0#32).getLsbD (4+i)=true:=by
   have key: ∀m:Fin 28,(0xfffffff0#32).getLsbD (4+m.val)=true:=by decide
   exact key ⟨i,by omega⟩
  rw[this,ybY]
 ·rw[BitVec.getLsbD_of_ge c _ (by omega),yc8]
def zzC (c:BitVec 32):zfb c 4=nib c:=by
 have h:c=(c &&& 0xfffffff0#32) ^^^ (c &&& 15#32):=by
  apply yc0;intro i hi;rw[ydA,ycZ,ycZ];have key: ∀m:Fin 32,(0xfffffff0#32).getLsbD m.val= !(15#32).getLsbD m.val:=by decide
  rw[key ⟨i,hi⟩];cases c.getLsbD i <;> cases (15#32).getLsbD i <;> rfl
 conv=>lhs;rw[h]
 rw[zoW,zvX,zys];rfl
def zyt (c:BitVec 32) (x:UInt8):BitVec 32:=zfb (c ^^^ BitVec.ofNat 32 x.toNat) 8
def zvY (c:BitVec 32) (x:UInt8):zyt c x=nib (nib (c ^^^ BitVec.ofNat 32 x.toNat)):=by
 unfold zyt;rw[show (8:Nat)=4+4 from rfl,zoX,zzC,zzC]
def zAN (c:BitVec 32) (b:List UInt8):BitVec 32:=b.foldl zyt c
def zm4 (c:BitVec 32) (b:List UInt8):BitVec 32:= ~~~ zAN (~~~ c) b
def zFQ:BitVec 32:=0xffffffff#32
def zyu (c:BitVec 32):c ^^^ zFQ= ~~~ c:=by
 apply yc0;intro i hi;rw[ydA,BitVec.getLsbD_not];have key: ∀m:Fin 32,zFQ.getLsbD m.val=true:=by decide
 rw[key ⟨i,hi⟩];simp[hi]
def zFR (c:BitVec 32):List UInt8:=[UInt8.ofNat c.toNat,UInt8.ofNat (c.toNat / 256),UInt8.ofNat (c.toNat / 65536),UInt8.ofNat (c.toNat / 16777216)]
def zIg (b:List UInt8):List UInt8:=zFR (zm4 0#32 b)
def zgp (b:List UInt8):List UInt8:=b++zIg b
def zqt (b:List UInt8):(zIg b).length=4:=rfl
def zbR (b:List UInt8):(zgp b).length=b.length+4:=by rw[zgp,yae,zqt]
def zm5 (b:List UInt8):Option (List UInt8):=if b.length<4 then none else if zgp (b.take (b.length - 4))=b then some (b.take (b.length - 4)) else none
def zvZ (t:List UInt8):zm5 (zgp t)=some t:=by
 unfold zm5;rw[zbR,yac (by omega),ybJ]
 have:(zgp t).take t.length=t:=by rw[zgp,yd1]
 rw[this,yag rfl]
def zv0 {b t:List UInt8} (h:zm5 b=some t):zgp t=b:=by
 unfold zm5 at h;split at h
 ·cases h
 ·split at h
  ·rename_i h2
   simp only[yaa]at h;rw[<- h];exact h2
  ·cases h
end Go.Am.Ab
namespace Go.Am.Ab
open Go.Proofs
set_option maxHeartbeats 4000000
set_option maxRecDepth 4000
abbrev U32 (c:BitVec 32):V:= .d (.int .u32 (c.toNat:Int))
def zyv (c:BitVec 32) (x:UInt8):c.toNat ^^^ x.toNat=(c ^^^ BitVec.ofNat 32 x.toNat).toNat:=by
 have:=x.toNat_lt;rw[ycL,ycV,yaK (by omega)]
def zAO (m:Nat) (h:m<16):zpX[m]? =some (.int .u32 ((zm3 m).toNat:Int)):=by
 have key: ∀k:Fin 16,zAM.getD k.val 0<4294967296/\zpX[k.val]? =some (.int .u32 ((zAM.getD k.val 0:Nat):Int)):=by
  intro k;have:k.val=0\/k.val=1\/k.val=2\/k.val=3\/k.val=4\/k.val=5\/k.val=6\/k.val=7\/k.val=8\/k.val=9\/k.val=10\/k.val=11\/k.val=12\/k.val=13\/k.val=14\/k.val=15:=by omega
  rcases this with e | e | e | e | e | e | e | e | e | e | e | e | e | e | e | e <;> rw[e] <;> exact⟨by decide,rfl⟩
 obtain⟨h1,h2⟩:=key ⟨m,h⟩;rw[h2];unfold zm3;rw[ycV,yaK h1]
def zv1 (d:BitVec 32): ∃m:Nat,m<16/\d.toNat &&& 15=m/\zpX[m]? =some (.int .u32 ((zm3 m).toNat:Int))/\d.toNat / 16 ^^^ (zm3 m).toNat=(nib d).toNat:=by
 refine⟨(d &&& 15#32).toNat,zvW d,by rw[ycK];rfl,zAO _ (zvW d), ?_⟩
 unfold nib;rw[ycL,BitVec.toNat_ushiftRight,Nat.shiftRight_eq_div_pow]
def zv2 {c d:BitVec 32} (h:d= ~~~ c):unD .xor (.d (.int .u32 (c.toNat:Int)))=some (.int .u32 (d.toNat:Int)):=by
 have h1:BitVec.ofInt 32 (if IntKind.u32.signed then -1 else IntKind.u32.max)=zFQ:=by decide
 have h2:BitVec.ofInt 32 ((c.toNat:Nat):Int)=c:=by
  apply BitVec.eq_of_toNat_eq;rw[BitVec.ofInt_natCast,ycV,yaK c.isLt]
 show some (D.int .u32 (IntKind.u32.wrap (BitVec.ofInt 32 (if IntKind.u32.signed then -1 else IntKind.u32.max) ^^^ BitVec.ofInt 32 ((c.toNat:Nat):Int)).toNat))=_
 rw[h1,h2,BitVec.xor_comm,zyu,<- h,zcY];have:=d.isLt;congr 2;omega
def ztF (c:BitVec 32):(c.toNat:Int)<4294967296:=by have:=c.isLt;omega
def zv3 (c:BitVec 32) (b:List UInt8) (hb:b.length<1000000000):R 143 [U32 c,B b] []=some ([U32 (zm4 c b)],[]):=by
 have l1:=ztF c;obtain⟨d0,hd0⟩: ∃d,d= ~~~ c:=⟨_,rfl⟩;have n1:=zv2 hd0;have md:zm4 c b= ~~~ zAN d0 b:=by rw[zm4,hd0]
 rw[md];clear md hd0;refine rg zJ6 rfl ?_;intro T hT;simp -dsimp -implicitDefEqProofs (disch:=omega) [n1,l1,-unD]
 generalize hz:zaf _ _ _ _ _ _=z;revert z;refine zaa (σ:=Nat × BitVec 32) (λx=>[(0,U32 x.2),(9,B b),(10,.d (.int .i64 b.length)),(11,.d (.int .i64 x.1))]) (λx=>[]) (λx=>x.1<=b.length/\x.2=zAN d0 (b.take x.1)) (λx=>b.length - x.1) (0,d0) ?_ ?_ ?_
 ·exact⟨yai _,rfl⟩
 ·simp -dsimp -implicitDefEqProofs (disch:=omega) [B]
 intro T' f hT' ⟨i,d⟩ ⟨hi,hd⟩ ih;simp only at hi hd ih;have ld:=ztF d
 by_cases h1:i<b.length
 ·obtain⟨y,hy⟩: ∃y,y=b[i]:=⟨_,rfl⟩
  have gy:=hy.symm;have x1:=zyv d y;have yl:(y.toNat:Int)<4294967296:=by have:=y.toNat_lt;omega
  obtain⟨e,he⟩: ∃e,e=d ^^^ BitVec.ofNat 32 y.toNat:=⟨_,rfl⟩;rw[<- he]at x1;obtain⟨m,m1,m2,m3,m4⟩:=zv1 e;obtain⟨n,n1,n2,n3,n4⟩:=zv1 (nib e);have le:=ztF e;have ln:=ztF (nib e);have lm:=ztF (zm3 m);have lk:=ztF (zm3 n);have t1:((e.toNat:Int) / 16).toNat=e.toNat / 16:=by omega
  have t2:(((nib e).toNat:Int) / 16).toNat=(nib e).toNat / 16:=by omega
  have m1':(m:Int)<16:=by omega
  have n1':(n:Int)<16:=by omega
  simp -dsimp -implicitDefEqProofs (disch:=omega) [h1,gy,x1,yl,ld,m1,m1',m2,m3,m4,n1,n1',n2,n3,n4,le,ln,lm,lk,t1,t2]
  refine ih (i+1,nib (nib e)) _ _ ⟨h1, ?_⟩ (by simp only;omega) ?_
  ·simp only
   have hstep:zAN d0 (b.take (i+1))=zyt (zAN d0 (b.take i)) b[i]:=by unfold zAN;rw[zaN h1,yc4];rfl
   rw[hstep,<- hd,zvY,gy,he]
  ·simp -dsimp -implicitDefEqProofs (disch:=omega) [B]
 ·obtain rfl:i=b.length:=by omega
  rw[yaW]at hd;obtain⟨d9,hd9⟩: ∃e,e= ~~~ d:=⟨_,rfl⟩;have n2:=zv2 hd9;have md: ~~~ zAN d0 b=d9:=by rw[<- hd,hd9]
  rw[md]at hT;subst hT';simp -dsimp -implicitDefEqProofs (disch:=omega) [n2,ld,-unD]
  simpa -dsimp -implicitDefEqProofs (disch:=omega) [U32]using hT
end Go.Am.Ab
namespace Go.Am.Ab
open Go.Proofs
set_option maxHeartbeats 4000000
set_option maxRecDepth 4000
def zgq (b:List UInt8) (hn:b.length<1000000000):R 100 [B b] []=some ([.arr 0 b.length],[.arr 1 (bytes b) 0]):=by
 cases b with
 |nil=>
  refine zgZ (rs:=[.tmp 2]) (ts:=[30]) Tryz.func100 rfl rfl rfl (by kernel_rfl) (by kernel_rfl) zzd (by simp[Tryz.f100]) ?_
  intro T hT a ha;rcases ha with rfl | rfl
  all_goals simp -dsimp -implicitDefEqProofs (disch:=omega)
  all_goals exact hT
 |cons x r=>
  simp only[yaf]at hn;refine zgY (rs:=[.tmp 2]) (ts:=[30]) Tryz.func100 rfl rfl rfl (by kernel_rfl) (by kernel_rfl) (.inr ⟨(zzd).2,by intro zay h;simp at h⟩) (by simp[Tryz.f100]) ?_
  intro T hT;simp -dsimp -implicitDefEqProofs (disch:=omega)
  simpa -dsimp -implicitDefEqProofs (disch:=omega) using hT
def ztG (b:List UInt8) (hb:b.length<1000000000):R 143 [.d (.int .u32 0),B b] []=some ([U32 (zm4 0#32 b)],[]):=zv3 0#32 b hb
def zAP (b:List UInt8) (hb:b.length<1000000000):R 99 [B b] []=some ([U32 (zm4 0#32 b)],[]):=by
 have h:=ztG b hb;refine rg b99 rfl ?_;intro T hT;simp -dsimp -implicitDefEqProofs (disch:=omega) [h]
 simpa -dsimp -implicitDefEqProofs (disch:=omega) using hT
def zv4 (c:BitVec 32):bytes (zFR c)=[.int .u8 ((c.toNat:Int) % 256),.int .u8 ((c.toNat:Int) / 256 % 256),.int .u8 ((c.toNat:Int) / 65536 % 256),.int .u8 ((c.toNat:Int) / 16777216 % 256)]:=by
 simp[zFR]
def zoY (b:List UInt8) (hb:b.length<1000000000):R 48 [B b] []=some ([.arr 0 (zgp b).length],[.arr 1 (bytes (zgp b)) 0]):=by
 have h:=zAP b hb;have h2:=zgq b hb;have h3:=zv4 (zm4 0#32 b);have h4:bytes (zgp b)=bytes b++bytes (zFR (zm4 0#32 b)):=by simp[zgp,zIg]
 rw[zbR,h4,h3];generalize zm4 0#32 b=c at*;clear h3 h4;refine rg b48 rfl ?_;intro T hT;simp -dsimp -implicitDefEqProofs (disch:=omega) [h,h2]
 simpa -dsimp -implicitDefEqProofs (disch:=omega) using hT
def OpR:Option (List UInt8)->Option (List V × List Obj)
 |none=>some ([.arr 0 0,.d (.bool false)],[.arr 1 [] 0])
 |some t=>some ([.arr 0 t.length,.d (.bool true)],[.arr 1 (bytes t) t.length])
def ztH (b:List UInt8) (hb:b.length<1000000):R 59 [B b] []=OpR (zm5 b):=by
 unfold zm5
 by_cases h1:b.length<4
 ·have h1':(b.length:Int)<4:=by omega
  rw[yag h1];unfold OpR;refine rg b59 rfl ?_;intro T hT;simp -dsimp -implicitDefEqProofs (disch:=omega) [h1']
  simpa -dsimp -implicitDefEqProofs (disch:=omega) using hT
 rw[yac h1];have h1': ¬ (b.length:Int)<4:=by omega
 have x1:((b.length:Int) - 4).toNat=b.length - 4:=by omega
 have x2:(4:Int)<=b.length:=by omega
 obtain⟨t,ht⟩: ∃t,t=b.take (b.length - 4):=⟨_,rfl⟩;have ht':List.take (b.length - 4) (bytes b)=bytes t:=by rw[ht,bytes,bytes,ybQ]
 have htl:t.length<1000000000:=by rw[ht,yaq];omega
 have c1:=zgq t htl;have c2:=zoY t htl;have c3:=zfz (zgp t) b (by rw[zbR,ht,yaq];omega)
 rw[<- ht];clear ht
 by_cases h2:zgp t=b
 ·rw[yag h2]
  rw[yaI h2]at c3;unfold OpR;refine rg b59 rfl ?_;intro T hT;simp -dsimp -implicitDefEqProofs (disch:=omega) [h1',x1,x2,ht',c1,c2,c3]
  simpa -dsimp -implicitDefEqProofs (disch:=omega) using hT
 ·rw[yac h2]
  rw[yaO h2]at c3;unfold OpR;refine rg b59 rfl ?_;intro T hT;simp -dsimp -implicitDefEqProofs (disch:=omega) [h1',x1,x2,ht',c1,c2,c3]
  simpa -dsimp -implicitDefEqProofs (disch:=omega) using hT
end Go.Am.Ab
