/- The sum of bytes. -/
import Derived.Test.YtibdiacpdmhmnaaGreatDoorMachD
import Derived.Test.YtibdiacpdmhmnaaGreatDoorCellsA
import Derived.Test.YtibdiacpdmhmnaaGreatDoorReadA
import Derived.Test.YtibdiacpdmhmnaaGreatDoorColC
set_option linter.all false
namespace Go.Am.Ab
set_option maxHeartbeats 4000000
def zDw:BitVec 32:=0xedb88320#32
def zzT (c:BitVec 32):BitVec 32:=(c >>>1) ^^^ (if c.getLsbD 0 then zDw else 0#32)
def zxC (a b:BitVec 32):zzT (a ^^^ b)=zzT a ^^^ zzT b:=by
 unfold zzT;rw[BitVec.ushiftRight_xor_distrib,ydB];cases a.getLsbD 0 <;> cases b.getLsbD 0
 all_goals simp only[Bool.xor_false,Bool.false_xor,Bool.xor_true,Bool.not_true,ydF,ybm,ybg,yaD,ydV]
 ·ac_rfl
 ·ac_rfl
 ·have:zDw ^^^ zDw=0#32:=BitVec.xor_self
  calc a >>>1 ^^^ b >>>1=a >>>1 ^^^ b >>>1 ^^^ (zDw ^^^ zDw):=by rw[this,ydV]
   _=_:=by ac_rfl
def zvd {c:BitVec 32} (h:c.getLsbD 0=false):zzT c=c >>>1:=by
 unfold zzT;rw[h];simp
def ze6 (c:BitVec 32):Nat->BitVec 32
 |0=>c
 |n+1=>zzT (ze6 c n)
def zou (a b:BitVec 32): ∀n,ze6 (a ^^^ b) n=ze6 a n ^^^ ze6 b n
 |0=>rfl
 |n+1=>by rw[ze6,zou a b n,zxC];rfl
def zov (a:BitVec 32) (m:Nat): ∀n,ze6 a (m+n)=ze6 (ze6 a m) n
 |0=>rfl
 |n+1=>by rw[<- ya0,ze6,zov a m n];rfl
def zzU:List Nat:=[0x00000000,0x1db71064,0x3b6e20c8,0x26d930ac,0x76dc4190,0x6b6b51f4,0x4db26158,0x5005713c,0xedb88320,0xf00f9344,0xd6d6a3e8,0xcb61b38c,0x9b64c2b0,0x86d3d2d4,0xa00ae278,0xbdbdf21c]
def zmG (n:Nat):BitVec 32:=BitVec.ofNat 32 (zzU.getD n 0)
def nib (c:BitVec 32):BitVec 32:=c >>>4 ^^^ zmG (c &&& 15#32).toNat
def zve (c:BitVec 32):(c &&& 15#32).toNat<16:=by
 rw[ycJ];exact ybP Nat.and_le_right (by decide)
def zxD (c:BitVec 32):ze6 (c &&& 15#32) 4=zmG (c &&& 15#32).toNat:=by
 have h:=zve c;obtain⟨n,hn⟩: ∃n,n=(c &&& 15#32).toNat:=⟨_,rfl⟩;have e:c &&& 15#32=BitVec.ofNat 32 n:=by rw[hn];simp
 rw[<- hn]at h ⊢;rw[e];have key: ∀m:Fin 16,ze6 (BitVec.ofNat 32 m.val) 4=zmG m.val:=by decide
 exact key ⟨n,h⟩
def zvf (c:BitVec 32):ze6 (c &&& 0xfffffff0#32) 4=c >>>4:=by
 have hb: ∀i,i<4->(c &&& 0xfffffff0#32).getLsbD i=false:=by
  intro i hi;rw[ycX];have:(0xfffffff0#32).getLsbD i=false:=by
   have:i=0\/i=1\/i=2\/i=3:=by omega
   rcases this with rfl | rfl | rfl | rfl <;> decide
  rw[this,ycE]
 have key: ∀n,n<=4->ze6 (c &&& 0xfffffff0#32) n=(c &&& 0xfffffff0#32) >>>n:=by
  intro n
  induction n with
  |zero=>intro _;simp[ze6]
  |succ n ih=>
   intro hn;rw[ze6,ih (by omega),zvd]
   ·rw[BitVec.shiftRight_add]
   ·rw[ycC]
    exact hb _ (by omega)
 rw[key 4 (yag _)];apply ycY;intro i hi;rw[ycC,ycC,ycX]
 by_cases h:4+i<32
 ·have:(0xfffffff0#32).getLsbD (4+i)=true:=by
   have key: ∀m:Fin 28,(0xfffffff0#32).getLsbD (4+m.val)=true:=by decide
   exact key ⟨i,by omega⟩
  rw[this,yce]
 ·rw[BitVec.getLsbD_of_ge c _ (by omega),ydI]
def zyI (c:BitVec 32):ze6 c 4=nib c:=by
 have h:c=(c &&& 0xfffffff0#32) ^^^ (c &&& 15#32):=by
  apply ycY;intro i hi;rw[ydB,ycX,ycX];have key: ∀m:Fin 32,(0xfffffff0#32).getLsbD m.val= !(15#32).getLsbD m.val:=by decide
  rw[key ⟨i,hi⟩];cases c.getLsbD i <;> cases (15#32).getLsbD i <;> rfl
 conv=>lhs;rw[h]
 rw[zou,zvf,zxD];rfl
def zxE (c:BitVec 32) (x:UInt8):BitVec 32:=ze6 (c ^^^ BitVec.ofNat 32 x.toNat) 8
def zvg (c:BitVec 32) (x:UInt8):zxE c x=nib (nib (c ^^^ BitVec.ofNat 32 x.toNat)):=by
 unfold zxE;rw[show (8:Nat)=4+4 from rfl,zov,zyI,zyI]
def zzV (c:BitVec 32) (b:List UInt8):BitVec 32:=b.foldl zxE c
def zmH (c:BitVec 32) (b:List UInt8):BitVec 32:= ~~~ zzV (~~~ c) b
def zEC:BitVec 32:=0xffffffff#32
def zxF (c:BitVec 32):c ^^^ zEC= ~~~ c:=by
 apply ycY;intro i hi;rw[ydB,BitVec.getLsbD_not];have key: ∀m:Fin 32,zEC.getLsbD m.val=true:=by decide
 rw[key ⟨i,hi⟩];simp[hi]
def zED (c:BitVec 32):List UInt8:=[UInt8.ofNat c.toNat,UInt8.ofNat (c.toNat / 256),UInt8.ofNat (c.toNat / 65536),UInt8.ofNat (c.toNat / 16777216)]
def zGI (b:List UInt8):List UInt8:=zED (zmH 0#32 b)
def zgd (b:List UInt8):List UInt8:=b++zGI b
def zpS (b:List UInt8):(zGI b).length=4:=rfl
def zbR (b:List UInt8):(zgd b).length=b.length+4:=by rw[zgd,yae,zpS]
def zmI (b:List UInt8):Option (List UInt8):=if b.length<4 then none else if zgd (b.take (b.length - 4))=b then some (b.take (b.length - 4)) else none
def zvh (t:List UInt8):zmI (zgd t)=some t:=by
 unfold zmI;rw[zbR,yaf (by omega),ybJ]
 have:(zgd t).take t.length=t:=by rw[zgd,yd2]
 rw[this,yai rfl]
def zvi {b t:List UInt8} (h:zmI b=some t):zgd t=b:=by
 unfold zmI at h;split at h
 ·cases h
 ·split at h
  ·rename_i h2
   simp only[yaa]at h;rw[<- h];exact h2
  ·cases h
end Go.Am.Ab
namespace Go.Am.Ab
open Go.Proofs
set_option maxHeartbeats 4000000
set_option maxRecDepth 4000
abbrev U32 (c:BitVec 32):V:= .d (.int .u32 (c.toNat:Int))
def zxG (c:BitVec 32) (x:UInt8):c.toNat ^^^ x.toNat=(c ^^^ BitVec.ofNat 32 x.toNat).toNat:=by
 have:=x.toNat_lt;rw[ycK,ycU,yaJ (by omega)]
def zzW (m:Nat) (h:m<16):zpr[m]? =some (.int .u32 ((zmG m).toNat:Int)):=by
 have key: ∀k:Fin 16,zzU.getD k.val 0<4294967296/\zpr[k.val]? =some (.int .u32 ((zzU.getD k.val 0:Nat):Int)):=by
  intro k;have:k.val=0\/k.val=1\/k.val=2\/k.val=3\/k.val=4\/k.val=5\/k.val=6\/k.val=7\/k.val=8\/k.val=9\/k.val=10\/k.val=11\/k.val=12\/k.val=13\/k.val=14\/k.val=15:=by omega
  rcases this with e | e | e | e | e | e | e | e | e | e | e | e | e | e | e | e <;> rw[e] <;> exact⟨by decide,rfl⟩
 obtain⟨h1,h2⟩:=key ⟨m,h⟩;rw[h2];unfold zmG;rw[ycU,yaJ h1]
def zvj (d:BitVec 32): ∃m:Nat,m<16/\d.toNat &&& 15=m/\zpr[m]? =some (.int .u32 ((zmG m).toNat:Int))/\d.toNat / 16 ^^^ (zmG m).toNat=(nib d).toNat:=by
 refine⟨(d &&& 15#32).toNat,zve d,by rw[ycJ];rfl,zzW _ (zve d), ?_⟩
 unfold nib;rw[ycK,BitVec.toNat_ushiftRight,Nat.shiftRight_eq_div_pow]
def zvk {c d:BitVec 32} (h:d= ~~~ c):unD .xor (.d (.int .u32 (c.toNat:Int)))=some (.int .u32 (d.toNat:Int)):=by
 have h1:BitVec.ofInt 32 (if IntKind.u32.signed then -1 else IntKind.u32.max)=zEC:=by decide
 have h2:BitVec.ofInt 32 ((c.toNat:Nat):Int)=c:=by
  apply BitVec.eq_of_toNat_eq;rw[BitVec.ofInt_natCast,ycU,yaJ c.isLt]
 show some (D.int .u32 (IntKind.u32.wrap (BitVec.ofInt 32 (if IntKind.u32.signed then -1 else IntKind.u32.max) ^^^ BitVec.ofInt 32 ((c.toNat:Nat):Int)).toNat))=_
 rw[h1,h2,BitVec.xor_comm,zxF,<- h,zcW];have:=d.isLt;congr 2;omega
def zs0 (c:BitVec 32):(c.toNat:Int)<4294967296:=by have:=c.isLt;omega
def zvl (c:BitVec 32) (b:List UInt8) (hb:b.length<1000000000):R 143 [U32 c,B b] []=some ([U32 (zmH c b)],[]):=by
 have l1:=zs0 c;obtain⟨d0,hd0⟩: ∃d,d= ~~~ c:=⟨_,rfl⟩;have n1:=zvk hd0;have md:zmH c b= ~~~ zzV d0 b:=by rw[zmH,hd0]
 rw[md];clear md hd0;refine rg zIn rfl ?_;intro T hT;simp -dsimp -implicitDefEqProofs (disch:=first|omega|assumption) [n1,l1,-unD]
 generalize hz:zak _ _ _ _ _ _=z;revert z;refine zaa (σ:=Nat × BitVec 32) (λx=>[(0,U32 x.2),(9,B b),(10,.d (.int .i64 b.length)),(11,.d (.int .i64 x.1))]) (λx=>[]) (λx=>x.1<=b.length/\x.2=zzV d0 (b.take x.1)) (λx=>b.length - x.1) (0,d0) ?_ ?_ ?_
 ·exact⟨yaj _,rfl⟩
 ·simp -dsimp -implicitDefEqProofs (disch:=first|omega|assumption) [B]
 intro T' f hT' ⟨i,d⟩ ⟨hi,hd⟩ ih;simp only at hi hd ih;have ld:=zs0 d
 by_cases h1:i<b.length
 ·obtain⟨y,hy⟩: ∃y,y=b[i]:=⟨_,rfl⟩
  have gy:=hy.symm;have x1:=zxG d y;have yl:(y.toNat:Int)<4294967296:=by have:=y.toNat_lt;omega
  obtain⟨e,he⟩: ∃e,e=d ^^^ BitVec.ofNat 32 y.toNat:=⟨_,rfl⟩;rw[<- he]at x1;obtain⟨m,m1,m2,m3,m4⟩:=zvj e;obtain⟨n,n1,n2,n3,n4⟩:=zvj (nib e);have le:=zs0 e;have ln:=zs0 (nib e);have lm:=zs0 (zmG m);have lk:=zs0 (zmG n);have t1:((e.toNat:Int) / 16).toNat=e.toNat / 16:=by omega
  have t2:(((nib e).toNat:Int) / 16).toNat=(nib e).toNat / 16:=by omega
  have m1':(m:Int)<16:=by omega
  have n1':(n:Int)<16:=by omega
  simp -dsimp -implicitDefEqProofs (disch:=first|omega|assumption) [h1,gy,x1,yl,ld,m1,m1',m2,m3,m4,n1,n1',n2,n3,n4,le,ln,lm,lk,t1,t2]
  refine ih (i+1,nib (nib e)) _ _ ⟨h1, ?_⟩ (by simp only;omega) ?_
  ·simp only
   have hstep:zzV d0 (b.take (i+1))=zxE (zzV d0 (b.take i)) b[i]:=by unfold zzV;rw[zaM h1,yc3];rfl
   rw[hstep,<- hd,zvg,gy,he]
  ·simp -dsimp -implicitDefEqProofs (disch:=first|omega|assumption) [B]
 ·obtain rfl:i=b.length:=by omega
  rw[ybf]at hd;obtain⟨d9,hd9⟩: ∃e,e= ~~~ d:=⟨_,rfl⟩;have n2:=zvk hd9;have md: ~~~ zzV d0 b=d9:=by rw[<- hd,hd9]
  rw[md]at hT;subst hT';simp -dsimp -implicitDefEqProofs (disch:=first|omega|assumption) [n2,ld,-unD]
  simpa -dsimp -implicitDefEqProofs (disch:=first|omega|assumption) [U32]using hT
end Go.Am.Ab
namespace Go.Am.Ab
open Go.Proofs
set_option maxHeartbeats 4000000
set_option maxRecDepth 4000
def zge (b:List UInt8) (hn:b.length<1000000000):R 100 [B b] []=some ([.arr 0 b.length],[.arr 1 (bytes b) 0]):=by
 cases b with
 |nil=>
  refine zeM (rs:=[.tmp 2]) (ts:=[30]) Tryz.func100 rfl rfl rfl (by kernel_rfl) (by kernel_rfl) zym (by simp[Tryz.f100]) ?_
  intro T hT a ha;rcases ha with rfl | rfl
  all_goals simp -dsimp -implicitDefEqProofs (disch:=first|omega|assumption)
  all_goals exact hT
 |cons x r=>
  simp only[yad]at hn;refine zfk (rs:=[.tmp 2]) (ts:=[30]) Tryz.func100 rfl rfl rfl (by kernel_rfl) (by kernel_rfl) (.inr ⟨(zym).2,by intro zav h;simp at h⟩) (by simp[Tryz.f100]) ?_
  intro T hT;simp -dsimp -implicitDefEqProofs (disch:=first|omega|assumption)
  simpa -dsimp -implicitDefEqProofs (disch:=first|omega|assumption) using hT
def zs1 (b:List UInt8) (hb:b.length<1000000000):R 143 [.d (.int .u32 0),B b] []=some ([U32 (zmH 0#32 b)],[]):=zvl 0#32 b hb
def zzX (b:List UInt8) (hb:b.length<1000000000):R 99 [B b] []=some ([U32 (zmH 0#32 b)],[]):=by
 have h:=zs1 b hb;refine rg b99 rfl ?_;intro T hT;simp -dsimp -implicitDefEqProofs (disch:=first|omega|assumption) [h]
 simpa -dsimp -implicitDefEqProofs (disch:=first|omega|assumption) using hT
def zvm (c:BitVec 32):bytes (zED c)=[.int .u8 ((c.toNat:Int) % 256),.int .u8 ((c.toNat:Int) / 256 % 256),.int .u8 ((c.toNat:Int) / 65536 % 256),.int .u8 ((c.toNat:Int) / 16777216 % 256)]:=by
 simp[zED]
def zow (b:List UInt8) (hb:b.length<1000000000):R 48 [B b] []=some ([.arr 0 (zgd b).length],[.arr 1 (bytes (zgd b)) 0]):=by
 have h:=zzX b hb;have h2:=zge b hb;have h3:=zvm (zmH 0#32 b);have h4:bytes (zgd b)=bytes b++bytes (zED (zmH 0#32 b)):=by simp[zgd,zGI]
 rw[zbR,h4,h3];generalize zmH 0#32 b=c at*;clear h3 h4;refine rg b48 rfl ?_;intro T hT;simp -dsimp -implicitDefEqProofs (disch:=first|omega|assumption) [h,h2]
 simpa -dsimp -implicitDefEqProofs (disch:=first|omega|assumption) using hT
def OpR:Option (List UInt8)->Option (List V × List Obj)
 |none=>some ([.arr 0 0,.d (.bool false)],[.arr 1 [] 0])
 |some t=>some ([.arr 0 t.length,.d (.bool true)],[.arr 1 (bytes t) t.length])
def zs2 (b:List UInt8) (hb:b.length<1000000):R 59 [B b] []=OpR (zmI b):=by
 unfold zmI
 by_cases h1:b.length<4
 ·have h1':(b.length:Int)<4:=by omega
  rw[yai h1];unfold OpR;refine rg b59 rfl ?_;intro T hT;simp -dsimp -implicitDefEqProofs (disch:=first|omega|assumption) [h1']
  simpa -dsimp -implicitDefEqProofs (disch:=first|omega|assumption) using hT
 rw[yaf h1];have h1': ¬ (b.length:Int)<4:=by omega
 have x1:((b.length:Int) - 4).toNat=b.length - 4:=by omega
 have x2:(4:Int)<=b.length:=by omega
 obtain⟨t,ht⟩: ∃t,t=b.take (b.length - 4):=⟨_,rfl⟩;have ht':List.take (b.length - 4) (bytes b)=bytes t:=by rw[ht,bytes,bytes,ybZ]
 have htl:t.length<1000000000:=by rw[ht,yat];omega
 have c1:=zge t htl;have c2:=zow t htl;have c3:=zfw (zgd t) b (by rw[zbR,ht,yat];omega)
 rw[<- ht];clear ht
 by_cases h2:zgd t=b
 ·rw[yai h2]
  rw[yaQ h2]at c3;unfold OpR;refine rg b59 rfl ?_;intro T hT;simp -dsimp -implicitDefEqProofs (disch:=first|omega|assumption) [h1',x1,x2,ht',c1,c2,c3]
  simpa -dsimp -implicitDefEqProofs (disch:=first|omega|assumption) using hT
 ·rw[yaf h2]
  rw[yaW h2]at c3;unfold OpR;refine rg b59 rfl ?_;intro T hT;simp -dsimp -implicitDefEqProofs (disch:=first|omega|assumption) [h1',x1,x2,ht',c1,c2,c3]
  simpa -dsimp -implicitDefEqProofs (disch:=first|omega|assumption) using hT
end Go.Am.Ab
