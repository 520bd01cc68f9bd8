/- Widths, and the packing of numbers. -/
import Derived.Test.YtibdiacpdmhmnaaGreatDoorBase
set_option linter.all false
namespace Go.Am.Ab
open Go.Proofs
set_option maxHeartbeats 4000000
def zsS:Nat->Nat->Nat
 |0,_=>0
 |k+1,n=>if n=0 then 0 else zsS k (n / 2)+1
def zbW (n:Nat):Nat:=zsS 64 n
def zrf: ∀ (k n m:Nat),n<2 ^ k->(zsS k n<=m↔n<2 ^ m)
 |0,n,m,h=>by
  have:n=0:=by omega
  subst this;have:=ybz m;simpa[zsS]using this
 |k+1,n,m,h=>by
  rw[zsS]
  by_cases h0:n=0
  ·subst h0
   have:=ybz m;simpa using this
  ·rw[yac h0]
   cases m with
   |zero=>simp;omega
   |succ m=>
    have ih:=zrf k (n / 2) m (by rw[ycP]at h;omega)
    rw[ycP];omega
def zbo {n m:Nat} (h:n<18446744073709551616):zbW n<=m↔n<2 ^ m:=zrf 64 n m (by simpa using h)
def zAw {n m:Nat} (h:n<18446744073709551616):m<zbW n↔2 ^ m<=n:=by
 have:=zbo (m:=m) h;omega
def zp3 {n:Nat} (h:n<18446744073709551616):zbW n<=64:=(zbo h).2 (by simpa using h)
def zcP {n k:Nat} (h:n<18446744073709551616) (hk:2 ^ k<=n):zbW n=k+zbW (n / 2 ^ k):=by
 have hd:n / 2 ^ k<18446744073709551616:=ybR (ydU _ _) h;have hpos:=ybz k;have key: ∀m,zbW n<=k+m↔zbW (n / 2 ^ k)<=m:=λm=>by
  rw[zbo h,zbo hd,ybC,yb3 hpos,ybW]
 have h1:=(key (zbW (n / 2 ^ k))).2 (yaj _);have hgt:k<zbW n:=(zAw h).2 hk;have h2:=(key (zbW n - k)).1 (by omega)
 omega
set_option maxRecDepth 100000 in
def zsT (n:Nat) (hn:n<18446744073709551616):R 180 [.d (.int .u64 n)] []=some ([.d (.int .i64 (zbW n))],[]):=by
 refine rg zKi rfl ?_;intro T hT;generalize hs:ByteArray.mk _=tab;have htab: ∀m:Nat,m<256->tab[m]? =some (u8n (zbW m)):=by
  rw[<- hs];decide +kernel
 clear hs;have look: ∀ (m:Nat) (x:Int),m<256->x.toNat=m->tab[x.toNat]? =some (u8n (zbW m)):=λm x hm hx=>by rw[hx,htab m hm]
 have hb64:=zp3 hn
 by_cases h1:4294967296<=n
 ·have b1:=zcP (n:=n) (k:=32) (by omega) (by omega)
  simp only[Nat.reducePow]at b1;have h1':(4294967296:Int)<=(n:Int):=by omega
  by_cases h2:65536<=n / 4294967296
  ·have b2:=zcP (n:=n / 4294967296) (k:=16) (by omega) (by omega)
   simp only[Nat.reducePow]at b2;have h2':(65536:Int)<=(n:Int) / 4294967296:=by omega
   by_cases h3:256<=n / 4294967296 / 65536
   ·have b3:=zcP (n:=n / 4294967296 / 65536) (k:=8) (by omega) (by omega)
    simp only[Nat.reducePow]at b3;have h3':(256:Int)<=(n:Int) / 4294967296 / 65536:=by omega
    have hm:n / 4294967296 / 65536 / 256<256:=by omega
    have hm8:zbW (n / 4294967296 / 65536 / 256)<=8:=(zbo (by omega)).2 (by omega)
    have hl:=look (n / 4294967296 / 65536 / 256) ((n:Int) / 4294967296 / 65536 / 256 % 256) hm (by omega)
    have hbn:((zbW n:Nat):Int)=56+(zbW (n / 4294967296 / 65536 / 256):Nat):=by omega
    rw[hbn]at hT;generalize zbW (n / 4294967296 / 65536 / 256)=q at*;simp -dsimp -implicitDefEqProofs (disch:=omega) [zao,h1',h2',h3',hl]
    simpa -dsimp -implicitDefEqProofs (disch:=omega) using hT
   ·have h3': ¬ (256:Int)<=(n:Int) / 4294967296 / 65536:=by omega
    have hm:n / 4294967296 / 65536<256:=by omega
    have hm8:zbW (n / 4294967296 / 65536)<=8:=(zbo (by omega)).2 (by omega)
    have hl:=look (n / 4294967296 / 65536) ((n:Int) / 4294967296 / 65536 % 256) hm (by omega)
    have hbn:((zbW n:Nat):Int)=48+(zbW (n / 4294967296 / 65536):Nat):=by omega
    rw[hbn]at hT;generalize zbW (n / 4294967296 / 65536)=q at*;simp -dsimp -implicitDefEqProofs (disch:=omega) [zao,h1',h2',h3',hl]
    simpa -dsimp -implicitDefEqProofs (disch:=omega) using hT
  ·have h2': ¬ (65536:Int)<=(n:Int) / 4294967296:=by omega
   by_cases h3:256<=n / 4294967296
   ·have b3:=zcP (n:=n / 4294967296) (k:=8) (by omega) (by omega)
    simp only[Nat.reducePow]at b3;have h3':(256:Int)<=(n:Int) / 4294967296:=by omega
    have hm:n / 4294967296 / 256<256:=by omega
    have hm8:zbW (n / 4294967296 / 256)<=8:=(zbo (by omega)).2 (by omega)
    have hl:=look (n / 4294967296 / 256) ((n:Int) / 4294967296 / 256 % 256) hm (by omega)
    have hbn:((zbW n:Nat):Int)=40+(zbW (n / 4294967296 / 256):Nat):=by omega
    rw[hbn]at hT;generalize zbW (n / 4294967296 / 256)=q at*;simp -dsimp -implicitDefEqProofs (disch:=omega) [zao,h1',h2',h3',hl]
    simpa -dsimp -implicitDefEqProofs (disch:=omega) using hT
   ·have h3': ¬ (256:Int)<=(n:Int) / 4294967296:=by omega
    have hm:n / 4294967296<256:=by omega
    have hm8:zbW (n / 4294967296)<=8:=(zbo (by omega)).2 (by omega)
    have hl:=look (n / 4294967296) ((n:Int) / 4294967296 % 256) hm (by omega)
    have hbn:((zbW n:Nat):Int)=32+(zbW (n / 4294967296):Nat):=by omega
    rw[hbn]at hT;generalize zbW (n / 4294967296)=q at*;simp -dsimp -implicitDefEqProofs (disch:=omega) [zao,h1',h2',h3',hl]
    simpa -dsimp -implicitDefEqProofs (disch:=omega) using hT
 ·have h1': ¬ (4294967296:Int)<=(n:Int):=by omega
  by_cases h2:65536<=n
  ·have b2:=zcP (n:=n) (k:=16) (by omega) (by omega)
   simp only[Nat.reducePow]at b2;have h2':(65536:Int)<=(n:Int):=by omega
   by_cases h3:256<=n / 65536
   ·have b3:=zcP (n:=n / 65536) (k:=8) (by omega) (by omega)
    simp only[Nat.reducePow]at b3;have h3':(256:Int)<=(n:Int) / 65536:=by omega
    have hm:n / 65536 / 256<256:=by omega
    have hm8:zbW (n / 65536 / 256)<=8:=(zbo (by omega)).2 (by omega)
    have hl:=look (n / 65536 / 256) ((n:Int) / 65536 / 256 % 256) hm (by omega)
    have hbn:((zbW n:Nat):Int)=24+(zbW (n / 65536 / 256):Nat):=by omega
    rw[hbn]at hT;generalize zbW (n / 65536 / 256)=q at*;simp -dsimp -implicitDefEqProofs (disch:=omega) [zao,h1',h2',h3',hl]
    simpa -dsimp -implicitDefEqProofs (disch:=omega) using hT
   ·have h3': ¬ (256:Int)<=(n:Int) / 65536:=by omega
    have hm:n / 65536<256:=by omega
    have hm8:zbW (n / 65536)<=8:=(zbo (by omega)).2 (by omega)
    have hl:=look (n / 65536) ((n:Int) / 65536 % 256) hm (by omega)
    have hbn:((zbW n:Nat):Int)=16+(zbW (n / 65536):Nat):=by omega
    rw[hbn]at hT;generalize zbW (n / 65536)=q at*;simp -dsimp -implicitDefEqProofs (disch:=omega) [zao,h1',h2',h3',hl]
    simpa -dsimp -implicitDefEqProofs (disch:=omega) using hT
  ·have h2': ¬ (65536:Int)<=(n:Int):=by omega
   by_cases h3:256<=n
   ·have b3:=zcP (n:=n) (k:=8) (by omega) (by omega)
    simp only[Nat.reducePow]at b3;have h3':(256:Int)<=(n:Int):=by omega
    have hm:n / 256<256:=by omega
    have hm8:zbW (n / 256)<=8:=(zbo (by omega)).2 (by omega)
    have hl:=look (n / 256) ((n:Int) / 256 % 256) hm (by omega)
    have hbn:((zbW n:Nat):Int)=8+(zbW (n / 256):Nat):=by omega
    rw[hbn]at hT;generalize zbW (n / 256)=q at*;simp -dsimp -implicitDefEqProofs (disch:=omega) [zao,h1',h2',h3',hl]
    simpa -dsimp -implicitDefEqProofs (disch:=omega) using hT
   ·have h3': ¬ (256:Int)<=(n:Int):=by omega
    have hm:n<256:=by omega
    have hm8:zbW (n)<=8:=(zbo (by omega)).2 (by omega)
    have hl:=look (n) ((n:Int) % 256) hm (by omega)
    have hl2:tab[n % 256]? =some (u8n (zbW n)):=by rw[yaK hm,htab n hm]
    have hbn:((zbW n:Nat):Int)=0+(zbW (n):Nat):=by omega
    rw[hbn]at hT;generalize zbW (n)=q at*;simp -dsimp -implicitDefEqProofs (disch:=omega) [zao,h1',h2',h3',hl2]
    simpa -dsimp -implicitDefEqProofs (disch:=omega) using hT
def zAx {a b m:Nat}:a ||| b<2 ^ m↔a<2 ^ m/\b<2 ^ m:=by
 constructor
 ·intro h
  exact⟨ybR Nat.left_le_or h,ybR Nat.right_le_or h⟩
 ·rintro ⟨h1,h2⟩
  exact yc3 h1 h2
def zuX {a b:Nat} (ha:a<18446744073709551616) (hb:b<18446744073709551616):a ||| b<18446744073709551616:=by
 have:=(zAx (m:=64) (a:=a) (b:=b)).2 ⟨by omega,by omega⟩
 omega
def zAy {a b:Nat} (ha:a<18446744073709551616) (hb:b<18446744073709551616):zbW (a ||| b)=max (zbW a) (zbW b):=by
 have hab:a ||| b<18446744073709551616:=zuX ha hb;have key: ∀m,zbW (a ||| b)<=m↔max (zbW a) (zbW b)<=m:=λm=>by
  rw[zbo hab,zAx,<- zbo ha,<- zbo hb];omega
 have h1:=(key (max (zbW a) (zbW b))).2 (yaj _);have h2:=(key (zbW (a ||| b))).1 (yaj _);omega
def zcM (l:List Nat):Nat:=l.foldl (λw n=>max w (zbW n)) 0
def zsU (l:List Nat) (n:Nat):zcM (l++[n])=max (zcM l) (zbW n):=by simp[zcM]
def zcQ {l:List Nat} (hl: ∀n∈l,n<18446744073709551616):zcM l<=64:=by
 unfold zcM;have: ∀ (l:List Nat) (w:Nat),w<=64->(∀n∈l,n<18446744073709551616)->l.foldl (λw n=>max w (zbW n)) w<=64:=by
  intro l
  induction l with
  |nil=>intro w h _;simpa using h
  |cons n l ih=>
   intro w h hn;simp only[ybc];exact ih _ (by have:=zp3 (hn n (by simp));omega) λm hm=>hn m (by simp[hm])
 exact this l 0 (by decide) hl
def zaN {α:Type} {l:List α} {i:Nat} (h:i<l.length):l.take (i+1)=l.take i++[l[i]]:=ya3 h
abbrev zBP (l:List Nat):D:= .list (l.map λ(n:Nat)=>D.int .u64 (n:Int))
def zfp (l:List Nat) (hl: ∀n∈l,n<18446744073709551616) (hn:l.length<4611686018427387904):R 158 [.d (zBP l)] []=some ([.d (.int .i64 (zcM l))],[]):=by
 refine rg zKb rfl ?_;intro T hT;simp -dsimp -implicitDefEqProofs (disch:=omega)
 generalize hz:zaf _ _ _ _ _ _=z;revert z;refine zaa (σ:=Nat × Nat) (λx=>[(3,.d (.int .u64 x.2)),(6,.d (zBP l)),(7,.d (.int .i64 l.length)),(8,.d (.int .i64 x.1))]) (λx=>[]) (λx=>x.1<=l.length/\x.2<18446744073709551616/\zbW x.2=zcM (l.take x.1)) (λx=>l.length - x.1) (0,0) ?_ ?_ ?_
 ·simp[zcM,zbW,zsS]
 ·simp
 intro T' f hT' ⟨i,a⟩ ⟨hi,ha,hw⟩ ih;simp only at hi ha hw ih
 by_cases h1:i<l.length
 ·have hb:=hl l[i] (by simp)
  have hab:a ||| l[i]<18446744073709551616:=zuX ha hb;simp -dsimp -implicitDefEqProofs (disch:=omega) [h1]
  refine ih (i+1,a ||| l[i]) _ _ ⟨h1,hab, ?_⟩ (by simp only;omega) (by simp -dsimp -implicitDefEqProofs (disch:=omega))
  simp only;rw[zAy ha hb,zaN h1,zsU,hw]
 ·rw[yaA (by omega)]at hw
  have hlen:=zsT a ha;rw[hw]at hlen;subst hT';simp -dsimp -implicitDefEqProofs (disch:=omega) [h1]
  simp -dsimp -implicitDefEqProofs (disch:=omega) [hlen]
  simpa -dsimp -implicitDefEqProofs (disch:=omega) using hT
end Go.Am.Ab
namespace Go.Am.Ab
open Go.Proofs
set_option maxHeartbeats 4000000
def le:Nat->Nat->List UInt8
 |0,_=>[]
 |k+1,n=>u8n (n % 256)::le k (n / 256)
@[simp] def zjY: ∀k n,(le k n).length=k
 |0,_=>rfl
 |k+1,n=>by simp[le,zjY k]
def zuY: ∀k,le k 0=List.replicate k (u8n 0)
 |0=>rfl
 |k+1=>by simp[le,zuY k,yaR]
def zzs: ∀ (k n q:Nat),q<k->(le k n)[q]? =some (u8n (n / 256 ^ q % 256))
 |0,_,_,h=>by omega
 |k+1,n,0,_=>by simp[le]
 |k+1,n,q+1,h=>by
  simp only[le,ybs];rw[zzs k (n / 256) q (by omega),ybH,<- Nat.pow_succ']
def zzt: ∀ (k n q v:Nat),q<k->n / 256 ^ q % 256+v<256->(le k n).set q (u8n (n / 256 ^ q % 256+v))=le k (n+v*256 ^ q)
 |0,_,_,_,h,_=>by omega
 |k+1,n,0,v,_,hv=>by
  simp only[Nat.pow_zero,Nat.div_one,yb9]at hv ⊢;simp only[le,ycW];rw[show (n+v) % 256=n % 256+v by omega,show (n+v) / 256=n / 256 by omega]
 |k+1,n,q+1,v,h,hv=>by
  have e:n / 256 ^ (q+1)=n / 256 / 256 ^ q:=by rw[ybH,<- Nat.pow_succ']
  rw[e]at hv ⊢;simp only[le,List.set_cons_succ];rw[zzt k (n / 256) q v (by omega) hv]
  have e2:v*256 ^ (q+1)=256*(v*256 ^ q):=by rw[ycP,<- ydJ,ybW]
  rw[e2,ydD,Nat.add_mul_div_left _ _ (by decide)]
def zcN (w:Nat):List Nat->Nat
 |[]=>0
 |n::r=>n+2 ^ w*zcN w r
def zlH (w:Nat): ∀ (a:List Nat) (n:Nat),zcN w (a++[n])=zcN w a+n*2 ^ (a.length*w)
 |[],n=>by simp[zcN]
 |m::a,n=>by
  simp only[ya9,zcN,zlH w a n,yaf,ya8,ycw,ybC,ycM];rw[ybW (2 ^ (a.length*w)) (2 ^ w),Nat.mul_left_comm,yaY]
def zmH (w:Nat): ∀ (a:List Nat),(∀n∈a,n<2 ^ w)->zcN w a<2 ^ (a.length*w)
 |[],_=>by simp[zcN]
 |m::a,h=>by
  have h1:=h m (by simp)
  have h2:=zmH w a λn hn=>h n (by simp[hn])
  simp only[zcN,yaf,ya8,ycw,ybC];have:2 ^ w*(zcN w a+1)<=2 ^ w*2 ^ (a.length*w):=Nat.mul_le_mul_left _ h2;rw[ycM,yb9]at this;rw[ybW (2 ^ (a.length*w))];omega
def zbB (w:Nat) (l:List Nat):List UInt8:=le ((l.length*w+7) / 8) (zcN w l)
def zg1 {l:List Nat} {w:Nat} (hl: ∀n∈l,n<18446744073709551616) (h:zcM l<=w): ∀n∈l,n<2 ^ w:=by
 have: ∀ (l:List Nat) (a:Nat),(∀n∈l,n<18446744073709551616)->l.foldl (λw n=>max w (zbW n)) a<=w->a<=w/\ ∀n∈l,n<2 ^ w:=by
  intro l
  induction l with
  |nil=>intro a _ h;exact⟨by simpa using h,by simp⟩
  |cons n l ih=>
   intro a hn h;simp only[ybc]at h;obtain⟨h1,h2⟩:=ih _ (λm hm=>hn m (by simp[hm])) h
   refine⟨by omega,λm hm=> ?_⟩
   rcases List.mem_cons.1 hm with rfl | hm
   ·exact (zbo (hn m (by simp))).1 (by omega)
   ·exact h2 m hm
 exact (this l 0 hl h).2
def zuZ {M n k room q r at' size:Nat} (hat:at'=8*q+r) (hr:r<8) (hroom:room+r<=8) (hM:M<2 ^ at') (hq:q<size):
 (le size M)[q]? =some (u8n (M / 256 ^ q % 256))/\M / 256 ^ q % 256<2 ^ r/\n / 2 ^ k % 2 ^ room*2 ^ r<256/\(M / 256 ^ q % 256 ||| n / 2 ^ k % 2 ^ room*2 ^ r)=M / 256 ^ q % 256+n / 2 ^ k % 2 ^ room*2 ^ r/\
 (le size M).set q (u8n (M / 256 ^ q % 256+n / 2 ^ k % 2 ^ room*2 ^ r))=le size (M+n / 2 ^ k % 2 ^ room*2 ^ at'):=by
 have h256:256 ^ q=2 ^ (8*q):=by rw[show 256=2 ^ 8 from rfl,<- ydK]
 have hlow:M / 256 ^ q<2 ^ r:=by
  rw[h256,yb3 (ybz _),<- ybC,yb4,<- hat];exact hM
 have h8:2 ^ r<=2 ^ 8:=yby (by decide) (by omega)
 have hmod:M / 256 ^ q % 256=M / 256 ^ q:=yaK (by omega)
 have hp:n / 2 ^ k % 2 ^ room<2 ^ room:=ycC _ (ybz _);have hpr:n / 2 ^ k % 2 ^ room*2 ^ r+2 ^ r<=2 ^ (room+r):=by
  rw[ybC,<- ydx];exact yaG _ hp
 have h9:2 ^ (room+r)<=2 ^ 8:=yby (by decide) hroom
 refine⟨zzs _ _ _ hq,by rw[hmod];exact hlow,by omega, ?_, ?_⟩
 ·rw[hmod];exact zgf (i:=r) (ydh _ _) hlow
 ·rw[zzt _ _ _ _ hq (by rw[hmod];omega),h256,ydJ,<- ybC,yb4 r,<- hat]
def zrg (n k room:Nat):n % 2 ^ k+n / 2 ^ k % 2 ^ room*2 ^ k=n % 2 ^ (k+room):=by
 rw[ybC,Nat.mod_mul,ybW]
def zrh (l:List Nat) (w:Nat) (hl: ∀n∈l,n<18446744073709551616) (hw64:w<=64) (hn:l.length<=256) (hwd:zcM l<=w):
 R 126 [.d (zBP l),.d (.int .i64 w)] []=some ([.arr 0 (zbB w l).length,.d (.bool true)],[.arr 1 (bytes (zbB w l)) 0]):=by
 have hw:=zfp l hl (by omega)
 have hlt:=zg1 hl hwd;have a1: ¬ (w:Int)<0:=by omega
 have a2: ¬ (64:Int)<w:=by omega
 have a3: ¬ (256:Int)<l.length:=by omega
 have a4: ¬ (w:Int)<zcM l:=by omega
 obtain⟨sz,hsz⟩: ∃sz,sz=(l.length*w+7) / 8:=⟨_,rfl⟩;obtain⟨lw,hlw⟩: ∃lw:Nat,lw=l.length*w:=⟨_,rfl⟩;have hlw':lw<=256*64:=by rw[hlw];exact ybA hn hw64
 have hlwi:(l.length:Int)*w=lw:=by rw[hlw,ybt]
 have hszi:((lw:Int)+7) / 8=sz:=by rw[hsz,<- hlw];omega
 have hszt:(((lw:Int)+7) / 8).toNat=sz:=by rw[hszi];simp
 rw[<- hlw]at hsz;unfold zbB;rw[<- hlw,<- hsz];refine rg zJ0 rfl ?_;intro T hT;simp -dsimp -implicitDefEqProofs (disch:=omega) [hw,a1,a2,a3,a4,hlwi,hszi]
 generalize hz:zaf _ _ _ _ _ _=z;revert z;refine zaa (σ:=Nat) (λi=>[(1,.d (.int .i64 w)),(6,.arr 0 sz),(36,.d (zBP l)),(37,.d (.int .i64 l.length)),(38,.d (.int .i64 i))]) (λi=>[.arr 1 (bytes (le sz (zcN w (l.take i)))) 0]) (λi=>i<=l.length) (λi=>l.length - i) 0 ?_ ?_ ?_
 ·simp
 ·simp -dsimp -implicitDefEqProofs (disch:=omega) [hszi,zcN,zuY]
 intro T' f hT' i hi ih
 by_cases h1:i<l.length
 ·have hb:=hl l[i] (by simp)
  have hb2:=hlt l[i] (by simp)
  obtain⟨iw,hiw⟩: ∃iw:Nat,iw=i*w:=⟨_,rfl⟩;have hiwi:(i:Int)*w=iw:=by rw[hiw,ybt]
  have hiwl:iw+w<=lw:=by
   have:(i+1)*w<=l.length*w:=yaG _ h1;rw[ya8]at this;omega
  have hM0:zcN w (l.take i)<2 ^ iw:=by
   have:=zmH w (l.take i) λn h=>hlt n (yaH h)
   rwa [yaq,ybM hi,<- hiw]at this
  have hnext:zcN w (l.take (i+1))=zcN w (l.take i)+l[i]*2 ^ iw:=by rw[zaN h1,zlH,yaq,ybM hi,<- hiw]
  simp -dsimp -implicitDefEqProofs (disch:=omega) [h1]
  generalize hz:zaf _ _ _ _ _ _=z;revert z;refine zaa (σ:=Nat) (λk=>[(1,.d (.int .i64 w)),(6,.arr 0 sz),(7,.d (.int .i64 i)),(8,.d (.int .u64 l[i])),(9,.d (.int .i64 k)),(36,.d (zBP l)),(37,.d (.int .i64 l.length)),(38,.d (.int .i64 i))]) (λk=>[.arr 1 (bytes (le sz (zcN w (l.take i)+l[i] % 2 ^ k*2 ^ iw))) 0]) (λk=>k<=w) (λk=>w - k) 0 ?_ ?_ ?_
  ·simp
  ·simp[Nat.mod_one]
  intro T2 f2 hT2 k hk ih2
  by_cases h2:k<w
  ·have h2':(k:Int)<w:=by omega
   obtain⟨room,hroom⟩: ∃room,room=min (8 - (iw+k) % 8) (w - k):=⟨_,rfl⟩;have hM:zcN w (l.take i)+l[i] % 2 ^ k*2 ^ iw<2 ^ (iw+k):=by
    have:l[i] % 2 ^ k<2 ^ k:=ycC _ (ybz _);have:(l[i] % 2 ^ k+1)*2 ^ iw<=2 ^ k*2 ^ iw:=yaG _ this;rw[ya8,ycw]at this;rw[ybC,ybW (2 ^ iw)];omega
   obtain⟨r,hr⟩: ∃r,r=(iw+k) % 8:=⟨_,rfl⟩;obtain⟨q,hq⟩: ∃q,q=(iw+k) / 8:=⟨_,rfl⟩;rw[<- hr]at hroom;have hroom8:room+r<=8:=by omega
   obtain⟨s1,s2,s3,s4,s5⟩:=zuZ (n:=l[i]) (k:=k) (room:=room) (q:=q) (r:=r) (size:=sz) (at':=iw+k) (by omega) (by omega) hroom8 hM (by omega)
   have hstep:=zrg l[i] k room;have hdlt:l[i] / 2 ^ k<18446744073709551616:=ybR (ydU _ _) hb;have hdi:(l[i]:Int) / 2 ^ k=((l[i] / 2 ^ k:Nat):Int):=by rw[ydi,yb6];rfl
   obtain⟨d,hd⟩: ∃d,d=l[i] / 2 ^ k:=⟨_,rfl⟩;obtain⟨pw,hpw⟩: ∃pw,pw=2 ^ room:=⟨_,rfl⟩;have hpwi:(2:Int) ^ room=pw:=by rw[hpw,yb6];rfl
   have hpw1:1<=pw:=by rw[hpw];exact ybz _
   have hpw8:pw<=256:=by rw[hpw];exact (yby (by decide) (by omega:room<=8):2 ^ room<=2 ^ 8)
   obtain⟨mk,hmk⟩: ∃mk,mk=pw - 1:=⟨_,rfl⟩;have hmki:IntKind.u64.wrap (IntKind.u64.wrap (pw:Int) - 1)=mk:=by rw[zai,zai];omega
   have hand:d &&& mk=d % 2 ^ room:=by rw[hmk,hpw];exact zg0 d room
   obtain⟨v,hv⟩: ∃v,v=d % 2 ^ room:=⟨_,rfl⟩;obtain⟨m0,hm0⟩: ∃m0,m0=(zcN w (l.take i)+l[i] % 2 ^ k*2 ^ iw) / 256 ^ q % 256:=⟨_,rfl⟩;rw[<- hd,<- hv,<- hm0]at s4 s5;rw[<- hd,<- hv]at s3 hstep;rw[<- hm0]at s1 s2;rw[<- hd]at hdi hdlt;rw[<- hv]at hand;obtain⟨vr,hvr⟩: ∃vr,vr=v*2 ^ r:=⟨_,rfl⟩;rw[<- hvr]at s3 s4 s5;have hvri:(v:Int)*2 ^ r=vr:=by rw[hvr,ybt,yb6];rfl
   have hv256:v<256:=by rw[hv,<- hpw];have:=ycC d hpw1;omega
   have hm256:m0<256:=by rw[hm0];exact ycC _ (by decide)
   have q0:((iw:Int)+k) % 8=r:=by omega
   have q1:(((iw:Int)+k) / 8).toNat=q:=by omega
   have q2:(if (w:Int) - k<8 - r then (w:Int) - k else 8 - r)=(room:Int):=by split <;> omega
   have q4:min r 8=r:=by omega
   have q5:min k 64=k:=by omega
   have q6:min room 64=room:=by omega
   have hv256':(v:Int) % 256=v:=by omega
   have hvr256':(vr:Int) % 256=vr:=by omega
   obtain⟨mv,hmv⟩: ∃mv,mv=m0+vr:=⟨_,rfl⟩;rw[<- hmv]at s4 s5;have hmv256:mv<256:=by
    have:m0 ||| vr<2 ^ 8:=zAx.2 ⟨by omega,by omega⟩
    omega
   have hset:(bytes (le sz (zcN w (l.take i)+l[i] % 2 ^ k*2 ^ iw))).set q (.int .u8 (mv:Int))=bytes (le sz (zcN w (l.take i)+l[i] % 2 ^ (k+room)*2 ^ iw)):=by
    have e:zcN w (l.take i)+l[i] % 2 ^ k*2 ^ iw+v*2 ^ (iw+k)=zcN w (l.take i)+l[i] % 2 ^ (k+room)*2 ^ iw:=by
     rw[<- hstep,ya8,ydJ,<- ybC,yb4 k,yaY]
    rw[e]at s5;rw[<- s5];unfold bytes;rw[yce];congr 1;simp[zbh,zdo hmv256]
   simp -dsimp -implicitDefEqProofs (disch:=omega) [h2',hiwi,q1,q0,q2,q4,q5,q6,s1,hpwi,hmki,hdi,hand,hvri,s4,hm256,hv256,s3,hv256',hvr256',hset]
   have hr1:1<=room:=by omega
   have hr2:k+room<=w:=by omega
   exact ih2 (k+room) _ _ hr2 (by omega) (by simp -dsimp -implicitDefEqProofs (disch:=omega))
  ·obtain rfl:k=w:=by omega
   have h2': ¬ (k:Int)<k:=by omega
   have hmod:l[i] % 2 ^ k=l[i]:=yaK hb2;subst hT2;simp -dsimp -implicitDefEqProofs (disch:=omega) [h2',hmod]
   rw[<- hnext];exact ih (i+1) _ _ h1 (by omega) (by simp -dsimp -implicitDefEqProofs (disch:=omega))
 ·rw[yaA (by omega)]
  subst hT';simp -dsimp -implicitDefEqProofs (disch:=omega) [h1]
  simpa -dsimp -implicitDefEqProofs (disch:=omega) using hT
end Go.Am.Ab
namespace Go.Am.Ab
open Go.Proofs
set_option maxHeartbeats 4000000
end Go.Am.Ab
