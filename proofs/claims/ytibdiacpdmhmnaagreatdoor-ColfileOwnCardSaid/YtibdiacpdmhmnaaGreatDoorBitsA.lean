/- Widths, and the packing of numbers. -/
import Derived.Test.YtibdiacpdmhmnaaGreatDoorBase
set_option linter.all false
namespace Go.Am.Ab
open Go.Proofs
set_option maxHeartbeats 4000000
def zsh:Nat->Nat->Nat
 |0,_=>0
 |k+1,n=>if n=0 then 0 else zsh k (n / 2)+1
def zbZ (n:Nat):Nat:=zsh 64 n
def zqG: ∀ (k n m:Nat),n<2 ^ k->(zsh k n<=m↔n<2 ^ m)
 |0,n,m,h=>by
  have:n=0:=by omega
  subst this;have:=ybx m;simpa[zsh]using this
 |k+1,n,m,h=>by
  rw[zsh]
  by_cases h0:n=0
  ·subst h0
   have:=ybx m;simpa using this
  ·rw[yaf h0]
   cases m with
   |zero=>simp;omega
   |succ m=>
    have ih:=zqG k (n / 2) m (by rw[ycP]at h;omega)
    rw[ycP];omega
def zbn {n m:Nat} (h:n<18446744073709551616):zbZ n<=m↔n<2 ^ m:=zqG 64 n m (by simpa using h)
def zzF {n m:Nat} (h:n<18446744073709551616):m<zbZ n↔2 ^ m<=n:=by
 have:=zbn (m:=m) h;omega
def zpu {n:Nat} (h:n<18446744073709551616):zbZ n<=64:=(zbn h).2 (by simpa using h)
def zcL {n k:Nat} (h:n<18446744073709551616) (hk:2 ^ k<=n):zbZ n=k+zbZ (n / 2 ^ k):=by
 have hd:n / 2 ^ k<18446744073709551616:=ybP (ydX _ _) h;have hpos:=ybx k;have key: ∀m,zbZ n<=k+m↔zbZ (n / 2 ^ k)<=m:=λm=>by
  rw[zbn h,zbn hd,ybB,yb3 hpos,ybX]
 have h1:=(key (zbZ (n / 2 ^ k))).2 (yag _);have hgt:k<zbZ n:=(zzF h).2 hk;have h2:=(key (zbZ n - k)).1 (by omega)
 omega
set_option maxRecDepth 100000 in
def zsi (n:Nat) (hn:n<18446744073709551616):R 180 [.d (.int .u64 n)] []=some ([.d (.int .i64 (zbZ n))],[]):=by
 refine rg zIw rfl ?_;intro T hT;generalize hs:ByteArray.mk _=tab;have htab: ∀m:Nat,m<256->tab[m]? =some (u8n (zbZ m)):=by
  rw[<- hs];decide +kernel
 clear hs;have look: ∀ (m:Nat) (x:Int),m<256->x.toNat=m->tab[x.toNat]? =some (u8n (zbZ m)):=λm x hm hx=>by rw[hx,htab m hm]
 have hb64:=zpu hn
 by_cases h1:4294967296<=n
 ·have b1:=zcL (n:=n) (k:=32) (by omega) (by omega)
  simp only[Nat.reducePow]at b1;have h1':(4294967296:Int)<=(n:Int):=by omega
  by_cases h2:65536<=n / 4294967296
  ·have b2:=zcL (n:=n / 4294967296) (k:=16) (by omega) (by omega)
   simp only[Nat.reducePow]at b2;have h2':(65536:Int)<=(n:Int) / 4294967296:=by omega
   by_cases h3:256<=n / 4294967296 / 65536
   ·have b3:=zcL (n:=n / 4294967296 / 65536) (k:=8) (by omega) (by omega)
    simp only[Nat.reducePow]at b3;have h3':(256:Int)<=(n:Int) / 4294967296 / 65536:=by omega
    have hm:n / 4294967296 / 65536 / 256<256:=by omega
    have hm8:zbZ (n / 4294967296 / 65536 / 256)<=8:=(zbn (by omega)).2 (by omega)
    have hl:=look (n / 4294967296 / 65536 / 256) ((n:Int) / 4294967296 / 65536 / 256 % 256) hm (by omega)
    have hbn:((zbZ n:Nat):Int)=56+(zbZ (n / 4294967296 / 65536 / 256):Nat):=by omega
    rw[hbn]at hT;generalize zbZ (n / 4294967296 / 65536 / 256)=q at*;simp -dsimp -implicitDefEqProofs (disch:=first|omega|assumption) [zaq,h1',h2',h3',hl]
    simpa -dsimp -implicitDefEqProofs (disch:=first|omega|assumption) using hT
   ·have h3': ¬ (256:Int)<=(n:Int) / 4294967296 / 65536:=by omega
    have hm:n / 4294967296 / 65536<256:=by omega
    have hm8:zbZ (n / 4294967296 / 65536)<=8:=(zbn (by omega)).2 (by omega)
    have hl:=look (n / 4294967296 / 65536) ((n:Int) / 4294967296 / 65536 % 256) hm (by omega)
    have hbn:((zbZ n:Nat):Int)=48+(zbZ (n / 4294967296 / 65536):Nat):=by omega
    rw[hbn]at hT;generalize zbZ (n / 4294967296 / 65536)=q at*;simp -dsimp -implicitDefEqProofs (disch:=first|omega|assumption) [zaq,h1',h2',h3',hl]
    simpa -dsimp -implicitDefEqProofs (disch:=first|omega|assumption) using hT
  ·have h2': ¬ (65536:Int)<=(n:Int) / 4294967296:=by omega
   by_cases h3:256<=n / 4294967296
   ·have b3:=zcL (n:=n / 4294967296) (k:=8) (by omega) (by omega)
    simp only[Nat.reducePow]at b3;have h3':(256:Int)<=(n:Int) / 4294967296:=by omega
    have hm:n / 4294967296 / 256<256:=by omega
    have hm8:zbZ (n / 4294967296 / 256)<=8:=(zbn (by omega)).2 (by omega)
    have hl:=look (n / 4294967296 / 256) ((n:Int) / 4294967296 / 256 % 256) hm (by omega)
    have hbn:((zbZ n:Nat):Int)=40+(zbZ (n / 4294967296 / 256):Nat):=by omega
    rw[hbn]at hT;generalize zbZ (n / 4294967296 / 256)=q at*;simp -dsimp -implicitDefEqProofs (disch:=first|omega|assumption) [zaq,h1',h2',h3',hl]
    simpa -dsimp -implicitDefEqProofs (disch:=first|omega|assumption) using hT
   ·have h3': ¬ (256:Int)<=(n:Int) / 4294967296:=by omega
    have hm:n / 4294967296<256:=by omega
    have hm8:zbZ (n / 4294967296)<=8:=(zbn (by omega)).2 (by omega)
    have hl:=look (n / 4294967296) ((n:Int) / 4294967296 % 256) hm (by omega)
    have hbn:((zbZ n:Nat):Int)=32+(zbZ (n / 4294967296):Nat):=by omega
    rw[hbn]at hT;generalize zbZ (n / 4294967296)=q at*;simp -dsimp -implicitDefEqProofs (disch:=first|omega|assumption) [zaq,h1',h2',h3',hl]
    simpa -dsimp -implicitDefEqProofs (disch:=first|omega|assumption) using hT
 ·have h1': ¬ (4294967296:Int)<=(n:Int):=by omega
  by_cases h2:65536<=n
  ·have b2:=zcL (n:=n) (k:=16) (by omega) (by omega)
   simp only[Nat.reducePow]at b2;have h2':(65536:Int)<=(n:Int):=by omega
   by_cases h3:256<=n / 65536
   ·have b3:=zcL (n:=n / 65536) (k:=8) (by omega) (by omega)
    simp only[Nat.reducePow]at b3;have h3':(256:Int)<=(n:Int) / 65536:=by omega
    have hm:n / 65536 / 256<256:=by omega
    have hm8:zbZ (n / 65536 / 256)<=8:=(zbn (by omega)).2 (by omega)
    have hl:=look (n / 65536 / 256) ((n:Int) / 65536 / 256 % 256) hm (by omega)
    have hbn:((zbZ n:Nat):Int)=24+(zbZ (n / 65536 / 256):Nat):=by omega
    rw[hbn]at hT;generalize zbZ (n / 65536 / 256)=q at*;simp -dsimp -implicitDefEqProofs (disch:=first|omega|assumption) [zaq,h1',h2',h3',hl]
    simpa -dsimp -implicitDefEqProofs (disch:=first|omega|assumption) using hT
   ·have h3': ¬ (256:Int)<=(n:Int) / 65536:=by omega
    have hm:n / 65536<256:=by omega
    have hm8:zbZ (n / 65536)<=8:=(zbn (by omega)).2 (by omega)
    have hl:=look (n / 65536) ((n:Int) / 65536 % 256) hm (by omega)
    have hbn:((zbZ n:Nat):Int)=16+(zbZ (n / 65536):Nat):=by omega
    rw[hbn]at hT;generalize zbZ (n / 65536)=q at*;simp -dsimp -implicitDefEqProofs (disch:=first|omega|assumption) [zaq,h1',h2',h3',hl]
    simpa -dsimp -implicitDefEqProofs (disch:=first|omega|assumption) using hT
  ·have h2': ¬ (65536:Int)<=(n:Int):=by omega
   by_cases h3:256<=n
   ·have b3:=zcL (n:=n) (k:=8) (by omega) (by omega)
    simp only[Nat.reducePow]at b3;have h3':(256:Int)<=(n:Int):=by omega
    have hm:n / 256<256:=by omega
    have hm8:zbZ (n / 256)<=8:=(zbn (by omega)).2 (by omega)
    have hl:=look (n / 256) ((n:Int) / 256 % 256) hm (by omega)
    have hbn:((zbZ n:Nat):Int)=8+(zbZ (n / 256):Nat):=by omega
    rw[hbn]at hT;generalize zbZ (n / 256)=q at*;simp -dsimp -implicitDefEqProofs (disch:=first|omega|assumption) [zaq,h1',h2',h3',hl]
    simpa -dsimp -implicitDefEqProofs (disch:=first|omega|assumption) using hT
   ·have h3': ¬ (256:Int)<=(n:Int):=by omega
    have hm:n<256:=by omega
    have hm8:zbZ (n)<=8:=(zbn (by omega)).2 (by omega)
    have hl:=look (n) ((n:Int) % 256) hm (by omega)
    have hl2:tab[n % 256]? =some (u8n (zbZ n)):=by rw[yaJ hm,htab n hm]
    have hbn:((zbZ n:Nat):Int)=0+(zbZ (n):Nat):=by omega
    rw[hbn]at hT;generalize zbZ (n)=q at*;simp -dsimp -implicitDefEqProofs (disch:=first|omega|assumption) [zaq,h1',h2',h3',hl2]
    simpa -dsimp -implicitDefEqProofs (disch:=first|omega|assumption) using hT
def zzG {a b m:Nat}:a ||| b<2 ^ m↔a<2 ^ m/\b<2 ^ m:=by
 constructor
 ·intro h
  exact⟨ybP Nat.left_le_or h,ybP Nat.right_le_or h⟩
 ·rintro ⟨h1,h2⟩
  exact yc2 h1 h2
def zui {a b:Nat} (ha:a<18446744073709551616) (hb:b<18446744073709551616):a ||| b<18446744073709551616:=by
 have:=(zzG (m:=64) (a:=a) (b:=b)).2 ⟨by omega,by omega⟩
 omega
def zzH {a b:Nat} (ha:a<18446744073709551616) (hb:b<18446744073709551616):zbZ (a ||| b)=max (zbZ a) (zbZ b):=by
 have hab:a ||| b<18446744073709551616:=zui ha hb;have key: ∀m,zbZ (a ||| b)<=m↔max (zbZ a) (zbZ b)<=m:=λm=>by
  rw[zbn hab,zzG,<- zbn ha,<- zbn hb];omega
 have h1:=(key (max (zbZ a) (zbZ b))).2 (yag _);have h2:=(key (zbZ (a ||| b))).1 (yag _);omega
def zcI (l:List Nat):Nat:=l.foldl (λw n=>max w (zbZ n)) 0
def zsj (l:List Nat) (n:Nat):zcI (l++[n])=max (zcI l) (zbZ n):=by simp[zcI]
def zcM {l:List Nat} (hl: ∀n∈l,n<18446744073709551616):zcI l<=64:=by
 unfold zcI;have: ∀ (l:List Nat) (w:Nat),w<=64->(∀n∈l,n<18446744073709551616)->l.foldl (λw n=>max w (zbZ n)) w<=64:=by
  intro l
  induction l with
  |nil=>intro w h _;simpa using h
  |cons n l ih=>
   intro w h hn;simp only[yba];exact ih _ (by have:=zpu (hn n (by simp));omega) λm hm=>hn m (by simp[hm])
 exact this l 0 (by decide) hl
def zaM {α:Type} {l:List α} {i:Nat} (h:i<l.length):l.take (i+1)=l.take i++[l[i]]:=ybj h
abbrev zA0 (l:List Nat):D:= .list (l.map λ(n:Nat)=>D.int .u64 (n:Int))
def zfl (l:List Nat) (hl: ∀n∈l,n<18446744073709551616) (hn:l.length<4611686018427387904):R 158 [.d (zA0 l)] []=some ([.d (.int .i64 (zcI l))],[]):=by
 refine rg zIp rfl ?_;intro T hT;simp -dsimp -implicitDefEqProofs (disch:=first|omega|assumption)
 generalize hz:zak _ _ _ _ _ _=z;revert z;refine zaa (σ:=Nat × Nat) (λx=>[(3,.d (.int .u64 x.2)),(6,.d (zA0 l)),(7,.d (.int .i64 l.length)),(8,.d (.int .i64 x.1))]) (λx=>[]) (λx=>x.1<=l.length/\x.2<18446744073709551616/\zbZ x.2=zcI (l.take x.1)) (λx=>l.length - x.1) (0,0) ?_ ?_ ?_
 ·simp[zcI,zbZ,zsh]
 ·simp
 intro T' f hT' ⟨i,a⟩ ⟨hi,ha,hw⟩ ih;simp only at hi ha hw ih
 by_cases h1:i<l.length
 ·have hb:=hl l[i] (by simp)
  have hab:a ||| l[i]<18446744073709551616:=zui ha hb;simp -dsimp -implicitDefEqProofs (disch:=first|omega|assumption) [h1]
  refine ih (i+1,a ||| l[i]) _ _ ⟨h1,hab, ?_⟩ (by simp only;omega) (by simp -dsimp -implicitDefEqProofs (disch:=first|omega|assumption))
  simp only;rw[zzH ha hb,zaM h1,zsj,hw]
 ·rw[yaB (by omega)]at hw
  have hlen:=zsi a ha;rw[hw]at hlen;subst hT';simp -dsimp -implicitDefEqProofs (disch:=first|omega|assumption) [h1]
  simp -dsimp -implicitDefEqProofs (disch:=first|omega|assumption) [hlen]
  simpa -dsimp -implicitDefEqProofs (disch:=first|omega|assumption) using hT
end Go.Am.Ab
namespace Go.Am.Ab
open Go.Proofs
set_option maxHeartbeats 4000000
def le:Nat->Nat->List UInt8
 |0,_=>[]
 |k+1,n=>u8n (n % 256)::le k (n / 256)
@[simp] def zjN: ∀k n,(le k n).length=k
 |0,_=>rfl
 |k+1,n=>by simp[le,zjN k]
def zuj: ∀k,le k 0=List.replicate k (u8n 0)
 |0=>rfl
 |k+1=>by simp[le,zuj k,yaS]
def zyz: ∀ (k n q:Nat),q<k->(le k n)[q]? =some (u8n (n / 256 ^ q % 256))
 |0,_,_,h=>by omega
 |k+1,n,0,_=>by simp[le]
 |k+1,n,q+1,h=>by
  simp only[le,yaP];rw[zyz k (n / 256) q (by omega),ybH,<- Nat.pow_succ']
def zyA: ∀ (k n q v:Nat),q<k->n / 256 ^ q % 256+v<256->(le k n).set q (u8n (n / 256 ^ q % 256+v))=le k (n+v*256 ^ q)
 |0,_,_,_,h,_=>by omega
 |k+1,n,0,v,_,hv=>by
  simp only[Nat.pow_zero,Nat.div_one,ybU]at hv ⊢;simp only[le,ycV];rw[show (n+v) % 256=n % 256+v by omega,show (n+v) / 256=n / 256 by omega]
 |k+1,n,q+1,v,h,hv=>by
  have e:n / 256 ^ (q+1)=n / 256 / 256 ^ q:=by rw[ybH,<- Nat.pow_succ']
  rw[e]at hv ⊢;simp only[le,List.set_cons_succ];rw[zyA k (n / 256) q v (by omega) hv]
  have e2:v*256 ^ (q+1)=256*(v*256 ^ q):=by rw[ycP,<- ydN,ybX]
  rw[e2,ydG,Nat.add_mul_div_left _ _ (by decide)]
def zcJ (w:Nat):List Nat->Nat
 |[]=>0
 |n::r=>n+2 ^ w*zcJ w r
def zlo (w:Nat): ∀ (a:List Nat) (n:Nat),zcJ w (a++[n])=zcJ w a+n*2 ^ (a.length*w)
 |[],n=>by simp[zcJ]
 |m::a,n=>by
  simp only[ya4,zcJ,zlo w a n,yad,ya9,ycl,ybB,ycM];rw[ybX (2 ^ (a.length*w)) (2 ^ w),Nat.mul_left_comm,ya0]
def zmp (w:Nat): ∀ (a:List Nat),(∀n∈a,n<2 ^ w)->zcJ w a<2 ^ (a.length*w)
 |[],_=>by simp[zcJ]
 |m::a,h=>by
  have h1:=h m (by simp)
  have h2:=zmp w a λn hn=>h n (by simp[hn])
  simp only[zcJ,yad,ya9,ycl,ybB];have:2 ^ w*(zcJ w a+1)<=2 ^ w*2 ^ (a.length*w):=Nat.mul_le_mul_left _ h2;rw[ycM,ybU]at this;rw[ybX (2 ^ (a.length*w))];omega
def zbB (w:Nat) (l:List Nat):List UInt8:=le ((l.length*w+7) / 8) (zcJ w l)
def zgT {l:List Nat} {w:Nat} (hl: ∀n∈l,n<18446744073709551616) (h:zcI l<=w): ∀n∈l,n<2 ^ w:=by
 have: ∀ (l:List Nat) (a:Nat),(∀n∈l,n<18446744073709551616)->l.foldl (λw n=>max w (zbZ n)) a<=w->a<=w/\ ∀n∈l,n<2 ^ w:=by
  intro l
  induction l with
  |nil=>intro a _ h;exact⟨by simpa using h,by simp⟩
  |cons n l ih=>
   intro a hn h;simp only[yba]at h;obtain⟨h1,h2⟩:=ih _ (λm hm=>hn m (by simp[hm])) h
   refine⟨by omega,λm hm=> ?_⟩
   rcases List.mem_cons.1 hm with rfl | hm
   ·exact (zbn (hn m (by simp))).1 (by omega)
   ·exact h2 m hm
 exact (this l 0 hl h).2
def zuk {M n k room q r at' size:Nat} (hat:at'=8*q+r) (hr:r<8) (hroom:room+r<=8) (hM:M<2 ^ at') (hq:q<size):
 (le size M)[q]? =some (u8n (M / 256 ^ q % 256))/\M / 256 ^ q % 256<2 ^ r/\n / 2 ^ k % 2 ^ room*2 ^ r<256/\(M / 256 ^ q % 256 ||| n / 2 ^ k % 2 ^ room*2 ^ r)=M / 256 ^ q % 256+n / 2 ^ k % 2 ^ room*2 ^ r/\
 (le size M).set q (u8n (M / 256 ^ q % 256+n / 2 ^ k % 2 ^ room*2 ^ r))=le size (M+n / 2 ^ k % 2 ^ room*2 ^ at'):=by
 have h256:256 ^ q=2 ^ (8*q):=by rw[show 256=2 ^ 8 from rfl,<- ydO]
 have hlow:M / 256 ^ q<2 ^ r:=by
  rw[h256,yb3 (ybx _),<- ybB,yby,<- hat];exact hM
 have h8:2 ^ r<=2 ^ 8:=ybw (by decide) (by omega)
 have hmod:M / 256 ^ q % 256=M / 256 ^ q:=yaJ (by omega)
 have hp:n / 2 ^ k % 2 ^ room<2 ^ room:=ycx _ (ybx _);have hpr:n / 2 ^ k % 2 ^ room*2 ^ r+2 ^ r<=2 ^ (room+r):=by
  rw[ybB,<- ydy];exact yaE _ hp
 have h9:2 ^ (room+r)<=2 ^ 8:=ybw (by decide) hroom
 refine⟨zyz _ _ _ hq,by rw[hmod];exact hlow,by omega, ?_, ?_⟩
 ·rw[hmod];exact zf5 (i:=r) (ydg _ _) hlow
 ·rw[zyA _ _ _ _ hq (by rw[hmod];omega),h256,ydN,<- ybB,yby r,<- hat]
def zqH (n k room:Nat):n % 2 ^ k+n / 2 ^ k % 2 ^ room*2 ^ k=n % 2 ^ (k+room):=by
 rw[ybB,Nat.mod_mul,ybX]
def zqI (l:List Nat) (w:Nat) (hl: ∀n∈l,n<18446744073709551616) (hw64:w<=64) (hn:l.length<=256) (hwd:zcI l<=w):
 R 126 [.d (zA0 l),.d (.int .i64 w)] []=some ([.arr 0 (zbB w l).length,.d (.bool true)],[.arr 1 (bytes (zbB w l)) 0]):=by
 have hw:=zfl l hl (by omega)
 have hlt:=zgT hl hwd;have a1: ¬ (w:Int)<0:=by omega
 have a2: ¬ (64:Int)<w:=by omega
 have a3: ¬ (256:Int)<l.length:=by omega
 have a4: ¬ (w:Int)<zcI l:=by omega
 obtain⟨sz,hsz⟩: ∃sz,sz=(l.length*w+7) / 8:=⟨_,rfl⟩;obtain⟨lw,hlw⟩: ∃lw:Nat,lw=l.length*w:=⟨_,rfl⟩;have hlw':lw<=256*64:=by rw[hlw];exact ybL hn hw64
 have hlwi:(l.length:Int)*w=lw:=by rw[hlw,ybt]
 have hszi:((lw:Int)+7) / 8=sz:=by rw[hsz,<- hlw];omega
 have hszt:(((lw:Int)+7) / 8).toNat=sz:=by rw[hszi];simp
 rw[<- hlw]at hsz;unfold zbB;rw[<- hlw,<- hsz];refine rg zIh rfl ?_;intro T hT;simp -dsimp -implicitDefEqProofs (disch:=first|omega|assumption) [hw,a1,a2,a3,a4,hlwi,hszi]
 generalize hz:zak _ _ _ _ _ _=z;revert z;refine zaa (σ:=Nat) (λi=>[(1,.d (.int .i64 w)),(6,.arr 0 sz),(36,.d (zA0 l)),(37,.d (.int .i64 l.length)),(38,.d (.int .i64 i))]) (λi=>[.arr 1 (bytes (le sz (zcJ w (l.take i)))) 0]) (λi=>i<=l.length) (λi=>l.length - i) 0 ?_ ?_ ?_
 ·simp
 ·simp -dsimp -implicitDefEqProofs (disch:=first|omega|assumption) [hszi,zcJ,zuj]
 intro T' f hT' i hi ih
 by_cases h1:i<l.length
 ·have hb:=hl l[i] (by simp)
  have hb2:=hlt l[i] (by simp)
  obtain⟨iw,hiw⟩: ∃iw:Nat,iw=i*w:=⟨_,rfl⟩;have hiwi:(i:Int)*w=iw:=by rw[hiw,ybt]
  have hiwl:iw+w<=lw:=by
   have:(i+1)*w<=l.length*w:=yaE _ h1;rw[ya9]at this;omega
  have hM0:zcJ w (l.take i)<2 ^ iw:=by
   have:=zmp w (l.take i) λn h=>hlt n (yaH h)
   rwa [yat,ycp hi,<- hiw]at this
  have hnext:zcJ w (l.take (i+1))=zcJ w (l.take i)+l[i]*2 ^ iw:=by rw[zaM h1,zlo,yat,ycp hi,<- hiw]
  simp -dsimp -implicitDefEqProofs (disch:=first|omega|assumption) [h1]
  generalize hz:zak _ _ _ _ _ _=z;revert z;refine zaa (σ:=Nat) (λk=>[(1,.d (.int .i64 w)),(6,.arr 0 sz),(7,.d (.int .i64 i)),(8,.d (.int .u64 l[i])),(9,.d (.int .i64 k)),(36,.d (zA0 l)),(37,.d (.int .i64 l.length)),(38,.d (.int .i64 i))]) (λk=>[.arr 1 (bytes (le sz (zcJ w (l.take i)+l[i] % 2 ^ k*2 ^ iw))) 0]) (λk=>k<=w) (λk=>w - k) 0 ?_ ?_ ?_
  ·simp
  ·simp[Nat.mod_one]
  intro T2 f2 hT2 k hk ih2
  by_cases h2:k<w
  ·have h2':(k:Int)<w:=by omega
   obtain⟨room,hroom⟩: ∃room,room=min (8 - (iw+k) % 8) (w - k):=⟨_,rfl⟩;have hM:zcJ w (l.take i)+l[i] % 2 ^ k*2 ^ iw<2 ^ (iw+k):=by
    have:l[i] % 2 ^ k<2 ^ k:=ycx _ (ybx _);have:(l[i] % 2 ^ k+1)*2 ^ iw<=2 ^ k*2 ^ iw:=yaE _ this;rw[ya9,ycl]at this;rw[ybB,ybX (2 ^ iw)];omega
   obtain⟨r,hr⟩: ∃r,r=(iw+k) % 8:=⟨_,rfl⟩;obtain⟨q,hq⟩: ∃q,q=(iw+k) / 8:=⟨_,rfl⟩;rw[<- hr]at hroom;have hroom8:room+r<=8:=by omega
   obtain⟨s1,s2,s3,s4,s5⟩:=zuk (n:=l[i]) (k:=k) (room:=room) (q:=q) (r:=r) (size:=sz) (at':=iw+k) (by omega) (by omega) hroom8 hM (by omega)
   have hstep:=zqH l[i] k room;have hdlt:l[i] / 2 ^ k<18446744073709551616:=ybP (ydX _ _) hb;have hdi:(l[i]:Int) / 2 ^ k=((l[i] / 2 ^ k:Nat):Int):=by rw[ydh,yb5];rfl
   obtain⟨d,hd⟩: ∃d,d=l[i] / 2 ^ k:=⟨_,rfl⟩;obtain⟨pw,hpw⟩: ∃pw,pw=2 ^ room:=⟨_,rfl⟩;have hpwi:(2:Int) ^ room=pw:=by rw[hpw,yb5];rfl
   have hpw1:1<=pw:=by rw[hpw];exact ybx _
   have hpw8:pw<=256:=by rw[hpw];exact (ybw (by decide) (by omega:room<=8):2 ^ room<=2 ^ 8)
   obtain⟨mk,hmk⟩: ∃mk,mk=pw - 1:=⟨_,rfl⟩;have hmki:IntKind.u64.wrap (IntKind.u64.wrap (pw:Int) - 1)=mk:=by rw[zaj,zaj];omega
   have hand:d &&& mk=d % 2 ^ room:=by rw[hmk,hpw];exact zgR d room
   obtain⟨v,hv⟩: ∃v,v=d % 2 ^ room:=⟨_,rfl⟩;obtain⟨m0,hm0⟩: ∃m0,m0=(zcJ w (l.take i)+l[i] % 2 ^ k*2 ^ iw) / 256 ^ q % 256:=⟨_,rfl⟩;rw[<- hd,<- hv,<- hm0]at s4 s5;rw[<- hd,<- hv]at s3 hstep;rw[<- hm0]at s1 s2;rw[<- hd]at hdi hdlt;rw[<- hv]at hand;obtain⟨vr,hvr⟩: ∃vr,vr=v*2 ^ r:=⟨_,rfl⟩;rw[<- hvr]at s3 s4 s5;have hvri:(v:Int)*2 ^ r=vr:=by rw[hvr,ybt,yb5];rfl
   have hv256:v<256:=by rw[hv,<- hpw];have:=ycx d hpw1;omega
   have hm256:m0<256:=by rw[hm0];exact ycx _ (by decide)
   have q0:((iw:Int)+k) % 8=r:=by omega
   have q1:(((iw:Int)+k) / 8).toNat=q:=by omega
   have q2:(if (w:Int) - k<8 - r then (w:Int) - k else 8 - r)=(room:Int):=by split <;> omega
   have q4:min r 8=r:=by omega
   have q5:min k 64=k:=by omega
   have q6:min room 64=room:=by omega
   have hv256':(v:Int) % 256=v:=by omega
   have hvr256':(vr:Int) % 256=vr:=by omega
   obtain⟨mv,hmv⟩: ∃mv,mv=m0+vr:=⟨_,rfl⟩;rw[<- hmv]at s4 s5;have hmv256:mv<256:=by
    have:m0 ||| vr<2 ^ 8:=zzG.2 ⟨by omega,by omega⟩
    omega
   have hset:(bytes (le sz (zcJ w (l.take i)+l[i] % 2 ^ k*2 ^ iw))).set q (.int .u8 (mv:Int))=bytes (le sz (zcJ w (l.take i)+l[i] % 2 ^ (k+room)*2 ^ iw)):=by
    have e:zcJ w (l.take i)+l[i] % 2 ^ k*2 ^ iw+v*2 ^ (iw+k)=zcJ w (l.take i)+l[i] % 2 ^ (k+room)*2 ^ iw:=by
     rw[<- hstep,ya9,ydN,<- ybB,yby k,ya0]
    rw[e]at s5;rw[<- s5];unfold bytes;rw[ybY];congr 1;simp[zbT,zdh hmv256]
   simp -dsimp -implicitDefEqProofs (disch:=first|omega|assumption) [h2',hiwi,q1,q0,q2,q4,q5,q6,s1,hpwi,hmki,hdi,hand,hvri,s4,hm256,hv256,s3,hv256',hvr256',hset]
   have hr1:1<=room:=by omega
   have hr2:k+room<=w:=by omega
   exact ih2 (k+room) _ _ hr2 (by omega) (by simp -dsimp -implicitDefEqProofs (disch:=first|omega|assumption))
  ·obtain rfl:k=w:=by omega
   have h2': ¬ (k:Int)<k:=by omega
   have hmod:l[i] % 2 ^ k=l[i]:=yaJ hb2;subst hT2;simp -dsimp -implicitDefEqProofs (disch:=first|omega|assumption) [h2',hmod]
   rw[<- hnext];exact ih (i+1) _ _ h1 (by omega) (by simp -dsimp -implicitDefEqProofs (disch:=first|omega|assumption))
 ·rw[yaB (by omega)]
  subst hT';simp -dsimp -implicitDefEqProofs (disch:=first|omega|assumption) [h1]
  simpa -dsimp -implicitDefEqProofs (disch:=first|omega|assumption) using hT
end Go.Am.Ab
namespace Go.Am.Ab
open Go.Proofs
set_option maxHeartbeats 4000000
end Go.Am.Ab
