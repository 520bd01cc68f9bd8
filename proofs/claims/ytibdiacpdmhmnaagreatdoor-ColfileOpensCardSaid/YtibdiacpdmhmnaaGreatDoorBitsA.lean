/- Widths, and the packing of numbers. -/
import Derived.Test.YtibdiacpdmhmnaaGreatDoorBase
set_option linter.all false
namespace Go.Am.Ab
open Go.Proofs
set_option maxHeartbeats 4000000
def zqV:Nat->Nat->Nat
 |0,_=>0
 |k+1,n=>if n=0 then 0 else zqV k (n / 2)+1
def zbn (n:Nat):Nat:=zqV 64 n
def zps: ∀ (k n m:Nat),n<2 ^ k->(zqV k n<=m↔n<2 ^ m)
 |0,n,m,h=>by
  have:n=0:=by omega
  subst this;have:=ybr m;simpa[zqV]using this
 |k+1,n,m,h=>by
  rw[zqV]
  by_cases h0:n=0
  ·subst h0
   have:=ybr m;simpa using this
  ·rw[yae h0]
   cases m with
   |zero=>simp;omega
   |succ m=>
    have ih:=zps k (n / 2) m (by rw[yb6]at h;omega)
    rw[yb6];omega
def za4 {n m:Nat} (h:n<18446744073709551616):zbn n<=m↔n<2 ^ m:=zps 64 n m (by simpa using h)
def zlj {n m:Nat} (h:n<18446744073709551616):m<zbn n↔2 ^ m<=n:=by
 have:=za4 (m:=m) h;omega
def zlk {n:Nat} (h:n<18446744073709551616):zbn n<=64:=(za4 h).2 (by simpa using h)
def zcF {n k:Nat} (h:n<18446744073709551616) (hk:2 ^ k<=n):zbn n=k+zbn (n / 2 ^ k):=by
 have hd:n / 2 ^ k<18446744073709551616:=ybx (ycY _ _) h;have hpos:=ybr k;have key: ∀m,zbn n<=k+m↔zbn (n / 2 ^ k)<=m:=λm=>by
  rw[za4 h,za4 hd,ybC,ybX hpos,ybS]
 have h1:=(key (zbn (n / 2 ^ k))).2 (yab _);have hgt:k<zbn n:=(zlj h).2 hk;have h2:=(key (zbn n - k)).1 (by omega)
 omega
set_option maxRecDepth 100000 in
def zkx (n:Nat) (hn:n<18446744073709551616):R 180 [.d (.int .u64 n)] []=some ([.d (.int .i64 (zbn n))],[]):=by
 refine rg zGz rfl ?_;intro T hT;generalize hs:ByteArray.mk _=tab;have htab: ∀m:Nat,m<256->tab[m]? =some (u8n (zbn m)):=by
  rw[<- hs];decide +kernel
 clear hs;have look: ∀ (m:Nat) (x:Int),m<256->x.toNat=m->tab[x.toNat]? =some (u8n (zbn m)):=λm x hm hx=>by rw[hx,htab m hm]
 have hb64:=zlk hn
 by_cases h1:4294967296<=n
 ·have b1:=zcF (n:=n) (k:=32) (by omega) (by omega)
  simp only[Nat.reducePow]at b1;have h1':(4294967296:Int)<=(n:Int):=by omega
  by_cases h2:65536<=n / 4294967296
  ·have b2:=zcF (n:=n / 4294967296) (k:=16) (by omega) (by omega)
   simp only[Nat.reducePow]at b2;have h2':(65536:Int)<=(n:Int) / 4294967296:=by omega
   by_cases h3:256<=n / 4294967296 / 65536
   ·have b3:=zcF (n:=n / 4294967296 / 65536) (k:=8) (by omega) (by omega)
    simp only[Nat.reducePow]at b3;have h3':(256:Int)<=(n:Int) / 4294967296 / 65536:=by omega
    have hm:n / 4294967296 / 65536 / 256<256:=by omega
    have hm8:zbn (n / 4294967296 / 65536 / 256)<=8:=(za4 (by omega)).2 (by omega)
    have hl:=look (n / 4294967296 / 65536 / 256) ((n:Int) / 4294967296 / 65536 / 256 % 256) hm (by omega)
    have hbn:((zbn n:Nat):Int)=56+(zbn (n / 4294967296 / 65536 / 256):Nat):=by omega
    rw[hbn]at hT;generalize zbn (n / 4294967296 / 65536 / 256)=q at*;simp -dsimp -implicitDefEqProofs (disch:=first|omega|assumption) [zas,h1',h2',h3',hl]
    simpa -dsimp -implicitDefEqProofs (disch:=first|omega|assumption) using hT
   ·have h3': ¬ (256:Int)<=(n:Int) / 4294967296 / 65536:=by omega
    have hm:n / 4294967296 / 65536<256:=by omega
    have hm8:zbn (n / 4294967296 / 65536)<=8:=(za4 (by omega)).2 (by omega)
    have hl:=look (n / 4294967296 / 65536) ((n:Int) / 4294967296 / 65536 % 256) hm (by omega)
    have hbn:((zbn n:Nat):Int)=48+(zbn (n / 4294967296 / 65536):Nat):=by omega
    rw[hbn]at hT;generalize zbn (n / 4294967296 / 65536)=q at*;simp -dsimp -implicitDefEqProofs (disch:=first|omega|assumption) [zas,h1',h2',h3',hl]
    simpa -dsimp -implicitDefEqProofs (disch:=first|omega|assumption) using hT
  ·have h2': ¬ (65536:Int)<=(n:Int) / 4294967296:=by omega
   by_cases h3:256<=n / 4294967296
   ·have b3:=zcF (n:=n / 4294967296) (k:=8) (by omega) (by omega)
    simp only[Nat.reducePow]at b3;have h3':(256:Int)<=(n:Int) / 4294967296:=by omega
    have hm:n / 4294967296 / 256<256:=by omega
    have hm8:zbn (n / 4294967296 / 256)<=8:=(za4 (by omega)).2 (by omega)
    have hl:=look (n / 4294967296 / 256) ((n:Int) / 4294967296 / 256 % 256) hm (by omega)
    have hbn:((zbn n:Nat):Int)=40+(zbn (n / 4294967296 / 256):Nat):=by omega
    rw[hbn]at hT;generalize zbn (n / 4294967296 / 256)=q at*;simp -dsimp -implicitDefEqProofs (disch:=first|omega|assumption) [zas,h1',h2',h3',hl]
    simpa -dsimp -implicitDefEqProofs (disch:=first|omega|assumption) using hT
   ·have h3': ¬ (256:Int)<=(n:Int) / 4294967296:=by omega
    have hm:n / 4294967296<256:=by omega
    have hm8:zbn (n / 4294967296)<=8:=(za4 (by omega)).2 (by omega)
    have hl:=look (n / 4294967296) ((n:Int) / 4294967296 % 256) hm (by omega)
    have hbn:((zbn n:Nat):Int)=32+(zbn (n / 4294967296):Nat):=by omega
    rw[hbn]at hT;generalize zbn (n / 4294967296)=q at*;simp -dsimp -implicitDefEqProofs (disch:=first|omega|assumption) [zas,h1',h2',h3',hl]
    simpa -dsimp -implicitDefEqProofs (disch:=first|omega|assumption) using hT
 ·have h1': ¬ (4294967296:Int)<=(n:Int):=by omega
  by_cases h2:65536<=n
  ·have b2:=zcF (n:=n) (k:=16) (by omega) (by omega)
   simp only[Nat.reducePow]at b2;have h2':(65536:Int)<=(n:Int):=by omega
   by_cases h3:256<=n / 65536
   ·have b3:=zcF (n:=n / 65536) (k:=8) (by omega) (by omega)
    simp only[Nat.reducePow]at b3;have h3':(256:Int)<=(n:Int) / 65536:=by omega
    have hm:n / 65536 / 256<256:=by omega
    have hm8:zbn (n / 65536 / 256)<=8:=(za4 (by omega)).2 (by omega)
    have hl:=look (n / 65536 / 256) ((n:Int) / 65536 / 256 % 256) hm (by omega)
    have hbn:((zbn n:Nat):Int)=24+(zbn (n / 65536 / 256):Nat):=by omega
    rw[hbn]at hT;generalize zbn (n / 65536 / 256)=q at*;simp -dsimp -implicitDefEqProofs (disch:=first|omega|assumption) [zas,h1',h2',h3',hl]
    simpa -dsimp -implicitDefEqProofs (disch:=first|omega|assumption) using hT
   ·have h3': ¬ (256:Int)<=(n:Int) / 65536:=by omega
    have hm:n / 65536<256:=by omega
    have hm8:zbn (n / 65536)<=8:=(za4 (by omega)).2 (by omega)
    have hl:=look (n / 65536) ((n:Int) / 65536 % 256) hm (by omega)
    have hbn:((zbn n:Nat):Int)=16+(zbn (n / 65536):Nat):=by omega
    rw[hbn]at hT;generalize zbn (n / 65536)=q at*;simp -dsimp -implicitDefEqProofs (disch:=first|omega|assumption) [zas,h1',h2',h3',hl]
    simpa -dsimp -implicitDefEqProofs (disch:=first|omega|assumption) using hT
  ·have h2': ¬ (65536:Int)<=(n:Int):=by omega
   by_cases h3:256<=n
   ·have b3:=zcF (n:=n) (k:=8) (by omega) (by omega)
    simp only[Nat.reducePow]at b3;have h3':(256:Int)<=(n:Int):=by omega
    have hm:n / 256<256:=by omega
    have hm8:zbn (n / 256)<=8:=(za4 (by omega)).2 (by omega)
    have hl:=look (n / 256) ((n:Int) / 256 % 256) hm (by omega)
    have hbn:((zbn n:Nat):Int)=8+(zbn (n / 256):Nat):=by omega
    rw[hbn]at hT;generalize zbn (n / 256)=q at*;simp -dsimp -implicitDefEqProofs (disch:=first|omega|assumption) [zas,h1',h2',h3',hl]
    simpa -dsimp -implicitDefEqProofs (disch:=first|omega|assumption) using hT
   ·have h3': ¬ (256:Int)<=(n:Int):=by omega
    have hm:n<256:=by omega
    have hm8:zbn (n)<=8:=(za4 (by omega)).2 (by omega)
    have hl:=look (n) ((n:Int) % 256) hm (by omega)
    have hl2:tab[n % 256]? =some (u8n (zbn n)):=by rw[yaI hm,htab n hm]
    have hbn:((zbn n:Nat):Int)=0+(zbn (n):Nat):=by omega
    rw[hbn]at hT;generalize zbn (n)=q at*;simp -dsimp -implicitDefEqProofs (disch:=first|omega|assumption) [zas,h1',h2',h3',hl2]
    simpa -dsimp -implicitDefEqProofs (disch:=first|omega|assumption) using hT
def zso {a b m:Nat}:a ||| b<2 ^ m↔a<2 ^ m/\b<2 ^ m:=by
 constructor
 ·intro h
  exact⟨ybx Nat.left_le_or h,ybx Nat.right_le_or h⟩
 ·rintro ⟨h1,h2⟩
  exact yc2 h1 h2
def zsp {a b:Nat} (ha:a<18446744073709551616) (hb:b<18446744073709551616):a ||| b<18446744073709551616:=by
 have:=(zso (m:=64) (a:=a) (b:=b)).2 ⟨by omega,by omega⟩
 omega
def zwU {a b:Nat} (ha:a<18446744073709551616) (hb:b<18446744073709551616):zbn (a ||| b)=max (zbn a) (zbn b):=by
 have hab:a ||| b<18446744073709551616:=zsp ha hb;have key: ∀m,zbn (a ||| b)<=m↔max (zbn a) (zbn b)<=m:=λm=>by
  rw[za4 hab,zso,<- za4 ha,<- za4 hb];omega
 have h1:=(key (max (zbn a) (zbn b))).2 (yab _);have h2:=(key (zbn (a ||| b))).1 (yab _);omega
def zbd (l:List Nat):Nat:=l.foldl (λw n=>max w (zbn n)) 0
def zky (l:List Nat) (n:Nat):zbd (l++[n])=max (zbd l) (zbn n):=by simp[zbd]
def zcm {l:List Nat} (hl: ∀n∈l,n<18446744073709551616):zbd l<=64:=by
 unfold zbd;have: ∀ (l:List Nat) (w:Nat),w<=64->(∀n∈l,n<18446744073709551616)->l.foldl (λw n=>max w (zbn n)) w<=64:=by
  intro l
  induction l with
  |nil=>intro w h _;simpa using h
  |cons n l ih=>
   intro w h hn;simp only[ybc];exact ih _ (by have:=zlk (hn n (by simp));omega) λm hm=>hn m (by simp[hm])
 exact this l 0 (by decide) hl
def zap {α:Type} {l:List α} {i:Nat} (h:i<l.length):l.take (i+1)=l.take i++[l[i]]:=ybe h
abbrev ziS (l:List Nat):D:= .list (l.map λ(n:Nat)=>D.int .u64 (n:Int))
def ze4 (l:List Nat) (hl: ∀n∈l,n<18446744073709551616) (hn:l.length<4611686018427387904):R 158 [.d (ziS l)] []=some ([.d (.int .i64 (zbd l))],[]):=by
 refine rg zGn rfl ?_;intro T hT;simp -dsimp -implicitDefEqProofs (disch:=first|omega|assumption)
 generalize hz:zad _ _ _ _ _ _=z;revert z;refine zaa (σ:=Nat × Nat) (λx=>[(3,.d (.int .u64 x.2)),(6,.d (ziS l)),(7,.d (.int .i64 l.length)),(8,.d (.int .i64 x.1))]) (λx=>[]) (λx=>x.1<=l.length/\x.2<18446744073709551616/\zbn x.2=zbd (l.take x.1)) (λx=>l.length - x.1) (0,0) ?_ ?_ ?_
 ·simp[zbd,zbn,zqV]
 ·simp
 intro T' f hT' ⟨i,a⟩ ⟨hi,ha,hw⟩ ih;simp only at hi ha hw ih
 by_cases h1:i<l.length
 ·have hb:=hl l[i] (by simp)
  have hab:a ||| l[i]<18446744073709551616:=zsp ha hb;simp -dsimp -implicitDefEqProofs (disch:=first|omega|assumption) [h1]
  refine ih (i+1,a ||| l[i]) _ _ ⟨h1,hab, ?_⟩ (by simp only;omega) (by simp -dsimp -implicitDefEqProofs (disch:=first|omega|assumption))
  simp only;rw[zwU ha hb,zap h1,zky,hw]
 ·rw[yaw (by omega)]at hw
  have hlen:=zkx a ha;rw[hw]at hlen;subst hT';simp -dsimp -implicitDefEqProofs (disch:=first|omega|assumption) [h1]
  simp -dsimp -implicitDefEqProofs (disch:=first|omega|assumption) [hlen]
  simpa -dsimp -implicitDefEqProofs (disch:=first|omega|assumption) using hT
def zfN (l:List Nat) (hl: ∀n∈l,n<18446744073709551616) (hn:l.length<4611686018427387904):R 173 [.d (ziS l)] []=some ([.d (.int .i64 (zbd l))],[]):=by
 refine rg zGw rfl ?_;intro T hT;simp -dsimp -implicitDefEqProofs (disch:=first|omega|assumption)
 generalize hz:zad _ _ _ _ _ _=z;revert z;refine zaa (σ:=Nat) (λi=>[(0,.d (ziS l)),(3,.d (.int .i64 (zbd (l.take i)))),(4,.d (.int .i64 i))]) (λx=>[]) (λi=>i<=l.length) (λi=>l.length - i) 0 ?_ ?_ ?_
 ·simp
 ·simp[zbd]
 intro T' f hT' i hi ih
 by_cases h1:i<l.length
 ·have hb:=hl l[i] (by simp)
  have hw0:zbd (l.take i)<=64:=zcm λn h=>hl n (yaH h)
  have hb64:=zlk hb;simp -dsimp -implicitDefEqProofs (disch:=first|omega|assumption) [h1]
  generalize hz:zad _ _ _ _ _ _=z;revert z;refine zaa (σ:=Nat) (λw=>[(0,.d (ziS l)),(3,.d (.int .i64 w)),(4,.d (.int .i64 i))]) (λx=>[]) (λw=>zbd (l.take i)<=w/\(w=zbd (l.take i)\/w<=zbn l[i])/\w<=64) (λw=>64 - w) (zbd (l.take i)) ?_ ?_ ?_
  ·exact⟨yab _,.inl rfl,hw0⟩
  ·simp
  intro T2 f2 hT2 w ⟨hw1,hw2,hw3⟩ ih2;have hmin:min w 64=w:=by omega
  have hwrap:IntKind.u64.wrap (w:Int)=w:=zai (by omega) (by omega)
  have out: ∀s1:Slots,zar s1 0= .d (ziS l)->zar s1 3= .d (.int .i64 w)->zar s1 4= .d (.int .i64 i)->w=zbd (l.take (i+1))->T2 (some (.exit 2,s1,[])):=by
   intro s1 e0 e3 e4 hw;subst hT2;simp -dsimp -implicitDefEqProofs (disch:=first|omega|assumption) [e0,e3,e4]
   refine ih (i+1) _ _ (by omega) (by omega) ?_
   simp -dsimp -implicitDefEqProofs (disch:=first|omega|assumption) [e0,e3,e4,hw]
  have hws:zbd (l.take (i+1))=max (zbd (l.take i)) (zbn l[i]):=by rw[zap h1,zky]
  by_cases h2:w<64
  ·have h2':(w:Int)<64:=by omega
   by_cases h3:w<zbn l[i]
   ·have hp:=(zlj hb).1 h3
    have hq:0<l[i] / 2 ^ w:=Nat.div_pos hp (ybr w);have hq':(0:Int)<(l[i]:Int) / 2 ^ w:=by
     have:((l[i] / 2 ^ w:Nat):Int)=(l[i]:Int) / 2 ^ w:=by rw[yb3,ybu];rfl
     rw[<- this];omega
    simp -dsimp -implicitDefEqProofs (disch:=first|omega|assumption) [h1,h2',hwrap,hmin,hq']
    exact ih2 (w+1) _ _ ⟨by omega,by omega,by omega⟩ (by omega) (by simp -dsimp -implicitDefEqProofs (disch:=first|omega|assumption))
   ·have hq:l[i] / 2 ^ w=0:=ydL ((za4 hb).1 (by omega))
    have hq': ¬ (0:Int)<(l[i]:Int) / 2 ^ w:=by
     have:((l[i] / 2 ^ w:Nat):Int)=(l[i]:Int) / 2 ^ w:=by rw[yb3,ybu];rfl
     rw[<- this,hq];simp
    simp -dsimp -implicitDefEqProofs (disch:=first|omega|assumption) [h1,h2',hwrap,hmin,hq']
    exact out _ (by simp) (by simp) (by simp) (by rw[hws];omega)
  ·have h2': ¬ (w:Int)<64:=by omega
   simp -dsimp -implicitDefEqProofs (disch:=first|omega|assumption) [h1,h2']
   exact out _ (by simp) (by simp) (by simp) (by rw[hws];omega)
 ·have hw:zbd (l.take i)=zbd l:=by rw[yaw (by omega)]
  subst hT';simp -dsimp -implicitDefEqProofs (disch:=first|omega|assumption) [h1,hw]
  simpa -dsimp -implicitDefEqProofs (disch:=first|omega|assumption) using hT
end Go.Am.Ab
namespace Go.Am.Ab
open Go.Proofs
set_option maxHeartbeats 4000000
def le:Nat->Nat->List UInt8
 |0,_=>[]
 |k+1,n=>u8n (n % 256)::le k (n / 256)
@[simp] def zmE: ∀k n,(le k n).length=k
 |0,_=>rfl
 |k+1,n=>by simp[le,zmE k]
def zsq: ∀k,le k 0=List.replicate k (u8n 0)
 |0=>rfl
 |k+1=>by simp[le,zsq k,yaN]
def zv1: ∀ (k n q:Nat),q<k->(le k n)[q]? =some (u8n (n / 256 ^ q % 256))
 |0,_,_,h=>by omega
 |k+1,n,0,_=>by simp[le]
 |k+1,n,q+1,h=>by
  simp only[le,ybA];rw[zv1 k (n / 256) q (by omega),ybi,<- ydG]
def zv2: ∀ (k n q v:Nat),q<k->n / 256 ^ q % 256+v<256->(le k n).set q (u8n (n / 256 ^ q % 256+v))=le k (n+v*256 ^ q)
 |0,_,_,_,h,_=>by omega
 |k+1,n,0,v,_,hv=>by
  simp only[Nat.pow_zero,Nat.div_one,ycb]at hv ⊢;simp only[le,ycj];rw[show (n+v) % 256=n % 256+v by omega,show (n+v) / 256=n / 256 by omega]
 |k+1,n,q+1,v,h,hv=>by
  have e:n / 256 ^ (q+1)=n / 256 / 256 ^ q:=by rw[ybi,<- ydG]
  rw[e]at hv ⊢;simp only[le,ydu];rw[zv2 k (n / 256) q v (by omega) hv]
  have e2:v*256 ^ (q+1)=256*(v*256 ^ q):=by rw[yb6,<- ydH,ybS]
  rw[e2,Nat.add_mul_mod_self_left,Nat.add_mul_div_left _ _ (by decide)]
def zb7 (w:Nat):List Nat->Nat
 |[]=>0
 |n::r=>n+2 ^ w*zb7 w r
def zg5 (w:Nat): ∀ (a:List Nat) (n:Nat),zb7 w (a++[n])=zb7 w a+n*2 ^ (a.length*w)
 |[],n=>by simp[zb7]
 |m::a,n=>by
  simp only[ybm,zb7,zg5 w a n,yag,yaX,ycc,ybC,ydI];rw[ybS (2 ^ (a.length*w)) (2 ^ w),Nat.mul_left_comm,yaC]
def zll (w:Nat): ∀ (a:List Nat),(∀n∈a,n<2 ^ w)->zb7 w a<2 ^ (a.length*w)
 |[],_=>by simp[zb7]
 |m::a,h=>by
  have h1:=h m (by simp)
  have h2:=zll w a λn hn=>h n (by simp[hn])
  simp only[zb7,yag,yaX,ycc,ybC];have:2 ^ w*(zb7 w a+1)<=2 ^ w*2 ^ (a.length*w):=Nat.mul_le_mul_left _ h2;rw[ydI,ycb]at this;rw[ybS (2 ^ (a.length*w))];omega
def zbY (w:Nat) (l:List Nat):List UInt8:=le ((l.length*w+7) / 8) (zb7 w l)
def zpt {l:List Nat} {w:Nat} (hl: ∀n∈l,n<18446744073709551616) (h:zbd l<=w): ∀n∈l,n<2 ^ w:=by
 have: ∀ (l:List Nat) (a:Nat),(∀n∈l,n<18446744073709551616)->l.foldl (λw n=>max w (zbn n)) a<=w->a<=w/\ ∀n∈l,n<2 ^ w:=by
  intro l
  induction l with
  |nil=>intro a _ h;exact⟨by simpa using h,by simp⟩
  |cons n l ih=>
   intro a hn h;simp only[ybc]at h;obtain⟨h1,h2⟩:=ih _ (λm hm=>hn m (by simp[hm])) h
   refine⟨by omega,λm hm=> ?_⟩
   rcases List.mem_cons.1 hm with rfl | hm
   ·exact (za4 (hn m (by simp))).1 (by omega)
   ·exact h2 m hm
 exact (this l 0 hl h).2
def zmF {M n k room q r at' size:Nat} (hat:at'=8*q+r) (hr:r<8) (hroom:room+r<=8) (hM:M<2 ^ at') (hq:q<size):
 (le size M)[q]? =some (u8n (M / 256 ^ q % 256))/\M / 256 ^ q % 256<2 ^ r/\n / 2 ^ k % 2 ^ room*2 ^ r<256/\(M / 256 ^ q % 256 ||| n / 2 ^ k % 2 ^ room*2 ^ r)=M / 256 ^ q % 256+n / 2 ^ k % 2 ^ room*2 ^ r/\
 (le size M).set q (u8n (M / 256 ^ q % 256+n / 2 ^ k % 2 ^ room*2 ^ r))=le size (M+n / 2 ^ k % 2 ^ room*2 ^ at'):=by
 have h256:256 ^ q=2 ^ (8*q):=by rw[show 256=2 ^ 8 from rfl,<- ydk]
 have hlow:M / 256 ^ q<2 ^ r:=by
  rw[h256,ybX (ybr _),<- ybC,yby,<- hat];exact hM
 have h8:2 ^ r<=2 ^ 8:=ybl (by decide) (by omega)
 have hmod:M / 256 ^ q % 256=M / 256 ^ q:=yaI (by omega)
 have hp:n / 2 ^ k % 2 ^ room<2 ^ room:=yb8 _ (ybr _);have hpr:n / 2 ^ k % 2 ^ room*2 ^ r+2 ^ r<=2 ^ (room+r):=by
  rw[ybC,<- ydN];exact yaE _ hp
 have h9:2 ^ (room+r)<=2 ^ 8:=ybl (by decide) hroom
 refine⟨zv1 _ _ _ hq,by rw[hmod];exact hlow,by omega, ?_, ?_⟩
 ·rw[hmod];exact zfL (i:=r) (yda _ _) hlow
 ·rw[zv2 _ _ _ _ hq (by rw[hmod];omega),h256,ydH,<- ybC,yby r,<- hat]
def zlm (n k room:Nat):n % 2 ^ k+n / 2 ^ k % 2 ^ room*2 ^ k=n % 2 ^ (k+room):=by
 rw[ybC,Nat.mod_mul,ybS]
def zpu (l:List Nat) (w:Nat) (hl: ∀n∈l,n<18446744073709551616) (hw64:w<=64) (hn:l.length<=256) (hwd:zbd l<=w):
 R 126 [.d (ziS l),.d (.int .i64 w)] []=some ([.arr 0 (zbY w l).length,.d (.bool true)],[.arr 1 (bytes (zbY w l)) 0]):=by
 have hw:=ze4 l hl (by omega)
 have hlt:=zpt hl hwd;have a1: ¬ (w:Int)<0:=by omega
 have a2: ¬ (64:Int)<w:=by omega
 have a3: ¬ (256:Int)<l.length:=by omega
 have a4: ¬ (w:Int)<zbd l:=by omega
 obtain⟨sz,hsz⟩: ∃sz,sz=(l.length*w+7) / 8:=⟨_,rfl⟩;obtain⟨lw,hlw⟩: ∃lw:Nat,lw=l.length*w:=⟨_,rfl⟩;have hlw':lw<=256*64:=by rw[hlw];exact ybG hn hw64
 have hlwi:(l.length:Int)*w=lw:=by rw[hlw,ybp]
 have hszi:((lw:Int)+7) / 8=sz:=by rw[hsz,<- hlw];omega
 have hszt:(((lw:Int)+7) / 8).toNat=sz:=by rw[hszi];simp
 rw[<- hlw]at hsz;unfold zbY;rw[<- hlw,<- hsz];refine rg zGc rfl ?_;intro T hT;simp -dsimp -implicitDefEqProofs (disch:=first|omega|assumption) [hw,a1,a2,a3,a4,hlwi,hszi]
 generalize hz:zad _ _ _ _ _ _=z;revert z;refine zaa (σ:=Nat) (λi=>[(1,.d (.int .i64 w)),(6,.arr 0 sz),(36,.d (ziS l)),(37,.d (.int .i64 l.length)),(38,.d (.int .i64 i))]) (λi=>[.arr 1 (bytes (le sz (zb7 w (l.take i)))) 0]) (λi=>i<=l.length) (λi=>l.length - i) 0 ?_ ?_ ?_
 ·simp
 ·simp -dsimp -implicitDefEqProofs (disch:=first|omega|assumption) [hszi,zb7,zsq]
 intro T' f hT' i hi ih
 by_cases h1:i<l.length
 ·have hb:=hl l[i] (by simp)
  have hb2:=hlt l[i] (by simp)
  obtain⟨iw,hiw⟩: ∃iw:Nat,iw=i*w:=⟨_,rfl⟩;have hiwi:(i:Int)*w=iw:=by rw[hiw,ybp]
  have hiwl:iw+w<=lw:=by
   have:(i+1)*w<=l.length*w:=yaE _ h1;rw[yaX]at this;omega
  have hM0:zb7 w (l.take i)<2 ^ iw:=by
   have:=zll w (l.take i) λn h=>hlt n (yaH h)
   rwa [yao,ycn hi,<- hiw]at this
  have hnext:zb7 w (l.take (i+1))=zb7 w (l.take i)+l[i]*2 ^ iw:=by rw[zap h1,zg5,yao,ycn hi,<- hiw]
  simp -dsimp -implicitDefEqProofs (disch:=first|omega|assumption) [h1]
  generalize hz:zad _ _ _ _ _ _=z;revert z;refine zaa (σ:=Nat) (λk=>[(1,.d (.int .i64 w)),(6,.arr 0 sz),(7,.d (.int .i64 i)),(8,.d (.int .u64 l[i])),(9,.d (.int .i64 k)),(36,.d (ziS l)),(37,.d (.int .i64 l.length)),(38,.d (.int .i64 i))]) (λk=>[.arr 1 (bytes (le sz (zb7 w (l.take i)+l[i] % 2 ^ k*2 ^ iw))) 0]) (λk=>k<=w) (λk=>w - k) 0 ?_ ?_ ?_
  ·simp
  ·simp[ydU]
  intro T2 f2 hT2 k hk ih2
  by_cases h2:k<w
  ·have h2':(k:Int)<w:=by omega
   obtain⟨room,hroom⟩: ∃room,room=min (8 - (iw+k) % 8) (w - k):=⟨_,rfl⟩;have hM:zb7 w (l.take i)+l[i] % 2 ^ k*2 ^ iw<2 ^ (iw+k):=by
    have:l[i] % 2 ^ k<2 ^ k:=yb8 _ (ybr _);have:(l[i] % 2 ^ k+1)*2 ^ iw<=2 ^ k*2 ^ iw:=yaE _ this;rw[yaX,ycc]at this;rw[ybC,ybS (2 ^ iw)];omega
   obtain⟨r,hr⟩: ∃r,r=(iw+k) % 8:=⟨_,rfl⟩;obtain⟨q,hq⟩: ∃q,q=(iw+k) / 8:=⟨_,rfl⟩;rw[<- hr]at hroom;have hroom8:room+r<=8:=by omega
   obtain⟨s1,s2,s3,s4,s5⟩:=zmF (n:=l[i]) (k:=k) (room:=room) (q:=q) (r:=r) (size:=sz) (at':=iw+k) (by omega) (by omega) hroom8 hM (by omega)
   have hstep:=zlm l[i] k room;have hdlt:l[i] / 2 ^ k<18446744073709551616:=ybx (ycY _ _) hb;have hdi:(l[i]:Int) / 2 ^ k=((l[i] / 2 ^ k:Nat):Int):=by rw[yb3,ybu];rfl
   obtain⟨d,hd⟩: ∃d,d=l[i] / 2 ^ k:=⟨_,rfl⟩;obtain⟨pw,hpw⟩: ∃pw,pw=2 ^ room:=⟨_,rfl⟩;have hpwi:(2:Int) ^ room=pw:=by rw[hpw,ybu];rfl
   have hpw1:1<=pw:=by rw[hpw];exact ybr _
   have hpw8:pw<=256:=by rw[hpw];exact (ybl (by decide) (by omega:room<=8):2 ^ room<=2 ^ 8)
   obtain⟨mk,hmk⟩: ∃mk,mk=pw - 1:=⟨_,rfl⟩;have hmki:IntKind.u64.wrap (IntKind.u64.wrap (pw:Int) - 1)=mk:=by rw[zac,zac];omega
   have hand:d &&& mk=d % 2 ^ room:=by rw[hmk,hpw];exact zeb d room
   obtain⟨v,hv⟩: ∃v,v=d % 2 ^ room:=⟨_,rfl⟩;obtain⟨m0,hm0⟩: ∃m0,m0=(zb7 w (l.take i)+l[i] % 2 ^ k*2 ^ iw) / 256 ^ q % 256:=⟨_,rfl⟩;rw[<- hd,<- hv,<- hm0]at s4 s5;rw[<- hd,<- hv]at s3 hstep;rw[<- hm0]at s1 s2;rw[<- hd]at hdi hdlt;rw[<- hv]at hand;obtain⟨vr,hvr⟩: ∃vr,vr=v*2 ^ r:=⟨_,rfl⟩;rw[<- hvr]at s3 s4 s5;have hvri:(v:Int)*2 ^ r=vr:=by rw[hvr,ybp,ybu];rfl
   have hv256:v<256:=by rw[hv,<- hpw];have:=yb8 d hpw1;omega
   have hm256:m0<256:=by rw[hm0];exact yb8 _ (by decide)
   have q0:((iw:Int)+k) % 8=r:=by omega
   have q1:(((iw:Int)+k) / 8).toNat=q:=by omega
   have q2:(if (w:Int) - k<8 - r then (w:Int) - k else 8 - r)=(room:Int):=by split <;> omega
   have q4:min r 8=r:=by omega
   have q5:min k 64=k:=by omega
   have q6:min room 64=room:=by omega
   have hv256':(v:Int) % 256=v:=by omega
   have hvr256':(vr:Int) % 256=vr:=by omega
   obtain⟨mv,hmv⟩: ∃mv,mv=m0+vr:=⟨_,rfl⟩;rw[<- hmv]at s4 s5;have hmv256:mv<256:=by
    have:m0 ||| vr<2 ^ 8:=zso.2 ⟨by omega,by omega⟩
    omega
   have hset:(bytes (le sz (zb7 w (l.take i)+l[i] % 2 ^ k*2 ^ iw))).set q (.int .u8 (mv:Int))=bytes (le sz (zb7 w (l.take i)+l[i] % 2 ^ (k+room)*2 ^ iw)):=by
    have e:zb7 w (l.take i)+l[i] % 2 ^ k*2 ^ iw+v*2 ^ (iw+k)=zb7 w (l.take i)+l[i] % 2 ^ (k+room)*2 ^ iw:=by
     rw[<- hstep,yaX,ydH,<- ybC,yby k,yaC]
    rw[e]at s5;rw[<- s5];unfold bytes;rw[yb0];congr 1;simp[zbb,zeG hmv256]
   simp -dsimp -implicitDefEqProofs (disch:=first|omega|assumption) [h2',hiwi,q1,q0,q2,q4,q5,q6,s1,hpwi,hmki,hdi,hand,hvri,s4,hm256,hv256,s3,hv256',hvr256',hset]
   have hr1:1<=room:=by omega
   have hr2:k+room<=w:=by omega
   exact ih2 (k+room) _ _ hr2 (by omega) (by simp -dsimp -implicitDefEqProofs (disch:=first|omega|assumption))
  ·obtain rfl:k=w:=by omega
   have h2': ¬ (k:Int)<k:=by omega
   have hmod:l[i] % 2 ^ k=l[i]:=yaI hb2;subst hT2;simp -dsimp -implicitDefEqProofs (disch:=first|omega|assumption) [h2',hmod]
   rw[<- hnext];exact ih (i+1) _ _ h1 (by omega) (by simp -dsimp -implicitDefEqProofs (disch:=first|omega|assumption))
 ·rw[yaw (by omega)]
  subst hT';simp -dsimp -implicitDefEqProofs (disch:=first|omega|assumption) [h1]
  simpa -dsimp -implicitDefEqProofs (disch:=first|omega|assumption) using hT
end Go.Am.Ab
namespace Go.Am.Ab
open Go.Proofs
set_option maxHeartbeats 4000000
def zsr: ∀ (k n:Nat),le (k+1) n=le k n++[u8n (n / 256 ^ k % 256)]
 |0,n=>by simp[le]
 |k+1,n=>by
  rw[le,zsr k (n / 256),le,ybm,ybi,<- ydG]
def zwV {k n:Nat} (h:n<2 ^ (8*k)):le k n++[u8n 0]=le (k+1) n:=by
 rw[zsr,show 256 ^ k=2 ^ (8*k) by rw[show 256=2 ^ 8 from rfl,<- ydk],ydL h]
def ziT (l:List Nat) (w:Nat) (hl: ∀n∈l,n<18446744073709551616) (hw64:w<=64) (hn:l.length<=256) (hwd:zbd l<=w):
 R 144 [.d (ziS l),.d (.int .i64 w)] []=some ([.arr 0 (zbY w l).length,.d (.bool true)],[.arr 1 (bytes (zbY w l)) 0]):=by
 have hw:=zfN l hl (by omega)
 have hlt:=zpt hl hwd;have a1: ¬ (w:Int)<0:=by omega
 have a2: ¬ (64:Int)<w:=by omega
 have a3: ¬ (256:Int)<l.length:=by omega
 have a4: ¬ (w:Int)<zbd l:=by omega
 obtain⟨lw,hlw⟩: ∃lw:Nat,lw=l.length*w:=⟨_,rfl⟩;have hlw':lw<=256*64:=by rw[hlw];exact ybG hn hw64
 unfold zbY;rw[<- hlw];refine rg zGk rfl ?_;intro T hT;simp -dsimp -implicitDefEqProofs (disch:=first|omega|assumption) [hw,a1,a2,a3,a4]
 generalize hz:zad _ _ _ _ _ _=z;revert z;refine zaa (σ:=Nat) (λi=>[(0,.d (ziS l)),(1,.d (.int .i64 w)),(6,.arr 0 ((i*w+7) / 8)),(7,.d (.int .i64 ((i*w:Nat):Int))),(8,.d (.int .i64 i))]) (λi=>[.arr 1 (bytes (le ((i*w+7) / 8) (zb7 w (l.take i)))) 0]) (λi=>i<=l.length) (λi=>l.length - i) 0 ?_ ?_ ?_
 ·simp
 ·simp -dsimp -implicitDefEqProofs (disch:=first|omega|assumption) [zb7,le]
 intro T' f hT' i hi ih
 by_cases h1:i<l.length
 ·have hb:=hl l[i] (by simp)
  have hb2:=hlt l[i] (by simp)
  obtain⟨iw,hiw⟩: ∃iw:Nat,iw=i*w:=⟨_,rfl⟩;have hiwl:iw+w<=lw:=by
   have:(i+1)*w<=l.length*w:=yaE _ h1;rw[yaX]at this;omega
  have hM0:zb7 w (l.take i)<2 ^ iw:=by
   have:=zll w (l.take i) λn h=>hlt n (yaH h)
   rwa [yao,ycn hi,<- hiw]at this
  have hnext:zb7 w (l.take (i+1))=zb7 w (l.take i)+l[i]*2 ^ iw:=by rw[zap h1,zg5,yao,ycn hi,<- hiw]
  have hiw1:(i+1)*w=iw+w:=by rw[yaX,<- hiw,ycc]
  rw[<- hiw];simp -dsimp -implicitDefEqProofs (disch:=first|omega|assumption) [h1]
  generalize hz:zad _ _ _ _ _ _=z;revert z;refine zaa (σ:=Nat) (λk=>[(0,.d (ziS l)),(1,.d (.int .i64 w)),(6,.arr 0 ((iw+k+7) / 8)),(7,.d (.int .i64 ((iw+k:Nat):Int))),(8,.d (.int .i64 i)),(9,.d (.int .i64 k))]) (λk=>[.arr 1 (bytes (le ((iw+k+7) / 8) (zb7 w (l.take i)+l[i] % 2 ^ k*2 ^ iw))) 0]) (λk=>k<=w) (λk=>w - k) 0 ?_ ?_ ?_
  ·simp
  ·simp -dsimp -implicitDefEqProofs (disch:=first|omega|assumption) [ydU]
  intro T2 f2 hT2 k hk ih2
  by_cases h2:k<w
  ·have h2':(k:Int)<w:=by omega
   obtain⟨M,hMdef⟩: ∃M,M=zb7 w (l.take i)+l[i] % 2 ^ k*2 ^ iw:=⟨_,rfl⟩;have hM:M<2 ^ (iw+k):=by
    have:l[i] % 2 ^ k<2 ^ k:=yb8 _ (ybr _);have:(l[i] % 2 ^ k+1)*2 ^ iw<=2 ^ k*2 ^ iw:=yaE _ this;rw[yaX,ycc]at this;rw[ybC,ybS (2 ^ iw),hMdef];omega
   obtain⟨r,hr⟩: ∃r,r=(iw+k) % 8:=⟨_,rfl⟩;obtain⟨q,hq⟩: ∃q,q=(iw+k) / 8:=⟨_,rfl⟩;obtain⟨s1,s2,s3,s4,s5⟩:=zmF (n:=l[i]) (k:=k) (room:=1) (q:=q) (r:=r) (size:=q+1) (at':=iw+k) (by omega) (by omega) (by omega) hM (by omega)
   have hstep:=zlm l[i] k 1;have hdi:(l[i]:Int) / 2 ^ k=((l[i] / 2 ^ k:Nat):Int):=by rw[yb3,ybu];rfl
   obtain⟨d,hd⟩: ∃d,d=l[i] / 2 ^ k:=⟨_,rfl⟩;obtain⟨m0,hm0⟩: ∃m0,m0=M / 256 ^ q % 256:=⟨_,rfl⟩;rw[<- hd,<- hm0,Nat.pow_one]at s4 s5;rw[<- hd,Nat.pow_one]at s3 hstep;rw[<- hm0]at s1 s2;rw[<- hd]at hdi;obtain⟨pr,hpr⟩: ∃pr,pr=2 ^ r:=⟨_,rfl⟩;have hpri:(2:Int) ^ r=pr:=by rw[hpr,ybu];rfl
   rw[<- hpr]at s2 s3 s4 s5;have hm256:m0<256:=by rw[hm0];exact yb8 _ (by decide)
   have e5:M+d % 2*2 ^ (iw+k)=zb7 w (l.take i)+l[i] % 2 ^ (k+1)*2 ^ iw:=by
    rw[<- hstep,hMdef,yaX,ydH,<- ybC,yby k,yaC]
   rw[e5]at s5;have hpr256:pr<=128:=by rw[hpr];exact (ybl (by decide) (by omega:r<=7):2 ^ r<=2 ^ 7)
   have q0:((iw:Int)+k) % 8=r:=by omega
   have q1:(((iw:Int)+k) / 8).toNat=q:=by omega
   have q4:min r 8=r:=by omega
   have q5:min k 64=k:=by omega
   have hwk:IntKind.u64.wrap (k:Int)=k:=zai (by omega) (by omega)
   have hwr:IntKind.u64.wrap (r:Int)=r:=zai (by omega) (by omega)
   have hnew:(iw+(k+1)+7) / 8=q+1:=by omega
   have hsz:(r=0/\(iw+k+7) / 8=q)\/(r≠0/\(iw+k+7) / 8=q+1):=by omega
   have hmore:r=0->bytes (le q M)++[D.int .u8 0]=bytes (le (q+1) M):=by
    intro h;rw[<- zwV (k:=q) (n:=M) (by rw[show 8*q=iw+k by omega];exact hM)]
    simp[bytes,zbb,u8n]
   rw[<- hMdef];have hset:d % 2=1->(bytes (le (q+1) M)).set q (.int .u8 ((m0:Int)+pr))=bytes (le (q+1) (zb7 w (l.take i)+l[i] % 2 ^ (k+1)*2 ^ iw)):=by
    intro h;rw[h,ycc]at s5 s3;rw[<- s5];unfold bytes;rw[yb0];congr 1;have:m0+pr<256:=by
     rw[h,ycc]at s4;have:m0 ||| pr<2 ^ 8:=zso.2 ⟨by omega,by omega⟩
     omega
    simp[zbb,zeG this]
   have hnot:d % 2≠1->zb7 w (l.take i)+l[i] % 2 ^ (k+1)*2 ^ iw=M:=by
    intro h;have h0:d % 2=0:=by omega
    rw[<- e5,h0];simp
   have hsum:d % 2=1->m0+pr<256:=by
    intro h;rw[h,ycc]at s4 s3;have:m0 ||| pr<2 ^ 8:=zso.2 ⟨by omega,by omega⟩
    omega
   rcases hsz with ⟨h0,hz⟩ | ⟨h0,hz⟩
   ·rw[hz]
    have hm:=hmore h0;obtain rfl:pr=1:=by rw[hpr,h0]
    have q0':((iw:Int)+k) % 8=0:=by omega
    clear q0
    by_cases h3:d % 2=1
    ·have h3':(d:Int) % 2=1:=by omega
     have hs:(bytes (le (q+1) M)).set q (.int .u8 ((m0:Int)+1))=_:=hset h3;have hsm:=hsum h3;have hsm':((m0:Int)+1) % 256=m0+1:=by omega
     have hw0:IntKind.u64.wrap 0=0:=by decide
     simp -dsimp -implicitDefEqProofs (disch:=first|omega|assumption) [h2',q0',q1,q5,hwk,hw0,hm,s1,hdi,h3',hs,hsm']
     refine ih2 (k+1) _ _ (by omega) (by omega) ?_
     simp -dsimp -implicitDefEqProofs (disch:=first|omega|assumption) [hnew,hs,ydJ]
    ·have h3': ¬ (d:Int) % 2=1:=by omega
     have hs:=hnot h3;simp -dsimp -implicitDefEqProofs (disch:=first|omega|assumption) [h2',q0',q1,q5,hwk,hm,s1,hdi,h3',hs]
     refine ih2 (k+1) _ _ (by omega) (by omega) ?_
     simp -dsimp -implicitDefEqProofs (disch:=first|omega|assumption) [hnew,hs,ydJ]
   ·rw[hz]
    by_cases h3:d % 2=1
    ·have h3':(d:Int) % 2=1:=by omega
     have hs:=hset h3;have hsm:=hsum h3;have hsm':((m0:Int)+pr) % 256=m0+pr:=by omega
     simp -dsimp -implicitDefEqProofs (disch:=first|omega|assumption) [h2',q0,q1,q4,q5,h0,hwk,hwr,s1,hdi,h3',hpri,hs,hsm']
     refine ih2 (k+1) _ _ (by omega) (by omega) ?_
     simp -dsimp -implicitDefEqProofs (disch:=first|omega|assumption) [hnew,hs,ydJ]
    ·have h3': ¬ (d:Int) % 2=1:=by omega
     have hs:=hnot h3;simp -dsimp -implicitDefEqProofs (disch:=first|omega|assumption) [h2',q0,q1,q4,q5,h0,hwk,hwr,s1,hdi,h3',hpri,hs]
     refine ih2 (k+1) _ _ (by omega) (by omega) ?_
     simp -dsimp -implicitDefEqProofs (disch:=first|omega|assumption) [hnew,hs,ydJ]
  ·obtain rfl:k=w:=by omega
   have h2': ¬ (k:Int)<k:=by omega
   have hmod:l[i] % 2 ^ k=l[i]:=yaI hb2;subst hT2;simp -dsimp -implicitDefEqProofs (disch:=first|omega|assumption) [h2',hmod]
   rw[<- hnext];refine ih (i+1) _ _ h1 (by omega) ?_
   simp -dsimp -implicitDefEqProofs (disch:=first|omega|assumption) [hiw1]
 ·rw[yaw (by omega)]
  obtain rfl:i=l.length:=by omega
  rw[<- hlw];subst hT';simp -dsimp -implicitDefEqProofs (disch:=first|omega|assumption) [h1]
  simpa -dsimp -implicitDefEqProofs (disch:=first|omega|assumption) using hT
end Go.Am.Ab
