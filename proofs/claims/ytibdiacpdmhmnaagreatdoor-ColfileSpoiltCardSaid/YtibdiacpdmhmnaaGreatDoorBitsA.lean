/- Widths, and the packing of numbers. -/
import Derived.Test.YtibdiacpdmhmnaaGreatDoorBase
set_option linter.all false
namespace Go.Am.Ab
open Go.Proofs
set_option maxHeartbeats 4000000
def ztt:Nat->Nat->Nat
 |0,_=>0
 |k+1,n=>if n=0 then 0 else ztt k (n / 2)+1
def zbU (n:Nat):Nat:=ztt 64 n
def zrN: ∀ (k n m:Nat),n<2 ^ k->(ztt k n<=m↔n<2 ^ m)
 |0,n,m,h=>by
  have:n=0:=by omega
  subst this;have:=ybp m;simpa[ztt]using this
 |k+1,n,m,h=>by
  rw[ztt]
  by_cases h0:n=0
  ·subst h0
   have:=ybp m;simpa using this
  ·rw[yag h0]
   cases m with
   |zero=>simp;omega
   |succ m=>
    have ih:=zrN k (n / 2) m (by rw[ycr]at h;omega)
    rw[ycr];omega
def zbo {n m:Nat} (h:n<18446744073709551616):zbU n<=m↔n<2 ^ m:=zrN 64 n m (by simpa using h)
def zu9 {n m:Nat} (h:n<18446744073709551616):m<zbU n↔2 ^ m<=n:=by
 have:=zbo (m:=m) h;omega
def zni {n:Nat} (h:n<18446744073709551616):zbU n<=64:=(zbo h).2 (by simpa using h)
def zcW {n k:Nat} (h:n<18446744073709551616) (hk:2 ^ k<=n):zbU n=k+zbU (n / 2 ^ k):=by
 have hd:n / 2 ^ k<18446744073709551616:=ybE (yc1 _ _) h;have hpos:=ybp k;have key: ∀m,zbU n<=k+m↔zbU (n / 2 ^ k)<=m:=λm=>by
  rw[zbo h,zbo hd,ybB,yb4 hpos,ybR]
 have h1:=(key (zbU (n / 2 ^ k))).2 (yaf _);have hgt:k<zbU n:=(zu9 h).2 hk;have h2:=(key (zbU n - k)).1 (by omega)
 omega
set_option maxRecDepth 100000 in
def ztu (n:Nat) (hn:n<18446744073709551616):R 180 [.d (.int .u64 n)] []=some ([.d (.int .i64 (zbU n))],[]):=by
 refine rg zJC rfl ?_;intro T hT;generalize hs:ByteArray.mk _=tab;have htab: ∀m:Nat,m<256->tab[m]? =some (u8n (zbU m)):=by
  rw[<- hs];decide +kernel
 clear hs;have look: ∀ (m:Nat) (x:Int),m<256->x.toNat=m->tab[x.toNat]? =some (u8n (zbU m)):=λm x hm hx=>by rw[hx,htab m hm]
 have hb64:=zni hn
 by_cases h1:4294967296<=n
 ·have b1:=zcW (n:=n) (k:=32) (by omega) (by omega)
  simp only[Nat.reducePow]at b1;have h1':(4294967296:Int)<=(n:Int):=by omega
  by_cases h2:65536<=n / 4294967296
  ·have b2:=zcW (n:=n / 4294967296) (k:=16) (by omega) (by omega)
   simp only[Nat.reducePow]at b2;have h2':(65536:Int)<=(n:Int) / 4294967296:=by omega
   by_cases h3:256<=n / 4294967296 / 65536
   ·have b3:=zcW (n:=n / 4294967296 / 65536) (k:=8) (by omega) (by omega)
    simp only[Nat.reducePow]at b3;have h3':(256:Int)<=(n:Int) / 4294967296 / 65536:=by omega
    have hm:n / 4294967296 / 65536 / 256<256:=by omega
    have hm8:zbU (n / 4294967296 / 65536 / 256)<=8:=(zbo (by omega)).2 (by omega)
    have hl:=look (n / 4294967296 / 65536 / 256) ((n:Int) / 4294967296 / 65536 / 256 % 256) hm (by omega)
    have hbn:((zbU n:Nat):Int)=56+(zbU (n / 4294967296 / 65536 / 256):Nat):=by omega
    rw[hbn]at hT;generalize zbU (n / 4294967296 / 65536 / 256)=q at*;simp -dsimp -implicitDefEqProofs (disch:=first|omega|assumption) [zas,h1',h2',h3',hl]
    simpa -dsimp -implicitDefEqProofs (disch:=first|omega|assumption) using hT
   ·have h3': ¬ (256:Int)<=(n:Int) / 4294967296 / 65536:=by omega
    have hm:n / 4294967296 / 65536<256:=by omega
    have hm8:zbU (n / 4294967296 / 65536)<=8:=(zbo (by omega)).2 (by omega)
    have hl:=look (n / 4294967296 / 65536) ((n:Int) / 4294967296 / 65536 % 256) hm (by omega)
    have hbn:((zbU n:Nat):Int)=48+(zbU (n / 4294967296 / 65536):Nat):=by omega
    rw[hbn]at hT;generalize zbU (n / 4294967296 / 65536)=q at*;simp -dsimp -implicitDefEqProofs (disch:=first|omega|assumption) [zas,h1',h2',h3',hl]
    simpa -dsimp -implicitDefEqProofs (disch:=first|omega|assumption) using hT
  ·have h2': ¬ (65536:Int)<=(n:Int) / 4294967296:=by omega
   by_cases h3:256<=n / 4294967296
   ·have b3:=zcW (n:=n / 4294967296) (k:=8) (by omega) (by omega)
    simp only[Nat.reducePow]at b3;have h3':(256:Int)<=(n:Int) / 4294967296:=by omega
    have hm:n / 4294967296 / 256<256:=by omega
    have hm8:zbU (n / 4294967296 / 256)<=8:=(zbo (by omega)).2 (by omega)
    have hl:=look (n / 4294967296 / 256) ((n:Int) / 4294967296 / 256 % 256) hm (by omega)
    have hbn:((zbU n:Nat):Int)=40+(zbU (n / 4294967296 / 256):Nat):=by omega
    rw[hbn]at hT;generalize zbU (n / 4294967296 / 256)=q at*;simp -dsimp -implicitDefEqProofs (disch:=first|omega|assumption) [zas,h1',h2',h3',hl]
    simpa -dsimp -implicitDefEqProofs (disch:=first|omega|assumption) using hT
   ·have h3': ¬ (256:Int)<=(n:Int) / 4294967296:=by omega
    have hm:n / 4294967296<256:=by omega
    have hm8:zbU (n / 4294967296)<=8:=(zbo (by omega)).2 (by omega)
    have hl:=look (n / 4294967296) ((n:Int) / 4294967296 % 256) hm (by omega)
    have hbn:((zbU n:Nat):Int)=32+(zbU (n / 4294967296):Nat):=by omega
    rw[hbn]at hT;generalize zbU (n / 4294967296)=q at*;simp -dsimp -implicitDefEqProofs (disch:=first|omega|assumption) [zas,h1',h2',h3',hl]
    simpa -dsimp -implicitDefEqProofs (disch:=first|omega|assumption) using hT
 ·have h1': ¬ (4294967296:Int)<=(n:Int):=by omega
  by_cases h2:65536<=n
  ·have b2:=zcW (n:=n) (k:=16) (by omega) (by omega)
   simp only[Nat.reducePow]at b2;have h2':(65536:Int)<=(n:Int):=by omega
   by_cases h3:256<=n / 65536
   ·have b3:=zcW (n:=n / 65536) (k:=8) (by omega) (by omega)
    simp only[Nat.reducePow]at b3;have h3':(256:Int)<=(n:Int) / 65536:=by omega
    have hm:n / 65536 / 256<256:=by omega
    have hm8:zbU (n / 65536 / 256)<=8:=(zbo (by omega)).2 (by omega)
    have hl:=look (n / 65536 / 256) ((n:Int) / 65536 / 256 % 256) hm (by omega)
    have hbn:((zbU n:Nat):Int)=24+(zbU (n / 65536 / 256):Nat):=by omega
    rw[hbn]at hT;generalize zbU (n / 65536 / 256)=q at*;simp -dsimp -implicitDefEqProofs (disch:=first|omega|assumption) [zas,h1',h2',h3',hl]
    simpa -dsimp -implicitDefEqProofs (disch:=first|omega|assumption) using hT
   ·have h3': ¬ (256:Int)<=(n:Int) / 65536:=by omega
    have hm:n / 65536<256:=by omega
    have hm8:zbU (n / 65536)<=8:=(zbo (by omega)).2 (by omega)
    have hl:=look (n / 65536) ((n:Int) / 65536 % 256) hm (by omega)
    have hbn:((zbU n:Nat):Int)=16+(zbU (n / 65536):Nat):=by omega
    rw[hbn]at hT;generalize zbU (n / 65536)=q at*;simp -dsimp -implicitDefEqProofs (disch:=first|omega|assumption) [zas,h1',h2',h3',hl]
    simpa -dsimp -implicitDefEqProofs (disch:=first|omega|assumption) using hT
  ·have h2': ¬ (65536:Int)<=(n:Int):=by omega
   by_cases h3:256<=n
   ·have b3:=zcW (n:=n) (k:=8) (by omega) (by omega)
    simp only[Nat.reducePow]at b3;have h3':(256:Int)<=(n:Int):=by omega
    have hm:n / 256<256:=by omega
    have hm8:zbU (n / 256)<=8:=(zbo (by omega)).2 (by omega)
    have hl:=look (n / 256) ((n:Int) / 256 % 256) hm (by omega)
    have hbn:((zbU n:Nat):Int)=8+(zbU (n / 256):Nat):=by omega
    rw[hbn]at hT;generalize zbU (n / 256)=q at*;simp -dsimp -implicitDefEqProofs (disch:=first|omega|assumption) [zas,h1',h2',h3',hl]
    simpa -dsimp -implicitDefEqProofs (disch:=first|omega|assumption) using hT
   ·have h3': ¬ (256:Int)<=(n:Int):=by omega
    have hm:n<256:=by omega
    have hm8:zbU (n)<=8:=(zbo (by omega)).2 (by omega)
    have hl:=look (n) ((n:Int) % 256) hm (by omega)
    have hl2:tab[n % 256]? =some (u8n (zbU n)):=by rw[yaJ hm,htab n hm]
    have hbn:((zbU n:Nat):Int)=0+(zbU (n):Nat):=by omega
    rw[hbn]at hT;generalize zbU (n)=q at*;simp -dsimp -implicitDefEqProofs (disch:=first|omega|assumption) [zas,h1',h2',h3',hl2]
    simpa -dsimp -implicitDefEqProofs (disch:=first|omega|assumption) using hT
def zva {a b m:Nat}:a ||| b<2 ^ m↔a<2 ^ m/\b<2 ^ m:=by
 constructor
 ·intro h
  exact⟨ybE Nat.left_le_or h,ybE Nat.right_le_or h⟩
 ·rintro ⟨h1,h2⟩
  exact yc8 h1 h2
def zvb {a b:Nat} (ha:a<18446744073709551616) (hb:b<18446744073709551616):a ||| b<18446744073709551616:=by
 have:=(zva (m:=64) (a:=a) (b:=b)).2 ⟨by omega,by omega⟩
 omega
def zzZ {a b:Nat} (ha:a<18446744073709551616) (hb:b<18446744073709551616):zbU (a ||| b)=max (zbU a) (zbU b):=by
 have hab:a ||| b<18446744073709551616:=zvb ha hb;have key: ∀m,zbU (a ||| b)<=m↔max (zbU a) (zbU b)<=m:=λm=>by
  rw[zbo hab,zva,<- zbo ha,<- zbo hb];omega
 have h1:=(key (max (zbU a) (zbU b))).2 (yaf _);have h2:=(key (zbU (a ||| b))).1 (yaf _);omega
def zbc (l:List Nat):Nat:=l.foldl (λw n=>max w (zbU n)) 0
def zme (l:List Nat) (n:Nat):zbc (l++[n])=max (zbc l) (zbU n):=by simp[zbc]
def zbN {l:List Nat} (hl: ∀n∈l,n<18446744073709551616):zbc l<=64:=by
 unfold zbc;have: ∀ (l:List Nat) (w:Nat),w<=64->(∀n∈l,n<18446744073709551616)->l.foldl (λw n=>max w (zbU n)) w<=64:=by
  intro l
  induction l with
  |nil=>intro w h _;simpa using h
  |cons n l ih=>
   intro w h hn;simp only[ya7];exact ih _ (by have:=zni (hn n (by simp));omega) λm hm=>hn m (by simp[hm])
 exact this l 0 (by decide) hl
def zao {α:Type} {l:List α} {i:Nat} (h:i<l.length):l.take (i+1)=l.take i++[l[i]]:=ybc h
abbrev zkd (l:List Nat):D:= .list (l.map λ(n:Nat)=>D.int .u64 (n:Int))
def zfy (l:List Nat) (hl: ∀n∈l,n<18446744073709551616) (hn:l.length<4611686018427387904):R 158 [.d (zkd l)] []=some ([.d (.int .i64 (zbc l))],[]):=by
 refine rg zJs rfl ?_;intro T hT;simp -dsimp -implicitDefEqProofs (disch:=first|omega|assumption)
 generalize hz:zaj _ _ _ _ _ _=z;revert z;refine zaa (σ:=Nat × Nat) (λx=>[(3,.d (.int .u64 x.2)),(6,.d (zkd l)),(7,.d (.int .i64 l.length)),(8,.d (.int .i64 x.1))]) (λx=>[]) (λx=>x.1<=l.length/\x.2<18446744073709551616/\zbU x.2=zbc (l.take x.1)) (λx=>l.length - x.1) (0,0) ?_ ?_ ?_
 ·simp[zbc,zbU,ztt]
 ·simp
 intro T' f hT' ⟨i,a⟩ ⟨hi,ha,hw⟩ ih;simp only at hi ha hw ih
 by_cases h1:i<l.length
 ·have hb:=hl l[i] (by simp)
  have hab:a ||| l[i]<18446744073709551616:=zvb ha hb;simp -dsimp -implicitDefEqProofs (disch:=first|omega|assumption) [h1]
  refine ih (i+1,a ||| l[i]) _ _ ⟨h1,hab, ?_⟩ (by simp only;omega) (by simp -dsimp -implicitDefEqProofs (disch:=first|omega|assumption))
  simp only;rw[zzZ ha hb,zao h1,zme,hw]
 ·rw[yar (by omega)]at hw
  have hlen:=ztu a ha;rw[hw]at hlen;subst hT';simp -dsimp -implicitDefEqProofs (disch:=first|omega|assumption) [h1]
  simp -dsimp -implicitDefEqProofs (disch:=first|omega|assumption) [hlen]
  simpa -dsimp -implicitDefEqProofs (disch:=first|omega|assumption) using hT
def zgx (l:List Nat) (hl: ∀n∈l,n<18446744073709551616) (hn:l.length<4611686018427387904):R 173 [.d (zkd l)] []=some ([.d (.int .i64 (zbc l))],[]):=by
 refine rg zJz rfl ?_;intro T hT;simp -dsimp -implicitDefEqProofs (disch:=first|omega|assumption)
 generalize hz:zaj _ _ _ _ _ _=z;revert z;refine zaa (σ:=Nat) (λi=>[(0,.d (zkd l)),(3,.d (.int .i64 (zbc (l.take i)))),(4,.d (.int .i64 i))]) (λx=>[]) (λi=>i<=l.length) (λi=>l.length - i) 0 ?_ ?_ ?_
 ·simp
 ·simp[zbc]
 intro T' f hT' i hi ih
 by_cases h1:i<l.length
 ·have hb:=hl l[i] (by simp)
  have hw0:zbc (l.take i)<=64:=zbN λn h=>hl n (yaD h)
  have hb64:=zni hb;simp -dsimp -implicitDefEqProofs (disch:=first|omega|assumption) [h1]
  generalize hz:zaj _ _ _ _ _ _=z;revert z;refine zaa (σ:=Nat) (λw=>[(0,.d (zkd l)),(3,.d (.int .i64 w)),(4,.d (.int .i64 i))]) (λx=>[]) (λw=>zbc (l.take i)<=w/\(w=zbc (l.take i)\/w<=zbU l[i])/\w<=64) (λw=>64 - w) (zbc (l.take i)) ?_ ?_ ?_
  ·exact⟨yaf _,.inl rfl,hw0⟩
  ·simp
  intro T2 f2 hT2 w ⟨hw1,hw2,hw3⟩ ih2;have hmin:min w 64=w:=by omega
  have hwrap:IntKind.u64.wrap (w:Int)=w:=zak (by omega) (by omega)
  have out: ∀s1:Slots,zbS s1 0= .d (zkd l)->zbS s1 3= .d (.int .i64 w)->zbS s1 4= .d (.int .i64 i)->w=zbc (l.take (i+1))->T2 (some (.exit 2,s1,[])):=by
   intro s1 e0 e3 e4 hw;subst hT2;simp -dsimp -implicitDefEqProofs (disch:=first|omega|assumption) [e0,e3,e4]
   refine ih (i+1) _ _ (by omega) (by omega) ?_
   simp -dsimp -implicitDefEqProofs (disch:=first|omega|assumption) [e0,e3,e4,hw]
  have hws:zbc (l.take (i+1))=max (zbc (l.take i)) (zbU l[i]):=by rw[zao h1,zme]
  by_cases h2:w<64
  ·have h2':(w:Int)<64:=by omega
   by_cases h3:w<zbU l[i]
   ·have hp:=(zu9 hb).1 h3
    have hq:0<l[i] / 2 ^ w:=Nat.div_pos hp (ybp w);have hq':(0:Int)<(l[i]:Int) / 2 ^ w:=by
     have:((l[i] / 2 ^ w:Nat):Int)=(l[i]:Int) / 2 ^ w:=by rw[ybZ,ybI];rfl
     rw[<- this];omega
    simp -dsimp -implicitDefEqProofs (disch:=first|omega|assumption) [h1,h2',hwrap,hmin,hq']
    exact ih2 (w+1) _ _ ⟨by omega,by omega,by omega⟩ (by omega) (by simp -dsimp -implicitDefEqProofs (disch:=first|omega|assumption))
   ·have hq:l[i] / 2 ^ w=0:=ycb ((zbo hb).1 (by omega))
    have hq': ¬ (0:Int)<(l[i]:Int) / 2 ^ w:=by
     have:((l[i] / 2 ^ w:Nat):Int)=(l[i]:Int) / 2 ^ w:=by rw[ybZ,ybI];rfl
     rw[<- this,hq];simp
    simp -dsimp -implicitDefEqProofs (disch:=first|omega|assumption) [h1,h2',hwrap,hmin,hq']
    exact out _ (by simp) (by simp) (by simp) (by rw[hws];omega)
  ·have h2': ¬ (w:Int)<64:=by omega
   simp -dsimp -implicitDefEqProofs (disch:=first|omega|assumption) [h1,h2']
   exact out _ (by simp) (by simp) (by simp) (by rw[hws];omega)
 ·have hw:zbc (l.take i)=zbc l:=by rw[yar (by omega)]
  subst hT';simp -dsimp -implicitDefEqProofs (disch:=first|omega|assumption) [h1,hw]
  simpa -dsimp -implicitDefEqProofs (disch:=first|omega|assumption) using hT
end Go.Am.Ab
namespace Go.Am.Ab
open Go.Proofs
set_option maxHeartbeats 4000000
def le:Nat->Nat->List UInt8
 |0,_=>[]
 |k+1,n=>u8n (n % 256)::le k (n / 256)
@[simp] def zke: ∀k n,(le k n).length=k
 |0,_=>rfl
 |k+1,n=>by simp[le,zke k]
def zvc: ∀k,le k 0=List.replicate k (u8n 0)
 |0=>rfl
 |k+1=>by simp[le,zvc k,yaS]
def zy4: ∀ (k n q:Nat),q<k->(le k n)[q]? =some (u8n (n / 256 ^ q % 256))
 |0,_,_,h=>by omega
 |k+1,n,0,_=>by simp[le]
 |k+1,n,q+1,h=>by
  simp only[le,yby];rw[zy4 k (n / 256) q (by omega),ybi,<- ydQ]
def zy5: ∀ (k n q v:Nat),q<k->n / 256 ^ q % 256+v<256->(le k n).set q (u8n (n / 256 ^ q % 256+v))=le k (n+v*256 ^ q)
 |0,_,_,_,h,_=>by omega
 |k+1,n,0,v,_,hv=>by
  simp only[Nat.pow_zero,Nat.div_one,yb7]at hv ⊢;simp only[le,yc2];rw[show (n+v) % 256=n % 256+v by omega,show (n+v) / 256=n / 256 by omega]
 |k+1,n,q+1,v,h,hv=>by
  have e:n / 256 ^ (q+1)=n / 256 / 256 ^ q:=by rw[ybi,<- ydQ]
  rw[e]at hv ⊢;simp only[le,List.set_cons_succ];rw[zy5 k (n / 256) q v (by omega) hv]
  have e2:v*256 ^ (q+1)=256*(v*256 ^ q):=by rw[ycr,<- ydr,ybR]
  rw[e2,ydJ,Nat.add_mul_div_left _ _ (by decide)]
def zbL (w:Nat):List Nat->Nat
 |[]=>0
 |n::r=>n+2 ^ w*zbL w r
def zh1 (w:Nat): ∀ (a:List Nat) (n:Nat),zbL w (a++[n])=zbL w a+n*2 ^ (a.length*w)
 |[],n=>by simp[zbL]
 |m::a,n=>by
  simp only[yaV,zbL,zh1 w a n,yad,ya0,yb8,ybB,ycQ];rw[ybR (2 ^ (a.length*w)) (2 ^ w),Nat.mul_left_comm,yaH]
def zjm (w:Nat): ∀ (a:List Nat),(∀n∈a,n<2 ^ w)->zbL w a<2 ^ (a.length*w)
 |[],_=>by simp[zbL]
 |m::a,h=>by
  have h1:=h m (by simp)
  have h2:=zjm w a λn hn=>h n (by simp[hn])
  simp only[zbL,yad,ya0,yb8,ybB];have:2 ^ w*(zbL w a+1)<=2 ^ w*2 ^ (a.length*w):=Nat.mul_le_mul_left _ h2;rw[ycQ,yb7]at this;rw[ybR (2 ^ (a.length*w))];omega
def za8 (w:Nat) (l:List Nat):List UInt8:=le ((l.length*w+7) / 8) (zbL w l)
def zfz {l:List Nat} {w:Nat} (hl: ∀n∈l,n<18446744073709551616) (h:zbc l<=w): ∀n∈l,n<2 ^ w:=by
 have: ∀ (l:List Nat) (a:Nat),(∀n∈l,n<18446744073709551616)->l.foldl (λw n=>max w (zbU n)) a<=w->a<=w/\ ∀n∈l,n<2 ^ w:=by
  intro l
  induction l with
  |nil=>intro a _ h;exact⟨by simpa using h,by simp⟩
  |cons n l ih=>
   intro a hn h;simp only[ya7]at h;obtain⟨h1,h2⟩:=ih _ (λm hm=>hn m (by simp[hm])) h
   refine⟨by omega,λm hm=> ?_⟩
   rcases List.mem_cons.1 hm with rfl | hm
   ·exact (zbo (hn m (by simp))).1 (by omega)
   ·exact h2 m hm
 exact (this l 0 hl h).2
def zoL {M n k room q r at' size:Nat} (hat:at'=8*q+r) (hr:r<8) (hroom:room+r<=8) (hM:M<2 ^ at') (hq:q<size):
 (le size M)[q]? =some (u8n (M / 256 ^ q % 256))/\M / 256 ^ q % 256<2 ^ r/\n / 2 ^ k % 2 ^ room*2 ^ r<256/\(M / 256 ^ q % 256 ||| n / 2 ^ k % 2 ^ room*2 ^ r)=M / 256 ^ q % 256+n / 2 ^ k % 2 ^ room*2 ^ r/\
 (le size M).set q (u8n (M / 256 ^ q % 256+n / 2 ^ k % 2 ^ room*2 ^ r))=le size (M+n / 2 ^ k % 2 ^ room*2 ^ at'):=by
 have h256:256 ^ q=2 ^ (8*q):=by rw[show 256=2 ^ 8 from rfl,<- ydw]
 have hlow:M / 256 ^ q<2 ^ r:=by
  rw[h256,yb4 (ybp _),<- ybB,ybC,<- hat];exact hM
 have h8:2 ^ r<=2 ^ 8:=ybu (by decide) (by omega)
 have hmod:M / 256 ^ q % 256=M / 256 ^ q:=yaJ (by omega)
 have hp:n / 2 ^ k % 2 ^ room<2 ^ room:=ycp _ (ybp _);have hpr:n / 2 ^ k % 2 ^ room*2 ^ r+2 ^ r<=2 ^ (room+r):=by
  rw[ybB,<- ydE];exact yaF _ hp
 have h9:2 ^ (room+r)<=2 ^ 8:=ybu (by decide) hroom
 refine⟨zy4 _ _ _ hq,by rw[hmod];exact hlow,by omega, ?_, ?_⟩
 ·rw[hmod];exact zgv (i:=r) (ydm _ _) hlow
 ·rw[zy5 _ _ _ _ hq (by rw[hmod];omega),h256,ydr,<- ybB,ybC r,<- hat]
def znj (n k room:Nat):n % 2 ^ k+n / 2 ^ k % 2 ^ room*2 ^ k=n % 2 ^ (k+room):=by
 rw[ybB,Nat.mod_mul,ybR]
def zrO (l:List Nat) (w:Nat) (hl: ∀n∈l,n<18446744073709551616) (hw64:w<=64) (hn:l.length<=256) (hwd:zbc l<=w):
 R 126 [.d (zkd l),.d (.int .i64 w)] []=some ([.arr 0 (za8 w l).length,.d (.bool true)],[.arr 1 (bytes (za8 w l)) 0]):=by
 have hw:=zfy l hl (by omega)
 have hlt:=zfz hl hwd;have a1: ¬ (w:Int)<0:=by omega
 have a2: ¬ (64:Int)<w:=by omega
 have a3: ¬ (256:Int)<l.length:=by omega
 have a4: ¬ (w:Int)<zbc l:=by omega
 obtain⟨sz,hsz⟩: ∃sz,sz=(l.length*w+7) / 8:=⟨_,rfl⟩;obtain⟨lw,hlw⟩: ∃lw:Nat,lw=l.length*w:=⟨_,rfl⟩;have hlw':lw<=256*64:=by rw[hlw];exact ybK hn hw64
 have hlwi:(l.length:Int)*w=lw:=by rw[hlw,ybz]
 have hszi:((lw:Int)+7) / 8=sz:=by rw[hsz,<- hlw];omega
 have hszt:(((lw:Int)+7) / 8).toNat=sz:=by rw[hszi];simp
 rw[<- hlw]at hsz;unfold za8;rw[<- hlw,<- hsz];refine rg zJi rfl ?_;intro T hT;simp -dsimp -implicitDefEqProofs (disch:=first|omega|assumption) [hw,a1,a2,a3,a4,hlwi,hszi]
 generalize hz:zaj _ _ _ _ _ _=z;revert z;refine zaa (σ:=Nat) (λi=>[(1,.d (.int .i64 w)),(6,.arr 0 sz),(36,.d (zkd l)),(37,.d (.int .i64 l.length)),(38,.d (.int .i64 i))]) (λi=>[.arr 1 (bytes (le sz (zbL w (l.take i)))) 0]) (λi=>i<=l.length) (λi=>l.length - i) 0 ?_ ?_ ?_
 ·simp
 ·simp -dsimp -implicitDefEqProofs (disch:=first|omega|assumption) [hszi,zbL,zvc]
 intro T' f hT' i hi ih
 by_cases h1:i<l.length
 ·have hb:=hl l[i] (by simp)
  have hb2:=hlt l[i] (by simp)
  obtain⟨iw,hiw⟩: ∃iw:Nat,iw=i*w:=⟨_,rfl⟩;have hiwi:(i:Int)*w=iw:=by rw[hiw,ybz]
  have hiwl:iw+w<=lw:=by
   have:(i+1)*w<=l.length*w:=yaF _ h1;rw[ya0]at this;omega
  have hM0:zbL w (l.take i)<2 ^ iw:=by
   have:=zjm w (l.take i) λn h=>hlt n (yaD h)
   rwa [yan,yck hi,<- hiw]at this
  have hnext:zbL w (l.take (i+1))=zbL w (l.take i)+l[i]*2 ^ iw:=by rw[zao h1,zh1,yan,yck hi,<- hiw]
  simp -dsimp -implicitDefEqProofs (disch:=first|omega|assumption) [h1]
  generalize hz:zaj _ _ _ _ _ _=z;revert z;refine zaa (σ:=Nat) (λk=>[(1,.d (.int .i64 w)),(6,.arr 0 sz),(7,.d (.int .i64 i)),(8,.d (.int .u64 l[i])),(9,.d (.int .i64 k)),(36,.d (zkd l)),(37,.d (.int .i64 l.length)),(38,.d (.int .i64 i))]) (λk=>[.arr 1 (bytes (le sz (zbL w (l.take i)+l[i] % 2 ^ k*2 ^ iw))) 0]) (λk=>k<=w) (λk=>w - k) 0 ?_ ?_ ?_
  ·simp
  ·simp[yd6]
  intro T2 f2 hT2 k hk ih2
  by_cases h2:k<w
  ·have h2':(k:Int)<w:=by omega
   obtain⟨room,hroom⟩: ∃room,room=min (8 - (iw+k) % 8) (w - k):=⟨_,rfl⟩;have hM:zbL w (l.take i)+l[i] % 2 ^ k*2 ^ iw<2 ^ (iw+k):=by
    have:l[i] % 2 ^ k<2 ^ k:=ycp _ (ybp _);have:(l[i] % 2 ^ k+1)*2 ^ iw<=2 ^ k*2 ^ iw:=yaF _ this;rw[ya0,yb8]at this;rw[ybB,ybR (2 ^ iw)];omega
   obtain⟨r,hr⟩: ∃r,r=(iw+k) % 8:=⟨_,rfl⟩;obtain⟨q,hq⟩: ∃q,q=(iw+k) / 8:=⟨_,rfl⟩;rw[<- hr]at hroom;have hroom8:room+r<=8:=by omega
   obtain⟨s1,s2,s3,s4,s5⟩:=zoL (n:=l[i]) (k:=k) (room:=room) (q:=q) (r:=r) (size:=sz) (at':=iw+k) (by omega) (by omega) hroom8 hM (by omega)
   have hstep:=znj l[i] k room;have hdlt:l[i] / 2 ^ k<18446744073709551616:=ybE (yc1 _ _) hb;have hdi:(l[i]:Int) / 2 ^ k=((l[i] / 2 ^ k:Nat):Int):=by rw[ybZ,ybI];rfl
   obtain⟨d,hd⟩: ∃d,d=l[i] / 2 ^ k:=⟨_,rfl⟩;obtain⟨pw,hpw⟩: ∃pw,pw=2 ^ room:=⟨_,rfl⟩;have hpwi:(2:Int) ^ room=pw:=by rw[hpw,ybI];rfl
   have hpw1:1<=pw:=by rw[hpw];exact ybp _
   have hpw8:pw<=256:=by rw[hpw];exact (ybu (by decide) (by omega:room<=8):2 ^ room<=2 ^ 8)
   obtain⟨mk,hmk⟩: ∃mk,mk=pw - 1:=⟨_,rfl⟩;have hmki:IntKind.u64.wrap (IntKind.u64.wrap (pw:Int) - 1)=mk:=by rw[zae,zae];omega
   have hand:d &&& mk=d % 2 ^ room:=by rw[hmk,hpw];exact zhc d room
   obtain⟨v,hv⟩: ∃v,v=d % 2 ^ room:=⟨_,rfl⟩;obtain⟨m0,hm0⟩: ∃m0,m0=(zbL w (l.take i)+l[i] % 2 ^ k*2 ^ iw) / 256 ^ q % 256:=⟨_,rfl⟩;rw[<- hd,<- hv,<- hm0]at s4 s5;rw[<- hd,<- hv]at s3 hstep;rw[<- hm0]at s1 s2;rw[<- hd]at hdi hdlt;rw[<- hv]at hand;obtain⟨vr,hvr⟩: ∃vr,vr=v*2 ^ r:=⟨_,rfl⟩;rw[<- hvr]at s3 s4 s5;have hvri:(v:Int)*2 ^ r=vr:=by rw[hvr,ybz,ybI];rfl
   have hv256:v<256:=by rw[hv,<- hpw];have:=ycp d hpw1;omega
   have hm256:m0<256:=by rw[hm0];exact ycp _ (by decide)
   have q0:((iw:Int)+k) % 8=r:=by omega
   have q1:(((iw:Int)+k) / 8).toNat=q:=by omega
   have q2:(if (w:Int) - k<8 - r then (w:Int) - k else 8 - r)=(room:Int):=by split <;> omega
   have q4:min r 8=r:=by omega
   have q5:min k 64=k:=by omega
   have q6:min room 64=room:=by omega
   have hv256':(v:Int) % 256=v:=by omega
   have hvr256':(vr:Int) % 256=vr:=by omega
   obtain⟨mv,hmv⟩: ∃mv,mv=m0+vr:=⟨_,rfl⟩;rw[<- hmv]at s4 s5;have hmv256:mv<256:=by
    have:m0 ||| vr<2 ^ 8:=zva.2 ⟨by omega,by omega⟩
    omega
   have hset:(bytes (le sz (zbL w (l.take i)+l[i] % 2 ^ k*2 ^ iw))).set q (.int .u8 (mv:Int))=bytes (le sz (zbL w (l.take i)+l[i] % 2 ^ (k+room)*2 ^ iw)):=by
    have e:zbL w (l.take i)+l[i] % 2 ^ k*2 ^ iw+v*2 ^ (iw+k)=zbL w (l.take i)+l[i] % 2 ^ (k+room)*2 ^ iw:=by
     rw[<- hstep,ya0,ydr,<- ybB,ybC k,yaH]
    rw[e]at s5;rw[<- s5];unfold bytes;rw[yb0];congr 1;simp[zbi,zcM hmv256]
   simp -dsimp -implicitDefEqProofs (disch:=first|omega|assumption) [h2',hiwi,q1,q0,q2,q4,q5,q6,s1,hpwi,hmki,hdi,hand,hvri,s4,hm256,hv256,s3,hv256',hvr256',hset]
   have hr1:1<=room:=by omega
   have hr2:k+room<=w:=by omega
   exact ih2 (k+room) _ _ hr2 (by omega) (by simp -dsimp -implicitDefEqProofs (disch:=first|omega|assumption))
  ·obtain rfl:k=w:=by omega
   have h2': ¬ (k:Int)<k:=by omega
   have hmod:l[i] % 2 ^ k=l[i]:=yaJ hb2;subst hT2;simp -dsimp -implicitDefEqProofs (disch:=first|omega|assumption) [h2',hmod]
   rw[<- hnext];exact ih (i+1) _ _ h1 (by omega) (by simp -dsimp -implicitDefEqProofs (disch:=first|omega|assumption))
 ·rw[yar (by omega)]
  subst hT';simp -dsimp -implicitDefEqProofs (disch:=first|omega|assumption) [h1]
  simpa -dsimp -implicitDefEqProofs (disch:=first|omega|assumption) using hT
end Go.Am.Ab
namespace Go.Am.Ab
open Go.Proofs
set_option maxHeartbeats 4000000
def zvd: ∀ (k n:Nat),le (k+1) n=le k n++[u8n (n / 256 ^ k % 256)]
 |0,n=>by simp[le]
 |k+1,n=>by
  rw[le,zvd k (n / 256),le,yaV,ybi,<- ydQ]
def zz0 {k n:Nat} (h:n<2 ^ (8*k)):le k n++[u8n 0]=le (k+1) n:=by
 rw[zvd,show 256 ^ k=2 ^ (8*k) by rw[show 256=2 ^ 8 from rfl,<- ydw],ycb h]
def zkf (l:List Nat) (w:Nat) (hl: ∀n∈l,n<18446744073709551616) (hw64:w<=64) (hn:l.length<=256) (hwd:zbc l<=w):
 R 144 [.d (zkd l),.d (.int .i64 w)] []=some ([.arr 0 (za8 w l).length,.d (.bool true)],[.arr 1 (bytes (za8 w l)) 0]):=by
 have hw:=zgx l hl (by omega)
 have hlt:=zfz hl hwd;have a1: ¬ (w:Int)<0:=by omega
 have a2: ¬ (64:Int)<w:=by omega
 have a3: ¬ (256:Int)<l.length:=by omega
 have a4: ¬ (w:Int)<zbc l:=by omega
 obtain⟨lw,hlw⟩: ∃lw:Nat,lw=l.length*w:=⟨_,rfl⟩;have hlw':lw<=256*64:=by rw[hlw];exact ybK hn hw64
 unfold za8;rw[<- hlw];refine rg zJp rfl ?_;intro T hT;simp -dsimp -implicitDefEqProofs (disch:=first|omega|assumption) [hw,a1,a2,a3,a4]
 generalize hz:zaj _ _ _ _ _ _=z;revert z;refine zaa (σ:=Nat) (λi=>[(0,.d (zkd l)),(1,.d (.int .i64 w)),(6,.arr 0 ((i*w+7) / 8)),(7,.d (.int .i64 ((i*w:Nat):Int))),(8,.d (.int .i64 i))]) (λi=>[.arr 1 (bytes (le ((i*w+7) / 8) (zbL w (l.take i)))) 0]) (λi=>i<=l.length) (λi=>l.length - i) 0 ?_ ?_ ?_
 ·simp
 ·simp -dsimp -implicitDefEqProofs (disch:=first|omega|assumption) [zbL,le]
 intro T' f hT' i hi ih
 by_cases h1:i<l.length
 ·have hb:=hl l[i] (by simp)
  have hb2:=hlt l[i] (by simp)
  obtain⟨iw,hiw⟩: ∃iw:Nat,iw=i*w:=⟨_,rfl⟩;have hiwl:iw+w<=lw:=by
   have:(i+1)*w<=l.length*w:=yaF _ h1;rw[ya0]at this;omega
  have hM0:zbL w (l.take i)<2 ^ iw:=by
   have:=zjm w (l.take i) λn h=>hlt n (yaD h)
   rwa [yan,yck hi,<- hiw]at this
  have hnext:zbL w (l.take (i+1))=zbL w (l.take i)+l[i]*2 ^ iw:=by rw[zao h1,zh1,yan,yck hi,<- hiw]
  have hiw1:(i+1)*w=iw+w:=by rw[ya0,<- hiw,yb8]
  rw[<- hiw];simp -dsimp -implicitDefEqProofs (disch:=first|omega|assumption) [h1]
  generalize hz:zaj _ _ _ _ _ _=z;revert z;refine zaa (σ:=Nat) (λk=>[(0,.d (zkd l)),(1,.d (.int .i64 w)),(6,.arr 0 ((iw+k+7) / 8)),(7,.d (.int .i64 ((iw+k:Nat):Int))),(8,.d (.int .i64 i)),(9,.d (.int .i64 k))]) (λk=>[.arr 1 (bytes (le ((iw+k+7) / 8) (zbL w (l.take i)+l[i] % 2 ^ k*2 ^ iw))) 0]) (λk=>k<=w) (λk=>w - k) 0 ?_ ?_ ?_
  ·simp
  ·simp -dsimp -implicitDefEqProofs (disch:=first|omega|assumption) [yd6]
  intro T2 f2 hT2 k hk ih2
  by_cases h2:k<w
  ·have h2':(k:Int)<w:=by omega
   obtain⟨M,hMdef⟩: ∃M,M=zbL w (l.take i)+l[i] % 2 ^ k*2 ^ iw:=⟨_,rfl⟩;have hM:M<2 ^ (iw+k):=by
    have:l[i] % 2 ^ k<2 ^ k:=ycp _ (ybp _);have:(l[i] % 2 ^ k+1)*2 ^ iw<=2 ^ k*2 ^ iw:=yaF _ this;rw[ya0,yb8]at this;rw[ybB,ybR (2 ^ iw),hMdef];omega
   obtain⟨r,hr⟩: ∃r,r=(iw+k) % 8:=⟨_,rfl⟩;obtain⟨q,hq⟩: ∃q,q=(iw+k) / 8:=⟨_,rfl⟩;obtain⟨s1,s2,s3,s4,s5⟩:=zoL (n:=l[i]) (k:=k) (room:=1) (q:=q) (r:=r) (size:=q+1) (at':=iw+k) (by omega) (by omega) (by omega) hM (by omega)
   have hstep:=znj l[i] k 1;have hdi:(l[i]:Int) / 2 ^ k=((l[i] / 2 ^ k:Nat):Int):=by rw[ybZ,ybI];rfl
   obtain⟨d,hd⟩: ∃d,d=l[i] / 2 ^ k:=⟨_,rfl⟩;obtain⟨m0,hm0⟩: ∃m0,m0=M / 256 ^ q % 256:=⟨_,rfl⟩;rw[<- hd,<- hm0,Nat.pow_one]at s4 s5;rw[<- hd,Nat.pow_one]at s3 hstep;rw[<- hm0]at s1 s2;rw[<- hd]at hdi;obtain⟨pr,hpr⟩: ∃pr,pr=2 ^ r:=⟨_,rfl⟩;have hpri:(2:Int) ^ r=pr:=by rw[hpr,ybI];rfl
   rw[<- hpr]at s2 s3 s4 s5;have hm256:m0<256:=by rw[hm0];exact ycp _ (by decide)
   have e5:M+d % 2*2 ^ (iw+k)=zbL w (l.take i)+l[i] % 2 ^ (k+1)*2 ^ iw:=by
    rw[<- hstep,hMdef,ya0,ydr,<- ybB,ybC k,yaH]
   rw[e5]at s5;have hpr256:pr<=128:=by rw[hpr];exact (ybu (by decide) (by omega:r<=7):2 ^ r<=2 ^ 7)
   have q0:((iw:Int)+k) % 8=r:=by omega
   have q1:(((iw:Int)+k) / 8).toNat=q:=by omega
   have q4:min r 8=r:=by omega
   have q5:min k 64=k:=by omega
   have hwk:IntKind.u64.wrap (k:Int)=k:=zak (by omega) (by omega)
   have hwr:IntKind.u64.wrap (r:Int)=r:=zak (by omega) (by omega)
   have hnew:(iw+(k+1)+7) / 8=q+1:=by omega
   have hsz:(r=0/\(iw+k+7) / 8=q)\/(r≠0/\(iw+k+7) / 8=q+1):=by omega
   have hmore:r=0->bytes (le q M)++[D.int .u8 0]=bytes (le (q+1) M):=by
    intro h;rw[<- zz0 (k:=q) (n:=M) (by rw[show 8*q=iw+k by omega];exact hM)]
    simp[bytes,zbi,u8n]
   rw[<- hMdef];have hset:d % 2=1->(bytes (le (q+1) M)).set q (.int .u8 ((m0:Int)+pr))=bytes (le (q+1) (zbL w (l.take i)+l[i] % 2 ^ (k+1)*2 ^ iw)):=by
    intro h;rw[h,yb8]at s5 s3;rw[<- s5];unfold bytes;rw[yb0];congr 1;have:m0+pr<256:=by
     rw[h,yb8]at s4;have:m0 ||| pr<2 ^ 8:=zva.2 ⟨by omega,by omega⟩
     omega
    simp[zbi,zcM this]
   have hnot:d % 2≠1->zbL w (l.take i)+l[i] % 2 ^ (k+1)*2 ^ iw=M:=by
    intro h;have h0:d % 2=0:=by omega
    rw[<- e5,h0];simp
   have hsum:d % 2=1->m0+pr<256:=by
    intro h;rw[h,yb8]at s4 s3;have:m0 ||| pr<2 ^ 8:=zva.2 ⟨by omega,by omega⟩
    omega
   rcases hsz with ⟨h0,hz⟩ | ⟨h0,hz⟩
   ·rw[hz]
    have hm:=hmore h0;obtain rfl:pr=1:=by rw[hpr,h0]
    have q0':((iw:Int)+k) % 8=0:=by omega
    clear q0
    by_cases h3:d % 2=1
    ·have h3':(d:Int) % 2=1:=by omega
     have hs:(bytes (le (q+1) M)).set q (.int .u8 ((m0:Int)+1))=_:=hset h3;have hsm:=hsum h3;have hsm':((m0:Int)+1) % 256=m0+1:=by omega
     have hw0:IntKind.u64.wrap 0=0:=by decide
     simp -dsimp -implicitDefEqProofs (disch:=first|omega|assumption) [h2',q0',q1,q5,hwk,hw0,hm,s1,hdi,h3',hs,hsm']
     refine ih2 (k+1) _ _ (by omega) (by omega) ?_
     simp -dsimp -implicitDefEqProofs (disch:=first|omega|assumption) [hnew,hs,ydR]
    ·have h3': ¬ (d:Int) % 2=1:=by omega
     have hs:=hnot h3;simp -dsimp -implicitDefEqProofs (disch:=first|omega|assumption) [h2',q0',q1,q5,hwk,hm,s1,hdi,h3',hs]
     refine ih2 (k+1) _ _ (by omega) (by omega) ?_
     simp -dsimp -implicitDefEqProofs (disch:=first|omega|assumption) [hnew,hs,ydR]
   ·rw[hz]
    by_cases h3:d % 2=1
    ·have h3':(d:Int) % 2=1:=by omega
     have hs:=hset h3;have hsm:=hsum h3;have hsm':((m0:Int)+pr) % 256=m0+pr:=by omega
     simp -dsimp -implicitDefEqProofs (disch:=first|omega|assumption) [h2',q0,q1,q4,q5,h0,hwk,hwr,s1,hdi,h3',hpri,hs,hsm']
     refine ih2 (k+1) _ _ (by omega) (by omega) ?_
     simp -dsimp -implicitDefEqProofs (disch:=first|omega|assumption) [hnew,hs,ydR]
    ·have h3': ¬ (d:Int) % 2=1:=by omega
     have hs:=hnot h3;simp -dsimp -implicitDefEqProofs (disch:=first|omega|assumption) [h2',q0,q1,q4,q5,h0,hwk,hwr,s1,hdi,h3',hpri,hs]
     refine ih2 (k+1) _ _ (by omega) (by omega) ?_
     simp -dsimp -implicitDefEqProofs (disch:=first|omega|assumption) [hnew,hs,ydR]
  ·obtain rfl:k=w:=by omega
   have h2': ¬ (k:Int)<k:=by omega
   have hmod:l[i] % 2 ^ k=l[i]:=yaJ hb2;subst hT2;simp -dsimp -implicitDefEqProofs (disch:=first|omega|assumption) [h2',hmod]
   rw[<- hnext];refine ih (i+1) _ _ h1 (by omega) ?_
   simp -dsimp -implicitDefEqProofs (disch:=first|omega|assumption) [hiw1]
 ·rw[yar (by omega)]
  obtain rfl:i=l.length:=by omega
  rw[<- hlw];subst hT';simp -dsimp -implicitDefEqProofs (disch:=first|omega|assumption) [h1]
  simpa -dsimp -implicitDefEqProofs (disch:=first|omega|assumption) using hT
end Go.Am.Ab
