/- Columns: their parts, written. -/
import Derived.Test.YtibdiacpdmhmnaaGreatDoorIntsB
import Derived.Test.YtibdiacpdmhmnaaGreatDoorCellsA
import Derived.Test.YtibdiacpdmhmnaaGreatDoorTSortB
set_option linter.all false
namespace Go.Am.Ab
open Go.Proofs
set_option maxHeartbeats 4000000
set_option maxRecDepth 4000
abbrev bs (l:List Bool):List D:=l.map D.bool
@[simp] def zx9 (l:List Bool):zao 1 (l.map D.bool)=true:=zaO l λ_=>rfl
@[simp] def zCk (l:List Bool):zdX (l.map D.bool)=true:=zde _ (λ_=>rfl) l
def bit (b:Bool):Nat:=if b then 1 else 0
def zbl (l:List Bool):List UInt8:=zbY 1 (l.map bit)
def zs8 (l:List Bool): ∀n∈l.map bit,n<2 ^ 1:=by
 intro n h;obtain⟨b,_,rfl⟩:=List.mem_map.1 h;cases b <;> decide
def zkN (l:List Bool):zbd (l.map bit)<=1:=by
 have key: ∀ (l:List Nat) (w:Nat),w<=1->(∀n∈l,n<2 ^ 1)->l.foldl (λw n=>max w (zbn n)) w<=1:=by
  intro l
  induction l with
  |nil=>intro w h _;exact h
  |cons x r ih=>
   intro w h g;have hx:=g x (by simp)
   have:=(za4 (n:=x) (m:=1) (by omega)).2 hx
   exact ih (max w (zbn x)) (by omega) λn hn=>g n (by simp[hn])
 exact key _ 0 (by omega) (zs8 l)
def zvg (l:List Bool) {i:Nat} (h:i<l.length):((l.take i).map bit++List.replicate (l.length - i) 0).set i 1=(l.take i).map bit++1::List.replicate (l.length - (i+1)) 0:=by
 have e:l.length - i=(l.length - (i+1))+1:=by omega
 have hlen:((l.take i).map bit).length=i:=by simp;omega
 rw[e,yaN,ybg _ _ (by omega),hlen,ya2,ycj]
def zrk (l:List Bool) {i:Nat} (h:i<l.length):(l.take (i+1)).map bit++List.replicate (l.length - (i+1)) 0=if l[i] then ((l.take i).map bit++List.replicate (l.length - i) 0).set i 1 else (l.take i).map bit++List.replicate (l.length - i) 0:=by
 rw[zvg l h,zap h];have e:l.length - i=(l.length - (i+1))+1:=by omega
 cases hb:l[i] with
 |true=>simp[bit]
 |false=>
  rw[e,yaN];simp[bit]
def zhg (l:List Nat):List D:=l.map λ(n:Nat)=>D.int .u64 (n:Int)
def zs9 (l:List Nat) (i v:Nat):(zhg l).set i (D.int .u64 v)=zhg (l.set i v):=by
 unfold zhg;rw[yb0]
def zhN (l:List Nat):(zhg l).length=l.length:=by simp[zhg]
def zm6 (n:Nat):List.replicate n (D.int .u64 0)=zhg (List.replicate n 0):=by simp[zhg]
def zfd (l:List Bool) (hn:l.length<=256):R 90 [.d (.list (bs l))] []=some ([.arr 0 (zbl l).length],[.arr 1 (bytes (zbl l)) 0]):=by
 have h64: ∀n∈l.map bit,n<18446744073709551616:=λn h=>by have:=zs8 l n h;omega
 have hwid:zbd (l.map bit)<=1:=zkN l;have hp:=zpu (l.map bit) 1 h64 (by omega) (by simpa using hn) hwid
 rw[show zbY 1 (l.map bit)=zbl l from rfl]at hp
 have hp':R 126 [.d (.list (zhg (l.map bit))),.d (.int .i64 1)] []=some ([.arr 0 (zbl l).length,.d (.bool true)],[.arr 1 (bytes (zbl l)) 0]):=hp;refine rg b90 rfl ?_;intro T hT;simp -dsimp -implicitDefEqProofs (disch:=first|omega|assumption) [zm6]
 generalize hz:zad _ _ _ _ _ _=z;revert z;refine zaa (σ:=Nat) (λi=>[(3,.arr 0 l.length),(11,.d (.list (bs l))),(12,.d (.int .i64 l.length)),(13,.d (.int .i64 i))]) (λi=>[.arr 1 (zhg ((l.take i).map bit++List.replicate (l.length - i) 0)) 0]) (λi=>i<=l.length) (λi=>l.length - i) 0 ?_ ?_ ?_
 ·exact yai _
 ·simp -dsimp -implicitDefEqProofs (disch:=first|omega|assumption) [zm6]
 intro T' f hT' i hi ih
 by_cases h1:i<l.length
 ·obtain⟨m,hm⟩: ∃m,m=(l.take i).map bit++List.replicate (l.length - i) 0:=⟨_,rfl⟩
  have hml:(zhg m).length=l.length:=by rw[hm,zhN];simp;omega
  have hs:=zrk l h1;rw[<- hm]at hs ⊢;obtain⟨w,hw⟩: ∃w,(zhg m)[i]? =some w:=⟨_,yak (by omega)⟩
  have hwc:w.cells=[w]:=by
   unfold zhg at hw;rw[yaz,yac]at hw;obtain⟨n,_,rfl⟩:=hw;rfl
  cases hb:l[i] with
  |true=>
   rw[hb,yah rfl]at hs;simp -dsimp -implicitDefEqProofs (disch:=first|omega|assumption) [h1,hb,hml,hw,hwc]
   refine ih (i+1) _ _ h1 (by omega) ?_
   rw[hs,<- zs9];simp -dsimp -implicitDefEqProofs (disch:=first|omega|assumption)
  |false=>
   rw[hb]at hs;simp -dsimp -implicitDefEqProofs (disch:=first|omega|assumption) [h1,hb,hml]
   refine ih (i+1) _ _ h1 (by omega) ?_
   rw[hs];simp -dsimp -implicitDefEqProofs (disch:=first|omega|assumption)
 ·have e:i=l.length:=by omega
  subst e;have hml:(zhg (l.map bit)).length=l.length:=by rw[zhN];simp
  subst hT';rw[yaR,ya2,List.replicate_zero,yau];simp -dsimp -implicitDefEqProofs (disch:=first|omega|assumption) [hml,hp']
  simpa -dsimp -implicitDefEqProofs (disch:=first|omega|assumption) using hT
def zbi (l:List Int):List UInt8:=put (zcs l).length++zcs l
def zcN {l:List Int} (hl: ∀n∈l,zal n) (hn:l.length<=256):(zcs l).length<=5121:=ze8 hl hn 5
def zeO (l:List Int) (hl: ∀n∈l,zal n) (hn:l.length<=256):R 129 [.d (ints l)] []=some ([.arr 0 (zbi l).length],[.arr 1 (bytes (zbi l)) 0]):=by
 have h:=ziZ l hl hn;have hb:=zcN hl hn;have hp:=zaY (zcs l).length (by omega)
 have hpl:=zan (n:=(zcs l).length) (by omega)
 have hw:IntKind.u64.wrap ((zcs l).length:Int)=(zcs l).length:=zai (by omega) (by omega)
 refine rg zGd rfl ?_;intro T hT;simp -dsimp -implicitDefEqProofs (disch:=first|omega|assumption) [h,hp,hw]
 simpa -dsimp -implicitDefEqProofs (disch:=first|omega|assumption) [zbi]using hT
def zhh (l:List Bool) (hn:l.length<=1000000):R 89 [.d (.list (bs l)),.d (.bool false)] []=some ([.d (.bool (decide (false∈l)))],[]):=by
 have h: ∃n:Int,(decide (0<=n)=decide (false∈l))/\R 125 [.d (.list (bs l)),.d (.bool false)] []=some ([.d (.int .i64 n)],[]):=by
  by_cases hm:false∈l
  ·obtain⟨k,hk,he⟩:=List.mem_iff_getElem.1 hm
   skip
   refine⟨(l.idxOf false:Nat),by simp[hm], ?_⟩
   have hx:l.idxOf false<l.length:=ycC hm;have hy:l[l.idxOf false]=false:=ydw hx;obtain⟨x,hxx⟩: ∃x,x=l.idxOf false:=⟨_,rfl⟩;have hmin: ∀i,(h:i<x)->l[i]'(by omega)=true:=by
    intro i h;rw[hxx]at h;have:=List.not_of_lt_findIdx (p:=(·== false)) (xs:=l) (i:=i) h
    simpa using this
   rw[<- hxx]at hx ⊢;have hy':l[x]=false:=by simpa[hxx]using hy
   refine rg zE8 rfl ?_;intro T hT;simp -dsimp -implicitDefEqProofs (disch:=first|omega|assumption)
   generalize hz:zad _ _ _ _ _ _=z;revert z;refine zaa (σ:=Nat) (λi=>[(0,.d (.list (bs l))),(1,.d (.bool false)),(7,.d (.int .i64 l.length)),(8,.d (.int .i64 i))]) (λi=>[]) (λi=>i<=x) (λi=>x - i) 0 ?_ ?_ ?_
   ·exact yai _
   ·simp -dsimp -implicitDefEqProofs (disch:=first|omega|assumption)
   intro T' f hT' i hi ih;have h1:i<l.length:=by omega
   by_cases h2:i<x
   ·have g:=hmin i h2
    simp -dsimp -implicitDefEqProofs (disch:=first|omega|assumption) [h1,g]
    exact ih (i+1) _ _ h2 (by omega) (by simp -dsimp -implicitDefEqProofs (disch:=first|omega|assumption))
   ·obtain rfl:i=x:=by omega
    subst hT';simp -dsimp -implicitDefEqProofs (disch:=first|omega|assumption) [h1,hy']
    simpa -dsimp -implicitDefEqProofs (disch:=first|omega|assumption) using hT
  ·refine⟨-1,by simp[hm], ?_⟩
   refine rg zE8 rfl ?_;intro T hT;simp -dsimp -implicitDefEqProofs (disch:=first|omega|assumption)
   generalize hz:zad _ _ _ _ _ _=z;revert z;refine zaa (σ:=Nat) (λi=>[(0,.d (.list (bs l))),(1,.d (.bool false)),(7,.d (.int .i64 l.length)),(8,.d (.int .i64 i))]) (λi=>[]) (λi=>i<=l.length) (λi=>l.length - i) 0 ?_ ?_ ?_
   ·exact yai _
   ·simp -dsimp -implicitDefEqProofs (disch:=first|omega|assumption)
   intro T' f hT' i hi ih
   by_cases h1:i<l.length
   ·have g:l[i]=true:=by
     cases e:l[i] with
     |true=>rfl
     |false=>exact absurd (e ▸ yal h1) hm
    simp -dsimp -implicitDefEqProofs (disch:=first|omega|assumption) [h1,g]
    exact ih (i+1) _ _ h1 (by omega) (by simp -dsimp -implicitDefEqProofs (disch:=first|omega|assumption))
   ·subst hT'
    simp -dsimp -implicitDefEqProofs (disch:=first|omega|assumption) [h1]
    simpa -dsimp -implicitDefEqProofs (disch:=first|omega|assumption) using hT
 obtain⟨n,hn1,hn2⟩:=h;rw[<- hn1];refine rg b89 rfl ?_;intro T hT;simp -dsimp -implicitDefEqProofs (disch:=first|omega|assumption) [hn2]
 simpa -dsimp -implicitDefEqProofs (disch:=first|omega|assumption) using hT
end Go.Am.Ab
namespace Go.Am.Ab
open Go.Proofs
set_option maxHeartbeats 4000000
set_option maxRecDepth 4000
abbrev ss (l:List ByteArray):List D:=l.map D.str
@[simp] def zya (l:List ByteArray):zao 1 (l.map D.str)=true:=zaO l λ_=>rfl
def zc3 (s:ByteArray):D:= .int .i64 s.size
def zbu (l:List ByteArray):List Int:=l.map λs=>(s.size:Int)
def zjb (s:ByteArray):s.data.toList.length=s.size:=yba
def zfS (l:List ByteArray) (i:Nat):List UInt8:=(l.take i).flatMap (·.data.toList)
def zfe (l:List ByteArray):zfS l 0=[]:=rfl
def zdO {l:List ByteArray} {i:Nat} (h:i<l.length):zfS l (i+1)=zfS l i++l[i].data.toList:=by
 unfold zfS;rw[zap h,ydm];simp
def zb8 {l:List ByteArray} (hl: ∀s∈l,s.size<=64): ∀i,i<=l.length->(zfS l i).length<=64*i
 |0,_=>by simp[zfS]
 |i+1,h=>by
  have h1:=zb8 hl i (by omega)
  have h2:=hl l[i] (yal _);have h3:=zjb l[i];rw[zdO (by omega),yaf]
  omega
def zbD (l:List ByteArray):List UInt8:=zbi (zbu l)++zfS l l.length
def zgy {l:List ByteArray} (hl: ∀s∈l,s.size<=64): ∀n∈zbu l,zal n:=by
 intro n h;obtain⟨s,hs,rfl⟩:=List.mem_map.1 h;have:=hl s hs;unfold zal;omega
def zcO {l:List Int} (hl: ∀n∈l,zal n) (hn:l.length<=256):(zbi l).length<=5131:=by
 have h1:=zcN hl hn;have h2:=zan (n:=(zcs l).length) (by omega)
 unfold zbi;rw[yaf];omega
def zvh (b:List UInt8) (l:List ByteArray) (hb:b.length<=1000) (hl: ∀s∈l,s.size<=64) (hn:l.length<=256):R 128 [.arr 0 b.length,.d (.list (ss l))] [.arr 1 (bytes b) 0]=some ([.arr 0 (b++zbD l).length],[.arr 1 (bytes (b++zbD l)) 0]):=by
 have hsi:=zgy hl;have hsl:(zbu l).length=l.length:=by simp[zbu]
 have hcl:=zcO hsi (by omega)
 have hfl:=zb8 hl l.length (yab _);have hc:=zeO (zbu l) hsi (by omega)
 have hcs:R 129 [.d (.list (zdg zc3 l l.length))] []=some ([.arr 0 (zbi (zbu l)).length],[.arr 1 (bytes (zbi (zbu l))) 0]):=by
  rw[za8 (yab _),<- hc,ints,zbu,ya0];rfl
 refine rg zEl rfl ?_;intro T hT;simp -dsimp -implicitDefEqProofs (disch:=first|omega|assumption)
 generalize hz:zad _ _ _ _ _ _=z;revert z;refine zaa (σ:=Nat) (λi=>[(0,.arr 0 b.length),(5,.arr 1 i),(6,.arr 2 (zfS l i).length),(9,.d (.list (ss l))),(10,.d (.int .i64 l.length)),(11,.d (.int .i64 i))]) (λi=>[.arr 1 (bytes b) 0,.arr 1 (zdg zc3 l i) 0,.arr 1 (bytes (zfS l i)) 0]) (λi=>i<=l.length) (λi=>l.length - i) 0 ?_ ?_ ?_
 ·exact yai _
 ·simp -dsimp -implicitDefEqProofs (disch:=first|omega|assumption) [zaG,zfe]
 intro T' f hT' i hi ih
 by_cases h1:i<l.length
 ·have hsz:=hl l[i] (yal _)
  have htk:=zaH (g:=zc3) h1;have hlen:=zak (g:=zc3) hi;have hft:=zdO h1;have hfi:=zb8 hl i hi;have h3:=zjb l[i];simp -dsimp -implicitDefEqProofs (disch:=first|omega|assumption) [h1,hlen,h3]
  refine ih (i+1) _ _ h1 (by omega) ?_
  rw[htk,hft];simp -dsimp -implicitDefEqProofs (disch:=first|omega|assumption) [h3,zc3]
 ·obtain rfl:i=l.length:=by omega
  have hlen:=zak (g:=zc3) hi;subst hT';simp -dsimp -implicitDefEqProofs (disch:=first|omega|assumption) [hcs,hlen]
  simpa -dsimp -implicitDefEqProofs (disch:=first|omega|assumption) [zbD,yaq,yaC]using hT
def zrl (b:List UInt8) (l:List ByteArray) (w:Nat) (hb:b.length<=1000) (hl: ∀s∈l,s.size<=64) (hn:l.length<=256):R 128 [.arr 0 b.length,.arr 1 l.length] [.arr 1 (bytes b) 0,.arr 1 (ss l) w]=some ([.arr 0 (b++zbD l).length],[.arr 1 (bytes (b++zbD l)) 0,.arr 1 (ss l) w]):=by
 have hsi:=zgy hl;have hsl:(zbu l).length=l.length:=by simp[zbu]
 have hcl:=zcO hsi (by omega)
 have hfl:=zb8 hl l.length (yab _);have hc:=zeO (zbu l) hsi (by omega)
 have hcs:R 129 [.d (.list (zdg zc3 l l.length))] []=some ([.arr 0 (zbi (zbu l)).length],[.arr 1 (bytes (zbi (zbu l))) 0]):=by
  rw[za8 (yab _),<- hc,ints,zbu,ya0];rfl
 refine rg zEl rfl ?_;intro T hT;simp -dsimp -implicitDefEqProofs (disch:=first|omega|assumption)
 generalize hz:zad _ _ _ _ _ _=z;revert z;refine zaa (σ:=Nat) (λi=>[(0,.arr 0 b.length),(5,.arr 2 i),(6,.arr 3 (zfS l i).length),(9,.arr 1 l.length),(10,.d (.int .i64 l.length)),(11,.d (.int .i64 i))]) (λi=>[.arr 1 (bytes b) 0,.arr 1 (ss l) w,.arr 1 (zdg zc3 l i) 0,.arr 1 (bytes (zfS l i)) 0]) (λi=>i<=l.length) (λi=>l.length - i) 0 ?_ ?_ ?_
 ·exact yai _
 ·simp -dsimp -implicitDefEqProofs (disch:=first|omega|assumption) [zaG,zfe,range2]
 intro T' f hT' i hi ih
 by_cases h1:i<l.length
 ·have hsz:=hl l[i] (yal _)
  have htk:=zaH (g:=zc3) h1;have hlen:=zak (g:=zc3) hi;have hft:=zdO h1;have hfi:=zb8 hl i hi;have h3:=zjb l[i];simp -dsimp -implicitDefEqProofs (disch:=first|omega|assumption) [h1,hlen,h3,range2]
  refine ih (i+1) _ _ h1 (by omega) ?_
  rw[htk,hft];simp -dsimp -implicitDefEqProofs (disch:=first|omega|assumption) [h3,zc3,range2]
 ·obtain rfl:i=l.length:=by omega
  have hlen:=zak (g:=zc3) hi;subst hT';simp -dsimp -implicitDefEqProofs (disch:=first|omega|assumption) [hcs,hlen,range2]
  simpa -dsimp -implicitDefEqProofs (disch:=first|omega|assumption) [zbD,yaq,yaC,range2]using hT
def zta (b:List UInt8) (l:List ByteArray) (m:List D) (w:Nat) (hb:b.length<=1000) (hl: ∀s∈l,s.size<=64) (hn:l.length<=256):R 128 [.arr 0 b.length,.sl 1 (l.length+m.length) 0 l.length] [.arr 1 (bytes b) 0,.arr 1 (ss l++m) w]=some ([.arr 0 (b++zbD l).length],[.arr 1 (bytes (b++zbD l)) 0,.arr 1 (ss l++m) w]):=by
 have hsi:=zgy hl;have hsl:(zbu l).length=l.length:=by simp[zbu]
 have hcl:=zcO hsi (by omega)
 have hfl:=zb8 hl l.length (yab _);have hc:=zeO (zbu l) hsi (by omega)
 have hcs:R 129 [.d (.list (zdg zc3 l l.length))] []=some ([.arr 0 (zbi (zbu l)).length],[.arr 1 (bytes (zbi (zbu l))) 0]):=by
  rw[za8 (yab _),<- hc,ints,zbu,ya0];rfl
 refine rg zEl rfl ?_;intro T hT;simp -dsimp -implicitDefEqProofs (disch:=first|omega|assumption)
 generalize hz:zad _ _ _ _ _ _=z;revert z;refine zaa (σ:=Nat) (λi=>[(0,.arr 0 b.length),(5,.arr 2 i),(6,.arr 3 (zfS l i).length),(9,.sl 1 (l.length+m.length) 0 l.length),(10,.d (.int .i64 l.length)),(11,.d (.int .i64 i))]) (λi=>[.arr 1 (bytes b) 0,.arr 1 (ss l++m) w,.arr 1 (zdg zc3 l i) 0,.arr 1 (bytes (zfS l i)) 0]) (λi=>i<=l.length) (λi=>l.length - i) 0 ?_ ?_ ?_
 ·exact yai _
 ·simp -dsimp -implicitDefEqProofs (disch:=first|omega|assumption) [zaG,zfe,range2]
 intro T' f hT' i hi ih
 by_cases h1:i<l.length
 ·have hsz:=hl l[i] (yal _)
  have htk:=zaH (g:=zc3) h1;have hlen:=zak (g:=zc3) hi;have hft:=zdO h1;have hfi:=zb8 hl i hi;have h3:=zjb l[i];have hget:(ss l++m)[i]? =some (D.str l[i]):=by rw[yan (by simpa using h1),yaz,yak h1];rfl
  simp -dsimp -implicitDefEqProofs (disch:=first|omega|assumption) [h1,hlen,h3,hget,range2]
  refine ih (i+1) _ _ h1 (by omega) ?_
  rw[htk,hft];simp -dsimp -implicitDefEqProofs (disch:=first|omega|assumption) [h3,zc3,range2]
 ·obtain rfl:i=l.length:=by omega
  have hlen:=zak (g:=zc3) hi;subst hT';simp -dsimp -implicitDefEqProofs (disch:=first|omega|assumption) [hcs,hlen,range2]
  simpa -dsimp -implicitDefEqProofs (disch:=first|omega|assumption) [zbD,yaq,yaC,range2]using hT
end Go.Am.Ab
namespace Go.Am.Ab
open Go.Proofs
set_option maxHeartbeats 4000000
set_option maxRecDepth 4000
def zpM (wd:Nat->ByteArray) (r:List Nat):ss (r.map wd)=Str.ws wd r:=by
 unfold ss Str.ws;rw[ya0];rfl
def zb1 (l:List ByteArray):List Int:=l.map λs=>(ixS (zeM l) s:Int)
def zfw (l:List ByteArray):List UInt8:=0::zbD l
def zm7 (l:List ByteArray):List UInt8:=(1::put (zeM l).length)++zbD (zeM l)++zcs (zb1 l)
def zel (l:List ByteArray):List UInt8:=if (zm7 l).length<(zfw l).length then zm7 l else zfw l
def zjc (x:ByteArray): ∀l:List ByteArray,(zm3 x l).length<=l.length+1
 |[]=>by simp[zm3]
 |y::r=>by
  unfold zm3;have:=zjc x r;split
  ·simp
  ·split
   ·simp
   ·simp only[yag];omega
def zdA (l:List ByteArray):(zeM l).length<=l.length:=by
 have key: ∀ (l u:List ByteArray),(l.foldl (λu x=>zm3 x u) u).length<=u.length+l.length:=by
  intro l
  induction l with
  |nil=>intro u;simp
  |cons x r ih=>
   intro u;have h1:=ih (zm3 x u);have h2:=zjc x u;simp only[ybc,yag];omega
 have:=key l [];simpa[zeM]using this
def zkO {l:List ByteArray} (hn:l.length<=256): ∀n∈zb1 l,zal n:=by
 intro n h;obtain⟨s,hs,rfl⟩:=List.mem_map.1 h;have h1:=zpL (zgx.2 hs);have h2:=zdA l;unfold zal;omega
def zdP {l:List ByteArray} (hl: ∀s∈l,s.size<=64) (hn:l.length<=256):(zbD l).length<=30000:=by
 have h1:=zcO (zgy hl) (by simpa[zbu]using hn)
 have h2:=zb8 hl l.length (yab _);unfold zbD;rw[yaf];omega
def plD (u:List Nat) (x:Nat):D:= .int .i64 ((u.idxOf x:Nat):Int)
def zrm (l:List ByteArray) (hl: ∀s∈l,s.size<=64) (hn:l.length<=256):R 92 [.d (.list (ss l))] []=some ([.arr 0 (zel l).length],[.arr 1 (bytes (zel l)) 0]):=by
 obtain⟨wd,r,hwd,hr⟩:=zw3 l;have hul:=zdA l;have hum: ∀s∈zeM l,s.size<=64:=λs h=>hl s (zgx.1 h)
 have htl:=zdP hl hn;have htu:=zdP hum (by omega)
 have hpi:=zkO hn;have hpl:(zb1 l).length=l.length:=by simp[zb1]
 have hbl:=zcN hpi (by omega)
 have hbest:=ziZ (zb1 l) hpi (by omega)
 have hput:=zaY (zeM l).length (by omega)
 have hputl:=zan (n:=(zeM l).length) (by omega)
 have d1:=zvh [0] l (by simp) hl hn
 have d2:=λw=>zrl (1::put (zeM l).length) (zeM l) w (by simp;omega) hum (by omega)
 have d3:=λm w=>zta (1::put (zeM l).length) (zeM l) m w (by simp;omega) hum (by omega)
 -- by zw3
 have hu:zeM l=(Str.uniq r).map wd:=by rw[<- hr];exact zpK hwd r
 have hrl:r.length=l.length:=by rw[<- hr];simp
 have hsl:ss l=Str.ws wd r:=by rw[<- hr];exact zpM wd r
 have hsu:ss (zeM l)=Str.ws wd (Str.uniq r):=by rw[hu];exact zpM wd _
 have hplD:ints (zb1 l)= .list (zdg (plD (Str.uniq r)) r r.length):=by
  rw[za8 (yab _),ints,zb1,hu,<- hr,ya0,ya0];congr 1;apply ybF;intro x _;simp only[Function.comp,plD,zs7 hwd]
 have hulen:(zeM l).length=(Str.uniq r).length:=by rw[hu];simp
 have h1:=Str.clone_runs hwd r (by omega)
 obtain⟨s,h2,h3,h4⟩:=Str.sort_any hwd r (by omega)
 have hlen:=h3.len;have hus:Str.uniq s=Str.uniq r:=Str.rises_ext (Str.uniq_rises _) (Str.uniq_rises _) λy=>by rw[Str.uniq_mem,Str.uniq_mem];exact h3.perm.mem_iff
 rw[<- hlen]at h4;have hP:=Str.compact_any hwd s h4 (by omega)
 unfold Str.Packs at hP;rw[hus]at hP;have hrise:=Str.rises_iff.1 (Str.uniq_rises r);have hmem: ∀x∈r,x∈Str.uniq r:=λx h=>Str.uniq_mem.2 h
 have hW:zel l=if (zm7 l).length<(zfw l).length then zm7 l else zfw l:=rfl
 have hLT:zm7 l=(1::put (zeM l).length)++zbD (zeM l)++zcs (zb1 l):=rfl;have hPT:zfw l=[0]++zbD l:=rfl;rw[hplD]at hbest;rw[hsl]at d1 ⊢;rw[hsu]at d2 d3;rw[hulen]at hul hput hputl d2 d3 hLT;obtain⟨u,hue⟩: ∃u,u=Str.uniq r:=⟨_,rfl⟩;rw[<- hue]at hul hput hputl d2 d3 hLT hbest hP hrise hmem;have hsearch: ∀x∈r,R 133 [.d (.list (Str.ws wd u)),.d (.str (wd x))] []=some ([.d (.int .i64 (u.idxOf x:Nat)),.d (.bool true)],[]):=by
  intro x hx;have hk:=ycC (hmem x hx);have he:Str.at' u (u.idxOf x)=x:=by rw[<- Str.get_at hk];exact ydw hk
  refine Str.search_runs hwd u x (u.idxOf x) hk (by omega) he (λp hp=> ?_) (λp p1 p2=> ?_)
  ·have:=hrise p (u.idxOf x) hp hk
   omega
  ·by_cases e:p=u.idxOf x
   ·subst e;omega
   ·have:=hrise (u.idxOf x) p (by omega) p2
    omega
 obtain⟨tu,htue⟩: ∃tu,tu=zbD (zeM l):=⟨_,rfl⟩;obtain⟨tl,htle⟩: ∃tl,tl=zbD l:=⟨_,rfl⟩;obtain⟨bp,hbpe⟩: ∃bp,bp=zcs (zb1 l):=⟨_,rfl⟩;obtain⟨pu,hpue⟩: ∃pu,pu=put u.length:=⟨_,rfl⟩;rw[<- htue]at htu d2 d3 hLT;rw[<- htle]at htl d1 hPT;rw[<- hbpe]at hbl hbest hLT;rw[<- hpue]at hput hputl d2 d3 hLT;rw[hW,hLT,hPT];have hw0:IntKind.u64.wrap (u.length:Int)=u.length:=zai (by omega) (by omega)
 clear hW hLT hPT hsl hsu hplD hu hulen hum hpi hpl hus h3 h4 hbpe htle htue hpue hue hl;have hul2:u.length<=256:=by omega
 have hbest':=hbest;rw[hrl]at hbest';rw[hlen]at hP;have d1':R 128 [.arr 0 1,.d (.list (Str.ws wd r))] [.arr 1 [.int .u8 0] 0]=some ([.arr 0 (tl.length+1)],[.arr 1 (.int .u8 0::bytes tl) 0]):=d1;have e1:(1::pu).length=1+pu.length:=by simp only[yag];omega
 have e2:(1::pu++tu).length=1+pu.length+tu.length:=by simp only[yag,yaf];omega
 have e3:(1::pu++tu++bp).length=1+pu.length+tu.length+bp.length:=by simp only[yag,yaf];omega
 have e4:([0]++tl).length=tl.length+1:=by simp
 rw[e3,e4]
 by_cases hlt:1+pu.length+tu.length+bp.length<tl.length+1
 ·rw[yah hlt,e3]
  have hlt':(1+(pu.length:Int)+tu.length+bp.length)<tl.length+1:=by omega
  rcases hP with hP | ⟨m,hm,hP⟩
  ·refine rg b92 rfl ?_
   intro T hT;simp -dsimp -implicitDefEqProofs (disch:=first|omega|assumption) [h1,h2,hP]
   generalize hz:zad _ _ _ _ _ _=z;revert z;refine zaa (σ:=Nat × Nat) (λx=>[(0,.d (.list (Str.ws wd r))),(3,.d (.fn 128)),(4,.arr 0 u.length),(5,.arr 1 x.1),(20,.d (.list (Str.ws wd r))),(21,.d (.int .i64 r.length)),(22,.d (.int .i64 x.1))]) (λx=>[.arr 1 (Str.ws wd u) x.2,.arr 1 (zdg (plD u) r x.1) 0]) (λx=>x.1<=r.length) (λx=>r.length - x.1) (0,0) ?_ ?_ ?_
   ·exact yai _
   ·simp -dsimp -implicitDefEqProofs (disch:=first|omega|assumption) [zaG]
   intro T' f hT' ⟨i,w⟩ hi ih;simp only at hi ih
   by_cases h5:i<r.length
   ·have hs:=hsearch r[i] (yal _)
    have hpu:=zaH (g:=plD u) h5;have hpl:=zak (g:=plD u) hi;simp -dsimp -implicitDefEqProofs (disch:=first|omega|assumption) [h5,hs,hpl]
    refine ih (i+1,u.length) _ _ h5 (by simp only;omega) ?_
    rw[hpu];simp -dsimp -implicitDefEqProofs (disch:=first|omega|assumption) [plD,hpl]
   ·obtain rfl:i=r.length:=by omega
    have hpl:=zak (g:=plD u) hi;have d2':R 128 [.arr 0 (1+pu.length),.arr 1 u.length] [.arr 1 (.int .u8 1::bytes pu) 0,.arr 1 (Str.ws wd u) w]=some ([.arr 0 (1+pu.length+tu.length)],[.arr 1 (.int .u8 1::bytes (pu++tu)) 0,.arr 1 (Str.ws wd u) w]):=by
     have:=d2 w;rw[e2,e1]at this;exact this
    subst hT';simp -dsimp -implicitDefEqProofs (disch:=first|omega|assumption) [hpl,d1',hput,hw0,hbest,d2',hlt']
    simpa -dsimp -implicitDefEqProofs (disch:=first|omega|assumption) using hT
  ·have hm2:(u.length+m.length)=r.length:=hm
   have hm3:List.take u.length (Str.ws wd u++m)=Str.ws wd u:=by rw[yb4 (by simp),yaw (by simp)]
   refine rg b92 rfl ?_;intro T hT;simp -dsimp -implicitDefEqProofs (disch:=first|omega|assumption) [h1,h2,hP]
   generalize hz:zad _ _ _ _ _ _=z;revert z;refine zaa (σ:=Nat × Nat) (λx=>[(0,.d (.list (Str.ws wd r))),(3,.d (.fn 128)),(4,.sl 0 r.length 0 u.length),(5,.arr 1 x.1),(20,.d (.list (Str.ws wd r))),(21,.d (.int .i64 r.length)),(22,.d (.int .i64 x.1))]) (λx=>[.arr 1 (Str.ws wd u++m) x.2,.arr 1 (zdg (plD u) r x.1) 0]) (λx=>x.1<=r.length) (λx=>r.length - x.1) (0,0) ?_ ?_ ?_
   ·exact yai _
   ·simp -dsimp -implicitDefEqProofs (disch:=first|omega|assumption) [zaG]
   intro T' f hT' ⟨i,w⟩ hi ih;simp only at hi ih
   by_cases h5:i<r.length
   ·have hs:=hsearch r[i] (yal _)
    have hpu:=zaH (g:=plD u) h5;have hpl:=zak (g:=plD u) hi;simp -dsimp -implicitDefEqProofs (disch:=first|omega|assumption) [h5,hs,hpl,hm2,hm3]
    refine ih (i+1,r.length) _ _ h5 (by simp only;omega) ?_
    rw[hpu];simp -dsimp -implicitDefEqProofs (disch:=first|omega|assumption) [plD,hpl,hm2,hm3]
   ·obtain rfl:i=r.length:=by omega
    have hpl:=zak (g:=plD u) hi;have d2':R 128 [.arr 0 (1+pu.length),.sl 1 r.length 0 u.length] [.arr 1 (.int .u8 1::bytes pu) 0,.arr 1 (Str.ws wd u++m) w]=some ([.arr 0 (1+pu.length+tu.length)],[.arr 1 (.int .u8 1::bytes (pu++tu)) 0,.arr 1 (Str.ws wd u++m) w]):=by
     have:=d3 m w;rw[e2,e1,hm]at this;exact this
    subst hT';simp -dsimp -implicitDefEqProofs (disch:=first|omega|assumption) [hpl,d1',hput,hw0,hbest,d2',hlt',hm2,hm3]
    simpa -dsimp -implicitDefEqProofs (disch:=first|omega|assumption) using hT
 ·rw[yae hlt,e4]
  have hlt': ¬ (1+(pu.length:Int)+tu.length+bp.length)<tl.length+1:=by omega
  rcases hP with hP | ⟨m,hm,hP⟩
  ·refine rg b92 rfl ?_
   intro T hT;simp -dsimp -implicitDefEqProofs (disch:=first|omega|assumption) [h1,h2,hP]
   generalize hz:zad _ _ _ _ _ _=z;revert z;refine zaa (σ:=Nat × Nat) (λx=>[(0,.d (.list (Str.ws wd r))),(3,.d (.fn 128)),(4,.arr 0 u.length),(5,.arr 1 x.1),(20,.d (.list (Str.ws wd r))),(21,.d (.int .i64 r.length)),(22,.d (.int .i64 x.1))]) (λx=>[.arr 1 (Str.ws wd u) x.2,.arr 1 (zdg (plD u) r x.1) 0]) (λx=>x.1<=r.length) (λx=>r.length - x.1) (0,0) ?_ ?_ ?_
   ·exact yai _
   ·simp -dsimp -implicitDefEqProofs (disch:=first|omega|assumption) [zaG]
   intro T' f hT' ⟨i,w⟩ hi ih;simp only at hi ih
   by_cases h5:i<r.length
   ·have hs:=hsearch r[i] (yal _)
    have hpu:=zaH (g:=plD u) h5;have hpl:=zak (g:=plD u) hi;simp -dsimp -implicitDefEqProofs (disch:=first|omega|assumption) [h5,hs,hpl]
    refine ih (i+1,u.length) _ _ h5 (by simp only;omega) ?_
    rw[hpu];simp -dsimp -implicitDefEqProofs (disch:=first|omega|assumption) [plD,hpl]
   ·obtain rfl:i=r.length:=by omega
    have hpl:=zak (g:=plD u) hi;have d2':R 128 [.arr 0 (1+pu.length),.arr 1 u.length] [.arr 1 (.int .u8 1::bytes pu) 0,.arr 1 (Str.ws wd u) w]=some ([.arr 0 (1+pu.length+tu.length)],[.arr 1 (.int .u8 1::bytes (pu++tu)) 0,.arr 1 (Str.ws wd u) w]):=by
     have:=d2 w;rw[e2,e1]at this;exact this
    subst hT';simp -dsimp -implicitDefEqProofs (disch:=first|omega|assumption) [hpl,d1',hput,hw0,hbest,d2',hlt']
    simpa -dsimp -implicitDefEqProofs (disch:=first|omega|assumption) using hT
  ·have hm2:(u.length+m.length)=r.length:=hm
   have hm3:List.take u.length (Str.ws wd u++m)=Str.ws wd u:=by rw[yb4 (by simp),yaw (by simp)]
   refine rg b92 rfl ?_;intro T hT;simp -dsimp -implicitDefEqProofs (disch:=first|omega|assumption) [h1,h2,hP]
   generalize hz:zad _ _ _ _ _ _=z;revert z;refine zaa (σ:=Nat × Nat) (λx=>[(0,.d (.list (Str.ws wd r))),(3,.d (.fn 128)),(4,.sl 0 r.length 0 u.length),(5,.arr 1 x.1),(20,.d (.list (Str.ws wd r))),(21,.d (.int .i64 r.length)),(22,.d (.int .i64 x.1))]) (λx=>[.arr 1 (Str.ws wd u++m) x.2,.arr 1 (zdg (plD u) r x.1) 0]) (λx=>x.1<=r.length) (λx=>r.length - x.1) (0,0) ?_ ?_ ?_
   ·exact yai _
   ·simp -dsimp -implicitDefEqProofs (disch:=first|omega|assumption) [zaG]
   intro T' f hT' ⟨i,w⟩ hi ih;simp only at hi ih
   by_cases h5:i<r.length
   ·have hs:=hsearch r[i] (yal _)
    have hpu:=zaH (g:=plD u) h5;have hpl:=zak (g:=plD u) hi;simp -dsimp -implicitDefEqProofs (disch:=first|omega|assumption) [h5,hs,hpl,hm2,hm3]
    refine ih (i+1,r.length) _ _ h5 (by simp only;omega) ?_
    rw[hpu];simp -dsimp -implicitDefEqProofs (disch:=first|omega|assumption) [plD,hpl,hm2,hm3]
   ·obtain rfl:i=r.length:=by omega
    have hpl:=zak (g:=plD u) hi;have d2':R 128 [.arr 0 (1+pu.length),.sl 1 r.length 0 u.length] [.arr 1 (.int .u8 1::bytes pu) 0,.arr 1 (Str.ws wd u++m) w]=some ([.arr 0 (1+pu.length+tu.length)],[.arr 1 (.int .u8 1::bytes (pu++tu)) 0,.arr 1 (Str.ws wd u++m) w]):=by
     have:=d3 m w;rw[e2,e1,hm]at this;exact this
    subst hT';simp -dsimp -implicitDefEqProofs (disch:=first|omega|assumption) [hpl,d1',hput,hw0,hbest,d2',hlt',hm2,hm3]
    simpa -dsimp -implicitDefEqProofs (disch:=first|omega|assumption) using hT
end Go.Am.Ab
