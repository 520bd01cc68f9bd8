/- Columns: their parts, written. -/
import Derived.Test.YtibdiacpdmhmnaaGreatDoorCellsA
import Derived.Test.YtibdiacpdmhmnaaGreatDoorTSortB
import Derived.Test.YtibdiacpdmhmnaaGreatDoorIntsB
set_option linter.all false
namespace Go.Am.Ab
open Go.Proofs
set_option maxHeartbeats 4000000
set_option maxRecDepth 4000
abbrev bs (l:List Bool):List D:=l.map D.bool
@[simp] def zBT (l:List Bool):zam 1 (l.map D.bool)=true:=zaJ l λ_=>rfl
@[simp] def zFP (l:List Bool):zd9 (l.map D.bool)=true:=zdn _ (λ_=>rfl) l
def bit (b:Bool):Nat:=if b then 1 else 0
def zbM (l:List Bool):List UInt8:=zbB 1 (l.map bit)
def zvf (l:List Bool): ∀n∈l.map bit,n<2 ^ 1:=by
 intro n h;obtain⟨b,_,rfl⟩:=List.mem_map.1 h;cases b <;> decide
def ztd (l:List Bool):zcM (l.map bit)<=1:=by
 have key: ∀ (l:List Nat) (w:Nat),w<=1->(∀n∈l,n<2 ^ 1)->l.foldl (λw n=>max w (zbW n)) w<=1:=by
  intro l
  induction l with
  |nil=>intro w h _;exact h
  |cons x r ih=>
   intro w h g;have hx:=g x (by simp)
   have:=(zbo (n:=x) (m:=1) (by omega)).2 hx
   exact ih (max w (zbW x)) (by omega) λn hn=>g n (by simp[hn])
 exact key _ 0 (by omega) (zvf l)
def zyb (l:List Bool) {i:Nat} (h:i<l.length):((l.take i).map bit++List.replicate (l.length - i) 0).set i 1=(l.take i).map bit++1::List.replicate (l.length - (i+1)) 0:=by
 have e:l.length - i=(l.length - (i+1))+1:=by omega
 have hlen:((l.take i).map bit).length=i:=by simp;omega
 rw[e,yaR,ybl _ _ (by omega),hlen,yba,ycW]
def zte (l:List Bool) {i:Nat} (h:i<l.length):(l.take (i+1)).map bit++List.replicate (l.length - (i+1)) 0=if l[i] then ((l.take i).map bit++List.replicate (l.length - i) 0).set i 1 else (l.take i).map bit++List.replicate (l.length - i) 0:=by
 rw[zyb l h,zaN h];have e:l.length - i=(l.length - (i+1))+1:=by omega
 cases hb:l[i] with
 |true=>simp[bit]
 |false=>
  rw[e,yaR];simp[bit]
def zhZ (l:List Nat):List D:=l.map λ(n:Nat)=>D.int .u64 (n:Int)
def zvg (l:List Nat) (i v:Nat):(zhZ l).set i (D.int .u64 v)=zhZ (l.set i v):=by
 unfold zhZ;rw[yce]
def ziE (l:List Nat):(zhZ l).length=l.length:=by simp[zhZ]
def zor (n:Nat):List.replicate n (D.int .u64 0)=zhZ (List.replicate n 0):=by simp[zhZ]
def zfu (l:List Bool) (hn:l.length<=256):R 90 [.d (.list (bs l))] []=some ([.arr 0 (zbM l).length],[.arr 1 (bytes (zbM l)) 0]):=by
 have h64: ∀n∈l.map bit,n<18446744073709551616:=λn h=>by have:=zvf l n h;omega
 have hwid:zcM (l.map bit)<=1:=ztd l;have hp:=zrh (l.map bit) 1 h64 (by omega) (by simpa using hn) hwid
 rw[show zbB 1 (l.map bit)=zbM l from rfl]at hp
 have hp':R 126 [.d (.list (zhZ (l.map bit))),.d (.int .i64 1)] []=some ([.arr 0 (zbM l).length,.d (.bool true)],[.arr 1 (bytes (zbM l)) 0]):=hp;refine rg b90 rfl ?_;intro T hT;simp -dsimp -implicitDefEqProofs (disch:=omega) [zor]
 generalize hz:zaf _ _ _ _ _ _=z;revert z;refine zaa (σ:=Nat) (λi=>[(3,.arr 0 l.length),(11,.d (.list (bs l))),(12,.d (.int .i64 l.length)),(13,.d (.int .i64 i))]) (λi=>[.arr 1 (zhZ ((l.take i).map bit++List.replicate (l.length - i) 0)) 0]) (λi=>i<=l.length) (λi=>l.length - i) 0 ?_ ?_ ?_
 ·exact yai _
 ·simp -dsimp -implicitDefEqProofs (disch:=omega) [zor]
 intro T' f hT' i hi ih
 by_cases h1:i<l.length
 ·obtain⟨m,hm⟩: ∃m,m=(l.take i).map bit++List.replicate (l.length - i) 0:=⟨_,rfl⟩
  have hml:(zhZ m).length=l.length:=by rw[hm,ziE];simp;omega
  have hs:=zte l h1;rw[<- hm]at hs ⊢;obtain⟨w,hw⟩: ∃w,(zhZ m)[i]? =some w:=⟨_,yak (by omega)⟩
  have hwc:w.cells=[w]:=by
   unfold zhZ at hw;rw[yau,yab]at hw;obtain⟨n,_,rfl⟩:=hw;rfl
  cases hb:l[i] with
  |true=>
   rw[hb,yag rfl]at hs;simp -dsimp -implicitDefEqProofs (disch:=omega) [h1,hb,hml,hw,hwc]
   refine ih (i+1) _ _ h1 (by omega) ?_
   rw[hs,<- zvg];simp -dsimp -implicitDefEqProofs (disch:=omega)
  |false=>
   rw[hb]at hs;simp -dsimp -implicitDefEqProofs (disch:=omega) [h1,hb,hml]
   refine ih (i+1) _ _ h1 (by omega) ?_
   rw[hs];simp -dsimp -implicitDefEqProofs (disch:=omega)
 ·have e:i=l.length:=by omega
  subst e;have hml:(zhZ (l.map bit)).length=l.length:=by rw[ziE];simp
  subst hT';rw[yaW,yba,List.replicate_zero,yap];simp -dsimp -implicitDefEqProofs (disch:=omega) [hml,hp']
  simpa -dsimp -implicitDefEqProofs (disch:=omega) using hT
def zbX (l:List Int):List UInt8:=put (zb7 l).length++zb7 l
def zd0 {l:List Int} (hl: ∀n∈l,zah n) (hn:l.length<=256):(zb7 l).length<=5121:=zhY hl hn 5
def ze0 (l:List Int) (hl: ∀n∈l,zah n) (hn:l.length<=256):R 129 [.d (ints l)] []=some ([.arr 0 (zbX l).length],[.arr 1 (bytes (zbX l)) 0]):=by
 have h:=zkb l hl hn;have hb:=zd0 hl hn;have hp:=zaZ (zb7 l).length (by omega)
 have hpl:=zaq (n:=(zb7 l).length) (by omega)
 have hw:IntKind.u64.wrap ((zb7 l).length:Int)=(zb7 l).length:=zal (by omega) (by omega)
 refine rg zJ1 rfl ?_;intro T hT;simp -dsimp -implicitDefEqProofs (disch:=omega) [h,hp,hw]
 simpa -dsimp -implicitDefEqProofs (disch:=omega) [zbX]using hT
def zh0 (l:List Bool) (hn:l.length<=1000000):R 89 [.d (.list (bs l)),.d (.bool false)] []=some ([.d (.bool (decide (false∈l)))],[]):=by
 have h: ∃n:Int,(decide (0<=n)=decide (false∈l))/\R 125 [.d (.list (bs l)),.d (.bool false)] []=some ([.d (.int .i64 n)],[]):=by
  by_cases hm:false∈l
  ·obtain⟨k,hk,he⟩:=List.mem_iff_getElem.1 hm
   skip
   refine⟨(l.idxOf false:Nat),by simp[hm], ?_⟩
   have hx:l.idxOf false<l.length:=ycy hm;have hy:l[l.idxOf false]=false:=ydz hx;obtain⟨x,hxx⟩: ∃x,x=l.idxOf false:=⟨_,rfl⟩;have hmin: ∀i,(h:i<x)->l[i]'(by omega)=true:=by
    intro i h;rw[hxx]at h;have:=List.not_of_lt_findIdx (p:=(·== false)) (xs:=l) (i:=i) h
    simpa using this
   rw[<- hxx]at hx ⊢;have hy':l[x]=false:=by simpa[hxx]using hy
   refine rg zIV rfl ?_;intro T hT;simp -dsimp -implicitDefEqProofs (disch:=omega)
   generalize hz:zaf _ _ _ _ _ _=z;revert z;refine zaa (σ:=Nat) (λi=>[(0,.d (.list (bs l))),(1,.d (.bool false)),(7,.d (.int .i64 l.length)),(8,.d (.int .i64 i))]) (λi=>[]) (λi=>i<=x) (λi=>x - i) 0 ?_ ?_ ?_
   ·exact yai _
   ·simp -dsimp -implicitDefEqProofs (disch:=omega)
   intro T' f hT' i hi ih;have h1:i<l.length:=by omega
   by_cases h2:i<x
   ·have g:=hmin i h2
    simp -dsimp -implicitDefEqProofs (disch:=omega) [h1,g]
    exact ih (i+1) _ _ h2 (by omega) (by simp -dsimp -implicitDefEqProofs (disch:=omega))
   ·obtain rfl:i=x:=by omega
    subst hT';simp -dsimp -implicitDefEqProofs (disch:=omega) [h1,hy']
    simpa -dsimp -implicitDefEqProofs (disch:=omega) using hT
  ·refine⟨-1,by simp[hm], ?_⟩
   refine rg zIV rfl ?_;intro T hT;simp -dsimp -implicitDefEqProofs (disch:=omega)
   generalize hz:zaf _ _ _ _ _ _=z;revert z;refine zaa (σ:=Nat) (λi=>[(0,.d (.list (bs l))),(1,.d (.bool false)),(7,.d (.int .i64 l.length)),(8,.d (.int .i64 i))]) (λi=>[]) (λi=>i<=l.length) (λi=>l.length - i) 0 ?_ ?_ ?_
   ·exact yai _
   ·simp -dsimp -implicitDefEqProofs (disch:=omega)
   intro T' f hT' i hi ih
   by_cases h1:i<l.length
   ·have g:l[i]=true:=by
     cases e:l[i] with
     |true=>rfl
     |false=>exact absurd (e ▸ yam h1) hm
    simp -dsimp -implicitDefEqProofs (disch:=omega) [h1,g]
    exact ih (i+1) _ _ h1 (by omega) (by simp -dsimp -implicitDefEqProofs (disch:=omega))
   ·subst hT'
    simp -dsimp -implicitDefEqProofs (disch:=omega) [h1]
    simpa -dsimp -implicitDefEqProofs (disch:=omega) using hT
 obtain⟨n,hn1,hn2⟩:=h;rw[<- hn1];refine rg b89 rfl ?_;intro T hT;simp -dsimp -implicitDefEqProofs (disch:=omega) [hn2]
 simpa -dsimp -implicitDefEqProofs (disch:=omega) using hT
end Go.Am.Ab
namespace Go.Am.Ab
open Go.Proofs
set_option maxHeartbeats 4000000
set_option maxRecDepth 4000
def zfX:List.range 2=[0,1]:=by decide
abbrev ss (l:List ByteArray):List D:=l.map D.str
@[simp] def zBU (l:List ByteArray):zam 1 (l.map D.str)=true:=zaJ l λ_=>rfl
def zeE (s:ByteArray):D:= .int .i64 s.size
def zaU (l:List ByteArray):List Int:=l.map λs=>(s.size:Int)
def zh1 (s:ByteArray):s.data.toList.length=s.size:=ybi
def ze1 (l:List ByteArray) (i:Nat):List UInt8:=(l.take i).flatMap (·.data.toList)
def zh2 (l:List ByteArray):ze1 l 0=[]:=rfl
def zfv {l:List ByteArray} {i:Nat} (h:i<l.length):ze1 l (i+1)=ze1 l i++l[i].data.toList:=by
 unfold ze1;rw[zaN h,yds];simp
def zc1 {l:List ByteArray} (hl: ∀s∈l,s.size<=64): ∀i,i<=l.length->(ze1 l i).length<=64*i
 |0,_=>by simp[ze1]
 |i+1,h=>by
  have h1:=zc1 hl i (by omega)
  have h2:=hl l[i] (yam _);have h3:=zh1 l[i];rw[zfv (by omega),yae]
  omega
def zcB (l:List ByteArray):List UInt8:=zbX (zaU l)++ze1 l l.length
def zhd {l:List ByteArray} (hl: ∀s∈l,s.size<=64): ∀n∈zaU l,zah n:=by
 intro n h;obtain⟨s,hs,rfl⟩:=List.mem_map.1 h;have:=hl s hs;unfold zah;omega
def zdv {l:List Int} (hl: ∀n∈l,zah n) (hn:l.length<=256):(zbX l).length<=5131:=by
 have h1:=zd0 hl hn;have h2:=zaq (n:=(zb7 l).length) (by omega)
 unfold zbX;rw[yae];omega
def zyc (b:List UInt8) (l:List ByteArray) (hb:b.length<=1000) (hl: ∀s∈l,s.size<=64) (hn:l.length<=256):R 128 [.arr 0 b.length,.d (.list (ss l))] [.arr 1 (bytes b) 0]=some ([.arr 0 (b++zcB l).length],[.arr 1 (bytes (b++zcB l)) 0]):=by
 have hsi:=zhd hl;have hsl:(zaU l).length=l.length:=by simp[zaU]
 have hcl:=zdv hsi (by omega)
 have hfl:=zc1 hl l.length (yaj _);have hc:=ze0 (zaU l) hsi (by omega)
 have hcs:R 129 [.d (.list (zeo zeE l l.length))] []=some ([.arr 0 (zbX (zaU l)).length],[.arr 1 (bytes (zbX (zaU l))) 0]):=by
  rw[zbg (yaj _),<- hc,ints,zaU,yaQ];rfl
 refine rg zH4 rfl ?_;intro T hT;simp -dsimp -implicitDefEqProofs (disch:=omega)
 generalize hz:zaf _ _ _ _ _ _=z;revert z;refine zaa (σ:=Nat) (λi=>[(0,.arr 0 b.length),(5,.arr 1 i),(6,.arr 2 (ze1 l i).length),(9,.d (.list (ss l))),(10,.d (.int .i64 l.length)),(11,.d (.int .i64 i))]) (λi=>[.arr 1 (bytes b) 0,.arr 1 (zeo zeE l i) 0,.arr 1 (bytes (ze1 l i)) 0]) (λi=>i<=l.length) (λi=>l.length - i) 0 ?_ ?_ ?_
 ·exact yai _
 ·simp -dsimp -implicitDefEqProofs (disch:=omega) [zaO,zh2]
 intro T' f hT' i hi ih
 by_cases h1:i<l.length
 ·have hsz:=hl l[i] (yam _)
  have htk:=zaP (g:=zeE) h1;have hlen:=zak (g:=zeE) hi;have hft:=zfv h1;have hfi:=zc1 hl i hi;have h3:=zh1 l[i];simp -dsimp -implicitDefEqProofs (disch:=omega) [h1,hlen,h3]
  refine ih (i+1) _ _ h1 (by omega) ?_
  rw[htk,hft];simp -dsimp -implicitDefEqProofs (disch:=omega) [h3,zeE]
 ·obtain rfl:i=l.length:=by omega
  have hlen:=zak (g:=zeE) hi;subst hT';simp -dsimp -implicitDefEqProofs (disch:=omega) [hcs,hlen]
  simpa -dsimp -implicitDefEqProofs (disch:=omega) [zcB,yan,yaY]using hT
def ztf (b:List UInt8) (l:List ByteArray) (w:Nat) (hb:b.length<=1000) (hl: ∀s∈l,s.size<=64) (hn:l.length<=256):R 128 [.arr 0 b.length,.arr 1 l.length] [.arr 1 (bytes b) 0,.arr 1 (ss l) w]=some ([.arr 0 (b++zcB l).length],[.arr 1 (bytes (b++zcB l)) 0,.arr 1 (ss l) w]):=by
 have hsi:=zhd hl;have hsl:(zaU l).length=l.length:=by simp[zaU]
 have hcl:=zdv hsi (by omega)
 have hfl:=zc1 hl l.length (yaj _);have hc:=ze0 (zaU l) hsi (by omega)
 have hcs:R 129 [.d (.list (zeo zeE l l.length))] []=some ([.arr 0 (zbX (zaU l)).length],[.arr 1 (bytes (zbX (zaU l))) 0]):=by
  rw[zbg (yaj _),<- hc,ints,zaU,yaQ];rfl
 refine rg zH4 rfl ?_;intro T hT;simp -dsimp -implicitDefEqProofs (disch:=omega)
 generalize hz:zaf _ _ _ _ _ _=z;revert z;refine zaa (σ:=Nat) (λi=>[(0,.arr 0 b.length),(5,.arr 2 i),(6,.arr 3 (ze1 l i).length),(9,.arr 1 l.length),(10,.d (.int .i64 l.length)),(11,.d (.int .i64 i))]) (λi=>[.arr 1 (bytes b) 0,.arr 1 (ss l) w,.arr 1 (zeo zeE l i) 0,.arr 1 (bytes (ze1 l i)) 0]) (λi=>i<=l.length) (λi=>l.length - i) 0 ?_ ?_ ?_
 ·exact yai _
 ·simp -dsimp -implicitDefEqProofs (disch:=omega) [zaO,zh2,zfX]
 intro T' f hT' i hi ih
 by_cases h1:i<l.length
 ·have hsz:=hl l[i] (yam _)
  have htk:=zaP (g:=zeE) h1;have hlen:=zak (g:=zeE) hi;have hft:=zfv h1;have hfi:=zc1 hl i hi;have h3:=zh1 l[i];simp -dsimp -implicitDefEqProofs (disch:=omega) [h1,hlen,h3,zfX]
  refine ih (i+1) _ _ h1 (by omega) ?_
  rw[htk,hft];simp -dsimp -implicitDefEqProofs (disch:=omega) [h3,zeE,zfX]
 ·obtain rfl:i=l.length:=by omega
  have hlen:=zak (g:=zeE) hi;subst hT';simp -dsimp -implicitDefEqProofs (disch:=omega) [hcs,hlen,zfX]
  simpa -dsimp -implicitDefEqProofs (disch:=omega) [zcB,yan,yaY,zfX]using hT
def zvh (b:List UInt8) (l:List ByteArray) (m:List D) (w:Nat) (hb:b.length<=1000) (hl: ∀s∈l,s.size<=64) (hn:l.length<=256):R 128 [.arr 0 b.length,.sl 1 (l.length+m.length) 0 l.length] [.arr 1 (bytes b) 0,.arr 1 (ss l++m) w]=some ([.arr 0 (b++zcB l).length],[.arr 1 (bytes (b++zcB l)) 0,.arr 1 (ss l++m) w]):=by
 have hsi:=zhd hl;have hsl:(zaU l).length=l.length:=by simp[zaU]
 have hcl:=zdv hsi (by omega)
 have hfl:=zc1 hl l.length (yaj _);have hc:=ze0 (zaU l) hsi (by omega)
 have hcs:R 129 [.d (.list (zeo zeE l l.length))] []=some ([.arr 0 (zbX (zaU l)).length],[.arr 1 (bytes (zbX (zaU l))) 0]):=by
  rw[zbg (yaj _),<- hc,ints,zaU,yaQ];rfl
 refine rg zH4 rfl ?_;intro T hT;simp -dsimp -implicitDefEqProofs (disch:=omega)
 generalize hz:zaf _ _ _ _ _ _=z;revert z;refine zaa (σ:=Nat) (λi=>[(0,.arr 0 b.length),(5,.arr 2 i),(6,.arr 3 (ze1 l i).length),(9,.sl 1 (l.length+m.length) 0 l.length),(10,.d (.int .i64 l.length)),(11,.d (.int .i64 i))]) (λi=>[.arr 1 (bytes b) 0,.arr 1 (ss l++m) w,.arr 1 (zeo zeE l i) 0,.arr 1 (bytes (ze1 l i)) 0]) (λi=>i<=l.length) (λi=>l.length - i) 0 ?_ ?_ ?_
 ·exact yai _
 ·simp -dsimp -implicitDefEqProofs (disch:=omega) [zaO,zh2,zfX]
 intro T' f hT' i hi ih
 by_cases h1:i<l.length
 ·have hsz:=hl l[i] (yam _)
  have htk:=zaP (g:=zeE) h1;have hlen:=zak (g:=zeE) hi;have hft:=zfv h1;have hfi:=zc1 hl i hi;have h3:=zh1 l[i];have hget:(ss l++m)[i]? =some (D.str l[i]):=by rw[yar (by simpa using h1),yau,yak h1];rfl
  simp -dsimp -implicitDefEqProofs (disch:=omega) [h1,hlen,h3,hget,zfX]
  refine ih (i+1) _ _ h1 (by omega) ?_
  rw[htk,hft];simp -dsimp -implicitDefEqProofs (disch:=omega) [h3,zeE,zfX]
 ·obtain rfl:i=l.length:=by omega
  have hlen:=zak (g:=zeE) hi;subst hT';simp -dsimp -implicitDefEqProofs (disch:=omega) [hcs,hlen,zfX]
  simpa -dsimp -implicitDefEqProofs (disch:=omega) [zcB,yan,yaY,zfX]using hT
end Go.Am.Ab
namespace Go.Am.Ab
open Go.Proofs
set_option maxHeartbeats 4000000
set_option maxRecDepth 4000
def zzx (wd:Nat->ByteArray) (r:List Nat):ss (r.map wd)=Str.ws wd r:=by
 unfold ss Str.ws;rw[yaQ];rfl
def zcC (l:List ByteArray):List Int:=l.map λs=>(ixS (zhU l) s:Int)
def zfY (l:List ByteArray):List UInt8:=0::zcB l
def ztg (l:List ByteArray):List UInt8:=(1::put (zhU l).length)++zcB (zhU l)++zb7 (zcC l)
def zc7 (l:List ByteArray):List UInt8:=if (ztg l).length<(zfY l).length then ztg l else zfY l
def zkc (x:ByteArray): ∀l:List ByteArray,(zon x l).length<=l.length+1
 |[]=>by simp[zon]
 |y::r=>by
  unfold zon;have:=zkc x r;split
  ·simp
  ·split
   ·simp
   ·simp only[yaf];omega
def zdI (l:List ByteArray):(zhU l).length<=l.length:=by
 have key: ∀ (l u:List ByteArray),(l.foldl (λu x=>zon x u) u).length<=u.length+l.length:=by
  intro l
  induction l with
  |nil=>intro u;simp
  |cons x r ih=>
   intro u;have h1:=ih (zon x u);have h2:=zkc x u;simp only[ybc,yaf];omega
 have:=key l [];simpa[zhU]using this
def zlR {l:List ByteArray} (hn:l.length<=256): ∀n∈zcC l,zah n:=by
 intro n h;obtain⟨s,hs,rfl⟩:=List.mem_map.1 h;have h1:=zrr (zft.2 hs);have h2:=zdI l;unfold zah;omega
def zh3 {l:List ByteArray} (hl: ∀s∈l,s.size<=64) (hn:l.length<=256):(zcB l).length<=30000:=by
 have h1:=zdv (zhd hl) (by simpa[zaU]using hn)
 have h2:=zc1 hl l.length (yaj _);unfold zcB;rw[yae];omega
def plD (u:List Nat) (x:Nat):D:= .int .i64 ((u.idxOf x:Nat):Int)
def zth (l:List ByteArray) (hl: ∀s∈l,s.size<=64) (hn:l.length<=256):R 92 [.d (.list (ss l))] []=some ([.arr 0 (zc7 l).length],[.arr 1 (bytes (zc7 l)) 0]):=by
 obtain⟨wd,r,hwd,hr⟩:=zEo l;have hul:=zdI l;have hum: ∀s∈zhU l,s.size<=64:=λs h=>hl s (zft.1 h)
 have htl:=zh3 hl hn;have htu:=zh3 hum (by omega)
 have hpi:=zlR hn;have hpl:(zcC l).length=l.length:=by simp[zcC]
 have hbl:=zd0 hpi (by omega)
 have hbest:=zkb (zcC l) hpi (by omega)
 have hput:=zaZ (zhU l).length (by omega)
 have hputl:=zaq (n:=(zhU l).length) (by omega)
 have d1:=zyc [0] l (by simp) hl hn
 have d2:=λw=>ztf (1::put (zhU l).length) (zhU l) w (by simp;omega) hum (by omega)
 have d3:=λm w=>zvh (1::put (zhU l).length) (zhU l) m w (by simp;omega) hum (by omega)
 -- by zEo
 have hu:zhU l=(Str.uniq r).map wd:=by rw[<- hr];exact zya hwd r
 have hrl:r.length=l.length:=by rw[<- hr];simp
 have hsl:ss l=Str.ws wd r:=by rw[<- hr];exact zzx wd r
 have hsu:ss (zhU l)=Str.ws wd (Str.uniq r):=by rw[hu];exact zzx wd _
 have hplD:ints (zcC l)= .list (zeo (plD (Str.uniq r)) r r.length):=by
  rw[zbg (yaj _),ints,zcC,hu,<- hr,yaQ,yaQ];congr 1;apply ya0;intro x _;simp only[Function.comp,plD,zve hwd]
 have hulen:(zhU l).length=(Str.uniq r).length:=by rw[hu];simp
 have h1:=Str.clone_runs hwd r (by omega)
 obtain⟨s,h2,h3,h4⟩:=Str.sort_any hwd r (by omega)
 have hlen:=h3.len;have hus:Str.uniq s=Str.uniq r:=Str.rises_ext (Str.uniq_rises _) (Str.uniq_rises _) λy=>by rw[Str.uniq_mem,Str.uniq_mem];exact h3.perm.mem_iff
 rw[<- hlen]at h4;have hP:=Str.compact_any hwd s h4 (by omega)
 unfold Str.Packs at hP;rw[hus]at hP;have hrise:=Str.rises_iff.1 (Str.uniq_rises r);have hmem: ∀x∈r,x∈Str.uniq r:=λx h=>Str.uniq_mem.2 h
 have hW:zc7 l=if (ztg l).length<(zfY l).length then ztg l else zfY l:=rfl
 have hLT:ztg l=(1::put (zhU l).length)++zcB (zhU l)++zb7 (zcC l):=rfl;have hPT:zfY l=[0]++zcB l:=rfl;rw[hplD]at hbest;rw[hsl]at d1 ⊢;rw[hsu]at d2 d3;rw[hulen]at hul hput hputl d2 d3 hLT;obtain⟨u,hue⟩: ∃u,u=Str.uniq r:=⟨_,rfl⟩;rw[<- hue]at hul hput hputl d2 d3 hLT hbest hP hrise hmem;have hsearch: ∀x∈r,R 133 [.d (.list (Str.ws wd u)),.d (.str (wd x))] []=some ([.d (.int .i64 (u.idxOf x:Nat)),.d (.bool true)],[]):=by
  intro x hx;have hk:=ycy (hmem x hx);have he:Str.at' u (u.idxOf x)=x:=by rw[<- Str.get_at hk];exact ydz hk
  refine Str.search_runs hwd u x (u.idxOf x) hk (by omega) he (λp hp=> ?_) (λp p1 p2=> ?_)
  ·have:=hrise p (u.idxOf x) hp hk
   omega
  ·by_cases e:p=u.idxOf x
   ·subst e;omega
   ·have:=hrise (u.idxOf x) p (by omega) p2
    omega
 obtain⟨tu,htue⟩: ∃tu,tu=zcB (zhU l):=⟨_,rfl⟩;obtain⟨tl,htle⟩: ∃tl,tl=zcB l:=⟨_,rfl⟩;obtain⟨bp,hbpe⟩: ∃bp,bp=zb7 (zcC l):=⟨_,rfl⟩;obtain⟨pu,hpue⟩: ∃pu,pu=put u.length:=⟨_,rfl⟩;rw[<- htue]at htu d2 d3 hLT;rw[<- htle]at htl d1 hPT;rw[<- hbpe]at hbl hbest hLT;rw[<- hpue]at hput hputl d2 d3 hLT;rw[hW,hLT,hPT];have hw0:IntKind.u64.wrap (u.length:Int)=u.length:=zal (by omega) (by omega)
 clear hW hLT hPT hsl hsu hplD hu hulen hum hpi hpl hus h3 h4 hbpe htle htue hpue hue hl;have hul2:u.length<=256:=by omega
 have hbest':=hbest;rw[hrl]at hbest';rw[hlen]at hP;have d1':R 128 [.arr 0 1,.d (.list (Str.ws wd r))] [.arr 1 [.int .u8 0] 0]=some ([.arr 0 (tl.length+1)],[.arr 1 (.int .u8 0::bytes tl) 0]):=d1;have e1:(1::pu).length=1+pu.length:=by simp only[yaf];omega
 have e2:(1::pu++tu).length=1+pu.length+tu.length:=by simp only[yaf,yae];omega
 have e3:(1::pu++tu++bp).length=1+pu.length+tu.length+bp.length:=by simp only[yaf,yae];omega
 have e4:([0]++tl).length=tl.length+1:=by simp
 rw[e3,e4]
 by_cases hlt:1+pu.length+tu.length+bp.length<tl.length+1
 ·rw[yag hlt,e3]
  have hlt':(1+(pu.length:Int)+tu.length+bp.length)<tl.length+1:=by omega
  rcases hP with hP | ⟨m,hm,hP⟩
  ·refine rg b92 rfl ?_
   intro T hT;simp -dsimp -implicitDefEqProofs (disch:=omega) [h1,h2,hP]
   generalize hz:zaf _ _ _ _ _ _=z;revert z;refine zaa (σ:=Nat × Nat) (λx=>[(0,.d (.list (Str.ws wd r))),(3,.d (.fn 128)),(4,.arr 0 u.length),(5,.arr 1 x.1),(20,.d (.list (Str.ws wd r))),(21,.d (.int .i64 r.length)),(22,.d (.int .i64 x.1))]) (λx=>[.arr 1 (Str.ws wd u) x.2,.arr 1 (zeo (plD u) r x.1) 0]) (λx=>x.1<=r.length) (λx=>r.length - x.1) (0,0) ?_ ?_ ?_
   ·exact yai _
   ·simp -dsimp -implicitDefEqProofs (disch:=omega) [zaO]
   intro T' f hT' ⟨i,w⟩ hi ih;simp only at hi ih
   by_cases h5:i<r.length
   ·have hs:=hsearch r[i] (yam _)
    have hpu:=zaP (g:=plD u) h5;have hpl:=zak (g:=plD u) hi;simp -dsimp -implicitDefEqProofs (disch:=omega) [h5,hs,hpl]
    refine ih (i+1,u.length) _ _ h5 (by simp only;omega) ?_
    rw[hpu];simp -dsimp -implicitDefEqProofs (disch:=omega) [plD,hpl]
   ·obtain rfl:i=r.length:=by omega
    have hpl:=zak (g:=plD u) hi;have d2':R 128 [.arr 0 (1+pu.length),.arr 1 u.length] [.arr 1 (.int .u8 1::bytes pu) 0,.arr 1 (Str.ws wd u) w]=some ([.arr 0 (1+pu.length+tu.length)],[.arr 1 (.int .u8 1::bytes (pu++tu)) 0,.arr 1 (Str.ws wd u) w]):=by
     have:=d2 w;rw[e2,e1]at this;exact this
    subst hT';simp -dsimp -implicitDefEqProofs (disch:=omega) [hpl,d1',hput,hw0,hbest,d2',hlt']
    simpa -dsimp -implicitDefEqProofs (disch:=omega) using hT
  ·have hm2:(u.length+m.length)=r.length:=hm
   have hm3:List.take u.length (Str.ws wd u++m)=Str.ws wd u:=by rw[ybE (by simp),yaA (by simp)]
   refine rg b92 rfl ?_;intro T hT;simp -dsimp -implicitDefEqProofs (disch:=omega) [h1,h2,hP]
   generalize hz:zaf _ _ _ _ _ _=z;revert z;refine zaa (σ:=Nat × Nat) (λx=>[(0,.d (.list (Str.ws wd r))),(3,.d (.fn 128)),(4,.sl 0 r.length 0 u.length),(5,.arr 1 x.1),(20,.d (.list (Str.ws wd r))),(21,.d (.int .i64 r.length)),(22,.d (.int .i64 x.1))]) (λx=>[.arr 1 (Str.ws wd u++m) x.2,.arr 1 (zeo (plD u) r x.1) 0]) (λx=>x.1<=r.length) (λx=>r.length - x.1) (0,0) ?_ ?_ ?_
   ·exact yai _
   ·simp -dsimp -implicitDefEqProofs (disch:=omega) [zaO]
   intro T' f hT' ⟨i,w⟩ hi ih;simp only at hi ih
   by_cases h5:i<r.length
   ·have hs:=hsearch r[i] (yam _)
    have hpu:=zaP (g:=plD u) h5;have hpl:=zak (g:=plD u) hi;simp -dsimp -implicitDefEqProofs (disch:=omega) [h5,hs,hpl,hm2,hm3]
    refine ih (i+1,r.length) _ _ h5 (by simp only;omega) ?_
    rw[hpu];simp -dsimp -implicitDefEqProofs (disch:=omega) [plD,hpl,hm2,hm3]
   ·obtain rfl:i=r.length:=by omega
    have hpl:=zak (g:=plD u) hi;have d2':R 128 [.arr 0 (1+pu.length),.sl 1 r.length 0 u.length] [.arr 1 (.int .u8 1::bytes pu) 0,.arr 1 (Str.ws wd u++m) w]=some ([.arr 0 (1+pu.length+tu.length)],[.arr 1 (.int .u8 1::bytes (pu++tu)) 0,.arr 1 (Str.ws wd u++m) w]):=by
     have:=d3 m w;rw[e2,e1,hm]at this;exact this
    subst hT';simp -dsimp -implicitDefEqProofs (disch:=omega) [hpl,d1',hput,hw0,hbest,d2',hlt',hm2,hm3]
    simpa -dsimp -implicitDefEqProofs (disch:=omega) using hT
 ·rw[yac hlt,e4]
  have hlt': ¬ (1+(pu.length:Int)+tu.length+bp.length)<tl.length+1:=by omega
  rcases hP with hP | ⟨m,hm,hP⟩
  ·refine rg b92 rfl ?_
   intro T hT;simp -dsimp -implicitDefEqProofs (disch:=omega) [h1,h2,hP]
   generalize hz:zaf _ _ _ _ _ _=z;revert z;refine zaa (σ:=Nat × Nat) (λx=>[(0,.d (.list (Str.ws wd r))),(3,.d (.fn 128)),(4,.arr 0 u.length),(5,.arr 1 x.1),(20,.d (.list (Str.ws wd r))),(21,.d (.int .i64 r.length)),(22,.d (.int .i64 x.1))]) (λx=>[.arr 1 (Str.ws wd u) x.2,.arr 1 (zeo (plD u) r x.1) 0]) (λx=>x.1<=r.length) (λx=>r.length - x.1) (0,0) ?_ ?_ ?_
   ·exact yai _
   ·simp -dsimp -implicitDefEqProofs (disch:=omega) [zaO]
   intro T' f hT' ⟨i,w⟩ hi ih;simp only at hi ih
   by_cases h5:i<r.length
   ·have hs:=hsearch r[i] (yam _)
    have hpu:=zaP (g:=plD u) h5;have hpl:=zak (g:=plD u) hi;simp -dsimp -implicitDefEqProofs (disch:=omega) [h5,hs,hpl]
    refine ih (i+1,u.length) _ _ h5 (by simp only;omega) ?_
    rw[hpu];simp -dsimp -implicitDefEqProofs (disch:=omega) [plD,hpl]
   ·obtain rfl:i=r.length:=by omega
    have hpl:=zak (g:=plD u) hi;have d2':R 128 [.arr 0 (1+pu.length),.arr 1 u.length] [.arr 1 (.int .u8 1::bytes pu) 0,.arr 1 (Str.ws wd u) w]=some ([.arr 0 (1+pu.length+tu.length)],[.arr 1 (.int .u8 1::bytes (pu++tu)) 0,.arr 1 (Str.ws wd u) w]):=by
     have:=d2 w;rw[e2,e1]at this;exact this
    subst hT';simp -dsimp -implicitDefEqProofs (disch:=omega) [hpl,d1',hput,hw0,hbest,d2',hlt']
    simpa -dsimp -implicitDefEqProofs (disch:=omega) using hT
  ·have hm2:(u.length+m.length)=r.length:=hm
   have hm3:List.take u.length (Str.ws wd u++m)=Str.ws wd u:=by rw[ybE (by simp),yaA (by simp)]
   refine rg b92 rfl ?_;intro T hT;simp -dsimp -implicitDefEqProofs (disch:=omega) [h1,h2,hP]
   generalize hz:zaf _ _ _ _ _ _=z;revert z;refine zaa (σ:=Nat × Nat) (λx=>[(0,.d (.list (Str.ws wd r))),(3,.d (.fn 128)),(4,.sl 0 r.length 0 u.length),(5,.arr 1 x.1),(20,.d (.list (Str.ws wd r))),(21,.d (.int .i64 r.length)),(22,.d (.int .i64 x.1))]) (λx=>[.arr 1 (Str.ws wd u++m) x.2,.arr 1 (zeo (plD u) r x.1) 0]) (λx=>x.1<=r.length) (λx=>r.length - x.1) (0,0) ?_ ?_ ?_
   ·exact yai _
   ·simp -dsimp -implicitDefEqProofs (disch:=omega) [zaO]
   intro T' f hT' ⟨i,w⟩ hi ih;simp only at hi ih
   by_cases h5:i<r.length
   ·have hs:=hsearch r[i] (yam _)
    have hpu:=zaP (g:=plD u) h5;have hpl:=zak (g:=plD u) hi;simp -dsimp -implicitDefEqProofs (disch:=omega) [h5,hs,hpl,hm2,hm3]
    refine ih (i+1,r.length) _ _ h5 (by simp only;omega) ?_
    rw[hpu];simp -dsimp -implicitDefEqProofs (disch:=omega) [plD,hpl,hm2,hm3]
   ·obtain rfl:i=r.length:=by omega
    have hpl:=zak (g:=plD u) hi;have d2':R 128 [.arr 0 (1+pu.length),.sl 1 r.length 0 u.length] [.arr 1 (.int .u8 1::bytes pu) 0,.arr 1 (Str.ws wd u++m) w]=some ([.arr 0 (1+pu.length+tu.length)],[.arr 1 (.int .u8 1::bytes (pu++tu)) 0,.arr 1 (Str.ws wd u++m) w]):=by
     have:=d3 m w;rw[e2,e1,hm]at this;exact this
    subst hT';simp -dsimp -implicitDefEqProofs (disch:=omega) [hpl,d1',hput,hw0,hbest,d2',hlt',hm2,hm3]
    simpa -dsimp -implicitDefEqProofs (disch:=omega) using hT
end Go.Am.Ab
