/- Columns: their parts, written. -/
import Derived.Test.YtibdiacpdmhmnaaGreatDoorIntsB
import Derived.Test.YtibdiacpdmhmnaaGreatDoorCellsA
import Derived.Test.YtibdiacpdmhmnaaGreatDoorTSortB
set_option linter.all false
namespace Go.Am.Ab
open Go.Proofs
set_option maxHeartbeats 4000000
set_option maxRecDepth 4000
abbrev bs (l:List Bool):List D:=l.map D.bool
@[simp] def zBq (l:List Bool):zaq 1 (l.map D.bool)=true:=zaS l λ_=>rfl
@[simp] def zFa (l:List Bool):zel (l.map D.bool)=true:=zdw _ (λ_=>rfl) l
def bit (b:Bool):Nat:=if b then 1 else 0
def za5 (l:List Bool):List UInt8:=za8 1 (l.map bit)
def zsb (l:List Bool): ∀n∈l.map bit,n<2 ^ 1:=by
 intro n h;obtain⟨b,_,rfl⟩:=List.mem_map.1 h;cases b <;> decide
def zmy (l:List Bool):zbc (l.map bit)<=1:=by
 have key: ∀ (l:List Nat) (w:Nat),w<=1->(∀n∈l,n<2 ^ 1)->l.foldl (λw n=>max w (zbU n)) w<=1:=by
  intro l
  induction l with
  |nil=>intro w h _;exact h
  |cons x r ih=>
   intro w h g;have hx:=g x (by simp)
   have:=(zbo (n:=x) (m:=1) (by omega)).2 hx
   exact ih (max w (zbU x)) (by omega) λn hn=>g n (by simp[hn])
 exact key _ 0 (by omega) (zsb l)
def zya (l:List Bool) {i:Nat} (h:i<l.length):((l.take i).map bit++List.replicate (l.length - i) 0).set i 1=(l.take i).map bit++1::List.replicate (l.length - (i+1)) 0:=by
 have e:l.length - i=(l.length - (i+1))+1:=by omega
 have hlen:((l.take i).map bit).length=i:=by simp;omega
 rw[e,yaS,ybn _ _ (by omega),hlen,ybb,yc2]
def zt1 (l:List Bool) {i:Nat} (h:i<l.length):(l.take (i+1)).map bit++List.replicate (l.length - (i+1)) 0=if l[i] then ((l.take i).map bit++List.replicate (l.length - i) 0).set i 1 else (l.take i).map bit++List.replicate (l.length - i) 0:=by
 rw[zya l h,zao h];have e:l.length - i=(l.length - (i+1))+1:=by omega
 cases hb:l[i] with
 |true=>simp[bit]
 |false=>
  rw[e,yaS];simp[bit]
def zih (l:List Nat):List D:=l.map λ(n:Nat)=>D.int .u64 (n:Int)
def zvM (l:List Nat) (i v:Nat):(zih l).set i (D.int .u64 v)=zih (l.set i v):=by
 unfold zih;rw[yb0]
def ziU (l:List Nat):(zih l).length=l.length:=by simp[zih]
def zpg (n:Nat):List.replicate n (D.int .u64 0)=zih (List.replicate n 0):=by simp[zih]
def zfL (l:List Bool) (hn:l.length<=256):R 90 [.d (.list (bs l))] []=some ([.arr 0 (za5 l).length],[.arr 1 (bytes (za5 l)) 0]):=by
 have h64: ∀n∈l.map bit,n<18446744073709551616:=λn h=>by have:=zsb l n h;omega
 have hwid:zbc (l.map bit)<=1:=zmy l;have hp:=zrO (l.map bit) 1 h64 (by omega) (by simpa using hn) hwid
 rw[show za8 1 (l.map bit)=za5 l from rfl]at hp
 have hp':R 126 [.d (.list (zih (l.map bit))),.d (.int .i64 1)] []=some ([.arr 0 (za5 l).length,.d (.bool true)],[.arr 1 (bytes (za5 l)) 0]):=hp;refine rg b90 rfl ?_;intro T hT;simp -dsimp -implicitDefEqProofs (disch:=first|omega|assumption) [zpg]
 generalize hz:zaj _ _ _ _ _ _=z;revert z;refine zaa (σ:=Nat) (λi=>[(3,.arr 0 l.length),(11,.d (.list (bs l))),(12,.d (.int .i64 l.length)),(13,.d (.int .i64 i))]) (λi=>[.arr 1 (zih ((l.take i).map bit++List.replicate (l.length - i) 0)) 0]) (λi=>i<=l.length) (λi=>l.length - i) 0 ?_ ?_ ?_
 ·exact yai _
 ·simp -dsimp -implicitDefEqProofs (disch:=first|omega|assumption) [zpg]
 intro T' f hT' i hi ih
 by_cases h1:i<l.length
 ·obtain⟨m,hm⟩: ∃m,m=(l.take i).map bit++List.replicate (l.length - i) 0:=⟨_,rfl⟩
  have hml:(zih m).length=l.length:=by rw[hm,ziU];simp;omega
  have hs:=zt1 l h1;rw[<- hm]at hs ⊢;obtain⟨w,hw⟩: ∃w,(zih m)[i]? =some w:=⟨_,yao (by omega)⟩
  have hwc:w.cells=[w]:=by
   unfold zih at hw;rw[yaA,yac]at hw;obtain⟨n,_,rfl⟩:=hw;rfl
  cases hb:l[i] with
  |true=>
   rw[hb,yaj rfl]at hs;simp -dsimp -implicitDefEqProofs (disch:=first|omega|assumption) [h1,hb,hml,hw,hwc]
   refine ih (i+1) _ _ h1 (by omega) ?_
   rw[hs,<- zvM];simp -dsimp -implicitDefEqProofs (disch:=first|omega|assumption)
  |false=>
   rw[hb]at hs;simp -dsimp -implicitDefEqProofs (disch:=first|omega|assumption) [h1,hb,hml]
   refine ih (i+1) _ _ h1 (by omega) ?_
   rw[hs];simp -dsimp -implicitDefEqProofs (disch:=first|omega|assumption)
 ·have e:i=l.length:=by omega
  subst e;have hml:(zih (l.map bit)).length=l.length:=by rw[ziU];simp
  subst hT';rw[yaQ,ybb,List.replicate_zero,yaq];simp -dsimp -implicitDefEqProofs (disch:=first|omega|assumption) [hml,hp']
  simpa -dsimp -implicitDefEqProofs (disch:=first|omega|assumption) using hT
def zbg (l:List Int):List UInt8:=put (zbp l).length++zbp l
def zcO {l:List Int} (hl: ∀n∈l,zai n) (hn:l.length<=256):(zbp l).length<=5121:=zfE hl hn 5
def zfd (l:List Int) (hl: ∀n∈l,zai n) (hn:l.length<=256):R 129 [.d (ints l)] []=some ([.arr 0 (zbg l).length],[.arr 1 (bytes (zbg l)) 0]):=by
 have h:=zkk l hl hn;have hb:=zcO hl hn;have hp:=za7 (zbp l).length (by omega)
 have hpl:=zam (n:=(zbp l).length) (by omega)
 have hw:IntKind.u64.wrap ((zbp l).length:Int)=(zbp l).length:=zak (by omega) (by omega)
 refine rg zJj rfl ?_;intro T hT;simp -dsimp -implicitDefEqProofs (disch:=first|omega|assumption) [h,hp,hw]
 simpa -dsimp -implicitDefEqProofs (disch:=first|omega|assumption) [zbg]using hT
def zii (l:List Bool) (hn:l.length<=1000000):R 89 [.d (.list (bs l)),.d (.bool false)] []=some ([.d (.bool (decide (false∈l)))],[]):=by
 have h: ∃n:Int,(decide (0<=n)=decide (false∈l))/\R 125 [.d (.list (bs l)),.d (.bool false)] []=some ([.d (.int .i64 n)],[]):=by
  by_cases hm:false∈l
  ·obtain⟨k,hk,he⟩:=List.mem_iff_getElem.1 hm
   skip
   refine⟨(l.idxOf false:Nat),by simp[hm], ?_⟩
   have hx:l.idxOf false<l.length:=ycB hm;have hy:l[l.idxOf false]=false:=ydG hx;obtain⟨x,hxx⟩: ∃x,x=l.idxOf false:=⟨_,rfl⟩;have hmin: ∀i,(h:i<x)->l[i]'(by omega)=true:=by
    intro i h;rw[hxx]at h;have:=List.not_of_lt_findIdx (p:=(·== false)) (xs:=l) (i:=i) h
    simpa using this
   rw[<- hxx]at hx ⊢;have hy':l[x]=false:=by simpa[hxx]using hy
   refine rg zIc rfl ?_;intro T hT;simp -dsimp -implicitDefEqProofs (disch:=first|omega|assumption)
   generalize hz:zaj _ _ _ _ _ _=z;revert z;refine zaa (σ:=Nat) (λi=>[(0,.d (.list (bs l))),(1,.d (.bool false)),(7,.d (.int .i64 l.length)),(8,.d (.int .i64 i))]) (λi=>[]) (λi=>i<=x) (λi=>x - i) 0 ?_ ?_ ?_
   ·exact yai _
   ·simp -dsimp -implicitDefEqProofs (disch:=first|omega|assumption)
   intro T' f hT' i hi ih;have h1:i<l.length:=by omega
   by_cases h2:i<x
   ·have g:=hmin i h2
    simp -dsimp -implicitDefEqProofs (disch:=first|omega|assumption) [h1,g]
    exact ih (i+1) _ _ h2 (by omega) (by simp -dsimp -implicitDefEqProofs (disch:=first|omega|assumption))
   ·obtain rfl:i=x:=by omega
    subst hT';simp -dsimp -implicitDefEqProofs (disch:=first|omega|assumption) [h1,hy']
    simpa -dsimp -implicitDefEqProofs (disch:=first|omega|assumption) using hT
  ·refine⟨-1,by simp[hm], ?_⟩
   refine rg zIc rfl ?_;intro T hT;simp -dsimp -implicitDefEqProofs (disch:=first|omega|assumption)
   generalize hz:zaj _ _ _ _ _ _=z;revert z;refine zaa (σ:=Nat) (λi=>[(0,.d (.list (bs l))),(1,.d (.bool false)),(7,.d (.int .i64 l.length)),(8,.d (.int .i64 i))]) (λi=>[]) (λi=>i<=l.length) (λi=>l.length - i) 0 ?_ ?_ ?_
   ·exact yai _
   ·simp -dsimp -implicitDefEqProofs (disch:=first|omega|assumption)
   intro T' f hT' i hi ih
   by_cases h1:i<l.length
   ·have g:l[i]=true:=by
     cases e:l[i] with
     |true=>rfl
     |false=>exact absurd (e ▸ yam h1) hm
    simp -dsimp -implicitDefEqProofs (disch:=first|omega|assumption) [h1,g]
    exact ih (i+1) _ _ h1 (by omega) (by simp -dsimp -implicitDefEqProofs (disch:=first|omega|assumption))
   ·subst hT'
    simp -dsimp -implicitDefEqProofs (disch:=first|omega|assumption) [h1]
    simpa -dsimp -implicitDefEqProofs (disch:=first|omega|assumption) using hT
 obtain⟨n,hn1,hn2⟩:=h;rw[<- hn1];refine rg b89 rfl ?_;intro T hT;simp -dsimp -implicitDefEqProofs (disch:=first|omega|assumption) [hn2]
 simpa -dsimp -implicitDefEqProofs (disch:=first|omega|assumption) using hT
end Go.Am.Ab
namespace Go.Am.Ab
open Go.Proofs
set_option maxHeartbeats 4000000
set_option maxRecDepth 4000
def zgf:List.range 2=[0,1]:=by decide
abbrev ss (l:List ByteArray):List D:=l.map D.str
@[simp] def zBr (l:List ByteArray):zaq 1 (l.map D.str)=true:=zaS l λ_=>rfl
def zdk (s:ByteArray):D:= .int .i64 s.size
def zaR (l:List ByteArray):List Int:=l.map λs=>(s.size:Int)
def zgD (s:ByteArray):s.data.toList.length=s.size:=ybk
def zeD (l:List ByteArray) (i:Nat):List UInt8:=(l.take i).flatMap (·.data.toList)
def zfM (l:List ByteArray):zeD l 0=[]:=rfl
def zea {l:List ByteArray} {i:Nat} (h:i<l.length):zeD l (i+1)=zeD l i++l[i].data.toList:=by
 unfold zeD;rw[zao h,ydy];simp
def zcl {l:List ByteArray} (hl: ∀s∈l,s.size<=64): ∀i,i<=l.length->(zeD l i).length<=64*i
 |0,_=>by simp[zeD]
 |i+1,h=>by
  have h1:=zcl hl i (by omega)
  have h2:=hl l[i] (yam _);have h3:=zgD l[i];rw[zea (by omega),yab]
  omega
def zbC (l:List ByteArray):List UInt8:=zbg (zaR l)++zeD l l.length
def zfN {l:List ByteArray} (hl: ∀s∈l,s.size<=64): ∀n∈zaR l,zai n:=by
 intro n h;obtain⟨s,hs,rfl⟩:=List.mem_map.1 h;have:=hl s hs;unfold zai;omega
def zda {l:List Int} (hl: ∀n∈l,zai n) (hn:l.length<=256):(zbg l).length<=5131:=by
 have h1:=zcO hl hn;have h2:=zam (n:=(zbp l).length) (by omega)
 unfold zbg;rw[yab];omega
def zyb (b:List UInt8) (l:List ByteArray) (hb:b.length<=1000) (hl: ∀s∈l,s.size<=64) (hn:l.length<=256):R 128 [.arr 0 b.length,.d (.list (ss l))] [.arr 1 (bytes b) 0]=some ([.arr 0 (b++zbC l).length],[.arr 1 (bytes (b++zbC l)) 0]):=by
 have hsi:=zfN hl;have hsl:(zaR l).length=l.length:=by simp[zaR]
 have hcl:=zda hsi (by omega)
 have hfl:=zcl hl l.length (yaf _);have hc:=zfd (zaR l) hsi (by omega)
 have hcs:R 129 [.d (.list (zcY zdk l l.length))] []=some ([.arr 0 (zbg (zaR l)).length],[.arr 1 (bytes (zbg (zaR l))) 0]):=by
  rw[za2 (yaf _),<- hc,ints,zaR,yaL];rfl
 refine rg zHm rfl ?_;intro T hT;simp -dsimp -implicitDefEqProofs (disch:=first|omega|assumption)
 generalize hz:zaj _ _ _ _ _ _=z;revert z;refine zaa (σ:=Nat) (λi=>[(0,.arr 0 b.length),(5,.arr 1 i),(6,.arr 2 (zeD l i).length),(9,.d (.list (ss l))),(10,.d (.int .i64 l.length)),(11,.d (.int .i64 i))]) (λi=>[.arr 1 (bytes b) 0,.arr 1 (zcY zdk l i) 0,.arr 1 (bytes (zeD l i)) 0]) (λi=>i<=l.length) (λi=>l.length - i) 0 ?_ ?_ ?_
 ·exact yai _
 ·simp -dsimp -implicitDefEqProofs (disch:=first|omega|assumption) [zav,zfM]
 intro T' f hT' i hi ih
 by_cases h1:i<l.length
 ·have hsz:=hl l[i] (yam _)
  have htk:=zaw (g:=zdk) h1;have hlen:=zah (g:=zdk) hi;have hft:=zea h1;have hfi:=zcl hl i hi;have h3:=zgD l[i];simp -dsimp -implicitDefEqProofs (disch:=first|omega|assumption) [h1,hlen,h3]
  refine ih (i+1) _ _ h1 (by omega) ?_
  rw[htk,hft];simp -dsimp -implicitDefEqProofs (disch:=first|omega|assumption) [h3,zdk]
 ·obtain rfl:i=l.length:=by omega
  have hlen:=zah (g:=zdk) hi;subst hT';simp -dsimp -implicitDefEqProofs (disch:=first|omega|assumption) [hcs,hlen]
  simpa -dsimp -implicitDefEqProofs (disch:=first|omega|assumption) [zbC,yal,yaH]using hT
def zt2 (b:List UInt8) (l:List ByteArray) (w:Nat) (hb:b.length<=1000) (hl: ∀s∈l,s.size<=64) (hn:l.length<=256):R 128 [.arr 0 b.length,.arr 1 l.length] [.arr 1 (bytes b) 0,.arr 1 (ss l) w]=some ([.arr 0 (b++zbC l).length],[.arr 1 (bytes (b++zbC l)) 0,.arr 1 (ss l) w]):=by
 have hsi:=zfN hl;have hsl:(zaR l).length=l.length:=by simp[zaR]
 have hcl:=zda hsi (by omega)
 have hfl:=zcl hl l.length (yaf _);have hc:=zfd (zaR l) hsi (by omega)
 have hcs:R 129 [.d (.list (zcY zdk l l.length))] []=some ([.arr 0 (zbg (zaR l)).length],[.arr 1 (bytes (zbg (zaR l))) 0]):=by
  rw[za2 (yaf _),<- hc,ints,zaR,yaL];rfl
 refine rg zHm rfl ?_;intro T hT;simp -dsimp -implicitDefEqProofs (disch:=first|omega|assumption)
 generalize hz:zaj _ _ _ _ _ _=z;revert z;refine zaa (σ:=Nat) (λi=>[(0,.arr 0 b.length),(5,.arr 2 i),(6,.arr 3 (zeD l i).length),(9,.arr 1 l.length),(10,.d (.int .i64 l.length)),(11,.d (.int .i64 i))]) (λi=>[.arr 1 (bytes b) 0,.arr 1 (ss l) w,.arr 1 (zcY zdk l i) 0,.arr 1 (bytes (zeD l i)) 0]) (λi=>i<=l.length) (λi=>l.length - i) 0 ?_ ?_ ?_
 ·exact yai _
 ·simp -dsimp -implicitDefEqProofs (disch:=first|omega|assumption) [zav,zfM,zgf]
 intro T' f hT' i hi ih
 by_cases h1:i<l.length
 ·have hsz:=hl l[i] (yam _)
  have htk:=zaw (g:=zdk) h1;have hlen:=zah (g:=zdk) hi;have hft:=zea h1;have hfi:=zcl hl i hi;have h3:=zgD l[i];simp -dsimp -implicitDefEqProofs (disch:=first|omega|assumption) [h1,hlen,h3,zgf]
  refine ih (i+1) _ _ h1 (by omega) ?_
  rw[htk,hft];simp -dsimp -implicitDefEqProofs (disch:=first|omega|assumption) [h3,zdk,zgf]
 ·obtain rfl:i=l.length:=by omega
  have hlen:=zah (g:=zdk) hi;subst hT';simp -dsimp -implicitDefEqProofs (disch:=first|omega|assumption) [hcs,hlen,zgf]
  simpa -dsimp -implicitDefEqProofs (disch:=first|omega|assumption) [zbC,yal,yaH,zgf]using hT
def zvN (b:List UInt8) (l:List ByteArray) (m:List D) (w:Nat) (hb:b.length<=1000) (hl: ∀s∈l,s.size<=64) (hn:l.length<=256):R 128 [.arr 0 b.length,.sl 1 (l.length+m.length) 0 l.length] [.arr 1 (bytes b) 0,.arr 1 (ss l++m) w]=some ([.arr 0 (b++zbC l).length],[.arr 1 (bytes (b++zbC l)) 0,.arr 1 (ss l++m) w]):=by
 have hsi:=zfN hl;have hsl:(zaR l).length=l.length:=by simp[zaR]
 have hcl:=zda hsi (by omega)
 have hfl:=zcl hl l.length (yaf _);have hc:=zfd (zaR l) hsi (by omega)
 have hcs:R 129 [.d (.list (zcY zdk l l.length))] []=some ([.arr 0 (zbg (zaR l)).length],[.arr 1 (bytes (zbg (zaR l))) 0]):=by
  rw[za2 (yaf _),<- hc,ints,zaR,yaL];rfl
 refine rg zHm rfl ?_;intro T hT;simp -dsimp -implicitDefEqProofs (disch:=first|omega|assumption)
 generalize hz:zaj _ _ _ _ _ _=z;revert z;refine zaa (σ:=Nat) (λi=>[(0,.arr 0 b.length),(5,.arr 2 i),(6,.arr 3 (zeD l i).length),(9,.sl 1 (l.length+m.length) 0 l.length),(10,.d (.int .i64 l.length)),(11,.d (.int .i64 i))]) (λi=>[.arr 1 (bytes b) 0,.arr 1 (ss l++m) w,.arr 1 (zcY zdk l i) 0,.arr 1 (bytes (zeD l i)) 0]) (λi=>i<=l.length) (λi=>l.length - i) 0 ?_ ?_ ?_
 ·exact yai _
 ·simp -dsimp -implicitDefEqProofs (disch:=first|omega|assumption) [zav,zfM,zgf]
 intro T' f hT' i hi ih
 by_cases h1:i<l.length
 ·have hsz:=hl l[i] (yam _)
  have htk:=zaw (g:=zdk) h1;have hlen:=zah (g:=zdk) hi;have hft:=zea h1;have hfi:=zcl hl i hi;have h3:=zgD l[i];have hget:(ss l++m)[i]? =some (D.str l[i]):=by rw[yap (by simpa using h1),yaA,yao h1];rfl
  simp -dsimp -implicitDefEqProofs (disch:=first|omega|assumption) [h1,hlen,h3,hget,zgf]
  refine ih (i+1) _ _ h1 (by omega) ?_
  rw[htk,hft];simp -dsimp -implicitDefEqProofs (disch:=first|omega|assumption) [h3,zdk,zgf]
 ·obtain rfl:i=l.length:=by omega
  have hlen:=zah (g:=zdk) hi;subst hT';simp -dsimp -implicitDefEqProofs (disch:=first|omega|assumption) [hcs,hlen,zgf]
  simpa -dsimp -implicitDefEqProofs (disch:=first|omega|assumption) [zbC,yal,yaH,zgf]using hT
end Go.Am.Ab
namespace Go.Am.Ab
open Go.Proofs
set_option maxHeartbeats 4000000
set_option maxRecDepth 4000
def zsc (wd:Nat->ByteArray) (r:List Nat):ss (r.map wd)=Str.ws wd r:=by
 unfold ss Str.ws;rw[yaL];rfl
def zbq (l:List ByteArray):List Int:=l.map λs=>(ixS (zeL l) s:Int)
def zeb (l:List ByteArray):List UInt8:=0::zbC l
def znx (l:List ByteArray):List UInt8:=(1::put (zeL l).length)++zbC (zeL l)++zbp (zbq l)
def zcV (l:List ByteArray):List UInt8:=if (znx l).length<(zeb l).length then znx l else zeb l
def zky (x:ByteArray): ∀l:List ByteArray,(zpd x l).length<=l.length+1
 |[]=>by simp[zpd]
 |y::r=>by
  unfold zpd;have:=zky x r;split
  ·simp
  ·split
   ·simp
   ·simp only[yad];omega
def zc4 (l:List ByteArray):(zeL l).length<=l.length:=by
 have key: ∀ (l u:List ByteArray),(l.foldl (λu x=>zpd x u) u).length<=u.length+l.length:=by
  intro l
  induction l with
  |nil=>intro u;simp
  |cons x r ih=>
   intro u;have h1:=ih (zpd x u);have h2:=zky x u;simp only[ya7,yad];omega
 have:=key l [];simpa[zeL]using this
def zij {l:List ByteArray} (hn:l.length<=256): ∀n∈zbq l,zai n:=by
 intro n h;obtain⟨s,hs,rfl⟩:=List.mem_map.1 h;have h1:=zmx (zdE.2 hs);have h2:=zc4 l;unfold zai;omega
def zec {l:List ByteArray} (hl: ∀s∈l,s.size<=64) (hn:l.length<=256):(zbC l).length<=30000:=by
 have h1:=zda (zfN hl) (by simpa[zaR]using hn)
 have h2:=zcl hl l.length (yaf _);unfold zbC;rw[yab];omega
def plD (u:List Nat) (x:Nat):D:= .int .i64 ((u.idxOf x:Nat):Int)
def zt3 (l:List ByteArray) (hl: ∀s∈l,s.size<=64) (hn:l.length<=256):R 92 [.d (.list (ss l))] []=some ([.arr 0 (zcV l).length],[.arr 1 (bytes (zcV l)) 0]):=by
 obtain⟨wd,r,hwd,hr⟩:=zAb l;have hul:=zc4 l;have hum: ∀s∈zeL l,s.size<=64:=λs h=>hl s (zdE.1 h)
 have htl:=zec hl hn;have htu:=zec hum (by omega)
 have hpi:=zij hn;have hpl:(zbq l).length=l.length:=by simp[zbq]
 have hbl:=zcO hpi (by omega)
 have hbest:=zkk (zbq l) hpi (by omega)
 have hput:=za7 (zeL l).length (by omega)
 have hputl:=zam (n:=(zeL l).length) (by omega)
 have d1:=zyb [0] l (by simp) hl hn
 have d2:=λw=>zt2 (1::put (zeL l).length) (zeL l) w (by simp;omega) hum (by omega)
 have d3:=λm w=>zvN (1::put (zeL l).length) (zeL l) m w (by simp;omega) hum (by omega)
 -- by zAb
 have hu:zeL l=(Str.uniq r).map wd:=by rw[<- hr];exact zsa hwd r
 have hrl:r.length=l.length:=by rw[<- hr];simp
 have hsl:ss l=Str.ws wd r:=by rw[<- hr];exact zsc wd r
 have hsu:ss (zeL l)=Str.ws wd (Str.uniq r):=by rw[hu];exact zsc wd _
 have hplD:ints (zbq l)= .list (zcY (plD (Str.uniq r)) r r.length):=by
  rw[za2 (yaf _),ints,zbq,hu,<- hr,yaL,yaL];congr 1;apply yaX;intro x _;simp only[Function.comp,plD,zvL hwd]
 have hulen:(zeL l).length=(Str.uniq r).length:=by rw[hu];simp
 have h1:=Str.clone_runs hwd r (by omega)
 obtain⟨s,h2,h3,h4⟩:=Str.sort_any hwd r (by omega)
 have hlen:=h3.len;have hus:Str.uniq s=Str.uniq r:=Str.rises_ext (Str.uniq_rises _) (Str.uniq_rises _) λy=>by rw[Str.uniq_mem,Str.uniq_mem];exact h3.perm.mem_iff
 rw[<- hlen]at h4;have hP:=Str.compact_any hwd s h4 (by omega)
 unfold Str.Packs at hP;rw[hus]at hP;have hrise:=Str.rises_iff.1 (Str.uniq_rises r);have hmem: ∀x∈r,x∈Str.uniq r:=λx h=>Str.uniq_mem.2 h
 have hW:zcV l=if (znx l).length<(zeb l).length then znx l else zeb l:=rfl
 have hLT:znx l=(1::put (zeL l).length)++zbC (zeL l)++zbp (zbq l):=rfl;have hPT:zeb l=[0]++zbC l:=rfl;rw[hplD]at hbest;rw[hsl]at d1 ⊢;rw[hsu]at d2 d3;rw[hulen]at hul hput hputl d2 d3 hLT;obtain⟨u,hue⟩: ∃u,u=Str.uniq r:=⟨_,rfl⟩;rw[<- hue]at hul hput hputl d2 d3 hLT hbest hP hrise hmem;have hsearch: ∀x∈r,R 133 [.d (.list (Str.ws wd u)),.d (.str (wd x))] []=some ([.d (.int .i64 (u.idxOf x:Nat)),.d (.bool true)],[]):=by
  intro x hx;have hk:=ycB (hmem x hx);have he:Str.at' u (u.idxOf x)=x:=by rw[<- Str.get_at hk];exact ydG hk
  refine Str.search_runs hwd u x (u.idxOf x) hk (by omega) he (λp hp=> ?_) (λp p1 p2=> ?_)
  ·have:=hrise p (u.idxOf x) hp hk
   omega
  ·by_cases e:p=u.idxOf x
   ·subst e;omega
   ·have:=hrise (u.idxOf x) p (by omega) p2
    omega
 obtain⟨tu,htue⟩: ∃tu,tu=zbC (zeL l):=⟨_,rfl⟩;obtain⟨tl,htle⟩: ∃tl,tl=zbC l:=⟨_,rfl⟩;obtain⟨bp,hbpe⟩: ∃bp,bp=zbp (zbq l):=⟨_,rfl⟩;obtain⟨pu,hpue⟩: ∃pu,pu=put u.length:=⟨_,rfl⟩;rw[<- htue]at htu d2 d3 hLT;rw[<- htle]at htl d1 hPT;rw[<- hbpe]at hbl hbest hLT;rw[<- hpue]at hput hputl d2 d3 hLT;rw[hW,hLT,hPT];have hw0:IntKind.u64.wrap (u.length:Int)=u.length:=zak (by omega) (by omega)
 clear hW hLT hPT hsl hsu hplD hu hulen hum hpi hpl hus h3 h4 hbpe htle htue hpue hue hl;have hul2:u.length<=256:=by omega
 have hbest':=hbest;rw[hrl]at hbest';rw[hlen]at hP;have d1':R 128 [.arr 0 1,.d (.list (Str.ws wd r))] [.arr 1 [.int .u8 0] 0]=some ([.arr 0 (tl.length+1)],[.arr 1 (.int .u8 0::bytes tl) 0]):=d1;have e1:(1::pu).length=1+pu.length:=by simp only[yad];omega
 have e2:(1::pu++tu).length=1+pu.length+tu.length:=by simp only[yad,yab];omega
 have e3:(1::pu++tu++bp).length=1+pu.length+tu.length+bp.length:=by simp only[yad,yab];omega
 have e4:([0]++tl).length=tl.length+1:=by simp
 rw[e3,e4]
 by_cases hlt:1+pu.length+tu.length+bp.length<tl.length+1
 ·rw[yaj hlt,e3]
  have hlt':(1+(pu.length:Int)+tu.length+bp.length)<tl.length+1:=by omega
  rcases hP with hP | ⟨m,hm,hP⟩
  ·refine rg b92 rfl ?_
   intro T hT;simp -dsimp -implicitDefEqProofs (disch:=first|omega|assumption) [h1,h2,hP]
   generalize hz:zaj _ _ _ _ _ _=z;revert z;refine zaa (σ:=Nat × Nat) (λx=>[(0,.d (.list (Str.ws wd r))),(3,.d (.fn 128)),(4,.arr 0 u.length),(5,.arr 1 x.1),(20,.d (.list (Str.ws wd r))),(21,.d (.int .i64 r.length)),(22,.d (.int .i64 x.1))]) (λx=>[.arr 1 (Str.ws wd u) x.2,.arr 1 (zcY (plD u) r x.1) 0]) (λx=>x.1<=r.length) (λx=>r.length - x.1) (0,0) ?_ ?_ ?_
   ·exact yai _
   ·simp -dsimp -implicitDefEqProofs (disch:=first|omega|assumption) [zav]
   intro T' f hT' ⟨i,w⟩ hi ih;simp only at hi ih
   by_cases h5:i<r.length
   ·have hs:=hsearch r[i] (yam _)
    have hpu:=zaw (g:=plD u) h5;have hpl:=zah (g:=plD u) hi;simp -dsimp -implicitDefEqProofs (disch:=first|omega|assumption) [h5,hs,hpl]
    refine ih (i+1,u.length) _ _ h5 (by simp only;omega) ?_
    rw[hpu];simp -dsimp -implicitDefEqProofs (disch:=first|omega|assumption) [plD,hpl]
   ·obtain rfl:i=r.length:=by omega
    have hpl:=zah (g:=plD u) hi;have d2':R 128 [.arr 0 (1+pu.length),.arr 1 u.length] [.arr 1 (.int .u8 1::bytes pu) 0,.arr 1 (Str.ws wd u) w]=some ([.arr 0 (1+pu.length+tu.length)],[.arr 1 (.int .u8 1::bytes (pu++tu)) 0,.arr 1 (Str.ws wd u) w]):=by
     have:=d2 w;rw[e2,e1]at this;exact this
    subst hT';simp -dsimp -implicitDefEqProofs (disch:=first|omega|assumption) [hpl,d1',hput,hw0,hbest,d2',hlt']
    simpa -dsimp -implicitDefEqProofs (disch:=first|omega|assumption) using hT
  ·have hm2:(u.length+m.length)=r.length:=hm
   have hm3:List.take u.length (Str.ws wd u++m)=Str.ws wd u:=by rw[ybJ (by simp),yar (by simp)]
   refine rg b92 rfl ?_;intro T hT;simp -dsimp -implicitDefEqProofs (disch:=first|omega|assumption) [h1,h2,hP]
   generalize hz:zaj _ _ _ _ _ _=z;revert z;refine zaa (σ:=Nat × Nat) (λx=>[(0,.d (.list (Str.ws wd r))),(3,.d (.fn 128)),(4,.sl 0 r.length 0 u.length),(5,.arr 1 x.1),(20,.d (.list (Str.ws wd r))),(21,.d (.int .i64 r.length)),(22,.d (.int .i64 x.1))]) (λx=>[.arr 1 (Str.ws wd u++m) x.2,.arr 1 (zcY (plD u) r x.1) 0]) (λx=>x.1<=r.length) (λx=>r.length - x.1) (0,0) ?_ ?_ ?_
   ·exact yai _
   ·simp -dsimp -implicitDefEqProofs (disch:=first|omega|assumption) [zav]
   intro T' f hT' ⟨i,w⟩ hi ih;simp only at hi ih
   by_cases h5:i<r.length
   ·have hs:=hsearch r[i] (yam _)
    have hpu:=zaw (g:=plD u) h5;have hpl:=zah (g:=plD u) hi;simp -dsimp -implicitDefEqProofs (disch:=first|omega|assumption) [h5,hs,hpl,hm2,hm3]
    refine ih (i+1,r.length) _ _ h5 (by simp only;omega) ?_
    rw[hpu];simp -dsimp -implicitDefEqProofs (disch:=first|omega|assumption) [plD,hpl,hm2,hm3]
   ·obtain rfl:i=r.length:=by omega
    have hpl:=zah (g:=plD u) hi;have d2':R 128 [.arr 0 (1+pu.length),.sl 1 r.length 0 u.length] [.arr 1 (.int .u8 1::bytes pu) 0,.arr 1 (Str.ws wd u++m) w]=some ([.arr 0 (1+pu.length+tu.length)],[.arr 1 (.int .u8 1::bytes (pu++tu)) 0,.arr 1 (Str.ws wd u++m) w]):=by
     have:=d3 m w;rw[e2,e1,hm]at this;exact this
    subst hT';simp -dsimp -implicitDefEqProofs (disch:=first|omega|assumption) [hpl,d1',hput,hw0,hbest,d2',hlt',hm2,hm3]
    simpa -dsimp -implicitDefEqProofs (disch:=first|omega|assumption) using hT
 ·rw[yag hlt,e4]
  have hlt': ¬ (1+(pu.length:Int)+tu.length+bp.length)<tl.length+1:=by omega
  rcases hP with hP | ⟨m,hm,hP⟩
  ·refine rg b92 rfl ?_
   intro T hT;simp -dsimp -implicitDefEqProofs (disch:=first|omega|assumption) [h1,h2,hP]
   generalize hz:zaj _ _ _ _ _ _=z;revert z;refine zaa (σ:=Nat × Nat) (λx=>[(0,.d (.list (Str.ws wd r))),(3,.d (.fn 128)),(4,.arr 0 u.length),(5,.arr 1 x.1),(20,.d (.list (Str.ws wd r))),(21,.d (.int .i64 r.length)),(22,.d (.int .i64 x.1))]) (λx=>[.arr 1 (Str.ws wd u) x.2,.arr 1 (zcY (plD u) r x.1) 0]) (λx=>x.1<=r.length) (λx=>r.length - x.1) (0,0) ?_ ?_ ?_
   ·exact yai _
   ·simp -dsimp -implicitDefEqProofs (disch:=first|omega|assumption) [zav]
   intro T' f hT' ⟨i,w⟩ hi ih;simp only at hi ih
   by_cases h5:i<r.length
   ·have hs:=hsearch r[i] (yam _)
    have hpu:=zaw (g:=plD u) h5;have hpl:=zah (g:=plD u) hi;simp -dsimp -implicitDefEqProofs (disch:=first|omega|assumption) [h5,hs,hpl]
    refine ih (i+1,u.length) _ _ h5 (by simp only;omega) ?_
    rw[hpu];simp -dsimp -implicitDefEqProofs (disch:=first|omega|assumption) [plD,hpl]
   ·obtain rfl:i=r.length:=by omega
    have hpl:=zah (g:=plD u) hi;have d2':R 128 [.arr 0 (1+pu.length),.arr 1 u.length] [.arr 1 (.int .u8 1::bytes pu) 0,.arr 1 (Str.ws wd u) w]=some ([.arr 0 (1+pu.length+tu.length)],[.arr 1 (.int .u8 1::bytes (pu++tu)) 0,.arr 1 (Str.ws wd u) w]):=by
     have:=d2 w;rw[e2,e1]at this;exact this
    subst hT';simp -dsimp -implicitDefEqProofs (disch:=first|omega|assumption) [hpl,d1',hput,hw0,hbest,d2',hlt']
    simpa -dsimp -implicitDefEqProofs (disch:=first|omega|assumption) using hT
  ·have hm2:(u.length+m.length)=r.length:=hm
   have hm3:List.take u.length (Str.ws wd u++m)=Str.ws wd u:=by rw[ybJ (by simp),yar (by simp)]
   refine rg b92 rfl ?_;intro T hT;simp -dsimp -implicitDefEqProofs (disch:=first|omega|assumption) [h1,h2,hP]
   generalize hz:zaj _ _ _ _ _ _=z;revert z;refine zaa (σ:=Nat × Nat) (λx=>[(0,.d (.list (Str.ws wd r))),(3,.d (.fn 128)),(4,.sl 0 r.length 0 u.length),(5,.arr 1 x.1),(20,.d (.list (Str.ws wd r))),(21,.d (.int .i64 r.length)),(22,.d (.int .i64 x.1))]) (λx=>[.arr 1 (Str.ws wd u++m) x.2,.arr 1 (zcY (plD u) r x.1) 0]) (λx=>x.1<=r.length) (λx=>r.length - x.1) (0,0) ?_ ?_ ?_
   ·exact yai _
   ·simp -dsimp -implicitDefEqProofs (disch:=first|omega|assumption) [zav]
   intro T' f hT' ⟨i,w⟩ hi ih;simp only at hi ih
   by_cases h5:i<r.length
   ·have hs:=hsearch r[i] (yam _)
    have hpu:=zaw (g:=plD u) h5;have hpl:=zah (g:=plD u) hi;simp -dsimp -implicitDefEqProofs (disch:=first|omega|assumption) [h5,hs,hpl,hm2,hm3]
    refine ih (i+1,r.length) _ _ h5 (by simp only;omega) ?_
    rw[hpu];simp -dsimp -implicitDefEqProofs (disch:=first|omega|assumption) [plD,hpl,hm2,hm3]
   ·obtain rfl:i=r.length:=by omega
    have hpl:=zah (g:=plD u) hi;have d2':R 128 [.arr 0 (1+pu.length),.sl 1 r.length 0 u.length] [.arr 1 (.int .u8 1::bytes pu) 0,.arr 1 (Str.ws wd u++m) w]=some ([.arr 0 (1+pu.length+tu.length)],[.arr 1 (.int .u8 1::bytes (pu++tu)) 0,.arr 1 (Str.ws wd u++m) w]):=by
     have:=d3 m w;rw[e2,e1,hm]at this;exact this
    subst hT';simp -dsimp -implicitDefEqProofs (disch:=first|omega|assumption) [hpl,d1',hput,hw0,hbest,d2',hlt',hm2,hm3]
    simpa -dsimp -implicitDefEqProofs (disch:=first|omega|assumption) using hT
end Go.Am.Ab
