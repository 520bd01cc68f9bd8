/- Columns: their parts, written. -/
import Derived.Test.YtibdiacpdmhmnaaGreatDoorCellsA
import Derived.Test.YtibdiacpdmhmnaaGreatDoorTSortB
import Derived.Test.YtibdiacpdmhmnaaGreatDoorIntsB
set_option linter.all false
namespace Go.Am.Ab
open Go.Proofs
set_option maxHeartbeats 4000000
set_option maxRecDepth 4000
abbrev bs (l:List Bool):List D:=l.map D.bool
@[simp] def zA4 (l:List Bool):zao 1 (l.map D.bool)=true:=zaJ l λ_=>rfl
@[simp] def zEB (l:List Bool):zd8 (l.map D.bool)=true:=zdg _ (λ_=>rfl) l
def bit (b:Bool):Nat:=if b then 1 else 0
def zbM (l:List Bool):List UInt8:=zbB 1 (l.map bit)
def zux (l:List Bool): ∀n∈l.map bit,n<2 ^ 1:=by
 intro n h;obtain⟨b,_,rfl⟩:=List.mem_map.1 h;cases b <;> decide
def zsx (l:List Bool):zcI (l.map bit)<=1:=by
 have key: ∀ (l:List Nat) (w:Nat),w<=1->(∀n∈l,n<2 ^ 1)->l.foldl (λw n=>max w (zbZ n)) w<=1:=by
  intro l
  induction l with
  |nil=>intro w h _;exact h
  |cons x r ih=>
   intro w h g;have hx:=g x (by simp)
   have:=(zbn (n:=x) (m:=1) (by omega)).2 hx
   exact ih (max w (zbZ x)) (by omega) λn hn=>g n (by simp[hn])
 exact key _ 0 (by omega) (zux l)
def zxk (l:List Bool) {i:Nat} (h:i<l.length):((l.take i).map bit++List.replicate (l.length - i) 0).set i 1=(l.take i).map bit++1::List.replicate (l.length - (i+1)) 0:=by
 have e:l.length - i=(l.length - (i+1))+1:=by omega
 have hlen:((l.take i).map bit).length=i:=by simp;omega
 rw[e,yaS,ybl _ _ (by omega),hlen,ya7,ycV]
def zsy (l:List Bool) {i:Nat} (h:i<l.length):(l.take (i+1)).map bit++List.replicate (l.length - (i+1)) 0=if l[i] then ((l.take i).map bit++List.replicate (l.length - i) 0).set i 1 else (l.take i).map bit++List.replicate (l.length - i) 0:=by
 rw[zxk l h,zaM h];have e:l.length - i=(l.length - (i+1))+1:=by omega
 cases hb:l[i] with
 |true=>simp[bit]
 |false=>
  rw[e,yaS];simp[bit]
def zhP (l:List Nat):List D:=l.map λ(n:Nat)=>D.int .u64 (n:Int)
def zuy (l:List Nat) (i v:Nat):(zhP l).set i (D.int .u64 v)=zhP (l.set i v):=by
 unfold zhP;rw[ybY]
def zio (l:List Nat):(zhP l).length=l.length:=by simp[zhP]
def zn1 (n:Nat):List.replicate n (D.int .u64 0)=zhP (List.replicate n 0):=by simp[zhP]
def zfr (l:List Bool) (hn:l.length<=256):R 90 [.d (.list (bs l))] []=some ([.arr 0 (zbM l).length],[.arr 1 (bytes (zbM l)) 0]):=by
 have h64: ∀n∈l.map bit,n<18446744073709551616:=λn h=>by have:=zux l n h;omega
 have hwid:zcI (l.map bit)<=1:=zsx l;have hp:=zqI (l.map bit) 1 h64 (by omega) (by simpa using hn) hwid
 rw[show zbB 1 (l.map bit)=zbM l from rfl]at hp
 have hp':R 126 [.d (.list (zhP (l.map bit))),.d (.int .i64 1)] []=some ([.arr 0 (zbM l).length,.d (.bool true)],[.arr 1 (bytes (zbM l)) 0]):=hp;refine rg b90 rfl ?_;intro T hT;simp -dsimp -implicitDefEqProofs (disch:=first|omega|assumption) [zn1]
 generalize hz:zak _ _ _ _ _ _=z;revert z;refine zaa (σ:=Nat) (λi=>[(3,.arr 0 l.length),(11,.d (.list (bs l))),(12,.d (.int .i64 l.length)),(13,.d (.int .i64 i))]) (λi=>[.arr 1 (zhP ((l.take i).map bit++List.replicate (l.length - i) 0)) 0]) (λi=>i<=l.length) (λi=>l.length - i) 0 ?_ ?_ ?_
 ·exact yaj _
 ·simp -dsimp -implicitDefEqProofs (disch:=first|omega|assumption) [zn1]
 intro T' f hT' i hi ih
 by_cases h1:i<l.length
 ·obtain⟨m,hm⟩: ∃m,m=(l.take i).map bit++List.replicate (l.length - i) 0:=⟨_,rfl⟩
  have hml:(zhP m).length=l.length:=by rw[hm,zio];simp;omega
  have hs:=zsy l h1;rw[<- hm]at hs ⊢;obtain⟨w,hw⟩: ∃w,(zhP m)[i]? =some w:=⟨_,yal (by omega)⟩
  have hwc:w.cells=[w]:=by
   unfold zhP at hw;rw[yax,yac]at hw;obtain⟨n,_,rfl⟩:=hw;rfl
  cases hb:l[i] with
  |true=>
   rw[hb,yai rfl]at hs;simp -dsimp -implicitDefEqProofs (disch:=first|omega|assumption) [h1,hb,hml,hw,hwc]
   refine ih (i+1) _ _ h1 (by omega) ?_
   rw[hs,<- zuy];simp -dsimp -implicitDefEqProofs (disch:=first|omega|assumption)
  |false=>
   rw[hb]at hs;simp -dsimp -implicitDefEqProofs (disch:=first|omega|assumption) [h1,hb,hml]
   refine ih (i+1) _ _ h1 (by omega) ?_
   rw[hs];simp -dsimp -implicitDefEqProofs (disch:=first|omega|assumption)
 ·have e:i=l.length:=by omega
  subst e;have hml:(zhP (l.map bit)).length=l.length:=by rw[zio];simp
  subst hT';rw[ybf,ya7,List.replicate_zero,yaq];simp -dsimp -implicitDefEqProofs (disch:=first|omega|assumption) [hml,hp']
  simpa -dsimp -implicitDefEqProofs (disch:=first|omega|assumption) using hT
def zb0 (l:List Int):List UInt8:=put (zb9 l).length++zb9 l
def zdZ {l:List Int} (hl: ∀n∈l,zaf n) (hn:l.length<=256):(zb9 l).length<=5121:=zhO hl hn 5
def zeS (l:List Int) (hl: ∀n∈l,zaf n) (hn:l.length<=256):R 129 [.d (ints l)] []=some ([.arr 0 (zb0 l).length],[.arr 1 (bytes (zb0 l)) 0]):=by
 have h:=zjV l hl hn;have hb:=zdZ hl hn;have hp:=zaW (zb9 l).length (by omega)
 have hpl:=zau (n:=(zb9 l).length) (by omega)
 have hw:IntKind.u64.wrap ((zb9 l).length:Int)=(zb9 l).length:=zan (by omega) (by omega)
 refine rg zIi rfl ?_;intro T hT;simp -dsimp -implicitDefEqProofs (disch:=first|omega|assumption) [h,hp,hw]
 simpa -dsimp -implicitDefEqProofs (disch:=first|omega|assumption) [zb0]using hT
def zhQ (l:List Bool) (hn:l.length<=1000000):R 89 [.d (.list (bs l)),.d (.bool false)] []=some ([.d (.bool (decide (false∈l)))],[]):=by
 have h: ∃n:Int,(decide (0<=n)=decide (false∈l))/\R 125 [.d (.list (bs l)),.d (.bool false)] []=some ([.d (.int .i64 n)],[]):=by
  by_cases hm:false∈l
  ·obtain⟨k,hk,he⟩:=List.mem_iff_getElem.1 hm
   skip
   refine⟨(l.idxOf false:Nat),by simp[hm], ?_⟩
   have hx:l.idxOf false<l.length:=ycv hm;have hy:l[l.idxOf false]=false:=ydz hx;obtain⟨x,hxx⟩: ∃x,x=l.idxOf false:=⟨_,rfl⟩;have hmin: ∀i,(h:i<x)->l[i]'(by omega)=true:=by
    intro i h;rw[hxx]at h;have:=List.not_of_lt_findIdx (p:=(·== false)) (xs:=l) (i:=i) h
    simpa using this
   rw[<- hxx]at hx ⊢;have hy':l[x]=false:=by simpa[hxx]using hy
   refine rg zHf rfl ?_;intro T hT;simp -dsimp -implicitDefEqProofs (disch:=first|omega|assumption)
   generalize hz:zak _ _ _ _ _ _=z;revert z;refine zaa (σ:=Nat) (λi=>[(0,.d (.list (bs l))),(1,.d (.bool false)),(7,.d (.int .i64 l.length)),(8,.d (.int .i64 i))]) (λi=>[]) (λi=>i<=x) (λi=>x - i) 0 ?_ ?_ ?_
   ·exact yaj _
   ·simp -dsimp -implicitDefEqProofs (disch:=first|omega|assumption)
   intro T' f hT' i hi ih;have h1:i<l.length:=by omega
   by_cases h2:i<x
   ·have g:=hmin i h2
    simp -dsimp -implicitDefEqProofs (disch:=first|omega|assumption) [h1,g]
    exact ih (i+1) _ _ h2 (by omega) (by simp -dsimp -implicitDefEqProofs (disch:=first|omega|assumption))
   ·obtain rfl:i=x:=by omega
    subst hT';simp -dsimp -implicitDefEqProofs (disch:=first|omega|assumption) [h1,hy']
    simpa -dsimp -implicitDefEqProofs (disch:=first|omega|assumption) using hT
  ·refine⟨-1,by simp[hm], ?_⟩
   refine rg zHf rfl ?_;intro T hT;simp -dsimp -implicitDefEqProofs (disch:=first|omega|assumption)
   generalize hz:zak _ _ _ _ _ _=z;revert z;refine zaa (σ:=Nat) (λi=>[(0,.d (.list (bs l))),(1,.d (.bool false)),(7,.d (.int .i64 l.length)),(8,.d (.int .i64 i))]) (λi=>[]) (λi=>i<=l.length) (λi=>l.length - i) 0 ?_ ?_ ?_
   ·exact yaj _
   ·simp -dsimp -implicitDefEqProofs (disch:=first|omega|assumption)
   intro T' f hT' i hi ih
   by_cases h1:i<l.length
   ·have g:l[i]=true:=by
     cases e:l[i] with
     |true=>rfl
     |false=>exact absurd (e ▸ yar h1) hm
    simp -dsimp -implicitDefEqProofs (disch:=first|omega|assumption) [h1,g]
    exact ih (i+1) _ _ h1 (by omega) (by simp -dsimp -implicitDefEqProofs (disch:=first|omega|assumption))
   ·subst hT'
    simp -dsimp -implicitDefEqProofs (disch:=first|omega|assumption) [h1]
    simpa -dsimp -implicitDefEqProofs (disch:=first|omega|assumption) using hT
 obtain⟨n,hn1,hn2⟩:=h;rw[<- hn1];refine rg b89 rfl ?_;intro T hT;simp -dsimp -implicitDefEqProofs (disch:=first|omega|assumption) [hn2]
 simpa -dsimp -implicitDefEqProofs (disch:=first|omega|assumption) using hT
end Go.Am.Ab
namespace Go.Am.Ab
open Go.Proofs
set_option maxHeartbeats 4000000
set_option maxRecDepth 4000
def zfQ:List.range 2=[0,1]:=by decide
abbrev ss (l:List ByteArray):List D:=l.map D.str
@[simp] def zA5 (l:List ByteArray):zao 1 (l.map D.str)=true:=zaJ l λ_=>rfl
def zez (s:ByteArray):D:= .int .i64 s.size
def zaT (l:List ByteArray):List Int:=l.map λs=>(s.size:Int)
def zhR (s:ByteArray):s.data.toList.length=s.size:=ybd
def zeT (l:List ByteArray) (i:Nat):List UInt8:=(l.take i).flatMap (·.data.toList)
def zhS (l:List ByteArray):zeT l 0=[]:=rfl
def zfs {l:List ByteArray} {i:Nat} (h:i<l.length):zeT l (i+1)=zeT l i++l[i].data.toList:=by
 unfold zeT;rw[zaM h,yds];simp
def zcY {l:List ByteArray} (hl: ∀s∈l,s.size<=64): ∀i,i<=l.length->(zeT l i).length<=64*i
 |0,_=>by simp[zeT]
 |i+1,h=>by
  have h1:=zcY hl i (by omega)
  have h2:=hl l[i] (yar _);have h3:=zhR l[i];rw[zfs (by omega),yae]
  omega
def zcC (l:List ByteArray):List UInt8:=zb0 (zaT l)++zeT l l.length
def zg1 {l:List ByteArray} (hl: ∀s∈l,s.size<=64): ∀n∈zaT l,zaf n:=by
 intro n h;obtain⟨s,hs,rfl⟩:=List.mem_map.1 h;have:=hl s hs;unfold zaf;omega
def zds {l:List Int} (hl: ∀n∈l,zaf n) (hn:l.length<=256):(zb0 l).length<=5131:=by
 have h1:=zdZ hl hn;have h2:=zau (n:=(zb9 l).length) (by omega)
 unfold zb0;rw[yae];omega
def zxl (b:List UInt8) (l:List ByteArray) (hb:b.length<=1000) (hl: ∀s∈l,s.size<=64) (hn:l.length<=256):R 128 [.arr 0 b.length,.d (.list (ss l))] [.arr 1 (bytes b) 0]=some ([.arr 0 (b++zcC l).length],[.arr 1 (bytes (b++zcC l)) 0]):=by
 have hsi:=zg1 hl;have hsl:(zaT l).length=l.length:=by simp[zaT]
 have hcl:=zds hsi (by omega)
 have hfl:=zcY hl l.length (yag _);have hc:=zeS (zaT l) hsi (by omega)
 have hcs:R 129 [.d (.list (zey zez l l.length))] []=some ([.arr 0 (zb0 (zaT l)).length],[.arr 1 (bytes (zb0 (zaT l))) 0]):=by
  rw[zbw (yag _),<- hc,ints,zaT,ya3];rfl
 refine rg zGw rfl ?_;intro T hT;simp -dsimp -implicitDefEqProofs (disch:=first|omega|assumption)
 generalize hz:zak _ _ _ _ _ _=z;revert z;refine zaa (σ:=Nat) (λi=>[(0,.arr 0 b.length),(5,.arr 1 i),(6,.arr 2 (zeT l i).length),(9,.d (.list (ss l))),(10,.d (.int .i64 l.length)),(11,.d (.int .i64 i))]) (λi=>[.arr 1 (bytes b) 0,.arr 1 (zey zez l i) 0,.arr 1 (bytes (zeT l i)) 0]) (λi=>i<=l.length) (λi=>l.length - i) 0 ?_ ?_ ?_
 ·exact yaj _
 ·simp -dsimp -implicitDefEqProofs (disch:=first|omega|assumption) [zaR,zhS]
 intro T' f hT' i hi ih
 by_cases h1:i<l.length
 ·have hsz:=hl l[i] (yar _)
  have htk:=zaS (g:=zez) h1;have hlen:=zam (g:=zez) hi;have hft:=zfs h1;have hfi:=zcY hl i hi;have h3:=zhR l[i];simp -dsimp -implicitDefEqProofs (disch:=first|omega|assumption) [h1,hlen,h3]
  refine ih (i+1) _ _ h1 (by omega) ?_
  rw[htk,hft];simp -dsimp -implicitDefEqProofs (disch:=first|omega|assumption) [h3,zez]
 ·obtain rfl:i=l.length:=by omega
  have hlen:=zam (g:=zez) hi;subst hT';simp -dsimp -implicitDefEqProofs (disch:=first|omega|assumption) [hcs,hlen]
  simpa -dsimp -implicitDefEqProofs (disch:=first|omega|assumption) [zcC,yam,ya0]using hT
def zsz (b:List UInt8) (l:List ByteArray) (w:Nat) (hb:b.length<=1000) (hl: ∀s∈l,s.size<=64) (hn:l.length<=256):R 128 [.arr 0 b.length,.arr 1 l.length] [.arr 1 (bytes b) 0,.arr 1 (ss l) w]=some ([.arr 0 (b++zcC l).length],[.arr 1 (bytes (b++zcC l)) 0,.arr 1 (ss l) w]):=by
 have hsi:=zg1 hl;have hsl:(zaT l).length=l.length:=by simp[zaT]
 have hcl:=zds hsi (by omega)
 have hfl:=zcY hl l.length (yag _);have hc:=zeS (zaT l) hsi (by omega)
 have hcs:R 129 [.d (.list (zey zez l l.length))] []=some ([.arr 0 (zb0 (zaT l)).length],[.arr 1 (bytes (zb0 (zaT l))) 0]):=by
  rw[zbw (yag _),<- hc,ints,zaT,ya3];rfl
 refine rg zGw rfl ?_;intro T hT;simp -dsimp -implicitDefEqProofs (disch:=first|omega|assumption)
 generalize hz:zak _ _ _ _ _ _=z;revert z;refine zaa (σ:=Nat) (λi=>[(0,.arr 0 b.length),(5,.arr 2 i),(6,.arr 3 (zeT l i).length),(9,.arr 1 l.length),(10,.d (.int .i64 l.length)),(11,.d (.int .i64 i))]) (λi=>[.arr 1 (bytes b) 0,.arr 1 (ss l) w,.arr 1 (zey zez l i) 0,.arr 1 (bytes (zeT l i)) 0]) (λi=>i<=l.length) (λi=>l.length - i) 0 ?_ ?_ ?_
 ·exact yaj _
 ·simp -dsimp -implicitDefEqProofs (disch:=first|omega|assumption) [zaR,zhS,zfQ]
 intro T' f hT' i hi ih
 by_cases h1:i<l.length
 ·have hsz:=hl l[i] (yar _)
  have htk:=zaS (g:=zez) h1;have hlen:=zam (g:=zez) hi;have hft:=zfs h1;have hfi:=zcY hl i hi;have h3:=zhR l[i];simp -dsimp -implicitDefEqProofs (disch:=first|omega|assumption) [h1,hlen,h3,zfQ]
  refine ih (i+1) _ _ h1 (by omega) ?_
  rw[htk,hft];simp -dsimp -implicitDefEqProofs (disch:=first|omega|assumption) [h3,zez,zfQ]
 ·obtain rfl:i=l.length:=by omega
  have hlen:=zam (g:=zez) hi;subst hT';simp -dsimp -implicitDefEqProofs (disch:=first|omega|assumption) [hcs,hlen,zfQ]
  simpa -dsimp -implicitDefEqProofs (disch:=first|omega|assumption) [zcC,yam,ya0,zfQ]using hT
def zuz (b:List UInt8) (l:List ByteArray) (m:List D) (w:Nat) (hb:b.length<=1000) (hl: ∀s∈l,s.size<=64) (hn:l.length<=256):R 128 [.arr 0 b.length,.sl 1 (l.length+m.length) 0 l.length] [.arr 1 (bytes b) 0,.arr 1 (ss l++m) w]=some ([.arr 0 (b++zcC l).length],[.arr 1 (bytes (b++zcC l)) 0,.arr 1 (ss l++m) w]):=by
 have hsi:=zg1 hl;have hsl:(zaT l).length=l.length:=by simp[zaT]
 have hcl:=zds hsi (by omega)
 have hfl:=zcY hl l.length (yag _);have hc:=zeS (zaT l) hsi (by omega)
 have hcs:R 129 [.d (.list (zey zez l l.length))] []=some ([.arr 0 (zb0 (zaT l)).length],[.arr 1 (bytes (zb0 (zaT l))) 0]):=by
  rw[zbw (yag _),<- hc,ints,zaT,ya3];rfl
 refine rg zGw rfl ?_;intro T hT;simp -dsimp -implicitDefEqProofs (disch:=first|omega|assumption)
 generalize hz:zak _ _ _ _ _ _=z;revert z;refine zaa (σ:=Nat) (λi=>[(0,.arr 0 b.length),(5,.arr 2 i),(6,.arr 3 (zeT l i).length),(9,.sl 1 (l.length+m.length) 0 l.length),(10,.d (.int .i64 l.length)),(11,.d (.int .i64 i))]) (λi=>[.arr 1 (bytes b) 0,.arr 1 (ss l++m) w,.arr 1 (zey zez l i) 0,.arr 1 (bytes (zeT l i)) 0]) (λi=>i<=l.length) (λi=>l.length - i) 0 ?_ ?_ ?_
 ·exact yaj _
 ·simp -dsimp -implicitDefEqProofs (disch:=first|omega|assumption) [zaR,zhS,zfQ]
 intro T' f hT' i hi ih
 by_cases h1:i<l.length
 ·have hsz:=hl l[i] (yar _)
  have htk:=zaS (g:=zez) h1;have hlen:=zam (g:=zez) hi;have hft:=zfs h1;have hfi:=zcY hl i hi;have h3:=zhR l[i];have hget:(ss l++m)[i]? =some (D.str l[i]):=by rw[yan (by simpa using h1),yax,yal h1];rfl
  simp -dsimp -implicitDefEqProofs (disch:=first|omega|assumption) [h1,hlen,h3,hget,zfQ]
  refine ih (i+1) _ _ h1 (by omega) ?_
  rw[htk,hft];simp -dsimp -implicitDefEqProofs (disch:=first|omega|assumption) [h3,zez,zfQ]
 ·obtain rfl:i=l.length:=by omega
  have hlen:=zam (g:=zez) hi;subst hT';simp -dsimp -implicitDefEqProofs (disch:=first|omega|assumption) [hcs,hlen,zfQ]
  simpa -dsimp -implicitDefEqProofs (disch:=first|omega|assumption) [zcC,yam,ya0,zfQ]using hT
end Go.Am.Ab
namespace Go.Am.Ab
open Go.Proofs
set_option maxHeartbeats 4000000
set_option maxRecDepth 4000
def zyD (wd:Nat->ByteArray) (r:List Nat):ss (r.map wd)=Str.ws wd r:=by
 unfold ss Str.ws;rw[ya3];rfl
def zcD (l:List ByteArray):List Int:=l.map λs=>(ixS (zhK l) s:Int)
def zfR (l:List ByteArray):List UInt8:=0::zcC l
def zsA (l:List ByteArray):List UInt8:=(1::put (zhK l).length)++zcC (zhK l)++zb9 (zcD l)
def zc1 (l:List ByteArray):List UInt8:=if (zsA l).length<(zfR l).length then zsA l else zfR l
def zjW (x:ByteArray): ∀l:List ByteArray,(znX x l).length<=l.length+1
 |[]=>by simp[znX]
 |y::r=>by
  unfold znX;have:=zjW x r;split
  ·simp
  ·split
   ·simp
   ·simp only[yad];omega
def zdI (l:List ByteArray):(zhK l).length<=l.length:=by
 have key: ∀ (l u:List ByteArray),(l.foldl (λu x=>znX x u) u).length<=u.length+l.length:=by
  intro l
  induction l with
  |nil=>intro u;simp
  |cons x r ih=>
   intro u;have h1:=ih (znX x u);have h2:=zjW x u;simp only[yba,yad];omega
 have:=key l [];simpa[zhK]using this
def zlA {l:List ByteArray} (hn:l.length<=256): ∀n∈zcD l,zaf n:=by
 intro n h;obtain⟨s,hs,rfl⟩:=List.mem_map.1 h;have h1:=zqQ (zfq.2 hs);have h2:=zdI l;unfold zaf;omega
def zhT {l:List ByteArray} (hl: ∀s∈l,s.size<=64) (hn:l.length<=256):(zcC l).length<=30000:=by
 have h1:=zds (zg1 hl) (by simpa[zaT]using hn)
 have h2:=zcY hl l.length (yag _);unfold zcC;rw[yae];omega
def plD (u:List Nat) (x:Nat):D:= .int .i64 ((u.idxOf x:Nat):Int)
def zsB (l:List ByteArray) (hl: ∀s∈l,s.size<=64) (hn:l.length<=256):R 92 [.d (.list (ss l))] []=some ([.arr 0 (zc1 l).length],[.arr 1 (bytes (zc1 l)) 0]):=by
 obtain⟨wd,r,hwd,hr⟩:=zDp l;have hul:=zdI l;have hum: ∀s∈zhK l,s.size<=64:=λs h=>hl s (zfq.1 h)
 have htl:=zhT hl hn;have htu:=zhT hum (by omega)
 have hpi:=zlA hn;have hpl:(zcD l).length=l.length:=by simp[zcD]
 have hbl:=zdZ hpi (by omega)
 have hbest:=zjV (zcD l) hpi (by omega)
 have hput:=zaW (zhK l).length (by omega)
 have hputl:=zau (n:=(zhK l).length) (by omega)
 have d1:=zxl [0] l (by simp) hl hn
 have d2:=λw=>zsz (1::put (zhK l).length) (zhK l) w (by simp;omega) hum (by omega)
 have d3:=λm w=>zuz (1::put (zhK l).length) (zhK l) m w (by simp;omega) hum (by omega)
 -- by zDp
 have hu:zhK l=(Str.uniq r).map wd:=by rw[<- hr];exact zxj hwd r
 have hrl:r.length=l.length:=by rw[<- hr];simp
 have hsl:ss l=Str.ws wd r:=by rw[<- hr];exact zyD wd r
 have hsu:ss (zhK l)=Str.ws wd (Str.uniq r):=by rw[hu];exact zyD wd _
 have hplD:ints (zcD l)= .list (zey (plD (Str.uniq r)) r r.length):=by
  rw[zbw (yag _),ints,zcD,hu,<- hr,ya3,ya3];congr 1;apply ya5;intro x _;simp only[Function.comp,plD,zuw hwd]
 have hulen:(zhK l).length=(Str.uniq r).length:=by rw[hu];simp
 have h1:=Str.clone_runs hwd r (by omega)
 obtain⟨s,h2,h3,h4⟩:=Str.sort_any hwd r (by omega)
 have hlen:=h3.len;have hus:Str.uniq s=Str.uniq r:=Str.rises_ext (Str.uniq_rises _) (Str.uniq_rises _) λy=>by rw[Str.uniq_mem,Str.uniq_mem];exact h3.perm.mem_iff
 rw[<- hlen]at h4;have hP:=Str.compact_any hwd s h4 (by omega)
 unfold Str.Packs at hP;rw[hus]at hP;have hrise:=Str.rises_iff.1 (Str.uniq_rises r);have hmem: ∀x∈r,x∈Str.uniq r:=λx h=>Str.uniq_mem.2 h
 have hW:zc1 l=if (zsA l).length<(zfR l).length then zsA l else zfR l:=rfl
 have hLT:zsA l=(1::put (zhK l).length)++zcC (zhK l)++zb9 (zcD l):=rfl;have hPT:zfR l=[0]++zcC l:=rfl;rw[hplD]at hbest;rw[hsl]at d1 ⊢;rw[hsu]at d2 d3;rw[hulen]at hul hput hputl d2 d3 hLT;obtain⟨u,hue⟩: ∃u,u=Str.uniq r:=⟨_,rfl⟩;rw[<- hue]at hul hput hputl d2 d3 hLT hbest hP hrise hmem;have hsearch: ∀x∈r,R 133 [.d (.list (Str.ws wd u)),.d (.str (wd x))] []=some ([.d (.int .i64 (u.idxOf x:Nat)),.d (.bool true)],[]):=by
  intro x hx;have hk:=ycv (hmem x hx);have he:Str.at' u (u.idxOf x)=x:=by rw[<- Str.get_at hk];exact ydz hk
  refine Str.search_runs hwd u x (u.idxOf x) hk (by omega) he (λp hp=> ?_) (λp p1 p2=> ?_)
  ·have:=hrise p (u.idxOf x) hp hk
   omega
  ·by_cases e:p=u.idxOf x
   ·subst e;omega
   ·have:=hrise (u.idxOf x) p (by omega) p2
    omega
 obtain⟨tu,htue⟩: ∃tu,tu=zcC (zhK l):=⟨_,rfl⟩;obtain⟨tl,htle⟩: ∃tl,tl=zcC l:=⟨_,rfl⟩;obtain⟨bp,hbpe⟩: ∃bp,bp=zb9 (zcD l):=⟨_,rfl⟩;obtain⟨pu,hpue⟩: ∃pu,pu=put u.length:=⟨_,rfl⟩;rw[<- htue]at htu d2 d3 hLT;rw[<- htle]at htl d1 hPT;rw[<- hbpe]at hbl hbest hLT;rw[<- hpue]at hput hputl d2 d3 hLT;rw[hW,hLT,hPT];have hw0:IntKind.u64.wrap (u.length:Int)=u.length:=zan (by omega) (by omega)
 clear hW hLT hPT hsl hsu hplD hu hulen hum hpi hpl hus h3 h4 hbpe htle htue hpue hue hl;have hul2:u.length<=256:=by omega
 have hbest':=hbest;rw[hrl]at hbest';rw[hlen]at hP;have d1':R 128 [.arr 0 1,.d (.list (Str.ws wd r))] [.arr 1 [.int .u8 0] 0]=some ([.arr 0 (tl.length+1)],[.arr 1 (.int .u8 0::bytes tl) 0]):=d1;have e1:(1::pu).length=1+pu.length:=by simp only[yad];omega
 have e2:(1::pu++tu).length=1+pu.length+tu.length:=by simp only[yad,yae];omega
 have e3:(1::pu++tu++bp).length=1+pu.length+tu.length+bp.length:=by simp only[yad,yae];omega
 have e4:([0]++tl).length=tl.length+1:=by simp
 rw[e3,e4]
 by_cases hlt:1+pu.length+tu.length+bp.length<tl.length+1
 ·rw[yai hlt,e3]
  have hlt':(1+(pu.length:Int)+tu.length+bp.length)<tl.length+1:=by omega
  rcases hP with hP | ⟨m,hm,hP⟩
  ·refine rg b92 rfl ?_
   intro T hT;simp -dsimp -implicitDefEqProofs (disch:=first|omega|assumption) [h1,h2,hP]
   generalize hz:zak _ _ _ _ _ _=z;revert z;refine zaa (σ:=Nat × Nat) (λx=>[(0,.d (.list (Str.ws wd r))),(3,.d (.fn 128)),(4,.arr 0 u.length),(5,.arr 1 x.1),(20,.d (.list (Str.ws wd r))),(21,.d (.int .i64 r.length)),(22,.d (.int .i64 x.1))]) (λx=>[.arr 1 (Str.ws wd u) x.2,.arr 1 (zey (plD u) r x.1) 0]) (λx=>x.1<=r.length) (λx=>r.length - x.1) (0,0) ?_ ?_ ?_
   ·exact yaj _
   ·simp -dsimp -implicitDefEqProofs (disch:=first|omega|assumption) [zaR]
   intro T' f hT' ⟨i,w⟩ hi ih;simp only at hi ih
   by_cases h5:i<r.length
   ·have hs:=hsearch r[i] (yar _)
    have hpu:=zaS (g:=plD u) h5;have hpl:=zam (g:=plD u) hi;simp -dsimp -implicitDefEqProofs (disch:=first|omega|assumption) [h5,hs,hpl]
    refine ih (i+1,u.length) _ _ h5 (by simp only;omega) ?_
    rw[hpu];simp -dsimp -implicitDefEqProofs (disch:=first|omega|assumption) [plD,hpl]
   ·obtain rfl:i=r.length:=by omega
    have hpl:=zam (g:=plD u) hi;have d2':R 128 [.arr 0 (1+pu.length),.arr 1 u.length] [.arr 1 (.int .u8 1::bytes pu) 0,.arr 1 (Str.ws wd u) w]=some ([.arr 0 (1+pu.length+tu.length)],[.arr 1 (.int .u8 1::bytes (pu++tu)) 0,.arr 1 (Str.ws wd u) w]):=by
     have:=d2 w;rw[e2,e1]at this;exact this
    subst hT';simp -dsimp -implicitDefEqProofs (disch:=first|omega|assumption) [hpl,d1',hput,hw0,hbest,d2',hlt']
    simpa -dsimp -implicitDefEqProofs (disch:=first|omega|assumption) using hT
  ·have hm2:(u.length+m.length)=r.length:=hm
   have hm3:List.take u.length (Str.ws wd u++m)=Str.ws wd u:=by rw[ybD (by simp),yaB (by simp)]
   refine rg b92 rfl ?_;intro T hT;simp -dsimp -implicitDefEqProofs (disch:=first|omega|assumption) [h1,h2,hP]
   generalize hz:zak _ _ _ _ _ _=z;revert z;refine zaa (σ:=Nat × Nat) (λx=>[(0,.d (.list (Str.ws wd r))),(3,.d (.fn 128)),(4,.sl 0 r.length 0 u.length),(5,.arr 1 x.1),(20,.d (.list (Str.ws wd r))),(21,.d (.int .i64 r.length)),(22,.d (.int .i64 x.1))]) (λx=>[.arr 1 (Str.ws wd u++m) x.2,.arr 1 (zey (plD u) r x.1) 0]) (λx=>x.1<=r.length) (λx=>r.length - x.1) (0,0) ?_ ?_ ?_
   ·exact yaj _
   ·simp -dsimp -implicitDefEqProofs (disch:=first|omega|assumption) [zaR]
   intro T' f hT' ⟨i,w⟩ hi ih;simp only at hi ih
   by_cases h5:i<r.length
   ·have hs:=hsearch r[i] (yar _)
    have hpu:=zaS (g:=plD u) h5;have hpl:=zam (g:=plD u) hi;simp -dsimp -implicitDefEqProofs (disch:=first|omega|assumption) [h5,hs,hpl,hm2,hm3]
    refine ih (i+1,r.length) _ _ h5 (by simp only;omega) ?_
    rw[hpu];simp -dsimp -implicitDefEqProofs (disch:=first|omega|assumption) [plD,hpl,hm2,hm3]
   ·obtain rfl:i=r.length:=by omega
    have hpl:=zam (g:=plD u) hi;have d2':R 128 [.arr 0 (1+pu.length),.sl 1 r.length 0 u.length] [.arr 1 (.int .u8 1::bytes pu) 0,.arr 1 (Str.ws wd u++m) w]=some ([.arr 0 (1+pu.length+tu.length)],[.arr 1 (.int .u8 1::bytes (pu++tu)) 0,.arr 1 (Str.ws wd u++m) w]):=by
     have:=d3 m w;rw[e2,e1,hm]at this;exact this
    subst hT';simp -dsimp -implicitDefEqProofs (disch:=first|omega|assumption) [hpl,d1',hput,hw0,hbest,d2',hlt',hm2,hm3]
    simpa -dsimp -implicitDefEqProofs (disch:=first|omega|assumption) using hT
 ·rw[yaf hlt,e4]
  have hlt': ¬ (1+(pu.length:Int)+tu.length+bp.length)<tl.length+1:=by omega
  rcases hP with hP | ⟨m,hm,hP⟩
  ·refine rg b92 rfl ?_
   intro T hT;simp -dsimp -implicitDefEqProofs (disch:=first|omega|assumption) [h1,h2,hP]
   generalize hz:zak _ _ _ _ _ _=z;revert z;refine zaa (σ:=Nat × Nat) (λx=>[(0,.d (.list (Str.ws wd r))),(3,.d (.fn 128)),(4,.arr 0 u.length),(5,.arr 1 x.1),(20,.d (.list (Str.ws wd r))),(21,.d (.int .i64 r.length)),(22,.d (.int .i64 x.1))]) (λx=>[.arr 1 (Str.ws wd u) x.2,.arr 1 (zey (plD u) r x.1) 0]) (λx=>x.1<=r.length) (λx=>r.length - x.1) (0,0) ?_ ?_ ?_
   ·exact yaj _
   ·simp -dsimp -implicitDefEqProofs (disch:=first|omega|assumption) [zaR]
   intro T' f hT' ⟨i,w⟩ hi ih;simp only at hi ih
   by_cases h5:i<r.length
   ·have hs:=hsearch r[i] (yar _)
    have hpu:=zaS (g:=plD u) h5;have hpl:=zam (g:=plD u) hi;simp -dsimp -implicitDefEqProofs (disch:=first|omega|assumption) [h5,hs,hpl]
    refine ih (i+1,u.length) _ _ h5 (by simp only;omega) ?_
    rw[hpu];simp -dsimp -implicitDefEqProofs (disch:=first|omega|assumption) [plD,hpl]
   ·obtain rfl:i=r.length:=by omega
    have hpl:=zam (g:=plD u) hi;have d2':R 128 [.arr 0 (1+pu.length),.arr 1 u.length] [.arr 1 (.int .u8 1::bytes pu) 0,.arr 1 (Str.ws wd u) w]=some ([.arr 0 (1+pu.length+tu.length)],[.arr 1 (.int .u8 1::bytes (pu++tu)) 0,.arr 1 (Str.ws wd u) w]):=by
     have:=d2 w;rw[e2,e1]at this;exact this
    subst hT';simp -dsimp -implicitDefEqProofs (disch:=first|omega|assumption) [hpl,d1',hput,hw0,hbest,d2',hlt']
    simpa -dsimp -implicitDefEqProofs (disch:=first|omega|assumption) using hT
  ·have hm2:(u.length+m.length)=r.length:=hm
   have hm3:List.take u.length (Str.ws wd u++m)=Str.ws wd u:=by rw[ybD (by simp),yaB (by simp)]
   refine rg b92 rfl ?_;intro T hT;simp -dsimp -implicitDefEqProofs (disch:=first|omega|assumption) [h1,h2,hP]
   generalize hz:zak _ _ _ _ _ _=z;revert z;refine zaa (σ:=Nat × Nat) (λx=>[(0,.d (.list (Str.ws wd r))),(3,.d (.fn 128)),(4,.sl 0 r.length 0 u.length),(5,.arr 1 x.1),(20,.d (.list (Str.ws wd r))),(21,.d (.int .i64 r.length)),(22,.d (.int .i64 x.1))]) (λx=>[.arr 1 (Str.ws wd u++m) x.2,.arr 1 (zey (plD u) r x.1) 0]) (λx=>x.1<=r.length) (λx=>r.length - x.1) (0,0) ?_ ?_ ?_
   ·exact yaj _
   ·simp -dsimp -implicitDefEqProofs (disch:=first|omega|assumption) [zaR]
   intro T' f hT' ⟨i,w⟩ hi ih;simp only at hi ih
   by_cases h5:i<r.length
   ·have hs:=hsearch r[i] (yar _)
    have hpu:=zaS (g:=plD u) h5;have hpl:=zam (g:=plD u) hi;simp -dsimp -implicitDefEqProofs (disch:=first|omega|assumption) [h5,hs,hpl,hm2,hm3]
    refine ih (i+1,r.length) _ _ h5 (by simp only;omega) ?_
    rw[hpu];simp -dsimp -implicitDefEqProofs (disch:=first|omega|assumption) [plD,hpl,hm2,hm3]
   ·obtain rfl:i=r.length:=by omega
    have hpl:=zam (g:=plD u) hi;have d2':R 128 [.arr 0 (1+pu.length),.sl 1 r.length 0 u.length] [.arr 1 (.int .u8 1::bytes pu) 0,.arr 1 (Str.ws wd u++m) w]=some ([.arr 0 (1+pu.length+tu.length)],[.arr 1 (.int .u8 1::bytes (pu++tu)) 0,.arr 1 (Str.ws wd u++m) w]):=by
     have:=d3 m w;rw[e2,e1,hm]at this;exact this
    subst hT';simp -dsimp -implicitDefEqProofs (disch:=first|omega|assumption) [hpl,d1',hput,hw0,hbest,d2',hlt',hm2,hm3]
    simpa -dsimp -implicitDefEqProofs (disch:=first|omega|assumption) using hT
end Go.Am.Ab
