/- Columns: their parts, written. -/
import Derived.Test.YtlgdomajdebbdaaGreatDoorCellsA
import Derived.Test.YtlgdomajdebbdaaGreatDoorTSortB
import Derived.Test.YtlgdomajdebbdaaGreatDoorIntsB
set_option linter.all false
namespace Go.Am.Ab
open Go.Proofs
set_option maxHeartbeats 4000000
set_option maxRecDepth 4000
abbrev bs (l:List Bool):List D:=l.map D.bool
@[simp] def zwS (l:List Bool):zaw 1 (l.map D.bool)=true:=zaN l λ_=>rfl
@[simp] def zAS (l:List Bool):zdL (l.map D.bool)=true:=zc5 _ (λ_=>rfl) l
def bit (b:Bool):Nat:=if b then 1 else 0
def za8 (l:List Bool):List UInt8:=zbd 1 (l.map bit)
def zo8 (l:List Bool): ∀n∈l.map bit,n<2 ^ 1:=by
 intro n h;obtain⟨b,_,rfl⟩:=List.mem_map.1 h;cases b <;> decide
def zkk (l:List Bool):zba (l.map bit)<=1:=by
 have key: ∀ (l:List Nat) (w:Nat),w<=1->(∀n∈l,n<2 ^ 1)->l.foldl (λw n=>max w (za9 n)) w<=1:=by
  intro l
  induction l with
  |nil=>intro w h _;exact h
  |cons x r ih=>
   intro w h g;have hx:=g x (by simp)
   have:=(zaT (n:=x) (m:=1) (by omega)).2 hx
   exact ih (max w (za9 x)) (by omega) λn hn=>g n (by simp[hn])
 exact key _ 0 (by omega) (zo8 l)
def zua (l:List Bool) {i:Nat} (h:i<l.length):((l.take i).map bit++List.replicate (l.length - i) 0).set i 1=(l.take i).map bit++1::List.replicate (l.length - (i+1)) 0:=by
 have e:l.length - i=(l.length - (i+1))+1:=by omega
 have hlen:((l.take i).map bit).length=i:=by simp;omega
 rw[e,List.replicate_succ,List.set_append_right _ _ (by omega),hlen,Nat.sub_self,List.set_cons_zero]
def zqj (l:List Bool) {i:Nat} (h:i<l.length):(l.take (i+1)).map bit++List.replicate (l.length - (i+1)) 0=if l[i] then ((l.take i).map bit++List.replicate (l.length - i) 0).set i 1 else (l.take i).map bit++List.replicate (l.length - i) 0:=by
 rw[zua l h,zam h];have e:l.length - i=(l.length - (i+1))+1:=by omega
 cases hb:l[i] with
 |true=>simp[bit]
 |false=>
  rw[e,List.replicate_succ];simp[bit]
def zgZ (l:List Nat):List D:=l.map λ(n:Nat)=>D.int .u64 (n:Int)
def zrZ (l:List Nat) (i v:Nat):(zgZ l).set i (D.int .u64 v)=zgZ (l.set i v):=by
 unfold zgZ;rw[List.map_set]
def zhu (l:List Nat):(zgZ l).length=l.length:=by simp[zgZ]
def zmB (n:Nat):List.replicate n (D.int .u64 0)=zgZ (List.replicate n 0):=by simp[zgZ]
def zfe (l:List Bool) (hn:l.length<=256):R 123 [.d (.list (bs l))] []=some ([.arr 0 (za8 l).length],[.arr 1 (bytes (za8 l)) 0]):=by
 have h64: ∀n∈l.map bit,n<18446744073709551616:=λn h=>by have:=zo8 l n h;omega
 have hwid:zba (l.map bit)<=1:=zkk l;have hp:=zoW (l.map bit) 1 h64 (by omega) (by simpa using hn) hwid
 rw[show zbd 1 (l.map bit)=za8 l from rfl]at hp
 have hp':R 177 [.d (.list (zgZ (l.map bit))),.d (.int .i64 1)] []=some ([.arr 0 (za8 l).length,.d (.bool true)],[.arr 1 (bytes (za8 l)) 0]):=hp;refine rg zEe rfl ?_;intro T hT;simp -dsimp -implicitDefEqProofs (disch:=first|omega|assumption) [zmB]
 generalize hz:zac _ _ _ _ _ _=z;revert z;refine zaa (σ:=Nat) (λi=>[(3,.arr 0 l.length),(11,.d (.list (bs l))),(12,.d (.int .i64 l.length)),(13,.d (.int .i64 i))]) (λi=>[.arr 1 (zgZ ((l.take i).map bit++List.replicate (l.length - i) 0)) 0]) (λi=>i<=l.length) (λi=>l.length - i) 0 ?_ ?_ ?_
 ·exact Nat.zero_le _
 ·simp -dsimp -implicitDefEqProofs (disch:=first|omega|assumption) [zmB]
 intro T' f hT' i hi ih
 by_cases h1:i<l.length
 ·obtain⟨m,hm⟩: ∃m,m=(l.take i).map bit++List.replicate (l.length - i) 0:=⟨_,rfl⟩
  have hml:(zgZ m).length=l.length:=by rw[hm,zhu];simp;omega
  have hs:=zqj l h1;rw[<- hm]at hs ⊢;obtain⟨w,hw⟩: ∃w,(zgZ m)[i]? =some w:=⟨_,List.getElem?_eq_getElem (by omega)⟩
  have hwc:w.cells=[w]:=by
   unfold zgZ at hw;rw[List.getElem?_map,Option.map_eq_some_iff]at hw;obtain⟨n,_,rfl⟩:=hw;rfl
  cases hb:l[i] with
  |true=>
   rw[hb,if_pos rfl]at hs;simp -dsimp -implicitDefEqProofs (disch:=first|omega|assumption) [h1,hb,hml,hw,hwc]
   refine ih (i+1) _ _ h1 (by omega) ?_
   rw[hs,<- zrZ];simp -dsimp -implicitDefEqProofs (disch:=first|omega|assumption)
  |false=>
   rw[hb]at hs;simp -dsimp -implicitDefEqProofs (disch:=first|omega|assumption) [h1,hb,hml]
   refine ih (i+1) _ _ h1 (by omega) ?_
   rw[hs];simp -dsimp -implicitDefEqProofs (disch:=first|omega|assumption)
 ·have e:i=l.length:=by omega
  subst e;have hml:(zgZ (l.map bit)).length=l.length:=by rw[zhu];simp
  subst hT';rw[List.take_length,Nat.sub_self,List.replicate_zero,List.append_nil];simp -dsimp -implicitDefEqProofs (disch:=first|omega|assumption) [hml,hp']
  simpa -dsimp -implicitDefEqProofs (disch:=first|omega|assumption) using hT
def zbb (l:List Int):List UInt8:=put (zbx l).length++zbx l
def zbY {l:List Int} (hl: ∀n∈l,zah n) (hn:l.length<=256):(zbx l).length<=5121:=zfd hl hn 5
def zeS (l:List Int) (hl: ∀n∈l,zah n) (hn:l.length<=256):R 180 [.d (ints l)] []=some ([.arr 0 (zbb l).length],[.arr 1 (bytes (zbb l)) 0]):=by
 have h:=ziQ l hl hn;have hb:=zbY hl hn;have hp:=zcl (zbx l).length (by omega)
 have hpl:=zaZ (n:=(zbx l).length) (by omega)
 have hw:IntKind.u64.wrap ((zbx l).length:Int)=(zbx l).length:=zae (by omega) (by omega)
 refine rg zEw rfl ?_;intro T hT;simp -dsimp -implicitDefEqProofs (disch:=first|omega|assumption) [h,hp,hw]
 simpa -dsimp -implicitDefEqProofs (disch:=first|omega|assumption) [zbb]using hT
def zg0 (l:List Bool) (hn:l.length<=1000000):R 122 [.d (.list (bs l)),.d (.bool false)] []=some ([.d (.bool (decide (false∈l)))],[]):=by
 have h: ∃n:Int,(decide (0<=n)=decide (false∈l))/\R 176 [.d (.list (bs l)),.d (.bool false)] []=some ([.d (.int .i64 n)],[]):=by
  by_cases hm:false∈l
  ·obtain⟨k,hk,he⟩:=List.mem_iff_getElem.1 hm
   skip
   refine⟨(l.idxOf false:Nat),by simp[hm], ?_⟩
   have hx:l.idxOf false<l.length:=List.idxOf_lt_length_of_mem hm;have hy:l[l.idxOf false]=false:=List.getElem_idxOf hx;obtain⟨x,hxx⟩: ∃x,x=l.idxOf false:=⟨_,rfl⟩;have hmin: ∀i,(h:i<x)->l[i]'(by omega)=true:=by
    intro i h;rw[hxx]at h;have:=List.not_of_lt_findIdx (p:=(·== false)) (xs:=l) (i:=i) h
    simpa using this
   rw[<- hxx]at hx ⊢;have hy':l[x]=false:=by simpa[hxx]using hy
   refine rg zDn rfl ?_;intro T hT;simp -dsimp -implicitDefEqProofs (disch:=first|omega|assumption)
   generalize hz:zac _ _ _ _ _ _=z;revert z;refine zaa (σ:=Nat) (λi=>[(0,.d (.list (bs l))),(1,.d (.bool false)),(7,.d (.int .i64 l.length)),(8,.d (.int .i64 i))]) (λi=>[]) (λi=>i<=x) (λi=>x - i) 0 ?_ ?_ ?_
   ·exact Nat.zero_le _
   ·simp -dsimp -implicitDefEqProofs (disch:=first|omega|assumption)
   intro T' f hT' i hi ih;have h1:i<l.length:=by omega
   by_cases h2:i<x
   ·have g:=hmin i h2
    simp -dsimp -implicitDefEqProofs (disch:=first|omega|assumption) [h1,g]
    exact ih (i+1) _ _ h2 (by omega) (by simp -dsimp -implicitDefEqProofs (disch:=first|omega|assumption))
   ·obtain rfl:i=x:=by omega
    subst hT';simp -dsimp -implicitDefEqProofs (disch:=first|omega|assumption) [h1,hy']
    simpa -dsimp -implicitDefEqProofs (disch:=first|omega|assumption) using hT
  ·refine⟨-1,by simp[hm], ?_⟩
   refine rg zDn rfl ?_;intro T hT;simp -dsimp -implicitDefEqProofs (disch:=first|omega|assumption)
   generalize hz:zac _ _ _ _ _ _=z;revert z;refine zaa (σ:=Nat) (λi=>[(0,.d (.list (bs l))),(1,.d (.bool false)),(7,.d (.int .i64 l.length)),(8,.d (.int .i64 i))]) (λi=>[]) (λi=>i<=l.length) (λi=>l.length - i) 0 ?_ ?_ ?_
   ·exact Nat.zero_le _
   ·simp -dsimp -implicitDefEqProofs (disch:=first|omega|assumption)
   intro T' f hT' i hi ih
   by_cases h1:i<l.length
   ·have g:l[i]=true:=by
     cases e:l[i] with
     |true=>rfl
     |false=>exact absurd (e ▸ List.getElem_mem h1) hm
    simp -dsimp -implicitDefEqProofs (disch:=first|omega|assumption) [h1,g]
    exact ih (i+1) _ _ h1 (by omega) (by simp -dsimp -implicitDefEqProofs (disch:=first|omega|assumption))
   ·subst hT'
    simp -dsimp -implicitDefEqProofs (disch:=first|omega|assumption) [h1]
    simpa -dsimp -implicitDefEqProofs (disch:=first|omega|assumption) using hT
 obtain⟨n,hn1,hn2⟩:=h;rw[<- hn1];refine rg zEd rfl ?_;intro T hT;simp -dsimp -implicitDefEqProofs (disch:=first|omega|assumption) [hn2]
 simpa -dsimp -implicitDefEqProofs (disch:=first|omega|assumption) using hT
end Go.Am.Ab
namespace Go.Am.Ab
open Go.Proofs
set_option maxHeartbeats 4000000
set_option maxRecDepth 4000
abbrev ss (l:List ByteArray):List D:=l.map D.str
@[simp] def zwT (l:List ByteArray):zaw 1 (l.map D.str)=true:=zaN l λ_=>rfl
def zdk (s:ByteArray):D:= .int .i64 s.size
def zaY (l:List ByteArray):List Int:=l.map λs=>(s.size:Int)
def zfP (s:ByteArray):s.data.toList.length=s.size:=Array.length_toList
def zdR (l:List ByteArray) (i:Nat):List UInt8:=(l.take i).flatMap (·.data.toList)
def zff (l:List ByteArray):zdR l 0=[]:=rfl
def zd2 {l:List ByteArray} {i:Nat} (h:i<l.length):zdR l (i+1)=zdR l i++l[i].data.toList:=by
 unfold zdR;rw[zam h,List.flatMap_append];simp
def zcg {l:List ByteArray} (hl: ∀s∈l,s.size<=64): ∀i,i<=l.length->(zdR l i).length<=64*i
 |0,_=>by simp[zdR]
 |i+1,h=>by
  have h1:=zcg hl i (by omega)
  have h2:=hl l[i] (List.getElem_mem _);have h3:=zfP l[i];rw[zd2 (by omega),List.length_append]
  omega
def zbr (l:List ByteArray):List UInt8:=zbb (zaY l)++zdR l l.length
def zem {l:List ByteArray} (hl: ∀s∈l,s.size<=64): ∀n∈zaY l,zah n:=by
 intro n h;obtain⟨s,hs,rfl⟩:=List.mem_map.1 h;have:=hl s hs;unfold zah;omega
def zc8 {l:List Int} (hl: ∀n∈l,zah n) (hn:l.length<=256):(zbb l).length<=5131:=by
 have h1:=zbY hl hn;have h2:=zaZ (n:=(zbx l).length) (by omega)
 unfold zbb;rw[List.length_append];omega
def zub (b:List UInt8) (l:List ByteArray) (hb:b.length<=1000) (hl: ∀s∈l,s.size<=64) (hn:l.length<=256):R 179 [.arr 0 b.length,.d (.list (ss l))] [.arr 1 (bytes b) 0]=some ([.arr 0 (b++zbr l).length],[.arr 1 (bytes (b++zbr l)) 0]):=by
 have hsi:=zem hl;have hsl:(zaY l).length=l.length:=by simp[zaY]
 have hcl:=zc8 hsi (by omega)
 have hfl:=zcg hl l.length (Nat.le_refl _);have hc:=zeS (zaY l) hsi (by omega)
 have hcs:R 180 [.d (.list (zdQ zdk l l.length))] []=some ([.arr 0 (zbb (zaY l)).length],[.arr 1 (bytes (zbb (zaY l))) 0]):=by
  rw[zbk (Nat.le_refl _),<- hc,ints,zaY,List.map_map];rfl
 refine rg zCD rfl ?_;intro T hT;simp -dsimp -implicitDefEqProofs (disch:=first|omega|assumption)
 generalize hz:zac _ _ _ _ _ _=z;revert z;refine zaa (σ:=Nat) (λi=>[(0,.arr 0 b.length),(5,.arr 1 i),(6,.arr 2 (zdR l i).length),(9,.d (.list (ss l))),(10,.d (.int .i64 l.length)),(11,.d (.int .i64 i))]) (λi=>[.arr 1 (bytes b) 0,.arr 1 (zdQ zdk l i) 0,.arr 1 (bytes (zdR l i)) 0]) (λi=>i<=l.length) (λi=>l.length - i) 0 ?_ ?_ ?_
 ·exact Nat.zero_le _
 ·simp -dsimp -implicitDefEqProofs (disch:=first|omega|assumption) [zaF,zff]
 intro T' f hT' i hi ih
 by_cases h1:i<l.length
 ·have hsz:=hl l[i] (List.getElem_mem _)
  have htk:=zaG (g:=zdk) h1;have hlen:=zai (g:=zdk) hi;have hft:=zd2 h1;have hfi:=zcg hl i hi;have h3:=zfP l[i];simp -dsimp -implicitDefEqProofs (disch:=first|omega|assumption) [h1,hlen,h3]
  refine ih (i+1) _ _ h1 (by omega) ?_
  rw[htk,hft];simp -dsimp -implicitDefEqProofs (disch:=first|omega|assumption) [h3,zdk]
 ·obtain rfl:i=l.length:=by omega
  have hlen:=zai (g:=zdk) hi;subst hT';simp -dsimp -implicitDefEqProofs (disch:=first|omega|assumption) [hcs,hlen]
  simpa -dsimp -implicitDefEqProofs (disch:=first|omega|assumption) [zbr,List.append_assoc,Nat.add_assoc]using hT
def zqk (b:List UInt8) (l:List ByteArray) (w:Nat) (hb:b.length<=1000) (hl: ∀s∈l,s.size<=64) (hn:l.length<=256):R 179 [.arr 0 b.length,.arr 1 l.length] [.arr 1 (bytes b) 0,.arr 1 (ss l) w]=some ([.arr 0 (b++zbr l).length],[.arr 1 (bytes (b++zbr l)) 0,.arr 1 (ss l) w]):=by
 have hsi:=zem hl;have hsl:(zaY l).length=l.length:=by simp[zaY]
 have hcl:=zc8 hsi (by omega)
 have hfl:=zcg hl l.length (Nat.le_refl _);have hc:=zeS (zaY l) hsi (by omega)
 have hcs:R 180 [.d (.list (zdQ zdk l l.length))] []=some ([.arr 0 (zbb (zaY l)).length],[.arr 1 (bytes (zbb (zaY l))) 0]):=by
  rw[zbk (Nat.le_refl _),<- hc,ints,zaY,List.map_map];rfl
 refine rg zCD rfl ?_;intro T hT;simp -dsimp -implicitDefEqProofs (disch:=first|omega|assumption)
 generalize hz:zac _ _ _ _ _ _=z;revert z;refine zaa (σ:=Nat) (λi=>[(0,.arr 0 b.length),(5,.arr 2 i),(6,.arr 3 (zdR l i).length),(9,.arr 1 l.length),(10,.d (.int .i64 l.length)),(11,.d (.int .i64 i))]) (λi=>[.arr 1 (bytes b) 0,.arr 1 (ss l) w,.arr 1 (zdQ zdk l i) 0,.arr 1 (bytes (zdR l i)) 0]) (λi=>i<=l.length) (λi=>l.length - i) 0 ?_ ?_ ?_
 ·exact Nat.zero_le _
 ·simp -dsimp -implicitDefEqProofs (disch:=first|omega|assumption) [zaF,zff,range2]
 intro T' f hT' i hi ih
 by_cases h1:i<l.length
 ·have hsz:=hl l[i] (List.getElem_mem _)
  have htk:=zaG (g:=zdk) h1;have hlen:=zai (g:=zdk) hi;have hft:=zd2 h1;have hfi:=zcg hl i hi;have h3:=zfP l[i];simp -dsimp -implicitDefEqProofs (disch:=first|omega|assumption) [h1,hlen,h3,range2]
  refine ih (i+1) _ _ h1 (by omega) ?_
  rw[htk,hft];simp -dsimp -implicitDefEqProofs (disch:=first|omega|assumption) [h3,zdk,range2]
 ·obtain rfl:i=l.length:=by omega
  have hlen:=zai (g:=zdk) hi;subst hT';simp -dsimp -implicitDefEqProofs (disch:=first|omega|assumption) [hcs,hlen,range2]
  simpa -dsimp -implicitDefEqProofs (disch:=first|omega|assumption) [zbr,List.append_assoc,Nat.add_assoc,range2]using hT
def zr0 (b:List UInt8) (l:List ByteArray) (m:List D) (w:Nat) (hb:b.length<=1000) (hl: ∀s∈l,s.size<=64) (hn:l.length<=256):R 179 [.arr 0 b.length,.sl 1 (l.length+m.length) 0 l.length] [.arr 1 (bytes b) 0,.arr 1 (ss l++m) w]=some ([.arr 0 (b++zbr l).length],[.arr 1 (bytes (b++zbr l)) 0,.arr 1 (ss l++m) w]):=by
 have hsi:=zem hl;have hsl:(zaY l).length=l.length:=by simp[zaY]
 have hcl:=zc8 hsi (by omega)
 have hfl:=zcg hl l.length (Nat.le_refl _);have hc:=zeS (zaY l) hsi (by omega)
 have hcs:R 180 [.d (.list (zdQ zdk l l.length))] []=some ([.arr 0 (zbb (zaY l)).length],[.arr 1 (bytes (zbb (zaY l))) 0]):=by
  rw[zbk (Nat.le_refl _),<- hc,ints,zaY,List.map_map];rfl
 refine rg zCD rfl ?_;intro T hT;simp -dsimp -implicitDefEqProofs (disch:=first|omega|assumption)
 generalize hz:zac _ _ _ _ _ _=z;revert z;refine zaa (σ:=Nat) (λi=>[(0,.arr 0 b.length),(5,.arr 2 i),(6,.arr 3 (zdR l i).length),(9,.sl 1 (l.length+m.length) 0 l.length),(10,.d (.int .i64 l.length)),(11,.d (.int .i64 i))]) (λi=>[.arr 1 (bytes b) 0,.arr 1 (ss l++m) w,.arr 1 (zdQ zdk l i) 0,.arr 1 (bytes (zdR l i)) 0]) (λi=>i<=l.length) (λi=>l.length - i) 0 ?_ ?_ ?_
 ·exact Nat.zero_le _
 ·simp -dsimp -implicitDefEqProofs (disch:=first|omega|assumption) [zaF,zff,range2]
 intro T' f hT' i hi ih
 by_cases h1:i<l.length
 ·have hsz:=hl l[i] (List.getElem_mem _)
  have htk:=zaG (g:=zdk) h1;have hlen:=zai (g:=zdk) hi;have hft:=zd2 h1;have hfi:=zcg hl i hi;have h3:=zfP l[i];have hget:(ss l++m)[i]? =some (D.str l[i]):=by rw[List.getElem?_append_left (by simpa using h1),List.getElem?_map,List.getElem?_eq_getElem h1];rfl
  simp -dsimp -implicitDefEqProofs (disch:=first|omega|assumption) [h1,hlen,h3,hget,range2]
  refine ih (i+1) _ _ h1 (by omega) ?_
  rw[htk,hft];simp -dsimp -implicitDefEqProofs (disch:=first|omega|assumption) [h3,zdk,range2]
 ·obtain rfl:i=l.length:=by omega
  have hlen:=zai (g:=zdk) hi;subst hT';simp -dsimp -implicitDefEqProofs (disch:=first|omega|assumption) [hcs,hlen,range2]
  simpa -dsimp -implicitDefEqProofs (disch:=first|omega|assumption) [zbr,List.append_assoc,Nat.add_assoc,range2]using hT
end Go.Am.Ab
namespace Go.Am.Ab
open Go.Proofs
set_option maxHeartbeats 4000000
set_option maxRecDepth 4000
def zo9 (wd:Nat->ByteArray) (r:List Nat):ss (r.map wd)=Str.ws wd r:=by
 unfold ss Str.ws;rw[List.map_map];rfl
def za5 (l:List ByteArray):List Int:=l.map λs=>(ixS (zd0 l) s:Int)
def zey (l:List ByteArray):List UInt8:=0::zbr l
def zjP (l:List ByteArray):List UInt8:=(1::put (zd0 l).length)++zbr (zd0 l)++zbx (za5 l)
def zc9 (l:List ByteArray):List UInt8:=if (zjP l).length<(zey l).length then zjP l else zey l
def ziV (x:ByteArray): ∀l:List ByteArray,(zmx x l).length<=l.length+1
 |[]=>by simp[zmx]
 |y::r=>by
  unfold zmx;have:=ziV x r;split
  ·simp
  ·split
   ·simp
   ·simp only[List.length_cons];omega
def zch (l:List ByteArray):(zd0 l).length<=l.length:=by
 have key: ∀ (l u:List ByteArray),(l.foldl (λu x=>zmx x u) u).length<=u.length+l.length:=by
  intro l
  induction l with
  |nil=>intro u;simp
  |cons x r ih=>
   intro u;have h1:=ih (zmx x u);have h2:=ziV x u;simp only[List.foldl_cons,List.length_cons];omega
 have:=key l [];simpa[zd0]using this
def zfg {l:List ByteArray} (hn:l.length<=256): ∀n∈za5 l,zah n:=by
 intro n h;obtain⟨s,hs,rfl⟩:=List.mem_map.1 h;have h1:=ziO (zc1.2 hs);have h2:=zch l;unfold zah;omega
def zd3 {l:List ByteArray} (hl: ∀s∈l,s.size<=64) (hn:l.length<=256):(zbr l).length<=30000:=by
 have h1:=zc8 (zem hl) (by simpa[zaY]using hn)
 have h2:=zcg hl l.length (Nat.le_refl _);unfold zbr;rw[List.length_append];omega
def plD (u:List Nat) (x:Nat):D:= .int .i64 ((u.idxOf x:Nat):Int)
def zql (l:List ByteArray) (hl: ∀s∈l,s.size<=64) (hn:l.length<=256):R 125 [.d (.list (ss l))] []=some ([.arr 0 (zc9 l).length],[.arr 1 (bytes (zc9 l)) 0]):=by
 obtain⟨wd,r,hwd,hr⟩:=zvJ l;have hul:=zch l;have hum: ∀s∈zd0 l,s.size<=64:=λs h=>hl s (zc1.1 h)
 have htl:=zd3 hl hn;have htu:=zd3 hum (by omega)
 have hpi:=zfg hn;have hpl:(za5 l).length=l.length:=by simp[za5]
 have hbl:=zbY hpi (by omega)
 have hbest:=ziQ (za5 l) hpi (by omega)
 have hput:=zcl (zd0 l).length (by omega)
 have hputl:=zaZ (n:=(zd0 l).length) (by omega)
 have d1:=zub [0] l (by simp) hl hn
 have d2:=λw=>zqk (1::put (zd0 l).length) (zd0 l) w (by simp;omega) hum (by omega)
 have d3:=λm w=>zr0 (1::put (zd0 l).length) (zd0 l) m w (by simp;omega) hum (by omega)
 -- by zvJ
 have hu:zd0 l=(Str.uniq r).map wd:=by rw[<- hr];exact zo5 hwd r
 have hrl:r.length=l.length:=by rw[<- hr];simp
 have hsl:ss l=Str.ws wd r:=by rw[<- hr];exact zo9 wd r
 have hsu:ss (zd0 l)=Str.ws wd (Str.uniq r):=by rw[hu];exact zo9 wd _
 have hplD:ints (za5 l)= .list (zdQ (plD (Str.uniq r)) r r.length):=by
  rw[zbk (Nat.le_refl _),ints,za5,hu,<- hr,List.map_map,List.map_map];congr 1;apply List.map_congr_left;intro x _;simp only[Function.comp,plD,zrU hwd]
 have hulen:(zd0 l).length=(Str.uniq r).length:=by rw[hu];simp
 have h1:=Str.clone_runs hwd r (by omega)
 obtain⟨s,h2,h3,h4⟩:=Str.sort_any hwd r (by omega)
 have hlen:=h3.len;have hus:Str.uniq s=Str.uniq r:=Str.rises_ext (Str.uniq_rises _) (Str.uniq_rises _) λy=>by rw[Str.uniq_mem,Str.uniq_mem];exact h3.perm.mem_iff
 rw[<- hlen]at h4;have hP:=Str.compact_any hwd s h4 (by omega)
 unfold Str.Packs at hP;rw[hus]at hP;have hrise:=Str.rises_iff.1 (Str.uniq_rises r);have hmem: ∀x∈r,x∈Str.uniq r:=λx h=>Str.uniq_mem.2 h
 have hW:zc9 l=if (zjP l).length<(zey l).length then zjP l else zey l:=rfl
 have hLT:zjP l=(1::put (zd0 l).length)++zbr (zd0 l)++zbx (za5 l):=rfl;have hPT:zey l=[0]++zbr l:=rfl;rw[hplD]at hbest;rw[hsl]at d1 ⊢;rw[hsu]at d2 d3;rw[hulen]at hul hput hputl d2 d3 hLT;obtain⟨u,hue⟩: ∃u,u=Str.uniq r:=⟨_,rfl⟩;rw[<- hue]at hul hput hputl d2 d3 hLT hbest hP hrise hmem;have hsearch: ∀x∈r,R 184 [.d (.list (Str.ws wd u)),.d (.str (wd x))] []=some ([.d (.int .i64 (u.idxOf x:Nat)),.d (.bool true)],[]):=by
  intro x hx;have hk:=List.idxOf_lt_length_of_mem (hmem x hx);have he:Str.at' u (u.idxOf x)=x:=by rw[<- Str.get_at hk];exact List.getElem_idxOf hk
  refine Str.search_runs hwd u x (u.idxOf x) hk (by omega) he (λp hp=> ?_) (λp p1 p2=> ?_)
  ·have:=hrise p (u.idxOf x) hp hk
   omega
  ·by_cases e:p=u.idxOf x
   ·subst e;omega
   ·have:=hrise (u.idxOf x) p (by omega) p2
    omega
 obtain⟨tu,htue⟩: ∃tu,tu=zbr (zd0 l):=⟨_,rfl⟩;obtain⟨tl,htle⟩: ∃tl,tl=zbr l:=⟨_,rfl⟩;obtain⟨bp,hbpe⟩: ∃bp,bp=zbx (za5 l):=⟨_,rfl⟩;obtain⟨pu,hpue⟩: ∃pu,pu=put u.length:=⟨_,rfl⟩;rw[<- htue]at htu d2 d3 hLT;rw[<- htle]at htl d1 hPT;rw[<- hbpe]at hbl hbest hLT;rw[<- hpue]at hput hputl d2 d3 hLT;rw[hW,hLT,hPT];have hw0:IntKind.u64.wrap (u.length:Int)=u.length:=zae (by omega) (by omega)
 clear hW hLT hPT hsl hsu hplD hu hulen hum hpi hpl hus h3 h4 hbpe htle htue hpue hue hl;have hul2:u.length<=256:=by omega
 have hbest':=hbest;rw[hrl]at hbest';rw[hlen]at hP;have d1':R 179 [.arr 0 1,.d (.list (Str.ws wd r))] [.arr 1 [.int .u8 0] 0]=some ([.arr 0 (tl.length+1)],[.arr 1 (.int .u8 0::bytes tl) 0]):=d1;have e1:(1::pu).length=1+pu.length:=by simp only[List.length_cons];omega
 have e2:(1::pu++tu).length=1+pu.length+tu.length:=by simp only[List.length_cons,List.length_append];omega
 have e3:(1::pu++tu++bp).length=1+pu.length+tu.length+bp.length:=by simp only[List.length_cons,List.length_append];omega
 have e4:([0]++tl).length=tl.length+1:=by simp
 rw[e3,e4]
 by_cases hlt:1+pu.length+tu.length+bp.length<tl.length+1
 ·rw[if_pos hlt,e3]
  have hlt':(1+(pu.length:Int)+tu.length+bp.length)<tl.length+1:=by omega
  rcases hP with hP | ⟨m,hm,hP⟩
  ·refine rg zAO rfl ?_
   intro T hT;simp -dsimp -implicitDefEqProofs (disch:=first|omega|assumption) [h1,h2,hP]
   generalize hz:zac _ _ _ _ _ _=z;revert z;refine zaa (σ:=Nat × Nat) (λx=>[(0,.d (.list (Str.ws wd r))),(3,.d (.fn 179)),(4,.arr 0 u.length),(5,.arr 1 x.1),(20,.d (.list (Str.ws wd r))),(21,.d (.int .i64 r.length)),(22,.d (.int .i64 x.1))]) (λx=>[.arr 1 (Str.ws wd u) x.2,.arr 1 (zdQ (plD u) r x.1) 0]) (λx=>x.1<=r.length) (λx=>r.length - x.1) (0,0) ?_ ?_ ?_
   ·exact Nat.zero_le _
   ·simp -dsimp -implicitDefEqProofs (disch:=first|omega|assumption) [zaF]
   intro T' f hT' ⟨i,w⟩ hi ih;simp only at hi ih
   by_cases h5:i<r.length
   ·have hs:=hsearch r[i] (List.getElem_mem _)
    have hpu:=zaG (g:=plD u) h5;have hpl:=zai (g:=plD u) hi;simp -dsimp -implicitDefEqProofs (disch:=first|omega|assumption) [h5,hs,hpl]
    refine ih (i+1,u.length) _ _ h5 (by simp only;omega) ?_
    rw[hpu];simp -dsimp -implicitDefEqProofs (disch:=first|omega|assumption) [plD,hpl]
   ·obtain rfl:i=r.length:=by omega
    have hpl:=zai (g:=plD u) hi;have d2':R 179 [.arr 0 (1+pu.length),.arr 1 u.length] [.arr 1 (.int .u8 1::bytes pu) 0,.arr 1 (Str.ws wd u) w]=some ([.arr 0 (1+pu.length+tu.length)],[.arr 1 (.int .u8 1::bytes (pu++tu)) 0,.arr 1 (Str.ws wd u) w]):=by
     have:=d2 w;rw[e2,e1]at this;exact this
    subst hT';simp -dsimp -implicitDefEqProofs (disch:=first|omega|assumption) [hpl,d1',hput,hw0,hbest,d2',hlt']
    simpa -dsimp -implicitDefEqProofs (disch:=first|omega|assumption) using hT
  ·have hm2:(u.length+m.length)=r.length:=hm
   have hm3:List.take u.length (Str.ws wd u++m)=Str.ws wd u:=by rw[List.take_append_of_le_length (by simp),List.take_of_length_le (by simp)]
   refine rg zAO rfl ?_;intro T hT;simp -dsimp -implicitDefEqProofs (disch:=first|omega|assumption) [h1,h2,hP]
   generalize hz:zac _ _ _ _ _ _=z;revert z;refine zaa (σ:=Nat × Nat) (λx=>[(0,.d (.list (Str.ws wd r))),(3,.d (.fn 179)),(4,.sl 0 r.length 0 u.length),(5,.arr 1 x.1),(20,.d (.list (Str.ws wd r))),(21,.d (.int .i64 r.length)),(22,.d (.int .i64 x.1))]) (λx=>[.arr 1 (Str.ws wd u++m) x.2,.arr 1 (zdQ (plD u) r x.1) 0]) (λx=>x.1<=r.length) (λx=>r.length - x.1) (0,0) ?_ ?_ ?_
   ·exact Nat.zero_le _
   ·simp -dsimp -implicitDefEqProofs (disch:=first|omega|assumption) [zaF]
   intro T' f hT' ⟨i,w⟩ hi ih;simp only at hi ih
   by_cases h5:i<r.length
   ·have hs:=hsearch r[i] (List.getElem_mem _)
    have hpu:=zaG (g:=plD u) h5;have hpl:=zai (g:=plD u) hi;simp -dsimp -implicitDefEqProofs (disch:=first|omega|assumption) [h5,hs,hpl,hm2,hm3]
    refine ih (i+1,r.length) _ _ h5 (by simp only;omega) ?_
    rw[hpu];simp -dsimp -implicitDefEqProofs (disch:=first|omega|assumption) [plD,hpl,hm2,hm3]
   ·obtain rfl:i=r.length:=by omega
    have hpl:=zai (g:=plD u) hi;have d2':R 179 [.arr 0 (1+pu.length),.sl 1 r.length 0 u.length] [.arr 1 (.int .u8 1::bytes pu) 0,.arr 1 (Str.ws wd u++m) w]=some ([.arr 0 (1+pu.length+tu.length)],[.arr 1 (.int .u8 1::bytes (pu++tu)) 0,.arr 1 (Str.ws wd u++m) w]):=by
     have:=d3 m w;rw[e2,e1,hm]at this;exact this
    subst hT';simp -dsimp -implicitDefEqProofs (disch:=first|omega|assumption) [hpl,d1',hput,hw0,hbest,d2',hlt',hm2,hm3]
    simpa -dsimp -implicitDefEqProofs (disch:=first|omega|assumption) using hT
 ·rw[if_neg hlt,e4]
  have hlt': ¬ (1+(pu.length:Int)+tu.length+bp.length)<tl.length+1:=by omega
  rcases hP with hP | ⟨m,hm,hP⟩
  ·refine rg zAO rfl ?_
   intro T hT;simp -dsimp -implicitDefEqProofs (disch:=first|omega|assumption) [h1,h2,hP]
   generalize hz:zac _ _ _ _ _ _=z;revert z;refine zaa (σ:=Nat × Nat) (λx=>[(0,.d (.list (Str.ws wd r))),(3,.d (.fn 179)),(4,.arr 0 u.length),(5,.arr 1 x.1),(20,.d (.list (Str.ws wd r))),(21,.d (.int .i64 r.length)),(22,.d (.int .i64 x.1))]) (λx=>[.arr 1 (Str.ws wd u) x.2,.arr 1 (zdQ (plD u) r x.1) 0]) (λx=>x.1<=r.length) (λx=>r.length - x.1) (0,0) ?_ ?_ ?_
   ·exact Nat.zero_le _
   ·simp -dsimp -implicitDefEqProofs (disch:=first|omega|assumption) [zaF]
   intro T' f hT' ⟨i,w⟩ hi ih;simp only at hi ih
   by_cases h5:i<r.length
   ·have hs:=hsearch r[i] (List.getElem_mem _)
    have hpu:=zaG (g:=plD u) h5;have hpl:=zai (g:=plD u) hi;simp -dsimp -implicitDefEqProofs (disch:=first|omega|assumption) [h5,hs,hpl]
    refine ih (i+1,u.length) _ _ h5 (by simp only;omega) ?_
    rw[hpu];simp -dsimp -implicitDefEqProofs (disch:=first|omega|assumption) [plD,hpl]
   ·obtain rfl:i=r.length:=by omega
    have hpl:=zai (g:=plD u) hi;have d2':R 179 [.arr 0 (1+pu.length),.arr 1 u.length] [.arr 1 (.int .u8 1::bytes pu) 0,.arr 1 (Str.ws wd u) w]=some ([.arr 0 (1+pu.length+tu.length)],[.arr 1 (.int .u8 1::bytes (pu++tu)) 0,.arr 1 (Str.ws wd u) w]):=by
     have:=d2 w;rw[e2,e1]at this;exact this
    subst hT';simp -dsimp -implicitDefEqProofs (disch:=first|omega|assumption) [hpl,d1',hput,hw0,hbest,d2',hlt']
    simpa -dsimp -implicitDefEqProofs (disch:=first|omega|assumption) using hT
  ·have hm2:(u.length+m.length)=r.length:=hm
   have hm3:List.take u.length (Str.ws wd u++m)=Str.ws wd u:=by rw[List.take_append_of_le_length (by simp),List.take_of_length_le (by simp)]
   refine rg zAO rfl ?_;intro T hT;simp -dsimp -implicitDefEqProofs (disch:=first|omega|assumption) [h1,h2,hP]
   generalize hz:zac _ _ _ _ _ _=z;revert z;refine zaa (σ:=Nat × Nat) (λx=>[(0,.d (.list (Str.ws wd r))),(3,.d (.fn 179)),(4,.sl 0 r.length 0 u.length),(5,.arr 1 x.1),(20,.d (.list (Str.ws wd r))),(21,.d (.int .i64 r.length)),(22,.d (.int .i64 x.1))]) (λx=>[.arr 1 (Str.ws wd u++m) x.2,.arr 1 (zdQ (plD u) r x.1) 0]) (λx=>x.1<=r.length) (λx=>r.length - x.1) (0,0) ?_ ?_ ?_
   ·exact Nat.zero_le _
   ·simp -dsimp -implicitDefEqProofs (disch:=first|omega|assumption) [zaF]
   intro T' f hT' ⟨i,w⟩ hi ih;simp only at hi ih
   by_cases h5:i<r.length
   ·have hs:=hsearch r[i] (List.getElem_mem _)
    have hpu:=zaG (g:=plD u) h5;have hpl:=zai (g:=plD u) hi;simp -dsimp -implicitDefEqProofs (disch:=first|omega|assumption) [h5,hs,hpl,hm2,hm3]
    refine ih (i+1,r.length) _ _ h5 (by simp only;omega) ?_
    rw[hpu];simp -dsimp -implicitDefEqProofs (disch:=first|omega|assumption) [plD,hpl,hm2,hm3]
   ·obtain rfl:i=r.length:=by omega
    have hpl:=zai (g:=plD u) hi;have d2':R 179 [.arr 0 (1+pu.length),.sl 1 r.length 0 u.length] [.arr 1 (.int .u8 1::bytes pu) 0,.arr 1 (Str.ws wd u++m) w]=some ([.arr 0 (1+pu.length+tu.length)],[.arr 1 (.int .u8 1::bytes (pu++tu)) 0,.arr 1 (Str.ws wd u++m) w]):=by
     have:=d3 m w;rw[e2,e1,hm]at this;exact this
    subst hT';simp -dsimp -implicitDefEqProofs (disch:=first|omega|assumption) [hpl,d1',hput,hw0,hbest,d2',hlt',hm2,hm3]
    simpa -dsimp -implicitDefEqProofs (disch:=first|omega|assumption) using hT
end Go.Am.Ab
