/- Columns: their parts, written. -/
import Derived.Test.YtibdiacpdmhmnaaGreatDoorCellsA
import Derived.Test.YtibdiacpdmhmnaaGreatDoorTSortB
import Derived.Test.YtibdiacpdmhmnaaGreatDoorIntsB
set_option linter.all false
namespace Go.Am.Ab
open Go.Proofs
set_option maxHeartbeats 4000000
set_option maxRecDepth 4000
abbrev bs (l:List Bool):List D:=l.map D.bool
@[simp] def zuq (l:List Bool):zap 1 (l.map D.bool)=true:=zaK l λ_=>rfl
@[simp] def zxW (l:List Bool):zdn (l.map D.bool)=true:=zcO _ (λ_=>rfl) l
def bit (b:Bool):Nat:=if b then 1 else 0
def za8 (l:List Bool):List UInt8:=zbL 1 (l.map bit)
def zps (l:List Bool): ∀n∈l.map bit,n<2 ^ 1:=by
 intro n h;obtain⟨b,_,rfl⟩:=List.mem_map.1 h;cases b <;> decide
def ziM (l:List Bool):za5 (l.map bit)<=1:=by
 have key: ∀ (l:List Nat) (w:Nat),w<=1->(∀n∈l,n<2 ^ 1)->l.foldl (λw n=>max w (zbh n)) w<=1:=by
  intro l
  induction l with
  |nil=>intro w h _;exact h
  |cons x r ih=>
   intro w h g;have hx:=g x (by simp)
   have:=(zaX (n:=x) (m:=1) (by omega)).2 hx
   exact ih (max w (zbh x)) (by omega) λn hn=>g n (by simp[hn])
 exact key _ 0 (by omega) (zps l)
def zrs (l:List Bool) {i:Nat} (h:i<l.length):((l.take i).map bit++List.replicate (l.length - i) 0).set i 1=(l.take i).map bit++1::List.replicate (l.length - (i+1)) 0:=by
 have e:l.length - i=(l.length - (i+1))+1:=by omega
 have hlen:((l.take i).map bit).length=i:=by simp;omega
 rw[e,List.replicate_succ,List.set_append_right _ _ (by omega),hlen,Nat.sub_self,List.set_cons_zero]
def zn5 (l:List Bool) {i:Nat} (h:i<l.length):(l.take (i+1)).map bit++List.replicate (l.length - (i+1)) 0=if l[i] then ((l.take i).map bit++List.replicate (l.length - i) 0).set i 1 else (l.take i).map bit++List.replicate (l.length - i) 0:=by
 rw[zrs l h,zaq h];have e:l.length - i=(l.length - (i+1))+1:=by omega
 cases hb:l[i] with
 |true=>simp[bit]
 |false=>
  rw[e,List.replicate_succ];simp[bit]
def zfR (l:List Nat):List D:=l.map λ(n:Nat)=>D.int .u64 (n:Int)
def zpt (l:List Nat) (i v:Nat):(zfR l).set i (D.int .u64 v)=zfR (l.set i v):=by
 unfold zfR;rw[List.map_set]
def zgi (l:List Nat):(zfR l).length=l.length:=by simp[zfR]
def zkG (n:Nat):List.replicate n (D.int .u64 0)=zfR (List.replicate n 0):=by simp[zfR]
def zec (l:List Bool) (hn:l.length<=256):R 90 [.d (.list (bs l))] []=some ([.arr 0 (za8 l).length],[.arr 1 (bytes (za8 l)) 0]):=by
 have h64: ∀n∈l.map bit,n<18446744073709551616:=λn h=>by have:=zps l n h;omega
 have hwid:za5 (l.map bit)<=1:=ziM l;have hp:=zmS (l.map bit) 1 h64 (by omega) (by simpa using hn) hwid
 rw[show zbL 1 (l.map bit)=za8 l from rfl]at hp
 have hp':R 126 [.d (.list (zfR (l.map bit))),.d (.int .i64 1)] []=some ([.arr 0 (za8 l).length,.d (.bool true)],[.arr 1 (bytes (za8 l)) 0]):=hp;refine rg b90 rfl ?_;intro T hT;simp -dsimp -implicitDefEqProofs (disch:=first|omega|assumption) [zkG]
 generalize hz:zaf _ _ _ _ _ _=z;revert z;refine zaa (σ:=Nat) (λi=>[(3,.arr 0 l.length),(11,.d (.list (bs l))),(12,.d (.int .i64 l.length)),(13,.d (.int .i64 i))]) (λi=>[.arr 1 (zfR ((l.take i).map bit++List.replicate (l.length - i) 0)) 0]) (λi=>i<=l.length) (λi=>l.length - i) 0 ?_ ?_ ?_
 ·exact Nat.zero_le _
 ·simp -dsimp -implicitDefEqProofs (disch:=first|omega|assumption) [zkG]
 intro T' f hT' i hi ih
 by_cases h1:i<l.length
 ·obtain⟨m,hm⟩: ∃m,m=(l.take i).map bit++List.replicate (l.length - i) 0:=⟨_,rfl⟩
  have hml:(zfR m).length=l.length:=by rw[hm,zgi];simp;omega
  have hs:=zn5 l h1;rw[<- hm]at hs ⊢;obtain⟨w,hw⟩: ∃w,(zfR m)[i]? =some w:=⟨_,List.getElem?_eq_getElem (by omega)⟩
  have hwc:w.cells=[w]:=by
   unfold zfR at hw;rw[List.getElem?_map,Option.map_eq_some_iff]at hw;obtain⟨n,_,rfl⟩:=hw;rfl
  cases hb:l[i] with
  |true=>
   rw[hb,if_pos rfl]at hs;simp -dsimp -implicitDefEqProofs (disch:=first|omega|assumption) [h1,hb,hml,hw,hwc]
   refine ih (i+1) _ _ h1 (by omega) ?_
   rw[hs,<- zpt];simp -dsimp -implicitDefEqProofs (disch:=first|omega|assumption)
  |false=>
   rw[hb]at hs;simp -dsimp -implicitDefEqProofs (disch:=first|omega|assumption) [h1,hb,hml]
   refine ih (i+1) _ _ h1 (by omega) ?_
   rw[hs];simp -dsimp -implicitDefEqProofs (disch:=first|omega|assumption)
 ·have e:i=l.length:=by omega
  subst e;have hml:(zfR (l.map bit)).length=l.length:=by rw[zgi];simp
  subst hT';rw[List.take_length,Nat.sub_self,List.replicate_zero,List.append_nil];simp -dsimp -implicitDefEqProofs (disch:=first|omega|assumption) [hml,hp']
  simpa -dsimp -implicitDefEqProofs (disch:=first|omega|assumption) using hT
def za4 (l:List Int):List UInt8:=put (zca l).length++zca l
def zcv {l:List Int} (hl: ∀n∈l,zat n) (hn:l.length<=256):(zca l).length<=5121:=zeb hl hn 5
def zdZ (l:List Int) (hl: ∀n∈l,zat n) (hn:l.length<=256):R 129 [.d (ints l)] []=some ([.arr 0 (za4 l).length],[.arr 1 (bytes (za4 l)) 0]):=by
 have h:=zhu l hl hn;have hb:=zcv hl hn;have hp:=zaS (zca l).length (by omega)
 have hpl:=zak (n:=(zca l).length) (by omega)
 have hw:IntKind.u64.wrap ((zca l).length:Int)=(zca l).length:=zaj (by omega) (by omega)
 refine rg zBs rfl ?_;intro T hT;simp -dsimp -implicitDefEqProofs (disch:=first|omega|assumption) [h,hp,hw]
 simpa -dsimp -implicitDefEqProofs (disch:=first|omega|assumption) [za4]using hT
def zfS (l:List Bool) (hn:l.length<=1000000):R 89 [.d (.list (bs l)),.d (.bool false)] []=some ([.d (.bool (decide (false∈l)))],[]):=by
 have h: ∃n:Int,(decide (0<=n)=decide (false∈l))/\R 125 [.d (.list (bs l)),.d (.bool false)] []=some ([.d (.int .i64 n)],[]):=by
  by_cases hm:false∈l
  ·obtain⟨k,hk,he⟩:=List.mem_iff_getElem.1 hm
   skip
   refine⟨(l.idxOf false:Nat),by simp[hm], ?_⟩
   have hx:l.idxOf false<l.length:=List.idxOf_lt_length_of_mem hm;have hy:l[l.idxOf false]=false:=List.getElem_idxOf hx;obtain⟨x,hxx⟩: ∃x,x=l.idxOf false:=⟨_,rfl⟩;have hmin: ∀i,(h:i<x)->l[i]'(by omega)=true:=by
    intro i h;rw[hxx]at h;have:=List.not_of_lt_findIdx (p:=(·== false)) (xs:=l) (i:=i) h
    simpa using this
   rw[<- hxx]at hx ⊢;have hy':l[x]=false:=by simpa[hxx]using hy
   refine rg zAx rfl ?_;intro T hT;simp -dsimp -implicitDefEqProofs (disch:=first|omega|assumption)
   generalize hz:zaf _ _ _ _ _ _=z;revert z;refine zaa (σ:=Nat) (λi=>[(0,.d (.list (bs l))),(1,.d (.bool false)),(7,.d (.int .i64 l.length)),(8,.d (.int .i64 i))]) (λi=>[]) (λi=>i<=x) (λi=>x - i) 0 ?_ ?_ ?_
   ·exact Nat.zero_le _
   ·simp -dsimp -implicitDefEqProofs (disch:=first|omega|assumption)
   intro T' f hT' i hi ih;have h1:i<l.length:=by omega
   by_cases h2:i<x
   ·have g:=hmin i h2
    simp -dsimp -implicitDefEqProofs (disch:=first|omega|assumption) [h1,g]
    exact ih (i+1) _ _ h2 (by omega) (by simp -dsimp -implicitDefEqProofs (disch:=first|omega|assumption))
   ·obtain rfl:i=x:=by omega
    subst hT';simp -dsimp -implicitDefEqProofs (disch:=first|omega|assumption) [h1,hy']
    simpa -dsimp -implicitDefEqProofs (disch:=first|omega|assumption) using hT
  ·refine⟨-1,by simp[hm], ?_⟩
   refine rg zAx rfl ?_;intro T hT;simp -dsimp -implicitDefEqProofs (disch:=first|omega|assumption)
   generalize hz:zaf _ _ _ _ _ _=z;revert z;refine zaa (σ:=Nat) (λi=>[(0,.d (.list (bs l))),(1,.d (.bool false)),(7,.d (.int .i64 l.length)),(8,.d (.int .i64 i))]) (λi=>[]) (λi=>i<=l.length) (λi=>l.length - i) 0 ?_ ?_ ?_
   ·exact Nat.zero_le _
   ·simp -dsimp -implicitDefEqProofs (disch:=first|omega|assumption)
   intro T' f hT' i hi ih
   by_cases h1:i<l.length
   ·have g:l[i]=true:=by
     cases e:l[i] with
     |true=>rfl
     |false=>exact absurd (e ▸ List.getElem_mem h1) hm
    simp -dsimp -implicitDefEqProofs (disch:=first|omega|assumption) [h1,g]
    exact ih (i+1) _ _ h1 (by omega) (by simp -dsimp -implicitDefEqProofs (disch:=first|omega|assumption))
   ·subst hT'
    simp -dsimp -implicitDefEqProofs (disch:=first|omega|assumption) [h1]
    simpa -dsimp -implicitDefEqProofs (disch:=first|omega|assumption) using hT
 obtain⟨n,hn1,hn2⟩:=h;rw[<- hn1];refine rg b89 rfl ?_;intro T hT;simp -dsimp -implicitDefEqProofs (disch:=first|omega|assumption) [hn2]
 simpa -dsimp -implicitDefEqProofs (disch:=first|omega|assumption) using hT
end Go.Am.Ab
namespace Go.Am.Ab
open Go.Proofs
set_option maxHeartbeats 4000000
set_option maxRecDepth 4000
abbrev ss (l:List ByteArray):List D:=l.map D.str
@[simp] def zur (l:List ByteArray):zap 1 (l.map D.str)=true:=zaK l λ_=>rfl
def zcF (s:ByteArray):D:= .int .i64 s.size
def zbg (l:List ByteArray):List Int:=l.map λs=>(s.size:Int)
def zhv (s:ByteArray):s.data.toList.length=s.size:=Array.length_toList
def zeG (l:List ByteArray) (i:Nat):List UInt8:=(l.take i).flatMap (·.data.toList)
def zed (l:List ByteArray):zeG l 0=[]:=rfl
def zdh {l:List ByteArray} {i:Nat} (h:i<l.length):zeG l (i+1)=zeG l i++l[i].data.toList:=by
 unfold zeG;rw[zaq h,List.flatMap_append];simp
def zbT {l:List ByteArray} (hl: ∀s∈l,s.size<=64): ∀i,i<=l.length->(zeG l i).length<=64*i
 |0,_=>by simp[zeG]
 |i+1,h=>by
  have h1:=zbT hl i (by omega)
  have h2:=hl l[i] (List.getElem_mem _);have h3:=zhv l[i];rw[zdh (by omega),List.length_append]
  omega
def zbt (l:List ByteArray):List UInt8:=za4 (zbg l)++zeG l l.length
def zff {l:List ByteArray} (hl: ∀s∈l,s.size<=64): ∀n∈zbg l,zat n:=by
 intro n h;obtain⟨s,hs,rfl⟩:=List.mem_map.1 h;have:=hl s hs;unfold zat;omega
def zcw {l:List Int} (hl: ∀n∈l,zat n) (hn:l.length<=256):(za4 l).length<=5131:=by
 have h1:=zcv hl hn;have h2:=zak (n:=(zca l).length) (by omega)
 unfold za4;rw[List.length_append];omega
def zrt (b:List UInt8) (l:List ByteArray) (hb:b.length<=1000) (hl: ∀s∈l,s.size<=64) (hn:l.length<=256):R 128 [.arr 0 b.length,.d (.list (ss l))] [.arr 1 (bytes b) 0]=some ([.arr 0 (b++zbt l).length],[.arr 1 (bytes (b++zbt l)) 0]):=by
 have hsi:=zff hl;have hsl:(zbg l).length=l.length:=by simp[zbg]
 have hcl:=zcw hsi (by omega)
 have hfl:=zbT hl l.length (Nat.le_refl _);have hc:=zdZ (zbg l) hsi (by omega)
 have hcs:R 129 [.d (.list (zcY zcF l l.length))] []=some ([.arr 0 (za4 (zbg l)).length],[.arr 1 (bytes (za4 (zbg l))) 0]):=by
  rw[zbk (Nat.le_refl _),<- hc,ints,zbg,List.map_map];rfl
 refine rg zzQ rfl ?_;intro T hT;simp -dsimp -implicitDefEqProofs (disch:=first|omega|assumption)
 generalize hz:zaf _ _ _ _ _ _=z;revert z;refine zaa (σ:=Nat) (λi=>[(0,.arr 0 b.length),(5,.arr 1 i),(6,.arr 2 (zeG l i).length),(9,.d (.list (ss l))),(10,.d (.int .i64 l.length)),(11,.d (.int .i64 i))]) (λi=>[.arr 1 (bytes b) 0,.arr 1 (zcY zcF l i) 0,.arr 1 (bytes (zeG l i)) 0]) (λi=>i<=l.length) (λi=>l.length - i) 0 ?_ ?_ ?_
 ·exact Nat.zero_le _
 ·simp -dsimp -implicitDefEqProofs (disch:=first|omega|assumption) [zaL,zed]
 intro T' f hT' i hi ih
 by_cases h1:i<l.length
 ·have hsz:=hl l[i] (List.getElem_mem _)
  have htk:=zaM (g:=zcF) h1;have hlen:=zai (g:=zcF) hi;have hft:=zdh h1;have hfi:=zbT hl i hi;have h3:=zhv l[i];simp -dsimp -implicitDefEqProofs (disch:=first|omega|assumption) [h1,hlen,h3]
  refine ih (i+1) _ _ h1 (by omega) ?_
  rw[htk,hft];simp -dsimp -implicitDefEqProofs (disch:=first|omega|assumption) [h3,zcF]
 ·obtain rfl:i=l.length:=by omega
  have hlen:=zai (g:=zcF) hi;subst hT';simp -dsimp -implicitDefEqProofs (disch:=first|omega|assumption) [hcs,hlen]
  simpa -dsimp -implicitDefEqProofs (disch:=first|omega|assumption) [zbt,List.append_assoc,Nat.add_assoc]using hT
def zn6 (b:List UInt8) (l:List ByteArray) (w:Nat) (hb:b.length<=1000) (hl: ∀s∈l,s.size<=64) (hn:l.length<=256):R 128 [.arr 0 b.length,.arr 1 l.length] [.arr 1 (bytes b) 0,.arr 1 (ss l) w]=some ([.arr 0 (b++zbt l).length],[.arr 1 (bytes (b++zbt l)) 0,.arr 1 (ss l) w]):=by
 have hsi:=zff hl;have hsl:(zbg l).length=l.length:=by simp[zbg]
 have hcl:=zcw hsi (by omega)
 have hfl:=zbT hl l.length (Nat.le_refl _);have hc:=zdZ (zbg l) hsi (by omega)
 have hcs:R 129 [.d (.list (zcY zcF l l.length))] []=some ([.arr 0 (za4 (zbg l)).length],[.arr 1 (bytes (za4 (zbg l))) 0]):=by
  rw[zbk (Nat.le_refl _),<- hc,ints,zbg,List.map_map];rfl
 refine rg zzQ rfl ?_;intro T hT;simp -dsimp -implicitDefEqProofs (disch:=first|omega|assumption)
 generalize hz:zaf _ _ _ _ _ _=z;revert z;refine zaa (σ:=Nat) (λi=>[(0,.arr 0 b.length),(5,.arr 2 i),(6,.arr 3 (zeG l i).length),(9,.arr 1 l.length),(10,.d (.int .i64 l.length)),(11,.d (.int .i64 i))]) (λi=>[.arr 1 (bytes b) 0,.arr 1 (ss l) w,.arr 1 (zcY zcF l i) 0,.arr 1 (bytes (zeG l i)) 0]) (λi=>i<=l.length) (λi=>l.length - i) 0 ?_ ?_ ?_
 ·exact Nat.zero_le _
 ·simp -dsimp -implicitDefEqProofs (disch:=first|omega|assumption) [zaL,zed,range2]
 intro T' f hT' i hi ih
 by_cases h1:i<l.length
 ·have hsz:=hl l[i] (List.getElem_mem _)
  have htk:=zaM (g:=zcF) h1;have hlen:=zai (g:=zcF) hi;have hft:=zdh h1;have hfi:=zbT hl i hi;have h3:=zhv l[i];simp -dsimp -implicitDefEqProofs (disch:=first|omega|assumption) [h1,hlen,h3,range2]
  refine ih (i+1) _ _ h1 (by omega) ?_
  rw[htk,hft];simp -dsimp -implicitDefEqProofs (disch:=first|omega|assumption) [h3,zcF,range2]
 ·obtain rfl:i=l.length:=by omega
  have hlen:=zai (g:=zcF) hi;subst hT';simp -dsimp -implicitDefEqProofs (disch:=first|omega|assumption) [hcs,hlen,range2]
  simpa -dsimp -implicitDefEqProofs (disch:=first|omega|assumption) [zbt,List.append_assoc,Nat.add_assoc,range2]using hT
def zpu (b:List UInt8) (l:List ByteArray) (m:List D) (w:Nat) (hb:b.length<=1000) (hl: ∀s∈l,s.size<=64) (hn:l.length<=256):R 128 [.arr 0 b.length,.sl 1 (l.length+m.length) 0 l.length] [.arr 1 (bytes b) 0,.arr 1 (ss l++m) w]=some ([.arr 0 (b++zbt l).length],[.arr 1 (bytes (b++zbt l)) 0,.arr 1 (ss l++m) w]):=by
 have hsi:=zff hl;have hsl:(zbg l).length=l.length:=by simp[zbg]
 have hcl:=zcw hsi (by omega)
 have hfl:=zbT hl l.length (Nat.le_refl _);have hc:=zdZ (zbg l) hsi (by omega)
 have hcs:R 129 [.d (.list (zcY zcF l l.length))] []=some ([.arr 0 (za4 (zbg l)).length],[.arr 1 (bytes (za4 (zbg l))) 0]):=by
  rw[zbk (Nat.le_refl _),<- hc,ints,zbg,List.map_map];rfl
 refine rg zzQ rfl ?_;intro T hT;simp -dsimp -implicitDefEqProofs (disch:=first|omega|assumption)
 generalize hz:zaf _ _ _ _ _ _=z;revert z;refine zaa (σ:=Nat) (λi=>[(0,.arr 0 b.length),(5,.arr 2 i),(6,.arr 3 (zeG l i).length),(9,.sl 1 (l.length+m.length) 0 l.length),(10,.d (.int .i64 l.length)),(11,.d (.int .i64 i))]) (λi=>[.arr 1 (bytes b) 0,.arr 1 (ss l++m) w,.arr 1 (zcY zcF l i) 0,.arr 1 (bytes (zeG l i)) 0]) (λi=>i<=l.length) (λi=>l.length - i) 0 ?_ ?_ ?_
 ·exact Nat.zero_le _
 ·simp -dsimp -implicitDefEqProofs (disch:=first|omega|assumption) [zaL,zed,range2]
 intro T' f hT' i hi ih
 by_cases h1:i<l.length
 ·have hsz:=hl l[i] (List.getElem_mem _)
  have htk:=zaM (g:=zcF) h1;have hlen:=zai (g:=zcF) hi;have hft:=zdh h1;have hfi:=zbT hl i hi;have h3:=zhv l[i];have hget:(ss l++m)[i]? =some (D.str l[i]):=by rw[List.getElem?_append_left (by simpa using h1),List.getElem?_map,List.getElem?_eq_getElem h1];rfl
  simp -dsimp -implicitDefEqProofs (disch:=first|omega|assumption) [h1,hlen,h3,hget,range2]
  refine ih (i+1) _ _ h1 (by omega) ?_
  rw[htk,hft];simp -dsimp -implicitDefEqProofs (disch:=first|omega|assumption) [h3,zcF,range2]
 ·obtain rfl:i=l.length:=by omega
  have hlen:=zai (g:=zcF) hi;subst hT';simp -dsimp -implicitDefEqProofs (disch:=first|omega|assumption) [hcs,hlen,range2]
  simpa -dsimp -implicitDefEqProofs (disch:=first|omega|assumption) [zbt,List.append_assoc,Nat.add_assoc,range2]using hT
end Go.Am.Ab
namespace Go.Am.Ab
open Go.Proofs
set_option maxHeartbeats 4000000
set_option maxRecDepth 4000
def zm0 (wd:Nat->ByteArray) (r:List Nat):ss (r.map wd)=Str.ws wd r:=by
 unfold ss Str.ws;rw[List.map_map];rfl
def zbN (l:List ByteArray):List Int:=l.map λs=>(ixS (zdX l) s:Int)
def zeq (l:List ByteArray):List UInt8:=0::zbt l
def zkH (l:List ByteArray):List UInt8:=(1::put (zdX l).length)++zbt (zdX l)++zca (zbN l)
def zdE (l:List ByteArray):List UInt8:=if (zkH l).length<(zeq l).length then zkH l else zeq l
def zhw (x:ByteArray): ∀l:List ByteArray,(zkB x l).length<=l.length+1
 |[]=>by simp[zkB]
 |y::r=>by
  unfold zkB;have:=zhw x r;split
  ·simp
  ·split
   ·simp
   ·simp only[List.length_cons];omega
def zc6 (l:List ByteArray):(zdX l).length<=l.length:=by
 have key: ∀ (l u:List ByteArray),(l.foldl (λu x=>zkB x u) u).length<=u.length+l.length:=by
  intro l
  induction l with
  |nil=>intro u;simp
  |cons x r ih=>
   intro u;have h1:=ih (zkB x u);have h2:=zhw x u;simp only[List.foldl_cons,List.length_cons];omega
 have:=key l [];simpa[zdX]using this
def ziN {l:List ByteArray} (hn:l.length<=256): ∀n∈zbN l,zat n:=by
 intro n h;obtain⟨s,hs,rfl⟩:=List.mem_map.1 h;have h1:=zmY (zfe.2 hs);have h2:=zc6 l;unfold zat;omega
def zdi {l:List ByteArray} (hl: ∀s∈l,s.size<=64) (hn:l.length<=256):(zbt l).length<=30000:=by
 have h1:=zcw (zff hl) (by simpa[zbg]using hn)
 have h2:=zbT hl l.length (Nat.le_refl _);unfold zbt;rw[List.length_append];omega
def plD (u:List Nat) (x:Nat):D:= .int .i64 ((u.idxOf x:Nat):Int)
def zn7 (l:List ByteArray) (hl: ∀s∈l,s.size<=64) (hn:l.length<=256):R 92 [.d (.list (ss l))] []=some ([.arr 0 (zdE l).length],[.arr 1 (bytes (zdE l)) 0]):=by
 obtain⟨wd,r,hwd,hr⟩:=ztl l;have hul:=zc6 l;have hum: ∀s∈zdX l,s.size<=64:=λs h=>hl s (zfe.1 h)
 have htl:=zdi hl hn;have htu:=zdi hum (by omega)
 have hpi:=ziN hn;have hpl:(zbN l).length=l.length:=by simp[zbN]
 have hbl:=zcv hpi (by omega)
 have hbest:=zhu (zbN l) hpi (by omega)
 have hput:=zaS (zdX l).length (by omega)
 have hputl:=zak (n:=(zdX l).length) (by omega)
 have d1:=zrt [0] l (by simp) hl hn
 have d2:=λw=>zn6 (1::put (zdX l).length) (zdX l) w (by simp;omega) hum (by omega)
 have d3:=λm w=>zpu (1::put (zdX l).length) (zdX l) m w (by simp;omega) hum (by omega)
 -- by ztl
 have hu:zdX l=(Str.uniq r).map wd:=by rw[<- hr];exact zmX hwd r
 have hrl:r.length=l.length:=by rw[<- hr];simp
 have hsl:ss l=Str.ws wd r:=by rw[<- hr];exact zm0 wd r
 have hsu:ss (zdX l)=Str.ws wd (Str.uniq r):=by rw[hu];exact zm0 wd _
 have hplD:ints (zbN l)= .list (zcY (plD (Str.uniq r)) r r.length):=by
  rw[zbk (Nat.le_refl _),ints,zbN,hu,<- hr,List.map_map,List.map_map];congr 1;apply List.map_congr_left;intro x _;simp only[Function.comp,plD,zpp hwd]
 have hulen:(zdX l).length=(Str.uniq r).length:=by rw[hu];simp
 have h1:=Str.clone_runs hwd r (by omega)
 obtain⟨s,h2,h3,h4⟩:=Str.sort_any hwd r (by omega)
 have hlen:=h3.len;have hus:Str.uniq s=Str.uniq r:=Str.rises_ext (Str.uniq_rises _) (Str.uniq_rises _) λy=>by rw[Str.uniq_mem,Str.uniq_mem];exact h3.perm.mem_iff
 rw[<- hlen]at h4;have hP:=Str.compact_any hwd s h4 (by omega)
 unfold Str.Packs at hP;rw[hus]at hP;have hrise:=Str.rises_iff.1 (Str.uniq_rises r);have hmem: ∀x∈r,x∈Str.uniq r:=λx h=>Str.uniq_mem.2 h
 have hW:zdE l=if (zkH l).length<(zeq l).length then zkH l else zeq l:=rfl
 have hLT:zkH l=(1::put (zdX l).length)++zbt (zdX l)++zca (zbN l):=rfl;have hPT:zeq l=[0]++zbt l:=rfl;rw[hplD]at hbest;rw[hsl]at d1 ⊢;rw[hsu]at d2 d3;rw[hulen]at hul hput hputl d2 d3 hLT;obtain⟨u,hue⟩: ∃u,u=Str.uniq r:=⟨_,rfl⟩;rw[<- hue]at hul hput hputl d2 d3 hLT hbest hP hrise hmem;have hsearch: ∀x∈r,R 133 [.d (.list (Str.ws wd u)),.d (.str (wd x))] []=some ([.d (.int .i64 (u.idxOf x:Nat)),.d (.bool true)],[]):=by
  intro x hx;have hk:=List.idxOf_lt_length_of_mem (hmem x hx);have he:Str.at' u (u.idxOf x)=x:=by rw[<- Str.get_at hk];exact List.getElem_idxOf hk
  refine Str.search_runs hwd u x (u.idxOf x) hk (by omega) he (λp hp=> ?_) (λp p1 p2=> ?_)
  ·have:=hrise p (u.idxOf x) hp hk
   omega
  ·by_cases e:p=u.idxOf x
   ·subst e;omega
   ·have:=hrise (u.idxOf x) p (by omega) p2
    omega
 obtain⟨tu,htue⟩: ∃tu,tu=zbt (zdX l):=⟨_,rfl⟩;obtain⟨tl,htle⟩: ∃tl,tl=zbt l:=⟨_,rfl⟩;obtain⟨bp,hbpe⟩: ∃bp,bp=zca (zbN l):=⟨_,rfl⟩;obtain⟨pu,hpue⟩: ∃pu,pu=put u.length:=⟨_,rfl⟩;rw[<- htue]at htu d2 d3 hLT;rw[<- htle]at htl d1 hPT;rw[<- hbpe]at hbl hbest hLT;rw[<- hpue]at hput hputl d2 d3 hLT;rw[hW,hLT,hPT];have hw0:IntKind.u64.wrap (u.length:Int)=u.length:=zaj (by omega) (by omega)
 clear hW hLT hPT hsl hsu hplD hu hulen hum hpi hpl hus h3 h4 hbpe htle htue hpue hue hl;have hul2:u.length<=256:=by omega
 have hbest':=hbest;rw[hrl]at hbest';rw[hlen]at hP;have d1':R 128 [.arr 0 1,.d (.list (Str.ws wd r))] [.arr 1 [.int .u8 0] 0]=some ([.arr 0 (tl.length+1)],[.arr 1 (.int .u8 0::bytes tl) 0]):=d1;have e1:(1::pu).length=1+pu.length:=by simp only[List.length_cons];omega
 have e2:(1::pu++tu).length=1+pu.length+tu.length:=by simp only[List.length_cons,List.length_append];omega
 have e3:(1::pu++tu++bp).length=1+pu.length+tu.length+bp.length:=by simp only[List.length_cons,List.length_append];omega
 have e4:([0]++tl).length=tl.length+1:=by simp
 rw[e3,e4]
 by_cases hlt:1+pu.length+tu.length+bp.length<tl.length+1
 ·rw[if_pos hlt,e3]
  have hlt':(1+(pu.length:Int)+tu.length+bp.length)<tl.length+1:=by omega
  rcases hP with hP | ⟨m,hm,hP⟩
  ·refine rg b92 rfl ?_
   intro T hT;simp -dsimp -implicitDefEqProofs (disch:=first|omega|assumption) [h1,h2,hP]
   generalize hz:zaf _ _ _ _ _ _=z;revert z;refine zaa (σ:=Nat × Nat) (λx=>[(0,.d (.list (Str.ws wd r))),(3,.d (.fn 128)),(4,.arr 0 u.length),(5,.arr 1 x.1),(20,.d (.list (Str.ws wd r))),(21,.d (.int .i64 r.length)),(22,.d (.int .i64 x.1))]) (λx=>[.arr 1 (Str.ws wd u) x.2,.arr 1 (zcY (plD u) r x.1) 0]) (λx=>x.1<=r.length) (λx=>r.length - x.1) (0,0) ?_ ?_ ?_
   ·exact Nat.zero_le _
   ·simp -dsimp -implicitDefEqProofs (disch:=first|omega|assumption) [zaL]
   intro T' f hT' ⟨i,w⟩ hi ih;simp only at hi ih
   by_cases h5:i<r.length
   ·have hs:=hsearch r[i] (List.getElem_mem _)
    have hpu:=zaM (g:=plD u) h5;have hpl:=zai (g:=plD u) hi;simp -dsimp -implicitDefEqProofs (disch:=first|omega|assumption) [h5,hs,hpl]
    refine ih (i+1,u.length) _ _ h5 (by simp only;omega) ?_
    rw[hpu];simp -dsimp -implicitDefEqProofs (disch:=first|omega|assumption) [plD,hpl]
   ·obtain rfl:i=r.length:=by omega
    have hpl:=zai (g:=plD u) hi;have d2':R 128 [.arr 0 (1+pu.length),.arr 1 u.length] [.arr 1 (.int .u8 1::bytes pu) 0,.arr 1 (Str.ws wd u) w]=some ([.arr 0 (1+pu.length+tu.length)],[.arr 1 (.int .u8 1::bytes (pu++tu)) 0,.arr 1 (Str.ws wd u) w]):=by
     have:=d2 w;rw[e2,e1]at this;exact this
    subst hT';simp -dsimp -implicitDefEqProofs (disch:=first|omega|assumption) [hpl,d1',hput,hw0,hbest,d2',hlt']
    simpa -dsimp -implicitDefEqProofs (disch:=first|omega|assumption) using hT
  ·have hm2:(u.length+m.length)=r.length:=hm
   have hm3:List.take u.length (Str.ws wd u++m)=Str.ws wd u:=by rw[List.take_append_of_le_length (by simp),List.take_of_length_le (by simp)]
   refine rg b92 rfl ?_;intro T hT;simp -dsimp -implicitDefEqProofs (disch:=first|omega|assumption) [h1,h2,hP]
   generalize hz:zaf _ _ _ _ _ _=z;revert z;refine zaa (σ:=Nat × Nat) (λx=>[(0,.d (.list (Str.ws wd r))),(3,.d (.fn 128)),(4,.sl 0 r.length 0 u.length),(5,.arr 1 x.1),(20,.d (.list (Str.ws wd r))),(21,.d (.int .i64 r.length)),(22,.d (.int .i64 x.1))]) (λx=>[.arr 1 (Str.ws wd u++m) x.2,.arr 1 (zcY (plD u) r x.1) 0]) (λx=>x.1<=r.length) (λx=>r.length - x.1) (0,0) ?_ ?_ ?_
   ·exact Nat.zero_le _
   ·simp -dsimp -implicitDefEqProofs (disch:=first|omega|assumption) [zaL]
   intro T' f hT' ⟨i,w⟩ hi ih;simp only at hi ih
   by_cases h5:i<r.length
   ·have hs:=hsearch r[i] (List.getElem_mem _)
    have hpu:=zaM (g:=plD u) h5;have hpl:=zai (g:=plD u) hi;simp -dsimp -implicitDefEqProofs (disch:=first|omega|assumption) [h5,hs,hpl,hm2,hm3]
    refine ih (i+1,r.length) _ _ h5 (by simp only;omega) ?_
    rw[hpu];simp -dsimp -implicitDefEqProofs (disch:=first|omega|assumption) [plD,hpl,hm2,hm3]
   ·obtain rfl:i=r.length:=by omega
    have hpl:=zai (g:=plD u) hi;have d2':R 128 [.arr 0 (1+pu.length),.sl 1 r.length 0 u.length] [.arr 1 (.int .u8 1::bytes pu) 0,.arr 1 (Str.ws wd u++m) w]=some ([.arr 0 (1+pu.length+tu.length)],[.arr 1 (.int .u8 1::bytes (pu++tu)) 0,.arr 1 (Str.ws wd u++m) w]):=by
     have:=d3 m w;rw[e2,e1,hm]at this;exact this
    subst hT';simp -dsimp -implicitDefEqProofs (disch:=first|omega|assumption) [hpl,d1',hput,hw0,hbest,d2',hlt',hm2,hm3]
    simpa -dsimp -implicitDefEqProofs (disch:=first|omega|assumption) using hT
 ·rw[if_neg hlt,e4]
  have hlt': ¬ (1+(pu.length:Int)+tu.length+bp.length)<tl.length+1:=by omega
  rcases hP with hP | ⟨m,hm,hP⟩
  ·refine rg b92 rfl ?_
   intro T hT;simp -dsimp -implicitDefEqProofs (disch:=first|omega|assumption) [h1,h2,hP]
   generalize hz:zaf _ _ _ _ _ _=z;revert z;refine zaa (σ:=Nat × Nat) (λx=>[(0,.d (.list (Str.ws wd r))),(3,.d (.fn 128)),(4,.arr 0 u.length),(5,.arr 1 x.1),(20,.d (.list (Str.ws wd r))),(21,.d (.int .i64 r.length)),(22,.d (.int .i64 x.1))]) (λx=>[.arr 1 (Str.ws wd u) x.2,.arr 1 (zcY (plD u) r x.1) 0]) (λx=>x.1<=r.length) (λx=>r.length - x.1) (0,0) ?_ ?_ ?_
   ·exact Nat.zero_le _
   ·simp -dsimp -implicitDefEqProofs (disch:=first|omega|assumption) [zaL]
   intro T' f hT' ⟨i,w⟩ hi ih;simp only at hi ih
   by_cases h5:i<r.length
   ·have hs:=hsearch r[i] (List.getElem_mem _)
    have hpu:=zaM (g:=plD u) h5;have hpl:=zai (g:=plD u) hi;simp -dsimp -implicitDefEqProofs (disch:=first|omega|assumption) [h5,hs,hpl]
    refine ih (i+1,u.length) _ _ h5 (by simp only;omega) ?_
    rw[hpu];simp -dsimp -implicitDefEqProofs (disch:=first|omega|assumption) [plD,hpl]
   ·obtain rfl:i=r.length:=by omega
    have hpl:=zai (g:=plD u) hi;have d2':R 128 [.arr 0 (1+pu.length),.arr 1 u.length] [.arr 1 (.int .u8 1::bytes pu) 0,.arr 1 (Str.ws wd u) w]=some ([.arr 0 (1+pu.length+tu.length)],[.arr 1 (.int .u8 1::bytes (pu++tu)) 0,.arr 1 (Str.ws wd u) w]):=by
     have:=d2 w;rw[e2,e1]at this;exact this
    subst hT';simp -dsimp -implicitDefEqProofs (disch:=first|omega|assumption) [hpl,d1',hput,hw0,hbest,d2',hlt']
    simpa -dsimp -implicitDefEqProofs (disch:=first|omega|assumption) using hT
  ·have hm2:(u.length+m.length)=r.length:=hm
   have hm3:List.take u.length (Str.ws wd u++m)=Str.ws wd u:=by rw[List.take_append_of_le_length (by simp),List.take_of_length_le (by simp)]
   refine rg b92 rfl ?_;intro T hT;simp -dsimp -implicitDefEqProofs (disch:=first|omega|assumption) [h1,h2,hP]
   generalize hz:zaf _ _ _ _ _ _=z;revert z;refine zaa (σ:=Nat × Nat) (λx=>[(0,.d (.list (Str.ws wd r))),(3,.d (.fn 128)),(4,.sl 0 r.length 0 u.length),(5,.arr 1 x.1),(20,.d (.list (Str.ws wd r))),(21,.d (.int .i64 r.length)),(22,.d (.int .i64 x.1))]) (λx=>[.arr 1 (Str.ws wd u++m) x.2,.arr 1 (zcY (plD u) r x.1) 0]) (λx=>x.1<=r.length) (λx=>r.length - x.1) (0,0) ?_ ?_ ?_
   ·exact Nat.zero_le _
   ·simp -dsimp -implicitDefEqProofs (disch:=first|omega|assumption) [zaL]
   intro T' f hT' ⟨i,w⟩ hi ih;simp only at hi ih
   by_cases h5:i<r.length
   ·have hs:=hsearch r[i] (List.getElem_mem _)
    have hpu:=zaM (g:=plD u) h5;have hpl:=zai (g:=plD u) hi;simp -dsimp -implicitDefEqProofs (disch:=first|omega|assumption) [h5,hs,hpl,hm2,hm3]
    refine ih (i+1,r.length) _ _ h5 (by simp only;omega) ?_
    rw[hpu];simp -dsimp -implicitDefEqProofs (disch:=first|omega|assumption) [plD,hpl,hm2,hm3]
   ·obtain rfl:i=r.length:=by omega
    have hpl:=zai (g:=plD u) hi;have d2':R 128 [.arr 0 (1+pu.length),.sl 1 r.length 0 u.length] [.arr 1 (.int .u8 1::bytes pu) 0,.arr 1 (Str.ws wd u++m) w]=some ([.arr 0 (1+pu.length+tu.length)],[.arr 1 (.int .u8 1::bytes (pu++tu)) 0,.arr 1 (Str.ws wd u++m) w]):=by
     have:=d3 m w;rw[e2,e1,hm]at this;exact this
    subst hT';simp -dsimp -implicitDefEqProofs (disch:=first|omega|assumption) [hpl,d1',hput,hw0,hbest,d2',hlt',hm2,hm3]
    simpa -dsimp -implicitDefEqProofs (disch:=first|omega|assumption) using hT
end Go.Am.Ab
