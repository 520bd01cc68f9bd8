/- Columns, written. -/
import Derived.Test.YtibdiacpdmhmnaaGreatDoorColA
import Derived.Test.YtibdiacpdmhmnaaGreatDoorReadA
set_option linter.all false
namespace Go.Am.Ab
open Go.Proofs
set_option maxHeartbeats 4000000
set_option maxRecDepth 4000
def zcD (l:List Val):List Int:=l.filterMap λv=>match v with | .whole n=>some n | _=>none
def zcE (l:List Val):List Bool:=l.filterMap λv=>match v with | .truth b=>some b | _=>none
def zdK (l:List Val):List ByteArray:=l.filterMap λv=>match v with | .text s=>some s | _=>none
def zaI (l:List Val):List Bool:=l.map λv=>decide (v≠ .null)
def zmS (k:Nat) (l:List Val):List UInt8:=if k=1 then zb7 (zcD l) else if k=2 then zbM (zcE l) else zc7 (zdK l)
def zgl (l:List Val):List UInt8:=if false∈zaI l then 1::zbM (zaI l) else [0]
def zez (k:Nat) (l:List Val):List UInt8:=zgl l++zmS k l
def zw3 (k:Nat) (v:Val):Bool:=decide (v≠ .null) && decide (v.kind≠k)
def zoz (v:Val):Bool:=match v with | .text s=>decide (64<s.size) | _=>false
def thD (l:List Val) (i:Nat):List D:=bs ((zaI l).take i++List.replicate (l.length - i) false)
def zmT (l:List Val):thD l 0=List.replicate l.length (D.bool false):=by simp[thD]
def zaQ (l:List Val):(zaI l).length=l.length:=by simp[zaI]
def zbY {l:List Val} {i:Nat} (h:i<=l.length):(thD l i).length=l.length:=by simp[thD,zaQ];omega
def zh7 (l:List Val):thD l l.length=bs (zaI l):=by rw[thD,yaA (by rw[zaQ];exact yaj _)];simp
def zqg {l:List Val} {i:Nat} (h:i<l.length):(thD l i)[i]? =some (.bool false):=by
 have hl:((zaI l).take i).length=i:=by rw[yaq,zaQ];omega
 rw[thD,yau,yal (by omega),hl,yba,ycQ,yag (by omega)]
 rfl
def zqh {l:List Val} {i:Nat} (h:i<l.length):(thD l i).set i (.bool (decide (l[i]≠ .null)))=thD l (i+1):=by
 have hl:((zaI l).take i).length=i:=by rw[yaq,zaQ];omega
 have e:l.length - i=(l.length - (i+1))+1:=by omega
 have ht:i<(zaI l).length:=by rw[zaQ];exact h
 rw[thD,thD,<- yce,e,yaR,ybl _ _ (by omega),hl,yba,ycW,zaN ht,yan]
 congr 3;simp[zaI]
def zvr (l:List Val) (i:Nat):List D:=(zcD (l.take i)).map λn=> .int .i64 n
def zvs (l:List Val) (i:Nat):List D:=(zcE (l.take i)).map D.bool
def zvt (l:List Val) (i:Nat):List D:=(zdK (l.take i)).map D.str
def zvu (l:List Val):zvr l 0=[]:=rfl
def zvv (l:List Val):zvs l 0=[]:=rfl
def zvw (l:List Val):zvt l 0=[]:=rfl
def zvx {l:List Val} {i:Nat} (h:i<l.length):zvr l (i+1)=zvr l i++(match l[i] with | .whole n=>[.int .i64 n] | _=>[]):=by
 unfold zvr zcD;rw[zaN h,ydb];cases l[i] <;> simp
def zvy {l:List Val} {i:Nat} (h:i<l.length):zvs l (i+1)=zvs l i++(match l[i] with | .truth b=>[.bool b] | _=>[]):=by
 unfold zvs zcE;rw[zaN h,ydb];cases l[i] <;> simp
def zvz {l:List Val} {i:Nat} (h:i<l.length):zvt l (i+1)=zvt l i++(match l[i] with | .text s=>[.str s] | _=>[]):=by
 unfold zvt zdK;rw[zaN h,ydb];cases l[i] <;> simp
def zkg (l:List Val) (i:Nat):(zvr l i).length<=i:=by
 have:=ybn (λv:Val=>match v with | .whole n=>some n | _=>none) (l.take i)
 have h2:(l.take i).length<=i:=by simp;omega
 simp only[zvr,zcD,yah];omega
def zkh (l:List Val) (i:Nat):(zvs l i).length<=i:=by
 have:=ybn (λv:Val=>match v with | .truth b=>some b | _=>none) (l.take i)
 have h2:(l.take i).length<=i:=by simp;omega
 simp only[zvs,zcE,yah];omega
def zki (l:List Val) (i:Nat):(zvt l i).length<=i:=by
 have:=ybn (λv:Val=>match v with | .text s=>some s | _=>none) (l.take i)
 have h2:(l.take i).length<=i:=by simp;omega
 simp only[zvt,zdK,yah];omega
def zyg (l:List Val):zvr l l.length=(zcD l).map λn=> .int .i64 n:=by rw[zvr,yaW]
def zyh (l:List Val):zvs l l.length=(zcE l).map D.bool:=by rw[zvs,yaW]
def zyi (l:List Val):zvt l l.length=(zdK l).map D.str:=by rw[zvt,yaW]
def ze2 {l:List Val} (hl: ∀n,Val.whole n∈l->zah n): ∀n∈zcD l,zah n:=by
 intro n h;obtain⟨v,hv,e⟩:=List.mem_filterMap.1 h;cases v <;> simp at e;subst e;exact hl _ hv
def zhh {l:List Val} (hl:l.any zoz=false): ∀s∈zdK l,s.size<=64:=by
 intro s h;obtain⟨v,hv,e⟩:=List.mem_filterMap.1 h;cases v <;> simp at e;subst e;have:=List.any_eq_false.1 hl _ hv;simpa[zoz]using this
def ze3 (l:List Val):(zcD l).length<=l.length/\(zcE l).length<=l.length/\(zdK l).length<=l.length:=⟨ybn _ _,ybn _ _,ybn _ _⟩
def zdg {l:List Bool} (hn:l.length<=256):(zbM l).length<=2048:=zdX (by omega) (by simpa using hn)
def zl0 {l:List ByteArray} (hl: ∀s∈l,s.size<=64) (hn:l.length<=256):(zc7 l).length<=100000:=by
 have h1:=zh3 hl hn;have h2:(zfY l).length<=100000:=by simp only[zfY,yaf];omega
 unfold zc7;split
 ·omega
 ·exact h2
def zvA {k:Nat} {l:List Val} (h:l.any (zw3 k)=false) {i:Nat} (hi:i<l.length):l[i]= .null\/l[i].kind=k:=by
 have:=List.any_eq_false.1 h _ (yam hi);simp only[zw3,yaw,yaB,not_and,yc6]at this
 by_cases c:l[i]= .null
 ·exact .inl c
 ·exact .inr (this c)
def ok1 {l:List Val} (h:l.any (zw3 1)=false) {i:Nat} (hi:i<l.length):l[i]= .null\/ ∃n,l[i]= .whole n:=by
 rcases zvA h hi with e | e
 ·exact .inl e
 ·cases hv:l[i] <;> rw[hv]at e <;> simp[Val.kind]at e
  exact .inr ⟨_,rfl⟩
def ok2 {l:List Val} (h:l.any (zw3 2)=false) {i:Nat} (hi:i<l.length):l[i]= .null\/ ∃n,l[i]= .truth n:=by
 rcases zvA h hi with e | e
 ·exact .inl e
 ·cases hv:l[i] <;> rw[hv]at e <;> simp[Val.kind]at e
  exact .inr ⟨_,rfl⟩
def ok3 {l:List Val} (h:l.any (zw3 3)=false) {i:Nat} (hi:i<l.length):l[i]= .null\/ ∃n,l[i]= .text n:=by
 rcases zvA h hi with e | e
 ·exact .inl e
 ·cases hv:l[i] <;> rw[hv]at e <;> simp[Val.kind]at e
  exact .inr ⟨_,rfl⟩
end Go.Am.Ab
namespace Go.Am.Ab
open Go.Proofs
set_option maxHeartbeats 4000000
set_option maxRecDepth 4000
def ztr (l:List Val) (hn:l.length<=256) (hok:l.any (zw3 1)=false) (h64: ∀n,Val.whole n∈l->zah n):R 45 [.d (.int .u8 1),.d (.list (vs l))] []=some ([.arr 0 (zez 1 l).length,E 0],[.arr 1 (bytes (zez 1 l)) 0]):=by
 have hr:=zfs 1 (by decide)
 have hd:decide (1<=1/\1<=3)=true:=rfl;rw[hd]at hr;simp only[yb8]at hr;have hkl:=ze3 l;have htl:=zaQ l;have hidx:=zh0 (zaI l) (by omega)
 rw[<- zh7]at hidx;have hfl:=zfu (zaI l) (by omega)
 rw[<- zh7]at hfl;have hbody:R 91 [.d (.list (zvr l l.length))] []=some ([.arr 0 (zb7 (zcD l)).length,.d (.bool true)],[.arr 1 (bytes (zb7 (zcD l))) 0]):=by
  rw[zyg];exact zkb (zcD l) (ze2 h64) (by omega)
 have hfll:=zdg (l:=zaI l) (by omega)
 have hbl:=zd0 (ze2 h64) (by omega)
 have hC:zez 1 l=zgl l++zb7 (zcD l):=rfl;rw[hC];obtain⟨bd,hbd⟩: ∃bd,bd=zb7 (zcD l):=⟨_,rfl⟩;rw[<- hbd]at hbody hbl ⊢;refine rg b45 rfl ?_;intro T hT;simp -dsimp -implicitDefEqProofs (disch:=omega) [hr]
 generalize hz:zaf _ _ _ _ _ _=z;revert z;refine zaa (σ:=Nat) (λi=>[(0,.d (.int .u8 1)),(1,.d (.list (vs l))),(26,.d (.list (vs l))),(27,.d (.int .i64 l.length)),(28,.d (.int .i64 i))]) (λi=>[]) (λi=>i<=l.length) (λi=>l.length - i) 0 ?_ ?_ ?_
 ·exact yai _
 ·simp -dsimp -implicitDefEqProofs (disch:=omega)
 intro T' f hT' i hi ih
 by_cases h1:i<l.length
 ·rcases ok1 hok h1 with hv | ⟨x,hv⟩
  ·simp -dsimp -implicitDefEqProofs (disch:=omega) [h1,hv,Val.d]
   exact ih (i+1) _ _ h1 (by omega) (by simp -dsimp -implicitDefEqProofs (disch:=omega))
  ·have hkd:=zbw (.whole x)
   simp only[Val.d,Val.kind]at hkd;simp only[yb8]at hkd;simp -dsimp -implicitDefEqProofs (disch:=omega) [h1,hv,hkd,Val.d]
   exact ih (i+1) _ _ h1 (by omega) (by simp -dsimp -implicitDefEqProofs (disch:=omega))
 obtain rfl:i=l.length:=by omega
 subst hT';clear ih hi h1;have h256: ¬ (256:Int)<l.length:=by omega
 simp -dsimp -implicitDefEqProofs (disch:=omega) [h256]
 generalize hz:zaf _ _ _ _ _ _=z;revert z;refine zaa (σ:=Nat) (λi=>[(0,.d (.int .u8 1)),(8,.arr 0 l.length),(9,.arr 1 (zvr l (i)).length),(10,.arr 2 0),(11,.arr 3 0),(47,.d (.list (vs l))),(48,.d (.int .i64 l.length)),(49,.d (.int .i64 (i:Nat)))]) (λi=>[.arr 1 (thD l (i)) 0,.arr 1 (zvr l (i)) 0,.arr 1 [] 0,.arr 1 [] 0]) (λi=>i<=l.length) (λi=>l.length - i) 0 ?_ ?_ ?_
 ·exact yai _
 ·simp -dsimp -implicitDefEqProofs (disch:=omega) [zmT,zvu]
 intro T2 f2 hT2 i hi ih
 by_cases h1:i<l.length
 ·have hts:=zqh h1
  have hg:=zqg h1;have htl1:=zbY hi;have htl2:=zbY (l:=l) (i:=i+1) h1;have hps:=zvx h1;have hpl:=zkg l i;rcases ok1 hok h1 with hv | ⟨x,hv⟩
  ·rw[hv]at hts hps
   simp only[ydG,ybm,ydc,yap]at hts hps;simp -dsimp -implicitDefEqProofs (disch:=omega) [h1,hv,Val.d,hg,htl1,hts]
   refine ih (i+1) _ _ h1 (by omega) ?_
   rw[hps];simp -dsimp -implicitDefEqProofs (disch:=omega)
  ·rw[hv]at hts hps
   simp only[ydG,reduceCtorEq,yc7,ydM]at hts hps;simp -dsimp -implicitDefEqProofs (disch:=omega) [h1,hv,Val.d,hg,htl1,hts]
   refine ih (i+1) _ _ h1 (by omega) ?_
   rw[hps];simp -dsimp -implicitDefEqProofs (disch:=omega)
 ·obtain rfl:i=l.length:=by omega
  have htl1:=zbY (yaj l.length);have hpl:=zkg l l.length;subst hT2
  by_cases hm:false∈zaI l
  ·rw[zgl,yag hm,show (1::zbM (zaI l)++bd).length=1+(zbM (zaI l)).length+bd.length by simp only[yaf,yae];omega]at hT
   simp -dsimp -implicitDefEqProofs (disch:=omega) [hidx,hm,hfl,hbody,htl1]
   simpa -dsimp -implicitDefEqProofs (disch:=omega) [E]using hT
  ·rw[zgl,yac hm,show ([(0:UInt8)]++bd).length=1+bd.length by simp only[yae,ybg]]at hT
   simp -dsimp -implicitDefEqProofs (disch:=omega) [hidx,hm,hbody,htl1]
   simpa -dsimp -implicitDefEqProofs (disch:=omega) [E]using hT
end Go.Am.Ab
namespace Go.Am.Ab
open Go.Proofs
set_option maxHeartbeats 4000000
set_option maxRecDepth 4000
def zts (l:List Val) (hn:l.length<=256) (hok:l.any (zw3 2)=false):R 45 [.d (.int .u8 2),.d (.list (vs l))] []=some ([.arr 0 (zez 2 l).length,E 0],[.arr 1 (bytes (zez 2 l)) 0]):=by
 have hr:=zfs 2 (by decide)
 have hd:decide (1<=2/\2<=3)=true:=rfl;rw[hd]at hr;simp only[yb8]at hr;have hkl:=ze3 l;have htl:=zaQ l;have hidx:=zh0 (zaI l) (by omega)
 rw[<- zh7]at hidx;have hfl:=zfu (zaI l) (by omega)
 rw[<- zh7]at hfl;have hbody:R 90 [.d (.list (zvs l l.length))] []=some ([.arr 0 (zbM (zcE l)).length],[.arr 1 (bytes (zbM (zcE l))) 0]):=by
  rw[zyh];exact zfu (zcE l) (by omega)
 have hfll:=zdg (l:=zaI l) (by omega)
 have hbl:=zdg (l:=zcE l) (by omega)
 have hC:zez 2 l=zgl l++zbM (zcE l):=rfl;rw[hC];obtain⟨bd,hbd⟩: ∃bd,bd=zbM (zcE l):=⟨_,rfl⟩;rw[<- hbd]at hbody hbl ⊢;refine rg b45 rfl ?_;intro T hT;simp -dsimp -implicitDefEqProofs (disch:=omega) [hr]
 generalize hz:zaf _ _ _ _ _ _=z;revert z;refine zaa (σ:=Nat) (λi=>[(0,.d (.int .u8 2)),(1,.d (.list (vs l))),(26,.d (.list (vs l))),(27,.d (.int .i64 l.length)),(28,.d (.int .i64 i))]) (λi=>[]) (λi=>i<=l.length) (λi=>l.length - i) 0 ?_ ?_ ?_
 ·exact yai _
 ·simp -dsimp -implicitDefEqProofs (disch:=omega)
 intro T' f hT' i hi ih
 by_cases h1:i<l.length
 ·rcases ok2 hok h1 with hv | ⟨x,hv⟩
  ·simp -dsimp -implicitDefEqProofs (disch:=omega) [h1,hv,Val.d]
   exact ih (i+1) _ _ h1 (by omega) (by simp -dsimp -implicitDefEqProofs (disch:=omega))
  ·have hkd:=zbw (.truth x)
   simp only[Val.d,Val.kind]at hkd;simp only[yb8]at hkd;simp -dsimp -implicitDefEqProofs (disch:=omega) [h1,hv,hkd,Val.d]
   exact ih (i+1) _ _ h1 (by omega) (by simp -dsimp -implicitDefEqProofs (disch:=omega))
 obtain rfl:i=l.length:=by omega
 subst hT';clear ih hi h1;have h256: ¬ (256:Int)<l.length:=by omega
 simp -dsimp -implicitDefEqProofs (disch:=omega) [h256]
 generalize hz:zaf _ _ _ _ _ _=z;revert z;refine zaa (σ:=Nat) (λi=>[(0,.d (.int .u8 2)),(8,.arr 0 l.length),(9,.arr 1 0),(10,.arr 2 (zvs l (i)).length),(11,.arr 3 0),(47,.d (.list (vs l))),(48,.d (.int .i64 l.length)),(49,.d (.int .i64 (i:Nat)))]) (λi=>[.arr 1 (thD l (i)) 0,.arr 1 [] 0,.arr 1 (zvs l (i)) 0,.arr 1 [] 0]) (λi=>i<=l.length) (λi=>l.length - i) 0 ?_ ?_ ?_
 ·exact yai _
 ·simp -dsimp -implicitDefEqProofs (disch:=omega) [zmT,zvv]
 intro T2 f2 hT2 i hi ih
 by_cases h1:i<l.length
 ·have hts:=zqh h1
  have hg:=zqg h1;have htl1:=zbY hi;have htl2:=zbY (l:=l) (i:=i+1) h1;have hps:=zvy h1;have hpl:=zkh l i;rcases ok2 hok h1 with hv | ⟨x,hv⟩
  ·rw[hv]at hts hps
   simp only[ydG,ybm,ydc,yap]at hts hps;simp -dsimp -implicitDefEqProofs (disch:=omega) [h1,hv,Val.d,hg,htl1,hts]
   refine ih (i+1) _ _ h1 (by omega) ?_
   rw[hps];simp -dsimp -implicitDefEqProofs (disch:=omega)
  ·rw[hv]at hts hps
   simp only[ydG,reduceCtorEq,yc7,ydM]at hts hps;simp -dsimp -implicitDefEqProofs (disch:=omega) [h1,hv,Val.d,hg,htl1,hts]
   refine ih (i+1) _ _ h1 (by omega) ?_
   rw[hps];simp -dsimp -implicitDefEqProofs (disch:=omega)
 ·obtain rfl:i=l.length:=by omega
  have htl1:=zbY (yaj l.length);have hpl:=zkh l l.length;subst hT2
  by_cases hm:false∈zaI l
  ·rw[zgl,yag hm,show (1::zbM (zaI l)++bd).length=1+(zbM (zaI l)).length+bd.length by simp only[yaf,yae];omega]at hT
   simp -dsimp -implicitDefEqProofs (disch:=omega) [hidx,hm,hfl,hbody,htl1]
   simpa -dsimp -implicitDefEqProofs (disch:=omega) [E]using hT
  ·rw[zgl,yac hm,show ([(0:UInt8)]++bd).length=1+bd.length by simp only[yae,ybg]]at hT
   simp -dsimp -implicitDefEqProofs (disch:=omega) [hidx,hm,hbody,htl1]
   simpa -dsimp -implicitDefEqProofs (disch:=omega) [E]using hT
end Go.Am.Ab
namespace Go.Am.Ab
open Go.Proofs
set_option maxHeartbeats 4000000
set_option maxRecDepth 4000
def ztt (l:List Val) (hn:l.length<=256) (hok:l.any (zw3 3)=false) (hlo:l.any zoz=false):R 45 [.d (.int .u8 3),.d (.list (vs l))] []=some ([.arr 0 (zez 3 l).length,E 0],[.arr 1 (bytes (zez 3 l)) 0]):=by
 have hr:=zfs 3 (by decide)
 have hd:decide (1<=3/\3<=3)=true:=rfl;rw[hd]at hr;simp only[yb8]at hr;have hkl:=ze3 l;have htl:=zaQ l;have hidx:=zh0 (zaI l) (by omega)
 rw[<- zh7]at hidx;have hfl:=zfu (zaI l) (by omega)
 rw[<- zh7]at hfl;have hbody:R 92 [.d (.list (zvt l l.length))] []=some ([.arr 0 (zc7 (zdK l)).length],[.arr 1 (bytes (zc7 (zdK l))) 0]):=by
  rw[zyi];exact zth (zdK l) (zhh hlo) (by omega)
 have hfll:=zdg (l:=zaI l) (by omega)
 have hbl:=zl0 (zhh hlo) (by omega)
 have hC:zez 3 l=zgl l++zc7 (zdK l):=rfl;rw[hC];obtain⟨bd,hbd⟩: ∃bd,bd=zc7 (zdK l):=⟨_,rfl⟩;rw[<- hbd]at hbody hbl ⊢;refine rg b45 rfl ?_;intro T hT;simp -dsimp -implicitDefEqProofs (disch:=omega) [hr]
 generalize hz:zaf _ _ _ _ _ _=z;revert z;refine zaa (σ:=Nat) (λi=>[(0,.d (.int .u8 3)),(1,.d (.list (vs l))),(26,.d (.list (vs l))),(27,.d (.int .i64 l.length)),(28,.d (.int .i64 i))]) (λi=>[]) (λi=>i<=l.length) (λi=>l.length - i) 0 ?_ ?_ ?_
 ·exact yai _
 ·simp -dsimp -implicitDefEqProofs (disch:=omega)
 intro T' f hT' i hi ih
 by_cases h1:i<l.length
 ·rcases ok3 hok h1 with hv | ⟨x,hv⟩
  ·simp -dsimp -implicitDefEqProofs (disch:=omega) [h1,hv,Val.d]
   exact ih (i+1) _ _ h1 (by omega) (by simp -dsimp -implicitDefEqProofs (disch:=omega))
  ·have hkd:=zbw (.text x)
   simp only[Val.d,Val.kind]at hkd;simp only[yb8]at hkd;simp -dsimp -implicitDefEqProofs (disch:=omega) [h1,hv,hkd,Val.d]
   exact ih (i+1) _ _ h1 (by omega) (by simp -dsimp -implicitDefEqProofs (disch:=omega))
 obtain rfl:i=l.length:=by omega
 subst hT';clear ih hi h1;have h256: ¬ (256:Int)<l.length:=by omega
 simp -dsimp -implicitDefEqProofs (disch:=omega) [h256]
 generalize hz:zaf _ _ _ _ _ _=z;revert z;refine zaa (σ:=Nat) (λi=>[(0,.d (.int .u8 3)),(8,.arr 0 l.length),(9,.arr 1 0),(10,.arr 2 0),(11,.arr 3 (zvt l (i)).length),(47,.d (.list (vs l))),(48,.d (.int .i64 l.length)),(49,.d (.int .i64 (i:Nat)))]) (λi=>[.arr 1 (thD l (i)) 0,.arr 1 [] 0,.arr 1 [] 0,.arr 1 (zvt l (i)) 0]) (λi=>i<=l.length) (λi=>l.length - i) 0 ?_ ?_ ?_
 ·exact yai _
 ·simp -dsimp -implicitDefEqProofs (disch:=omega) [zmT,zvw]
 intro T2 f2 hT2 i hi ih
 by_cases h1:i<l.length
 ·have hts:=zqh h1
  have hg:=zqg h1;have htl1:=zbY hi;have htl2:=zbY (l:=l) (i:=i+1) h1;have hps:=zvz h1;have hpl:=zki l i;rcases ok3 hok h1 with hv | ⟨x,hv⟩
  ·rw[hv]at hts hps
   simp only[ydG,ybm,ydc,yap]at hts hps;simp -dsimp -implicitDefEqProofs (disch:=omega) [h1,hv,Val.d,hg,htl1,hts]
   refine ih (i+1) _ _ h1 (by omega) ?_
   rw[hps];simp -dsimp -implicitDefEqProofs (disch:=omega)
  ·rw[hv]at hts hps
   simp only[ydG,reduceCtorEq,yc7,ydM]at hts hps;have hx: ¬ (64:Int)<x.size:=by
    have:=List.any_eq_false.1 hlo _ (hv ▸ yam h1);simp[zoz]at this;omega
   simp -dsimp -implicitDefEqProofs (disch:=omega) [h1,hv,Val.d,hg,htl1,hts,hx]
   refine ih (i+1) _ _ h1 (by omega) ?_
   rw[hps];simp -dsimp -implicitDefEqProofs (disch:=omega)
 ·obtain rfl:i=l.length:=by omega
  have htl1:=zbY (yaj l.length);have hpl:=zki l l.length;subst hT2
  by_cases hm:false∈zaI l
  ·rw[zgl,yag hm,show (1::zbM (zaI l)++bd).length=1+(zbM (zaI l)).length+bd.length by simp only[yaf,yae];omega]at hT
   simp -dsimp -implicitDefEqProofs (disch:=omega) [hidx,hm,hfl,hbody,htl1]
   simpa -dsimp -implicitDefEqProofs (disch:=omega) [E]using hT
  ·rw[zgl,yac hm,show ([(0:UInt8)]++bd).length=1+bd.length by simp only[yae,ybg]]at hT
   simp -dsimp -implicitDefEqProofs (disch:=omega) [hidx,hm,hbody,htl1]
   simpa -dsimp -implicitDefEqProofs (disch:=omega) [E]using hT
end Go.Am.Ab
