/- Columns, written. -/
import Derived.Test.YtibdiacpdmhmnaaGreatDoorReadA
import Derived.Test.YtibdiacpdmhmnaaGreatDoorColA
set_option linter.all false
namespace Go.Am.Ab
open Go.Proofs
set_option maxHeartbeats 4000000
set_option maxRecDepth 4000
def zbD (l:List Val):List Int:=l.filterMap λv=>match v with | .whole n=>some n | _=>none
def zbE (l:List Val):List Bool:=l.filterMap λv=>match v with | .truth b=>some b | _=>none
def zcZ (l:List Val):List ByteArray:=l.filterMap λv=>match v with | .text s=>some s | _=>none
def zap (l:List Val):List Bool:=l.map λv=>decide (v≠ .null)
def zny (k:Nat) (l:List Val):List UInt8:=if k=1 then zbp (zbD l) else if k=2 then za5 (zbE l) else zcV (zcZ l)
def zdl (l:List Val):List UInt8:=if false∈zap l then 1::za5 (zap l) else [0]
def zdh (k:Nat) (l:List Val):List UInt8:=zdl l++zny k l
def zw1 (k:Nat) (v:Val):Bool:=decide (v≠ .null) && decide (v.kind≠k)
def zkC (v:Val):Bool:=match v with | .text s=>decide (64<s.size) | _=>false
def thD (l:List Val) (i:Nat):List D:=bs ((zap l).take i++List.replicate (l.length - i) false)
def znz (l:List Val):thD l 0=List.replicate l.length (D.bool false):=by simp[thD]
def zaz (l:List Val):(zap l).length=l.length:=by simp[zap]
def zcc {l:List Val} {i:Nat} (h:i<=l.length):(thD l i).length=l.length:=by simp[thD,zaz];omega
def zik (l:List Val):thD l l.length=bs (zap l):=by rw[thD,yar (by rw[zaz];exact yaf _)];simp
def zqV {l:List Val} {i:Nat} (h:i<l.length):(thD l i)[i]? =some (.bool false):=by
 have hl:((zap l).take i).length=i:=by rw[yan,zaz];omega
 rw[thD,yaA,yak (by omega),hl,ybb,ycV,yaj (by omega)]
 rfl
def zqW {l:List Val} {i:Nat} (h:i<l.length):(thD l i).set i (.bool (decide (l[i]≠ .null)))=thD l (i+1):=by
 have hl:((zap l).take i).length=i:=by rw[yan,zaz];omega
 have e:l.length - i=(l.length - (i+1))+1:=by omega
 have ht:i<(zap l).length:=by rw[zaz];exact h
 rw[thD,thD,<- yb0,e,yaS,ybn _ _ (by omega),hl,ybb,yc2,zao ht,yal]
 congr 3;simp[zap]
def zvR (l:List Val) (i:Nat):List D:=(zbD (l.take i)).map λn=> .int .i64 n
def zvS (l:List Val) (i:Nat):List D:=(zbE (l.take i)).map D.bool
def zvT (l:List Val) (i:Nat):List D:=(zcZ (l.take i)).map D.str
def zvU (l:List Val):zvR l 0=[]:=rfl
def zvV (l:List Val):zvS l 0=[]:=rfl
def zvW (l:List Val):zvT l 0=[]:=rfl
def zvX {l:List Val} {i:Nat} (h:i<l.length):zvR l (i+1)=zvR l i++(match l[i] with | .whole n=>[.int .i64 n] | _=>[]):=by
 unfold zvR zbD;rw[zao h,ydg];cases l[i] <;> simp
def zvY {l:List Val} {i:Nat} (h:i<l.length):zvS l (i+1)=zvS l i++(match l[i] with | .truth b=>[.bool b] | _=>[]):=by
 unfold zvS zbE;rw[zao h,ydg];cases l[i] <;> simp
def zvZ {l:List Val} {i:Nat} (h:i<l.length):zvT l (i+1)=zvT l i++(match l[i] with | .text s=>[.str s] | _=>[]):=by
 unfold zvT zcZ;rw[zao h,ydg];cases l[i] <;> simp
def zkD (l:List Val) (i:Nat):(zvR l i).length<=i:=by
 have:=ybs (λv:Val=>match v with | .whole n=>some n | _=>none) (l.take i)
 have h2:(l.take i).length<=i:=by simp;omega
 simp only[zvR,zbD,yah];omega
def zkE (l:List Val) (i:Nat):(zvS l i).length<=i:=by
 have:=ybs (λv:Val=>match v with | .truth b=>some b | _=>none) (l.take i)
 have h2:(l.take i).length<=i:=by simp;omega
 simp only[zvS,zbE,yah];omega
def zkF (l:List Val) (i:Nat):(zvT l i).length<=i:=by
 have:=ybs (λv:Val=>match v with | .text s=>some s | _=>none) (l.take i)
 have h2:(l.take i).length<=i:=by simp;omega
 simp only[zvT,zcZ,yah];omega
def zyd (l:List Val):zvR l l.length=(zbD l).map λn=> .int .i64 n:=by rw[zvR,yaQ]
def zye (l:List Val):zvS l l.length=(zbE l).map D.bool:=by rw[zvS,yaQ]
def zyf (l:List Val):zvT l l.length=(zcZ l).map D.str:=by rw[zvT,yaQ]
def zfi {l:List Val} (hl: ∀n,Val.whole n∈l->zai n): ∀n∈zbD l,zai n:=by
 intro n h;obtain⟨v,hv,e⟩:=List.mem_filterMap.1 h;cases v <;> simp at e;subst e;exact hl _ hv
def zfO {l:List Val} (hl:l.any zkC=false): ∀s∈zcZ l,s.size<=64:=by
 intro s h;obtain⟨v,hv,e⟩:=List.mem_filterMap.1 h;cases v <;> simp at e;subst e;have:=List.any_eq_false.1 hl _ hv;simpa[zkC]using this
def zdb (l:List Val):(zbD l).length<=l.length/\(zbE l).length<=l.length/\(zcZ l).length<=l.length:=⟨ybs _ _,ybs _ _,ybs _ _⟩
def zbO {l:List Bool} (hn:l.length<=256):(za5 l).length<=2048:=zcX (by omega) (by simpa using hn)
def zmz {l:List ByteArray} (hl: ∀s∈l,s.size<=64) (hn:l.length<=256):(zcV l).length<=100000:=by
 have h1:=zec hl hn;have h2:(zeb l).length<=100000:=by simp only[zeb,yad];omega
 unfold zcV;split
 ·omega
 ·exact h2
def zv0 {k:Nat} {l:List Val} (h:l.any (zw1 k)=false) {i:Nat} (hi:i<l.length):l[i]= .null\/l[i].kind=k:=by
 have:=List.any_eq_false.1 h _ (yam hi);simp only[zw1,yav,yaG,not_and,ydO]at this
 by_cases c:l[i]= .null
 ·exact .inl c
 ·exact .inr (this c)
def ok1 {l:List Val} (h:l.any (zw1 1)=false) {i:Nat} (hi:i<l.length):l[i]= .null\/ ∃n,l[i]= .whole n:=by
 rcases zv0 h hi with e | e
 ·exact .inl e
 ·cases hv:l[i] <;> rw[hv]at e <;> simp[Val.kind]at e
  exact .inr ⟨_,rfl⟩
def ok2 {l:List Val} (h:l.any (zw1 2)=false) {i:Nat} (hi:i<l.length):l[i]= .null\/ ∃n,l[i]= .truth n:=by
 rcases zv0 h hi with e | e
 ·exact .inl e
 ·cases hv:l[i] <;> rw[hv]at e <;> simp[Val.kind]at e
  exact .inr ⟨_,rfl⟩
def ok3 {l:List Val} (h:l.any (zw1 3)=false) {i:Nat} (hi:i<l.length):l[i]= .null\/ ∃n,l[i]= .text n:=by
 rcases zv0 h hi with e | e
 ·exact .inl e
 ·cases hv:l[i] <;> rw[hv]at e <;> simp[Val.kind]at e
  exact .inr ⟨_,rfl⟩
end Go.Am.Ab
namespace Go.Am.Ab
open Go.Proofs
set_option maxHeartbeats 4000000
set_option maxRecDepth 4000
def zt8 (l:List Val) (hn:l.length<=256) (hok:l.any (zw1 1)=false) (h64: ∀n,Val.whole n∈l->zai n):R 45 [.d (.int .u8 1),.d (.list (vs l))] []=some ([.arr 0 (zdh 1 l).length,E 0],[.arr 1 (bytes (zdh 1 l)) 0]):=by
 have hr:=zfJ 1 (by decide)
 have hd:decide (1<=1/\1<=3)=true:=rfl;rw[hd]at hr;simp only[ybX]at hr;have hkl:=zdb l;have htl:=zaz l;have hidx:=zii (zap l) (by omega)
 rw[<- zik]at hidx;have hfl:=zfL (zap l) (by omega)
 rw[<- zik]at hfl;have hbody:R 91 [.d (.list (zvR l l.length))] []=some ([.arr 0 (zbp (zbD l)).length,.d (.bool true)],[.arr 1 (bytes (zbp (zbD l))) 0]):=by
  rw[zyd];exact zkk (zbD l) (zfi h64) (by omega)
 have hfll:=zbO (l:=zap l) (by omega)
 have hbl:=zcO (zfi h64) (by omega)
 have hC:zdh 1 l=zdl l++zbp (zbD l):=rfl;rw[hC];obtain⟨bd,hbd⟩: ∃bd,bd=zbp (zbD l):=⟨_,rfl⟩;rw[<- hbd]at hbody hbl ⊢;refine rg b45 rfl ?_;intro T hT;simp -dsimp -implicitDefEqProofs (disch:=first|omega|assumption) [hr]
 generalize hz:zaj _ _ _ _ _ _=z;revert z;refine zaa (σ:=Nat) (λi=>[(0,.d (.int .u8 1)),(1,.d (.list (vs l))),(26,.d (.list (vs l))),(27,.d (.int .i64 l.length)),(28,.d (.int .i64 i))]) (λi=>[]) (λi=>i<=l.length) (λi=>l.length - i) 0 ?_ ?_ ?_
 ·exact yai _
 ·simp -dsimp -implicitDefEqProofs (disch:=first|omega|assumption)
 intro T' f hT' i hi ih
 by_cases h1:i<l.length
 ·rcases ok1 hok h1 with hv | ⟨x,hv⟩
  ·simp -dsimp -implicitDefEqProofs (disch:=first|omega|assumption) [h1,hv,Val.d]
   exact ih (i+1) _ _ h1 (by omega) (by simp -dsimp -implicitDefEqProofs (disch:=first|omega|assumption))
  ·have hkd:=zb6 (.whole x)
   simp only[Val.d,Val.kind]at hkd;simp only[ybX]at hkd;simp -dsimp -implicitDefEqProofs (disch:=first|omega|assumption) [h1,hv,hkd,Val.d]
   exact ih (i+1) _ _ h1 (by omega) (by simp -dsimp -implicitDefEqProofs (disch:=first|omega|assumption))
 obtain rfl:i=l.length:=by omega
 subst hT';clear ih hi h1;have h256: ¬ (256:Int)<l.length:=by omega
 simp -dsimp -implicitDefEqProofs (disch:=first|omega|assumption) [h256]
 generalize hz:zaj _ _ _ _ _ _=z;revert z;refine zaa (σ:=Nat) (λi=>[(0,.d (.int .u8 1)),(8,.arr 0 l.length),(9,.arr 1 (zvR l (i)).length),(10,.arr 2 0),(11,.arr 3 0),(47,.d (.list (vs l))),(48,.d (.int .i64 l.length)),(49,.d (.int .i64 (i:Nat)))]) (λi=>[.arr 1 (thD l (i)) 0,.arr 1 (zvR l (i)) 0,.arr 1 [] 0,.arr 1 [] 0]) (λi=>i<=l.length) (λi=>l.length - i) 0 ?_ ?_ ?_
 ·exact yai _
 ·simp -dsimp -implicitDefEqProofs (disch:=first|omega|assumption) [znz,zvU]
 intro T2 f2 hT2 i hi ih
 by_cases h1:i<l.length
 ·have hts:=zqW h1
  have hg:=zqV h1;have htl1:=zcc hi;have htl2:=zcc (l:=l) (i:=i+1) h1;have hps:=zvX h1;have hpl:=zkD l i;rcases ok1 hok h1 with hv | ⟨x,hv⟩
  ·rw[hv]at hts hps
   simp only[ydh,yba,ycC,yaq]at hts hps;simp -dsimp -implicitDefEqProofs (disch:=first|omega|assumption) [h1,hv,Val.d,hg,htl1,hts]
   refine ih (i+1) _ _ h1 (by omega) ?_
   rw[hps];simp -dsimp -implicitDefEqProofs (disch:=first|omega|assumption)
  ·rw[hv]at hts hps
   simp only[ydh,reduceCtorEq,ycj,yda]at hts hps;simp -dsimp -implicitDefEqProofs (disch:=first|omega|assumption) [h1,hv,Val.d,hg,htl1,hts]
   refine ih (i+1) _ _ h1 (by omega) ?_
   rw[hps];simp -dsimp -implicitDefEqProofs (disch:=first|omega|assumption)
 ·obtain rfl:i=l.length:=by omega
  have htl1:=zcc (yaf l.length);have hpl:=zkD l l.length;subst hT2
  by_cases hm:false∈zap l
  ·rw[zdl,yaj hm,show (1::za5 (zap l)++bd).length=1+(za5 (zap l)).length+bd.length by simp only[yad,yab];omega]at hT
   simp -dsimp -implicitDefEqProofs (disch:=first|omega|assumption) [hidx,hm,hfl,hbody,htl1]
   simpa -dsimp -implicitDefEqProofs (disch:=first|omega|assumption) [E]using hT
  ·rw[zdl,yag hm,show ([(0:UInt8)]++bd).length=1+bd.length by simp only[yab,ya5]]at hT
   simp -dsimp -implicitDefEqProofs (disch:=first|omega|assumption) [hidx,hm,hbody,htl1]
   simpa -dsimp -implicitDefEqProofs (disch:=first|omega|assumption) [E]using hT
end Go.Am.Ab
namespace Go.Am.Ab
open Go.Proofs
set_option maxHeartbeats 4000000
set_option maxRecDepth 4000
def zt9 (l:List Val) (hn:l.length<=256) (hok:l.any (zw1 2)=false):R 45 [.d (.int .u8 2),.d (.list (vs l))] []=some ([.arr 0 (zdh 2 l).length,E 0],[.arr 1 (bytes (zdh 2 l)) 0]):=by
 have hr:=zfJ 2 (by decide)
 have hd:decide (1<=2/\2<=3)=true:=rfl;rw[hd]at hr;simp only[ybX]at hr;have hkl:=zdb l;have htl:=zaz l;have hidx:=zii (zap l) (by omega)
 rw[<- zik]at hidx;have hfl:=zfL (zap l) (by omega)
 rw[<- zik]at hfl;have hbody:R 90 [.d (.list (zvS l l.length))] []=some ([.arr 0 (za5 (zbE l)).length],[.arr 1 (bytes (za5 (zbE l))) 0]):=by
  rw[zye];exact zfL (zbE l) (by omega)
 have hfll:=zbO (l:=zap l) (by omega)
 have hbl:=zbO (l:=zbE l) (by omega)
 have hC:zdh 2 l=zdl l++za5 (zbE l):=rfl;rw[hC];obtain⟨bd,hbd⟩: ∃bd,bd=za5 (zbE l):=⟨_,rfl⟩;rw[<- hbd]at hbody hbl ⊢;refine rg b45 rfl ?_;intro T hT;simp -dsimp -implicitDefEqProofs (disch:=first|omega|assumption) [hr]
 generalize hz:zaj _ _ _ _ _ _=z;revert z;refine zaa (σ:=Nat) (λi=>[(0,.d (.int .u8 2)),(1,.d (.list (vs l))),(26,.d (.list (vs l))),(27,.d (.int .i64 l.length)),(28,.d (.int .i64 i))]) (λi=>[]) (λi=>i<=l.length) (λi=>l.length - i) 0 ?_ ?_ ?_
 ·exact yai _
 ·simp -dsimp -implicitDefEqProofs (disch:=first|omega|assumption)
 intro T' f hT' i hi ih
 by_cases h1:i<l.length
 ·rcases ok2 hok h1 with hv | ⟨x,hv⟩
  ·simp -dsimp -implicitDefEqProofs (disch:=first|omega|assumption) [h1,hv,Val.d]
   exact ih (i+1) _ _ h1 (by omega) (by simp -dsimp -implicitDefEqProofs (disch:=first|omega|assumption))
  ·have hkd:=zb6 (.truth x)
   simp only[Val.d,Val.kind]at hkd;simp only[ybX]at hkd;simp -dsimp -implicitDefEqProofs (disch:=first|omega|assumption) [h1,hv,hkd,Val.d]
   exact ih (i+1) _ _ h1 (by omega) (by simp -dsimp -implicitDefEqProofs (disch:=first|omega|assumption))
 obtain rfl:i=l.length:=by omega
 subst hT';clear ih hi h1;have h256: ¬ (256:Int)<l.length:=by omega
 simp -dsimp -implicitDefEqProofs (disch:=first|omega|assumption) [h256]
 generalize hz:zaj _ _ _ _ _ _=z;revert z;refine zaa (σ:=Nat) (λi=>[(0,.d (.int .u8 2)),(8,.arr 0 l.length),(9,.arr 1 0),(10,.arr 2 (zvS l (i)).length),(11,.arr 3 0),(47,.d (.list (vs l))),(48,.d (.int .i64 l.length)),(49,.d (.int .i64 (i:Nat)))]) (λi=>[.arr 1 (thD l (i)) 0,.arr 1 [] 0,.arr 1 (zvS l (i)) 0,.arr 1 [] 0]) (λi=>i<=l.length) (λi=>l.length - i) 0 ?_ ?_ ?_
 ·exact yai _
 ·simp -dsimp -implicitDefEqProofs (disch:=first|omega|assumption) [znz,zvV]
 intro T2 f2 hT2 i hi ih
 by_cases h1:i<l.length
 ·have hts:=zqW h1
  have hg:=zqV h1;have htl1:=zcc hi;have htl2:=zcc (l:=l) (i:=i+1) h1;have hps:=zvY h1;have hpl:=zkE l i;rcases ok2 hok h1 with hv | ⟨x,hv⟩
  ·rw[hv]at hts hps
   simp only[ydh,yba,ycC,yaq]at hts hps;simp -dsimp -implicitDefEqProofs (disch:=first|omega|assumption) [h1,hv,Val.d,hg,htl1,hts]
   refine ih (i+1) _ _ h1 (by omega) ?_
   rw[hps];simp -dsimp -implicitDefEqProofs (disch:=first|omega|assumption)
  ·rw[hv]at hts hps
   simp only[ydh,reduceCtorEq,ycj,yda]at hts hps;simp -dsimp -implicitDefEqProofs (disch:=first|omega|assumption) [h1,hv,Val.d,hg,htl1,hts]
   refine ih (i+1) _ _ h1 (by omega) ?_
   rw[hps];simp -dsimp -implicitDefEqProofs (disch:=first|omega|assumption)
 ·obtain rfl:i=l.length:=by omega
  have htl1:=zcc (yaf l.length);have hpl:=zkE l l.length;subst hT2
  by_cases hm:false∈zap l
  ·rw[zdl,yaj hm,show (1::za5 (zap l)++bd).length=1+(za5 (zap l)).length+bd.length by simp only[yad,yab];omega]at hT
   simp -dsimp -implicitDefEqProofs (disch:=first|omega|assumption) [hidx,hm,hfl,hbody,htl1]
   simpa -dsimp -implicitDefEqProofs (disch:=first|omega|assumption) [E]using hT
  ·rw[zdl,yag hm,show ([(0:UInt8)]++bd).length=1+bd.length by simp only[yab,ya5]]at hT
   simp -dsimp -implicitDefEqProofs (disch:=first|omega|assumption) [hidx,hm,hbody,htl1]
   simpa -dsimp -implicitDefEqProofs (disch:=first|omega|assumption) [E]using hT
end Go.Am.Ab
namespace Go.Am.Ab
open Go.Proofs
set_option maxHeartbeats 4000000
set_option maxRecDepth 4000
def zua (l:List Val) (hn:l.length<=256) (hok:l.any (zw1 3)=false) (hlo:l.any zkC=false):R 45 [.d (.int .u8 3),.d (.list (vs l))] []=some ([.arr 0 (zdh 3 l).length,E 0],[.arr 1 (bytes (zdh 3 l)) 0]):=by
 have hr:=zfJ 3 (by decide)
 have hd:decide (1<=3/\3<=3)=true:=rfl;rw[hd]at hr;simp only[ybX]at hr;have hkl:=zdb l;have htl:=zaz l;have hidx:=zii (zap l) (by omega)
 rw[<- zik]at hidx;have hfl:=zfL (zap l) (by omega)
 rw[<- zik]at hfl;have hbody:R 92 [.d (.list (zvT l l.length))] []=some ([.arr 0 (zcV (zcZ l)).length],[.arr 1 (bytes (zcV (zcZ l))) 0]):=by
  rw[zyf];exact zt3 (zcZ l) (zfO hlo) (by omega)
 have hfll:=zbO (l:=zap l) (by omega)
 have hbl:=zmz (zfO hlo) (by omega)
 have hC:zdh 3 l=zdl l++zcV (zcZ l):=rfl;rw[hC];obtain⟨bd,hbd⟩: ∃bd,bd=zcV (zcZ l):=⟨_,rfl⟩;rw[<- hbd]at hbody hbl ⊢;refine rg b45 rfl ?_;intro T hT;simp -dsimp -implicitDefEqProofs (disch:=first|omega|assumption) [hr]
 generalize hz:zaj _ _ _ _ _ _=z;revert z;refine zaa (σ:=Nat) (λi=>[(0,.d (.int .u8 3)),(1,.d (.list (vs l))),(26,.d (.list (vs l))),(27,.d (.int .i64 l.length)),(28,.d (.int .i64 i))]) (λi=>[]) (λi=>i<=l.length) (λi=>l.length - i) 0 ?_ ?_ ?_
 ·exact yai _
 ·simp -dsimp -implicitDefEqProofs (disch:=first|omega|assumption)
 intro T' f hT' i hi ih
 by_cases h1:i<l.length
 ·rcases ok3 hok h1 with hv | ⟨x,hv⟩
  ·simp -dsimp -implicitDefEqProofs (disch:=first|omega|assumption) [h1,hv,Val.d]
   exact ih (i+1) _ _ h1 (by omega) (by simp -dsimp -implicitDefEqProofs (disch:=first|omega|assumption))
  ·have hkd:=zb6 (.text x)
   simp only[Val.d,Val.kind]at hkd;simp only[ybX]at hkd;simp -dsimp -implicitDefEqProofs (disch:=first|omega|assumption) [h1,hv,hkd,Val.d]
   exact ih (i+1) _ _ h1 (by omega) (by simp -dsimp -implicitDefEqProofs (disch:=first|omega|assumption))
 obtain rfl:i=l.length:=by omega
 subst hT';clear ih hi h1;have h256: ¬ (256:Int)<l.length:=by omega
 simp -dsimp -implicitDefEqProofs (disch:=first|omega|assumption) [h256]
 generalize hz:zaj _ _ _ _ _ _=z;revert z;refine zaa (σ:=Nat) (λi=>[(0,.d (.int .u8 3)),(8,.arr 0 l.length),(9,.arr 1 0),(10,.arr 2 0),(11,.arr 3 (zvT l (i)).length),(47,.d (.list (vs l))),(48,.d (.int .i64 l.length)),(49,.d (.int .i64 (i:Nat)))]) (λi=>[.arr 1 (thD l (i)) 0,.arr 1 [] 0,.arr 1 [] 0,.arr 1 (zvT l (i)) 0]) (λi=>i<=l.length) (λi=>l.length - i) 0 ?_ ?_ ?_
 ·exact yai _
 ·simp -dsimp -implicitDefEqProofs (disch:=first|omega|assumption) [znz,zvW]
 intro T2 f2 hT2 i hi ih
 by_cases h1:i<l.length
 ·have hts:=zqW h1
  have hg:=zqV h1;have htl1:=zcc hi;have htl2:=zcc (l:=l) (i:=i+1) h1;have hps:=zvZ h1;have hpl:=zkF l i;rcases ok3 hok h1 with hv | ⟨x,hv⟩
  ·rw[hv]at hts hps
   simp only[ydh,yba,ycC,yaq]at hts hps;simp -dsimp -implicitDefEqProofs (disch:=first|omega|assumption) [h1,hv,Val.d,hg,htl1,hts]
   refine ih (i+1) _ _ h1 (by omega) ?_
   rw[hps];simp -dsimp -implicitDefEqProofs (disch:=first|omega|assumption)
  ·rw[hv]at hts hps
   simp only[ydh,reduceCtorEq,ycj,yda]at hts hps;have hx: ¬ (64:Int)<x.size:=by
    have:=List.any_eq_false.1 hlo _ (hv ▸ yam h1);simp[zkC]at this;omega
   simp -dsimp -implicitDefEqProofs (disch:=first|omega|assumption) [h1,hv,Val.d,hg,htl1,hts,hx]
   refine ih (i+1) _ _ h1 (by omega) ?_
   rw[hps];simp -dsimp -implicitDefEqProofs (disch:=first|omega|assumption)
 ·obtain rfl:i=l.length:=by omega
  have htl1:=zcc (yaf l.length);have hpl:=zkF l l.length;subst hT2
  by_cases hm:false∈zap l
  ·rw[zdl,yaj hm,show (1::za5 (zap l)++bd).length=1+(za5 (zap l)).length+bd.length by simp only[yad,yab];omega]at hT
   simp -dsimp -implicitDefEqProofs (disch:=first|omega|assumption) [hidx,hm,hfl,hbody,htl1]
   simpa -dsimp -implicitDefEqProofs (disch:=first|omega|assumption) [E]using hT
  ·rw[zdl,yag hm,show ([(0:UInt8)]++bd).length=1+bd.length by simp only[yab,ya5]]at hT
   simp -dsimp -implicitDefEqProofs (disch:=first|omega|assumption) [hidx,hm,hbody,htl1]
   simpa -dsimp -implicitDefEqProofs (disch:=first|omega|assumption) [E]using hT
end Go.Am.Ab
