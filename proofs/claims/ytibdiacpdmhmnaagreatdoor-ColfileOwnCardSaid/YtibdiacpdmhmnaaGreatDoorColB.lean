/- Columns, written. -/
import Derived.Test.YtibdiacpdmhmnaaGreatDoorColA
import Derived.Test.YtibdiacpdmhmnaaGreatDoorReadA
set_option linter.all false
namespace Go.Am.Ab
open Go.Proofs
set_option maxHeartbeats 4000000
set_option maxRecDepth 4000
def zcE (l:List Val):List Int:=l.filterMap λv=>match v with | .whole n=>some n | _=>none
def zcF (l:List Val):List Bool:=l.filterMap λv=>match v with | .truth b=>some b | _=>none
def zdK (l:List Val):List ByteArray:=l.filterMap λv=>match v with | .text s=>some s | _=>none
def zaI (l:List Val):List Bool:=l.map λv=>decide (v≠ .null)
def zmy (k:Nat) (l:List Val):List UInt8:=if k=1 then zb9 (zcE l) else if k=2 then zbM (zcF l) else zc1 (zdK l)
def zgb (l:List Val):List UInt8:=if false∈zaI l then 1::zbM (zaI l) else [0]
def zeu (k:Nat) (l:List Val):List UInt8:=zgb l++zmy k l
def zwc (k:Nat) (v:Val):Bool:=decide (v≠ .null) && decide (v.kind≠k)
def zn9 (v:Val):Bool:=match v with | .text s=>decide (64<s.size) | _=>false
def thD (l:List Val) (i:Nat):List D:=bs ((zaI l).take i++List.replicate (l.length - i) false)
def zmz (l:List Val):thD l 0=List.replicate l.length (D.bool false):=by simp[thD]
def zaN (l:List Val):(zaI l).length=l.length:=by simp[zaI]
def zb1 {l:List Val} {i:Nat} (h:i<=l.length):(thD l i).length=l.length:=by simp[thD,zaN];omega
def zhX (l:List Val):thD l l.length=bs (zaI l):=by rw[thD,yaB (by rw[zaN];exact yag _)];simp
def zpE {l:List Val} {i:Nat} (h:i<l.length):(thD l i)[i]? =some (.bool false):=by
 have hl:((zaI l).take i).length=i:=by rw[yat,zaN];omega
 rw[thD,yax,yah (by omega),hl,ya7,ycQ,yai (by omega)]
 rfl
def zpF {l:List Val} {i:Nat} (h:i<l.length):(thD l i).set i (.bool (decide (l[i]≠ .null)))=thD l (i+1):=by
 have hl:((zaI l).take i).length=i:=by rw[yat,zaN];omega
 have e:l.length - i=(l.length - (i+1))+1:=by omega
 have ht:i<(zaI l).length:=by rw[zaN];exact h
 rw[thD,thD,<- ybY,e,yaS,ybl _ _ (by omega),hl,ya7,ycV,zaM ht,yam]
 congr 3;simp[zaI]
def zuJ (l:List Val) (i:Nat):List D:=(zcE (l.take i)).map λn=> .int .i64 n
def zuK (l:List Val) (i:Nat):List D:=(zcF (l.take i)).map D.bool
def zuL (l:List Val) (i:Nat):List D:=(zdK (l.take i)).map D.str
def zuM (l:List Val):zuJ l 0=[]:=rfl
def zuN (l:List Val):zuK l 0=[]:=rfl
def zuO (l:List Val):zuL l 0=[]:=rfl
def zuP {l:List Val} {i:Nat} (h:i<l.length):zuJ l (i+1)=zuJ l i++(match l[i] with | .whole n=>[.int .i64 n] | _=>[]):=by
 unfold zuJ zcE;rw[zaM h,ydc];cases l[i] <;> simp
def zuQ {l:List Val} {i:Nat} (h:i<l.length):zuK l (i+1)=zuK l i++(match l[i] with | .truth b=>[.bool b] | _=>[]):=by
 unfold zuK zcF;rw[zaM h,ydc];cases l[i] <;> simp
def zuR {l:List Val} {i:Nat} (h:i<l.length):zuL l (i+1)=zuL l i++(match l[i] with | .text s=>[.str s] | _=>[]):=by
 unfold zuL zdK;rw[zaM h,ydc];cases l[i] <;> simp
def zj0 (l:List Val) (i:Nat):(zuJ l i).length<=i:=by
 have:=ybp (λv:Val=>match v with | .whole n=>some n | _=>none) (l.take i)
 have h2:(l.take i).length<=i:=by simp;omega
 simp only[zuJ,zcE,yak];omega
def zj1 (l:List Val) (i:Nat):(zuK l i).length<=i:=by
 have:=ybp (λv:Val=>match v with | .truth b=>some b | _=>none) (l.take i)
 have h2:(l.take i).length<=i:=by simp;omega
 simp only[zuK,zcF,yak];omega
def zj2 (l:List Val) (i:Nat):(zuL l i).length<=i:=by
 have:=ybp (λv:Val=>match v with | .text s=>some s | _=>none) (l.take i)
 have h2:(l.take i).length<=i:=by simp;omega
 simp only[zuL,zdK,yak];omega
def zxp (l:List Val):zuJ l l.length=(zcE l).map λn=> .int .i64 n:=by rw[zuJ,ybf]
def zxq (l:List Val):zuK l l.length=(zcF l).map D.bool:=by rw[zuK,ybf]
def zxr (l:List Val):zuL l l.length=(zdK l).map D.str:=by rw[zuL,ybf]
def zeU {l:List Val} (hl: ∀n,Val.whole n∈l->zaf n): ∀n∈zcE l,zaf n:=by
 intro n h;obtain⟨v,hv,e⟩:=List.mem_filterMap.1 h;cases v <;> simp at e;subst e;exact hl _ hv
def zg5 {l:List Val} (hl:l.any zn9=false): ∀s∈zdK l,s.size<=64:=by
 intro s h;obtain⟨v,hv,e⟩:=List.mem_filterMap.1 h;cases v <;> simp at e;subst e;have:=List.any_eq_false.1 hl _ hv;simpa[zn9]using this
def zeV (l:List Val):(zcE l).length<=l.length/\(zcF l).length<=l.length/\(zdK l).length<=l.length:=⟨ybp _ _,ybp _ _,ybp _ _⟩
def zc8 {l:List Bool} (hn:l.length<=256):(zbM l).length<=2048:=zdY (by omega) (by simpa using hn)
def zlJ {l:List ByteArray} (hl: ∀s∈l,s.size<=64) (hn:l.length<=256):(zc1 l).length<=100000:=by
 have h1:=zhT hl hn;have h2:(zfR l).length<=100000:=by simp only[zfR,yad];omega
 unfold zc1;split
 ·omega
 ·exact h2
def zuS {k:Nat} {l:List Val} (h:l.any (zwc k)=false) {i:Nat} (hi:i<l.length):l[i]= .null\/l[i].kind=k:=by
 have:=List.any_eq_false.1 h _ (yar hi);simp only[zwc,yas,yaA,not_and,ydM]at this
 by_cases c:l[i]= .null
 ·exact .inl c
 ·exact .inr (this c)
def ok1 {l:List Val} (h:l.any (zwc 1)=false) {i:Nat} (hi:i<l.length):l[i]= .null\/ ∃n,l[i]= .whole n:=by
 rcases zuS h hi with e | e
 ·exact .inl e
 ·cases hv:l[i] <;> rw[hv]at e <;> simp[Val.kind]at e
  exact .inr ⟨_,rfl⟩
def ok2 {l:List Val} (h:l.any (zwc 2)=false) {i:Nat} (hi:i<l.length):l[i]= .null\/ ∃n,l[i]= .truth n:=by
 rcases zuS h hi with e | e
 ·exact .inl e
 ·cases hv:l[i] <;> rw[hv]at e <;> simp[Val.kind]at e
  exact .inr ⟨_,rfl⟩
def ok3 {l:List Val} (h:l.any (zwc 3)=false) {i:Nat} (hi:i<l.length):l[i]= .null\/ ∃n,l[i]= .text n:=by
 rcases zuS h hi with e | e
 ·exact .inl e
 ·cases hv:l[i] <;> rw[hv]at e <;> simp[Val.kind]at e
  exact .inr ⟨_,rfl⟩
end Go.Am.Ab
namespace Go.Am.Ab
open Go.Proofs
set_option maxHeartbeats 4000000
set_option maxRecDepth 4000
def zsL (l:List Val) (hn:l.length<=256) (hok:l.any (zwc 1)=false) (h64: ∀n,Val.whole n∈l->zaf n):R 45 [.d (.int .u8 1),.d (.list (vs l))] []=some ([.arr 0 (zeu 1 l).length,E 0],[.arr 1 (bytes (zeu 1 l)) 0]):=by
 have hr:=zfp 1 (by decide)
 have hd:decide (1<=1/\1<=3)=true:=rfl;rw[hd]at hr;simp only[yb7]at hr;have hkl:=zeV l;have htl:=zaN l;have hidx:=zhQ (zaI l) (by omega)
 rw[<- zhX]at hidx;have hfl:=zfr (zaI l) (by omega)
 rw[<- zhX]at hfl;have hbody:R 91 [.d (.list (zuJ l l.length))] []=some ([.arr 0 (zb9 (zcE l)).length,.d (.bool true)],[.arr 1 (bytes (zb9 (zcE l))) 0]):=by
  rw[zxp];exact zjV (zcE l) (zeU h64) (by omega)
 have hfll:=zc8 (l:=zaI l) (by omega)
 have hbl:=zdZ (zeU h64) (by omega)
 have hC:zeu 1 l=zgb l++zb9 (zcE l):=rfl;rw[hC];obtain⟨bd,hbd⟩: ∃bd,bd=zb9 (zcE l):=⟨_,rfl⟩;rw[<- hbd]at hbody hbl ⊢;refine rg b45 rfl ?_;intro T hT;simp -dsimp -implicitDefEqProofs (disch:=first|omega|assumption) [hr]
 generalize hz:zak _ _ _ _ _ _=z;revert z;refine zaa (σ:=Nat) (λi=>[(0,.d (.int .u8 1)),(1,.d (.list (vs l))),(26,.d (.list (vs l))),(27,.d (.int .i64 l.length)),(28,.d (.int .i64 i))]) (λi=>[]) (λi=>i<=l.length) (λi=>l.length - i) 0 ?_ ?_ ?_
 ·exact yaj _
 ·simp -dsimp -implicitDefEqProofs (disch:=first|omega|assumption)
 intro T' f hT' i hi ih
 by_cases h1:i<l.length
 ·rcases ok1 hok h1 with hv | ⟨x,hv⟩
  ·simp -dsimp -implicitDefEqProofs (disch:=first|omega|assumption) [h1,hv,Val.d]
   exact ih (i+1) _ _ h1 (by omega) (by simp -dsimp -implicitDefEqProofs (disch:=first|omega|assumption))
  ·have hkd:=zbL (.whole x)
   simp only[Val.d,Val.kind]at hkd;simp only[yb7]at hkd;simp -dsimp -implicitDefEqProofs (disch:=first|omega|assumption) [h1,hv,hkd,Val.d]
   exact ih (i+1) _ _ h1 (by omega) (by simp -dsimp -implicitDefEqProofs (disch:=first|omega|assumption))
 obtain rfl:i=l.length:=by omega
 subst hT';clear ih hi h1;have h256: ¬ (256:Int)<l.length:=by omega
 simp -dsimp -implicitDefEqProofs (disch:=first|omega|assumption) [h256]
 generalize hz:zak _ _ _ _ _ _=z;revert z;refine zaa (σ:=Nat) (λi=>[(0,.d (.int .u8 1)),(8,.arr 0 l.length),(9,.arr 1 (zuJ l (i)).length),(10,.arr 2 0),(11,.arr 3 0),(47,.d (.list (vs l))),(48,.d (.int .i64 l.length)),(49,.d (.int .i64 (i:Nat)))]) (λi=>[.arr 1 (thD l (i)) 0,.arr 1 (zuJ l (i)) 0,.arr 1 [] 0,.arr 1 [] 0]) (λi=>i<=l.length) (λi=>l.length - i) 0 ?_ ?_ ?_
 ·exact yaj _
 ·simp -dsimp -implicitDefEqProofs (disch:=first|omega|assumption) [zmz,zuM]
 intro T2 f2 hT2 i hi ih
 by_cases h1:i<l.length
 ·have hts:=zpF h1
  have hg:=zpE h1;have htl1:=zb1 hi;have htl2:=zb1 (l:=l) (i:=i+1) h1;have hps:=zuP h1;have hpl:=zj0 l i;rcases ok1 hok h1 with hv | ⟨x,hv⟩
  ·rw[hv]at hts hps
   simp only[ydT,ybr,ydA,yaq]at hts hps;simp -dsimp -implicitDefEqProofs (disch:=first|omega|assumption) [h1,hv,Val.d,hg,htl1,hts]
   refine ih (i+1) _ _ h1 (by omega) ?_
   rw[hps];simp -dsimp -implicitDefEqProofs (disch:=first|omega|assumption)
  ·rw[hv]at hts hps
   simp only[ydT,reduceCtorEq,yc5,yd3]at hts hps;simp -dsimp -implicitDefEqProofs (disch:=first|omega|assumption) [h1,hv,Val.d,hg,htl1,hts]
   refine ih (i+1) _ _ h1 (by omega) ?_
   rw[hps];simp -dsimp -implicitDefEqProofs (disch:=first|omega|assumption)
 ·obtain rfl:i=l.length:=by omega
  have htl1:=zb1 (yag l.length);have hpl:=zj0 l l.length;subst hT2
  by_cases hm:false∈zaI l
  ·rw[zgb,yai hm,show (1::zbM (zaI l)++bd).length=1+(zbM (zaI l)).length+bd.length by simp only[yad,yae];omega]at hT
   simp -dsimp -implicitDefEqProofs (disch:=first|omega|assumption) [hidx,hm,hfl,hbody,htl1]
   simpa -dsimp -implicitDefEqProofs (disch:=first|omega|assumption) [E]using hT
  ·rw[zgb,yaf hm,show ([(0:UInt8)]++bd).length=1+bd.length by simp only[yae,ya2]]at hT
   simp -dsimp -implicitDefEqProofs (disch:=first|omega|assumption) [hidx,hm,hbody,htl1]
   simpa -dsimp -implicitDefEqProofs (disch:=first|omega|assumption) [E]using hT
end Go.Am.Ab
namespace Go.Am.Ab
open Go.Proofs
set_option maxHeartbeats 4000000
set_option maxRecDepth 4000
def zsM (l:List Val) (hn:l.length<=256) (hok:l.any (zwc 2)=false):R 45 [.d (.int .u8 2),.d (.list (vs l))] []=some ([.arr 0 (zeu 2 l).length,E 0],[.arr 1 (bytes (zeu 2 l)) 0]):=by
 have hr:=zfp 2 (by decide)
 have hd:decide (1<=2/\2<=3)=true:=rfl;rw[hd]at hr;simp only[yb7]at hr;have hkl:=zeV l;have htl:=zaN l;have hidx:=zhQ (zaI l) (by omega)
 rw[<- zhX]at hidx;have hfl:=zfr (zaI l) (by omega)
 rw[<- zhX]at hfl;have hbody:R 90 [.d (.list (zuK l l.length))] []=some ([.arr 0 (zbM (zcF l)).length],[.arr 1 (bytes (zbM (zcF l))) 0]):=by
  rw[zxq];exact zfr (zcF l) (by omega)
 have hfll:=zc8 (l:=zaI l) (by omega)
 have hbl:=zc8 (l:=zcF l) (by omega)
 have hC:zeu 2 l=zgb l++zbM (zcF l):=rfl;rw[hC];obtain⟨bd,hbd⟩: ∃bd,bd=zbM (zcF l):=⟨_,rfl⟩;rw[<- hbd]at hbody hbl ⊢;refine rg b45 rfl ?_;intro T hT;simp -dsimp -implicitDefEqProofs (disch:=first|omega|assumption) [hr]
 generalize hz:zak _ _ _ _ _ _=z;revert z;refine zaa (σ:=Nat) (λi=>[(0,.d (.int .u8 2)),(1,.d (.list (vs l))),(26,.d (.list (vs l))),(27,.d (.int .i64 l.length)),(28,.d (.int .i64 i))]) (λi=>[]) (λi=>i<=l.length) (λi=>l.length - i) 0 ?_ ?_ ?_
 ·exact yaj _
 ·simp -dsimp -implicitDefEqProofs (disch:=first|omega|assumption)
 intro T' f hT' i hi ih
 by_cases h1:i<l.length
 ·rcases ok2 hok h1 with hv | ⟨x,hv⟩
  ·simp -dsimp -implicitDefEqProofs (disch:=first|omega|assumption) [h1,hv,Val.d]
   exact ih (i+1) _ _ h1 (by omega) (by simp -dsimp -implicitDefEqProofs (disch:=first|omega|assumption))
  ·have hkd:=zbL (.truth x)
   simp only[Val.d,Val.kind]at hkd;simp only[yb7]at hkd;simp -dsimp -implicitDefEqProofs (disch:=first|omega|assumption) [h1,hv,hkd,Val.d]
   exact ih (i+1) _ _ h1 (by omega) (by simp -dsimp -implicitDefEqProofs (disch:=first|omega|assumption))
 obtain rfl:i=l.length:=by omega
 subst hT';clear ih hi h1;have h256: ¬ (256:Int)<l.length:=by omega
 simp -dsimp -implicitDefEqProofs (disch:=first|omega|assumption) [h256]
 generalize hz:zak _ _ _ _ _ _=z;revert z;refine zaa (σ:=Nat) (λi=>[(0,.d (.int .u8 2)),(8,.arr 0 l.length),(9,.arr 1 0),(10,.arr 2 (zuK l (i)).length),(11,.arr 3 0),(47,.d (.list (vs l))),(48,.d (.int .i64 l.length)),(49,.d (.int .i64 (i:Nat)))]) (λi=>[.arr 1 (thD l (i)) 0,.arr 1 [] 0,.arr 1 (zuK l (i)) 0,.arr 1 [] 0]) (λi=>i<=l.length) (λi=>l.length - i) 0 ?_ ?_ ?_
 ·exact yaj _
 ·simp -dsimp -implicitDefEqProofs (disch:=first|omega|assumption) [zmz,zuN]
 intro T2 f2 hT2 i hi ih
 by_cases h1:i<l.length
 ·have hts:=zpF h1
  have hg:=zpE h1;have htl1:=zb1 hi;have htl2:=zb1 (l:=l) (i:=i+1) h1;have hps:=zuQ h1;have hpl:=zj1 l i;rcases ok2 hok h1 with hv | ⟨x,hv⟩
  ·rw[hv]at hts hps
   simp only[ydT,ybr,ydA,yaq]at hts hps;simp -dsimp -implicitDefEqProofs (disch:=first|omega|assumption) [h1,hv,Val.d,hg,htl1,hts]
   refine ih (i+1) _ _ h1 (by omega) ?_
   rw[hps];simp -dsimp -implicitDefEqProofs (disch:=first|omega|assumption)
  ·rw[hv]at hts hps
   simp only[ydT,reduceCtorEq,yc5,yd3]at hts hps;simp -dsimp -implicitDefEqProofs (disch:=first|omega|assumption) [h1,hv,Val.d,hg,htl1,hts]
   refine ih (i+1) _ _ h1 (by omega) ?_
   rw[hps];simp -dsimp -implicitDefEqProofs (disch:=first|omega|assumption)
 ·obtain rfl:i=l.length:=by omega
  have htl1:=zb1 (yag l.length);have hpl:=zj1 l l.length;subst hT2
  by_cases hm:false∈zaI l
  ·rw[zgb,yai hm,show (1::zbM (zaI l)++bd).length=1+(zbM (zaI l)).length+bd.length by simp only[yad,yae];omega]at hT
   simp -dsimp -implicitDefEqProofs (disch:=first|omega|assumption) [hidx,hm,hfl,hbody,htl1]
   simpa -dsimp -implicitDefEqProofs (disch:=first|omega|assumption) [E]using hT
  ·rw[zgb,yaf hm,show ([(0:UInt8)]++bd).length=1+bd.length by simp only[yae,ya2]]at hT
   simp -dsimp -implicitDefEqProofs (disch:=first|omega|assumption) [hidx,hm,hbody,htl1]
   simpa -dsimp -implicitDefEqProofs (disch:=first|omega|assumption) [E]using hT
end Go.Am.Ab
namespace Go.Am.Ab
open Go.Proofs
set_option maxHeartbeats 4000000
set_option maxRecDepth 4000
def zsN (l:List Val) (hn:l.length<=256) (hok:l.any (zwc 3)=false) (hlo:l.any zn9=false):R 45 [.d (.int .u8 3),.d (.list (vs l))] []=some ([.arr 0 (zeu 3 l).length,E 0],[.arr 1 (bytes (zeu 3 l)) 0]):=by
 have hr:=zfp 3 (by decide)
 have hd:decide (1<=3/\3<=3)=true:=rfl;rw[hd]at hr;simp only[yb7]at hr;have hkl:=zeV l;have htl:=zaN l;have hidx:=zhQ (zaI l) (by omega)
 rw[<- zhX]at hidx;have hfl:=zfr (zaI l) (by omega)
 rw[<- zhX]at hfl;have hbody:R 92 [.d (.list (zuL l l.length))] []=some ([.arr 0 (zc1 (zdK l)).length],[.arr 1 (bytes (zc1 (zdK l))) 0]):=by
  rw[zxr];exact zsB (zdK l) (zg5 hlo) (by omega)
 have hfll:=zc8 (l:=zaI l) (by omega)
 have hbl:=zlJ (zg5 hlo) (by omega)
 have hC:zeu 3 l=zgb l++zc1 (zdK l):=rfl;rw[hC];obtain⟨bd,hbd⟩: ∃bd,bd=zc1 (zdK l):=⟨_,rfl⟩;rw[<- hbd]at hbody hbl ⊢;refine rg b45 rfl ?_;intro T hT;simp -dsimp -implicitDefEqProofs (disch:=first|omega|assumption) [hr]
 generalize hz:zak _ _ _ _ _ _=z;revert z;refine zaa (σ:=Nat) (λi=>[(0,.d (.int .u8 3)),(1,.d (.list (vs l))),(26,.d (.list (vs l))),(27,.d (.int .i64 l.length)),(28,.d (.int .i64 i))]) (λi=>[]) (λi=>i<=l.length) (λi=>l.length - i) 0 ?_ ?_ ?_
 ·exact yaj _
 ·simp -dsimp -implicitDefEqProofs (disch:=first|omega|assumption)
 intro T' f hT' i hi ih
 by_cases h1:i<l.length
 ·rcases ok3 hok h1 with hv | ⟨x,hv⟩
  ·simp -dsimp -implicitDefEqProofs (disch:=first|omega|assumption) [h1,hv,Val.d]
   exact ih (i+1) _ _ h1 (by omega) (by simp -dsimp -implicitDefEqProofs (disch:=first|omega|assumption))
  ·have hkd:=zbL (.text x)
   simp only[Val.d,Val.kind]at hkd;simp only[yb7]at hkd;simp -dsimp -implicitDefEqProofs (disch:=first|omega|assumption) [h1,hv,hkd,Val.d]
   exact ih (i+1) _ _ h1 (by omega) (by simp -dsimp -implicitDefEqProofs (disch:=first|omega|assumption))
 obtain rfl:i=l.length:=by omega
 subst hT';clear ih hi h1;have h256: ¬ (256:Int)<l.length:=by omega
 simp -dsimp -implicitDefEqProofs (disch:=first|omega|assumption) [h256]
 generalize hz:zak _ _ _ _ _ _=z;revert z;refine zaa (σ:=Nat) (λi=>[(0,.d (.int .u8 3)),(8,.arr 0 l.length),(9,.arr 1 0),(10,.arr 2 0),(11,.arr 3 (zuL l (i)).length),(47,.d (.list (vs l))),(48,.d (.int .i64 l.length)),(49,.d (.int .i64 (i:Nat)))]) (λi=>[.arr 1 (thD l (i)) 0,.arr 1 [] 0,.arr 1 [] 0,.arr 1 (zuL l (i)) 0]) (λi=>i<=l.length) (λi=>l.length - i) 0 ?_ ?_ ?_
 ·exact yaj _
 ·simp -dsimp -implicitDefEqProofs (disch:=first|omega|assumption) [zmz,zuO]
 intro T2 f2 hT2 i hi ih
 by_cases h1:i<l.length
 ·have hts:=zpF h1
  have hg:=zpE h1;have htl1:=zb1 hi;have htl2:=zb1 (l:=l) (i:=i+1) h1;have hps:=zuR h1;have hpl:=zj2 l i;rcases ok3 hok h1 with hv | ⟨x,hv⟩
  ·rw[hv]at hts hps
   simp only[ydT,ybr,ydA,yaq]at hts hps;simp -dsimp -implicitDefEqProofs (disch:=first|omega|assumption) [h1,hv,Val.d,hg,htl1,hts]
   refine ih (i+1) _ _ h1 (by omega) ?_
   rw[hps];simp -dsimp -implicitDefEqProofs (disch:=first|omega|assumption)
  ·rw[hv]at hts hps
   simp only[ydT,reduceCtorEq,yc5,yd3]at hts hps;have hx: ¬ (64:Int)<x.size:=by
    have:=List.any_eq_false.1 hlo _ (hv ▸ yar h1);simp[zn9]at this;omega
   simp -dsimp -implicitDefEqProofs (disch:=first|omega|assumption) [h1,hv,Val.d,hg,htl1,hts,hx]
   refine ih (i+1) _ _ h1 (by omega) ?_
   rw[hps];simp -dsimp -implicitDefEqProofs (disch:=first|omega|assumption)
 ·obtain rfl:i=l.length:=by omega
  have htl1:=zb1 (yag l.length);have hpl:=zj2 l l.length;subst hT2
  by_cases hm:false∈zaI l
  ·rw[zgb,yai hm,show (1::zbM (zaI l)++bd).length=1+(zbM (zaI l)).length+bd.length by simp only[yad,yae];omega]at hT
   simp -dsimp -implicitDefEqProofs (disch:=first|omega|assumption) [hidx,hm,hfl,hbody,htl1]
   simpa -dsimp -implicitDefEqProofs (disch:=first|omega|assumption) [E]using hT
  ·rw[zgb,yaf hm,show ([(0:UInt8)]++bd).length=1+bd.length by simp only[yae,ya2]]at hT
   simp -dsimp -implicitDefEqProofs (disch:=first|omega|assumption) [hidx,hm,hbody,htl1]
   simpa -dsimp -implicitDefEqProofs (disch:=first|omega|assumption) [E]using hT
end Go.Am.Ab
