/- Columns, written. -/
import Derived.Test.YtibdiacpdmhmnaaGreatDoorReadA
import Derived.Test.YtibdiacpdmhmnaaGreatDoorColA
set_option linter.all false
namespace Go.Am.Ab
open Go.Proofs
set_option maxHeartbeats 4000000
set_option maxRecDepth 4000
def zcD (l:List Val):List Int:=l.filterMap λv=>match v with | .whole n=>some n | _=>none
def zcn (l:List Val):List Bool:=l.filterMap λv=>match v with | .truth b=>some b | _=>none
def zdm (l:List Val):List ByteArray:=l.filterMap λv=>match v with | .text s=>some s | _=>none
def zav (l:List Val):List Bool:=l.map λv=>decide (v≠ .null)
def zA9 (k:Nat) (l:List Val):List UInt8:=if k=1 then zcs (zcD l) else if k=2 then zbl (zcn l) else zel (zdm l)
def zdQ (l:List Val):List UInt8:=if false∈zav l then 1::zbl (zav l) else [0]
def zeT (k:Nat) (l:List Val):List UInt8:=zdQ l++zA9 k l
def zuc (k:Nat) (v:Val):Bool:=decide (v≠ .null) && decide (v.kind≠k)
def zjg (v:Val):Bool:=match v with | .text s=>decide (64<s.size) | _=>false
def thD (l:List Val) (i:Nat):List D:=bs ((zav l).take i++List.replicate (l.length - i) false)
def zlC (l:List Val):thD l 0=List.replicate l.length (D.bool false):=by simp[thD]
def zaN (l:List Val):(zav l).length=l.length:=by simp[zav]
def zbV {l:List Val} {i:Nat} (h:i<=l.length):(thD l i).length=l.length:=by simp[thD,zaN];omega
def zhi (l:List Val):thD l l.length=bs (zav l):=by rw[thD,yaw (by rw[zaN];exact yab _)];simp
def zoE {l:List Val} {i:Nat} (h:i<l.length):(thD l i)[i]? =some (.bool false):=by
 have hl:((zav l).take i).length=i:=by rw[yao,zaN];omega
 rw[thD,yaz,yaj (by omega),hl,ya2,ycV,yah (by omega)]
 rfl
def zoF {l:List Val} {i:Nat} (h:i<l.length):(thD l i).set i (.bool (decide (l[i]≠ .null)))=thD l (i+1):=by
 have hl:((zav l).take i).length=i:=by rw[yao,zaN];omega
 have e:l.length - i=(l.length - (i+1))+1:=by omega
 have ht:i<(zav l).length:=by rw[zaN];exact h
 rw[thD,thD,<- yb0,e,yaN,ybg _ _ (by omega),hl,ya2,ycj,zap ht,yaq]
 congr 3;simp[zav]
def zte (l:List Val) (i:Nat):List D:=(zcD (l.take i)).map λn=> .int .i64 n
def ztf (l:List Val) (i:Nat):List D:=(zcn (l.take i)).map D.bool
def ztg (l:List Val) (i:Nat):List D:=(zdm (l.take i)).map D.str
def zth (l:List Val):zte l 0=[]:=rfl
def zti (l:List Val):ztf l 0=[]:=rfl
def ztj (l:List Val):ztg l 0=[]:=rfl
def ztk {l:List Val} {i:Nat} (h:i<l.length):zte l (i+1)=zte l i++(match l[i] with | .whole n=>[.int .i64 n] | _=>[]):=by
 unfold zte zcD;rw[zap h,yc6];cases l[i] <;> simp
def ztl {l:List Val} {i:Nat} (h:i<l.length):ztf l (i+1)=ztf l i++(match l[i] with | .truth b=>[.bool b] | _=>[]):=by
 unfold ztf zcn;rw[zap h,yc6];cases l[i] <;> simp
def ztm {l:List Val} {i:Nat} (h:i<l.length):ztg l (i+1)=ztg l i++(match l[i] with | .text s=>[.str s] | _=>[]):=by
 unfold ztg zdm;rw[zap h,yc6];cases l[i] <;> simp
def zjh (l:List Val) (i:Nat):(zte l i).length<=i:=by
 have:=ybM (λv:Val=>match v with | .whole n=>some n | _=>none) (l.take i)
 have h2:(l.take i).length<=i:=by simp;omega
 simp only[zte,zcD,yam];omega
def zji (l:List Val) (i:Nat):(ztf l i).length<=i:=by
 have:=ybM (λv:Val=>match v with | .truth b=>some b | _=>none) (l.take i)
 have h2:(l.take i).length<=i:=by simp;omega
 simp only[ztf,zcn,yam];omega
def zjj (l:List Val) (i:Nat):(ztg l i).length<=i:=by
 have:=ybM (λv:Val=>match v with | .text s=>some s | _=>none) (l.take i)
 have h2:(l.take i).length<=i:=by simp;omega
 simp only[ztg,zdm,yam];omega
def zvj (l:List Val):zte l l.length=(zcD l).map λn=> .int .i64 n:=by rw[zte,yaR]
def zvk (l:List Val):ztf l l.length=(zcn l).map D.bool:=by rw[ztf,yaR]
def zvl (l:List Val):ztg l l.length=(zdm l).map D.str:=by rw[ztg,yaR]
def zjk {l:List Val} (hl: ∀n,Val.whole n∈l->zal n): ∀n∈zcD l,zal n:=by
 intro n h;obtain⟨v,hv,e⟩:=List.mem_filterMap.1 h;cases v <;> simp at e;subst e;exact hl _ hv
def zh7 {l:List Val} (hl:l.any zjg=false): ∀s∈zdm l,s.size<=64:=by
 intro s h;obtain⟨v,hv,e⟩:=List.mem_filterMap.1 h;cases v <;> simp at e;subst e;have:=List.any_eq_false.1 hl _ hv;simpa[zjg]using this
def zdh (l:List Val):(zcD l).length<=l.length/\(zcn l).length<=l.length/\(zdm l).length<=l.length:=⟨ybM _ _,ybM _ _,ybM _ _⟩
def zbz {l:List Bool} (hn:l.length<=256):(zbl l).length<=2048:=zcH (by omega) (by simpa using hn)
def zkP {l:List ByteArray} (hl: ∀s∈l,s.size<=64) (hn:l.length<=256):(zel l).length<=100000:=by
 have h1:=zdP hl hn;have h2:(zfw l).length<=100000:=by simp only[zfw,yag];omega
 unfold zel;split
 ·omega
 ·exact h2
def ztn {k:Nat} {l:List Val} (h:l.any (zuc k)=false) {i:Nat} (hi:i<l.length):l[i]= .null\/l[i].kind=k:=by
 have:=List.any_eq_false.1 h _ (yal hi);simp only[zuc,yar,yaG,not_and,ydE]at this
 by_cases c:l[i]= .null
 ·exact .inl c
 ·exact .inr (this c)
def ok1 {l:List Val} (h:l.any (zuc 1)=false) {i:Nat} (hi:i<l.length):l[i]= .null\/ ∃n,l[i]= .whole n:=by
 rcases ztn h hi with e | e
 ·exact .inl e
 ·cases hv:l[i] <;> rw[hv]at e <;> simp[Val.kind]at e
  exact .inr ⟨_,rfl⟩
def ok2 {l:List Val} (h:l.any (zuc 2)=false) {i:Nat} (hi:i<l.length):l[i]= .null\/ ∃n,l[i]= .truth n:=by
 rcases ztn h hi with e | e
 ·exact .inl e
 ·cases hv:l[i] <;> rw[hv]at e <;> simp[Val.kind]at e
  exact .inr ⟨_,rfl⟩
def ok3 {l:List Val} (h:l.any (zuc 3)=false) {i:Nat} (hi:i<l.length):l[i]= .null\/ ∃n,l[i]= .text n:=by
 rcases ztn h hi with e | e
 ·exact .inl e
 ·cases hv:l[i] <;> rw[hv]at e <;> simp[Val.kind]at e
  exact .inr ⟨_,rfl⟩
end Go.Am.Ab
namespace Go.Am.Ab
open Go.Proofs
set_option maxHeartbeats 4000000
set_option maxRecDepth 4000
def zrr (l:List Val) (hn:l.length<=256) (hok:l.any (zuc 1)=false) (h64: ∀n,Val.whole n∈l->zal n):R 45 [.d (.int .u8 1),.d (.list (vs l))] []=some ([.arr 0 (zeT 1 l).length,E 0],[.arr 1 (bytes (zeT 1 l)) 0]):=by
 have hr:=zfb 1 (by decide)
 have hd:decide (1<=1/\1<=3)=true:=rfl;rw[hd]at hr;simp only[ybP]at hr;have hkl:=zdh l;have htl:=zaN l;have hidx:=zhh (zav l) (by omega)
 rw[<- zhi]at hidx;have hfl:=zfd (zav l) (by omega)
 rw[<- zhi]at hfl;have hbody:R 91 [.d (.list (zte l l.length))] []=some ([.arr 0 (zcs (zcD l)).length,.d (.bool true)],[.arr 1 (bytes (zcs (zcD l))) 0]):=by
  rw[zvj];exact ziZ (zcD l) (zjk h64) (by omega)
 have hfll:=zbz (l:=zav l) (by omega)
 have hbl:=zcN (zjk h64) (by omega)
 have hC:zeT 1 l=zdQ l++zcs (zcD l):=rfl;rw[hC];obtain⟨bd,hbd⟩: ∃bd,bd=zcs (zcD l):=⟨_,rfl⟩;rw[<- hbd]at hbody hbl ⊢;refine rg b45 rfl ?_;intro T hT;simp -dsimp -implicitDefEqProofs (disch:=first|omega|assumption) [hr]
 generalize hz:zad _ _ _ _ _ _=z;revert z;refine zaa (σ:=Nat) (λi=>[(0,.d (.int .u8 1)),(1,.d (.list (vs l))),(26,.d (.list (vs l))),(27,.d (.int .i64 l.length)),(28,.d (.int .i64 i))]) (λi=>[]) (λi=>i<=l.length) (λi=>l.length - i) 0 ?_ ?_ ?_
 ·exact yai _
 ·simp -dsimp -implicitDefEqProofs (disch:=first|omega|assumption)
 intro T' f hT' i hi ih
 by_cases h1:i<l.length
 ·rcases ok1 hok h1 with hv | ⟨x,hv⟩
  ·simp -dsimp -implicitDefEqProofs (disch:=first|omega|assumption) [h1,hv,Val.d]
   exact ih (i+1) _ _ h1 (by omega) (by simp -dsimp -implicitDefEqProofs (disch:=first|omega|assumption))
  ·have hkd:=zbP (.whole x)
   simp only[Val.d,Val.kind]at hkd;simp only[ybP]at hkd;simp -dsimp -implicitDefEqProofs (disch:=first|omega|assumption) [h1,hv,hkd,Val.d]
   exact ih (i+1) _ _ h1 (by omega) (by simp -dsimp -implicitDefEqProofs (disch:=first|omega|assumption))
 obtain rfl:i=l.length:=by omega
 subst hT';clear ih hi h1;have h256: ¬ (256:Int)<l.length:=by omega
 simp -dsimp -implicitDefEqProofs (disch:=first|omega|assumption) [h256]
 generalize hz:zad _ _ _ _ _ _=z;revert z;refine zaa (σ:=Nat) (λi=>[(0,.d (.int .u8 1)),(8,.arr 0 l.length),(9,.arr 1 (zte l (i)).length),(10,.arr 2 0),(11,.arr 3 0),(47,.d (.list (vs l))),(48,.d (.int .i64 l.length)),(49,.d (.int .i64 (i:Nat)))]) (λi=>[.arr 1 (thD l (i)) 0,.arr 1 (zte l (i)) 0,.arr 1 [] 0,.arr 1 [] 0]) (λi=>i<=l.length) (λi=>l.length - i) 0 ?_ ?_ ?_
 ·exact yai _
 ·simp -dsimp -implicitDefEqProofs (disch:=first|omega|assumption) [zlC,zth]
 intro T2 f2 hT2 i hi ih
 by_cases h1:i<l.length
 ·have hts:=zoF h1
  have hg:=zoE h1;have htl1:=zbV hi;have htl2:=zbV (l:=l) (i:=i+1) h1;have hps:=ztk h1;have hpl:=zjh l i;rcases ok1 hok h1 with hv | ⟨x,hv⟩
  ·rw[hv]at hts hps
   simp only[ydW,yb9,ycS,yau]at hts hps;simp -dsimp -implicitDefEqProofs (disch:=first|omega|assumption) [h1,hv,Val.d,hg,htl1,hts]
   refine ih (i+1) _ _ h1 (by omega) ?_
   rw[hps];simp -dsimp -implicitDefEqProofs (disch:=first|omega|assumption)
  ·rw[hv]at hts hps
   simp only[ydW,reduceCtorEq,yca,yc3]at hts hps;simp -dsimp -implicitDefEqProofs (disch:=first|omega|assumption) [h1,hv,Val.d,hg,htl1,hts]
   refine ih (i+1) _ _ h1 (by omega) ?_
   rw[hps];simp -dsimp -implicitDefEqProofs (disch:=first|omega|assumption)
 ·obtain rfl:i=l.length:=by omega
  have htl1:=zbV (yab l.length);have hpl:=zjh l l.length;subst hT2
  by_cases hm:false∈zav l
  ·rw[zdQ,yah hm,show (1::zbl (zav l)++bd).length=1+(zbl (zav l)).length+bd.length by simp only[yag,yaf];omega]at hT
   simp -dsimp -implicitDefEqProofs (disch:=first|omega|assumption) [hidx,hm,hfl,hbody,htl1]
   simpa -dsimp -implicitDefEqProofs (disch:=first|omega|assumption) [E]using hT
  ·rw[zdQ,yae hm,show ([(0:UInt8)]++bd).length=1+bd.length by simp only[yaf,ya3]]at hT
   simp -dsimp -implicitDefEqProofs (disch:=first|omega|assumption) [hidx,hm,hbody,htl1]
   simpa -dsimp -implicitDefEqProofs (disch:=first|omega|assumption) [E]using hT
end Go.Am.Ab
namespace Go.Am.Ab
open Go.Proofs
set_option maxHeartbeats 4000000
set_option maxRecDepth 4000
def zrs (l:List Val) (hn:l.length<=256) (hok:l.any (zuc 2)=false):R 45 [.d (.int .u8 2),.d (.list (vs l))] []=some ([.arr 0 (zeT 2 l).length,E 0],[.arr 1 (bytes (zeT 2 l)) 0]):=by
 have hr:=zfb 2 (by decide)
 have hd:decide (1<=2/\2<=3)=true:=rfl;rw[hd]at hr;simp only[ybP]at hr;have hkl:=zdh l;have htl:=zaN l;have hidx:=zhh (zav l) (by omega)
 rw[<- zhi]at hidx;have hfl:=zfd (zav l) (by omega)
 rw[<- zhi]at hfl;have hbody:R 90 [.d (.list (ztf l l.length))] []=some ([.arr 0 (zbl (zcn l)).length],[.arr 1 (bytes (zbl (zcn l))) 0]):=by
  rw[zvk];exact zfd (zcn l) (by omega)
 have hfll:=zbz (l:=zav l) (by omega)
 have hbl:=zbz (l:=zcn l) (by omega)
 have hC:zeT 2 l=zdQ l++zbl (zcn l):=rfl;rw[hC];obtain⟨bd,hbd⟩: ∃bd,bd=zbl (zcn l):=⟨_,rfl⟩;rw[<- hbd]at hbody hbl ⊢;refine rg b45 rfl ?_;intro T hT;simp -dsimp -implicitDefEqProofs (disch:=first|omega|assumption) [hr]
 generalize hz:zad _ _ _ _ _ _=z;revert z;refine zaa (σ:=Nat) (λi=>[(0,.d (.int .u8 2)),(1,.d (.list (vs l))),(26,.d (.list (vs l))),(27,.d (.int .i64 l.length)),(28,.d (.int .i64 i))]) (λi=>[]) (λi=>i<=l.length) (λi=>l.length - i) 0 ?_ ?_ ?_
 ·exact yai _
 ·simp -dsimp -implicitDefEqProofs (disch:=first|omega|assumption)
 intro T' f hT' i hi ih
 by_cases h1:i<l.length
 ·rcases ok2 hok h1 with hv | ⟨x,hv⟩
  ·simp -dsimp -implicitDefEqProofs (disch:=first|omega|assumption) [h1,hv,Val.d]
   exact ih (i+1) _ _ h1 (by omega) (by simp -dsimp -implicitDefEqProofs (disch:=first|omega|assumption))
  ·have hkd:=zbP (.truth x)
   simp only[Val.d,Val.kind]at hkd;simp only[ybP]at hkd;simp -dsimp -implicitDefEqProofs (disch:=first|omega|assumption) [h1,hv,hkd,Val.d]
   exact ih (i+1) _ _ h1 (by omega) (by simp -dsimp -implicitDefEqProofs (disch:=first|omega|assumption))
 obtain rfl:i=l.length:=by omega
 subst hT';clear ih hi h1;have h256: ¬ (256:Int)<l.length:=by omega
 simp -dsimp -implicitDefEqProofs (disch:=first|omega|assumption) [h256]
 generalize hz:zad _ _ _ _ _ _=z;revert z;refine zaa (σ:=Nat) (λi=>[(0,.d (.int .u8 2)),(8,.arr 0 l.length),(9,.arr 1 0),(10,.arr 2 (ztf l (i)).length),(11,.arr 3 0),(47,.d (.list (vs l))),(48,.d (.int .i64 l.length)),(49,.d (.int .i64 (i:Nat)))]) (λi=>[.arr 1 (thD l (i)) 0,.arr 1 [] 0,.arr 1 (ztf l (i)) 0,.arr 1 [] 0]) (λi=>i<=l.length) (λi=>l.length - i) 0 ?_ ?_ ?_
 ·exact yai _
 ·simp -dsimp -implicitDefEqProofs (disch:=first|omega|assumption) [zlC,zti]
 intro T2 f2 hT2 i hi ih
 by_cases h1:i<l.length
 ·have hts:=zoF h1
  have hg:=zoE h1;have htl1:=zbV hi;have htl2:=zbV (l:=l) (i:=i+1) h1;have hps:=ztl h1;have hpl:=zji l i;rcases ok2 hok h1 with hv | ⟨x,hv⟩
  ·rw[hv]at hts hps
   simp only[ydW,yb9,ycS,yau]at hts hps;simp -dsimp -implicitDefEqProofs (disch:=first|omega|assumption) [h1,hv,Val.d,hg,htl1,hts]
   refine ih (i+1) _ _ h1 (by omega) ?_
   rw[hps];simp -dsimp -implicitDefEqProofs (disch:=first|omega|assumption)
  ·rw[hv]at hts hps
   simp only[ydW,reduceCtorEq,yca,yc3]at hts hps;simp -dsimp -implicitDefEqProofs (disch:=first|omega|assumption) [h1,hv,Val.d,hg,htl1,hts]
   refine ih (i+1) _ _ h1 (by omega) ?_
   rw[hps];simp -dsimp -implicitDefEqProofs (disch:=first|omega|assumption)
 ·obtain rfl:i=l.length:=by omega
  have htl1:=zbV (yab l.length);have hpl:=zji l l.length;subst hT2
  by_cases hm:false∈zav l
  ·rw[zdQ,yah hm,show (1::zbl (zav l)++bd).length=1+(zbl (zav l)).length+bd.length by simp only[yag,yaf];omega]at hT
   simp -dsimp -implicitDefEqProofs (disch:=first|omega|assumption) [hidx,hm,hfl,hbody,htl1]
   simpa -dsimp -implicitDefEqProofs (disch:=first|omega|assumption) [E]using hT
  ·rw[zdQ,yae hm,show ([(0:UInt8)]++bd).length=1+bd.length by simp only[yaf,ya3]]at hT
   simp -dsimp -implicitDefEqProofs (disch:=first|omega|assumption) [hidx,hm,hbody,htl1]
   simpa -dsimp -implicitDefEqProofs (disch:=first|omega|assumption) [E]using hT
end Go.Am.Ab
namespace Go.Am.Ab
open Go.Proofs
set_option maxHeartbeats 4000000
set_option maxRecDepth 4000
def zrt (l:List Val) (hn:l.length<=256) (hok:l.any (zuc 3)=false) (hlo:l.any zjg=false):R 45 [.d (.int .u8 3),.d (.list (vs l))] []=some ([.arr 0 (zeT 3 l).length,E 0],[.arr 1 (bytes (zeT 3 l)) 0]):=by
 have hr:=zfb 3 (by decide)
 have hd:decide (1<=3/\3<=3)=true:=rfl;rw[hd]at hr;simp only[ybP]at hr;have hkl:=zdh l;have htl:=zaN l;have hidx:=zhh (zav l) (by omega)
 rw[<- zhi]at hidx;have hfl:=zfd (zav l) (by omega)
 rw[<- zhi]at hfl;have hbody:R 92 [.d (.list (ztg l l.length))] []=some ([.arr 0 (zel (zdm l)).length],[.arr 1 (bytes (zel (zdm l))) 0]):=by
  rw[zvl];exact zrm (zdm l) (zh7 hlo) (by omega)
 have hfll:=zbz (l:=zav l) (by omega)
 have hbl:=zkP (zh7 hlo) (by omega)
 have hC:zeT 3 l=zdQ l++zel (zdm l):=rfl;rw[hC];obtain⟨bd,hbd⟩: ∃bd,bd=zel (zdm l):=⟨_,rfl⟩;rw[<- hbd]at hbody hbl ⊢;refine rg b45 rfl ?_;intro T hT;simp -dsimp -implicitDefEqProofs (disch:=first|omega|assumption) [hr]
 generalize hz:zad _ _ _ _ _ _=z;revert z;refine zaa (σ:=Nat) (λi=>[(0,.d (.int .u8 3)),(1,.d (.list (vs l))),(26,.d (.list (vs l))),(27,.d (.int .i64 l.length)),(28,.d (.int .i64 i))]) (λi=>[]) (λi=>i<=l.length) (λi=>l.length - i) 0 ?_ ?_ ?_
 ·exact yai _
 ·simp -dsimp -implicitDefEqProofs (disch:=first|omega|assumption)
 intro T' f hT' i hi ih
 by_cases h1:i<l.length
 ·rcases ok3 hok h1 with hv | ⟨x,hv⟩
  ·simp -dsimp -implicitDefEqProofs (disch:=first|omega|assumption) [h1,hv,Val.d]
   exact ih (i+1) _ _ h1 (by omega) (by simp -dsimp -implicitDefEqProofs (disch:=first|omega|assumption))
  ·have hkd:=zbP (.text x)
   simp only[Val.d,Val.kind]at hkd;simp only[ybP]at hkd;simp -dsimp -implicitDefEqProofs (disch:=first|omega|assumption) [h1,hv,hkd,Val.d]
   exact ih (i+1) _ _ h1 (by omega) (by simp -dsimp -implicitDefEqProofs (disch:=first|omega|assumption))
 obtain rfl:i=l.length:=by omega
 subst hT';clear ih hi h1;have h256: ¬ (256:Int)<l.length:=by omega
 simp -dsimp -implicitDefEqProofs (disch:=first|omega|assumption) [h256]
 generalize hz:zad _ _ _ _ _ _=z;revert z;refine zaa (σ:=Nat) (λi=>[(0,.d (.int .u8 3)),(8,.arr 0 l.length),(9,.arr 1 0),(10,.arr 2 0),(11,.arr 3 (ztg l (i)).length),(47,.d (.list (vs l))),(48,.d (.int .i64 l.length)),(49,.d (.int .i64 (i:Nat)))]) (λi=>[.arr 1 (thD l (i)) 0,.arr 1 [] 0,.arr 1 [] 0,.arr 1 (ztg l (i)) 0]) (λi=>i<=l.length) (λi=>l.length - i) 0 ?_ ?_ ?_
 ·exact yai _
 ·simp -dsimp -implicitDefEqProofs (disch:=first|omega|assumption) [zlC,ztj]
 intro T2 f2 hT2 i hi ih
 by_cases h1:i<l.length
 ·have hts:=zoF h1
  have hg:=zoE h1;have htl1:=zbV hi;have htl2:=zbV (l:=l) (i:=i+1) h1;have hps:=ztm h1;have hpl:=zjj l i;rcases ok3 hok h1 with hv | ⟨x,hv⟩
  ·rw[hv]at hts hps
   simp only[ydW,yb9,ycS,yau]at hts hps;simp -dsimp -implicitDefEqProofs (disch:=first|omega|assumption) [h1,hv,Val.d,hg,htl1,hts]
   refine ih (i+1) _ _ h1 (by omega) ?_
   rw[hps];simp -dsimp -implicitDefEqProofs (disch:=first|omega|assumption)
  ·rw[hv]at hts hps
   simp only[ydW,reduceCtorEq,yca,yc3]at hts hps;have hx: ¬ (64:Int)<x.size:=by
    have:=List.any_eq_false.1 hlo _ (hv ▸ yal h1);simp[zjg]at this;omega
   simp -dsimp -implicitDefEqProofs (disch:=first|omega|assumption) [h1,hv,Val.d,hg,htl1,hts,hx]
   refine ih (i+1) _ _ h1 (by omega) ?_
   rw[hps];simp -dsimp -implicitDefEqProofs (disch:=first|omega|assumption)
 ·obtain rfl:i=l.length:=by omega
  have htl1:=zbV (yab l.length);have hpl:=zjj l l.length;subst hT2
  by_cases hm:false∈zav l
  ·rw[zdQ,yah hm,show (1::zbl (zav l)++bd).length=1+(zbl (zav l)).length+bd.length by simp only[yag,yaf];omega]at hT
   simp -dsimp -implicitDefEqProofs (disch:=first|omega|assumption) [hidx,hm,hfl,hbody,htl1]
   simpa -dsimp -implicitDefEqProofs (disch:=first|omega|assumption) [E]using hT
  ·rw[zdQ,yae hm,show ([(0:UInt8)]++bd).length=1+bd.length by simp only[yaf,ya3]]at hT
   simp -dsimp -implicitDefEqProofs (disch:=first|omega|assumption) [hidx,hm,hbody,htl1]
   simpa -dsimp -implicitDefEqProofs (disch:=first|omega|assumption) [E]using hT
end Go.Am.Ab
