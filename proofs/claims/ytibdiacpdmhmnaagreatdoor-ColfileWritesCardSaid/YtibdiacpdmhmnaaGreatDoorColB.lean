/- Columns, written. -/
import Derived.Test.YtibdiacpdmhmnaaGreatDoorColA
import Derived.Test.YtibdiacpdmhmnaaGreatDoorReadA
set_option linter.all false
namespace Go.Am.Ab
open Go.Proofs
set_option maxHeartbeats 4000000
set_option maxRecDepth 4000
def zcj (l:List Val):List Int:=l.filterMap λv=>match v with | .whole n=>some n | _=>none
def zb6 (l:List Val):List Bool:=l.filterMap λv=>match v with | .truth b=>some b | _=>none
def zcT (l:List Val):List ByteArray:=l.filterMap λv=>match v with | .text s=>some s | _=>none
def zav (l:List Val):List Bool:=l.map λv=>decide (v≠ .null)
def zwT (k:Nat) (l:List Val):List UInt8:=if k=1 then zca (zcj l) else if k=2 then za8 (zb6 l) else zdE (zcT l)
def zdj (l:List Val):List UInt8:=if false∈zav l then 1::za8 (zav l) else [0]
def zeH (k:Nat) (l:List Val):List UInt8:=zdj l++zwT k l
def zqq (k:Nat) (v:Val):Bool:=decide (v≠ .null) && decide (v.kind≠k)
def zhz (v:Val):Bool:=match v with | .text s=>decide (64<s.size) | _=>false
def thD (l:List Val) (i:Nat):List D:=bs ((zav l).take i++List.replicate (l.length - i) false)
def zjl (l:List Val):thD l 0=List.replicate l.length (D.bool false):=by simp[thD]
def zaF (l:List Val):(zav l).length=l.length:=by simp[zav]
def zbJ {l:List Val} {i:Nat} (h:i<=l.length):(thD l i).length=l.length:=by simp[thD,zaF];omega
def zfT (l:List Val):thD l l.length=bs (zav l):=by rw[thD,List.take_of_length_le (by rw[zaF];exact Nat.le_refl _)];simp
def zlU {l:List Val} {i:Nat} (h:i<l.length):(thD l i)[i]? =some (.bool false):=by
 have hl:((zav l).take i).length=i:=by rw[List.length_take,zaF];omega
 rw[thD,List.getElem?_map,List.getElem?_append_right (by omega),hl,Nat.sub_self,List.getElem?_replicate,if_pos (by omega)]
 rfl
def zlV {l:List Val} {i:Nat} (h:i<l.length):(thD l i).set i (.bool (decide (l[i]≠ .null)))=thD l (i+1):=by
 have hl:((zav l).take i).length=i:=by rw[List.length_take,zaF];omega
 have e:l.length - i=(l.length - (i+1))+1:=by omega
 have ht:i<(zav l).length:=by rw[zaF];exact h
 rw[thD,thD,<- List.map_set,e,List.replicate_succ,List.set_append_right _ _ (by omega),hl,Nat.sub_self,List.set_cons_zero,zaq ht,List.append_assoc]
 congr 3;simp[zav]
def zpA (l:List Val) (i:Nat):List D:=(zcj (l.take i)).map λn=> .int .i64 n
def zpB (l:List Val) (i:Nat):List D:=(zb6 (l.take i)).map D.bool
def zpC (l:List Val) (i:Nat):List D:=(zcT (l.take i)).map D.str
def zpD (l:List Val):zpA l 0=[]:=rfl
def zpE (l:List Val):zpB l 0=[]:=rfl
def zpF (l:List Val):zpC l 0=[]:=rfl
def zpG {l:List Val} {i:Nat} (h:i<l.length):zpA l (i+1)=zpA l i++(match l[i] with | .whole n=>[.int .i64 n] | _=>[]):=by
 unfold zpA zcj;rw[zaq h,List.filterMap_append];cases l[i] <;> simp
def zpH {l:List Val} {i:Nat} (h:i<l.length):zpB l (i+1)=zpB l i++(match l[i] with | .truth b=>[.bool b] | _=>[]):=by
 unfold zpB zb6;rw[zaq h,List.filterMap_append];cases l[i] <;> simp
def zpI {l:List Val} {i:Nat} (h:i<l.length):zpC l (i+1)=zpC l i++(match l[i] with | .text s=>[.str s] | _=>[]):=by
 unfold zpC zcT;rw[zaq h,List.filterMap_append];cases l[i] <;> simp
def zhA (l:List Val) (i:Nat):(zpA l i).length<=i:=by
 have:=List.length_filterMap_le (λv:Val=>match v with | .whole n=>some n | _=>none) (l.take i)
 have h2:(l.take i).length<=i:=by simp;omega
 simp only[zpA,zcj,List.length_map];omega
def zhB (l:List Val) (i:Nat):(zpB l i).length<=i:=by
 have:=List.length_filterMap_le (λv:Val=>match v with | .truth b=>some b | _=>none) (l.take i)
 have h2:(l.take i).length<=i:=by simp;omega
 simp only[zpB,zb6,List.length_map];omega
def zhC (l:List Val) (i:Nat):(zpC l i).length<=i:=by
 have:=List.length_filterMap_le (λv:Val=>match v with | .text s=>some s | _=>none) (l.take i)
 have h2:(l.take i).length<=i:=by simp;omega
 simp only[zpC,zcT,List.length_map];omega
def zrw (l:List Val):zpA l l.length=(zcj l).map λn=> .int .i64 n:=by rw[zpA,List.take_length]
def zrx (l:List Val):zpB l l.length=(zb6 l).map D.bool:=by rw[zpB,List.take_length]
def zry (l:List Val):zpC l l.length=(zcT l).map D.str:=by rw[zpC,List.take_length]
def zhD {l:List Val} (hl: ∀n,Val.whole n∈l->zat n): ∀n∈zcj l,zat n:=by
 intro n h;obtain⟨v,hv,e⟩:=List.mem_filterMap.1 h;cases v <;> simp at e;subst e;exact hl _ hv
def zgA {l:List Val} (hl:l.any zhz=false): ∀s∈zcT l,s.size<=64:=by
 intro s h;obtain⟨v,hv,e⟩:=List.mem_filterMap.1 h;cases v <;> simp at e;subst e;have:=List.any_eq_false.1 hl _ hv;simpa[zhz]using this
def zcQ (l:List Val):(zcj l).length<=l.length/\(zb6 l).length<=l.length/\(zcT l).length<=l.length:=⟨List.length_filterMap_le _ _,List.length_filterMap_le _ _,List.length_filterMap_le _ _⟩
def zbn {l:List Bool} (hn:l.length<=256):(za8 l).length<=2048:=zco (by omega) (by simpa using hn)
def ziO {l:List ByteArray} (hl: ∀s∈l,s.size<=64) (hn:l.length<=256):(zdE l).length<=100000:=by
 have h1:=zdi hl hn;have h2:(zeq l).length<=100000:=by simp only[zeq,List.length_cons];omega
 unfold zdE;split
 ·omega
 ·exact h2
def zpJ {k:Nat} {l:List Val} (h:l.any (zqq k)=false) {i:Nat} (hi:i<l.length):l[i]= .null\/l[i].kind=k:=by
 have:=List.any_eq_false.1 h _ (List.getElem_mem hi);simp only[zqq,Bool.and_eq_true,decide_eq_true_eq,not_and,Decidable.not_not]at this
 by_cases c:l[i]= .null
 ·exact .inl c
 ·exact .inr (this c)
def ok1 {l:List Val} (h:l.any (zqq 1)=false) {i:Nat} (hi:i<l.length):l[i]= .null\/ ∃n,l[i]= .whole n:=by
 rcases zpJ h hi with e | e
 ·exact .inl e
 ·cases hv:l[i] <;> rw[hv]at e <;> simp[Val.kind]at e
  exact .inr ⟨_,rfl⟩
def ok2 {l:List Val} (h:l.any (zqq 2)=false) {i:Nat} (hi:i<l.length):l[i]= .null\/ ∃n,l[i]= .truth n:=by
 rcases zpJ h hi with e | e
 ·exact .inl e
 ·cases hv:l[i] <;> rw[hv]at e <;> simp[Val.kind]at e
  exact .inr ⟨_,rfl⟩
def ok3 {l:List Val} (h:l.any (zqq 3)=false) {i:Nat} (hi:i<l.length):l[i]= .null\/ ∃n,l[i]= .text n:=by
 rcases zpJ h hi with e | e
 ·exact .inl e
 ·cases hv:l[i] <;> rw[hv]at e <;> simp[Val.kind]at e
  exact .inr ⟨_,rfl⟩
end Go.Am.Ab
namespace Go.Am.Ab
open Go.Proofs
set_option maxHeartbeats 4000000
set_option maxRecDepth 4000
def zn9 (l:List Val) (hn:l.length<=256) (hok:l.any (zqq 1)=false) (h64: ∀n,Val.whole n∈l->zat n):R 45 [.d (.int .u8 1),.d (.list (vs l))] []=some ([.arr 0 (zeH 1 l).length,E 0],[.arr 1 (bytes (zeH 1 l)) 0]):=by
 have hr:=zfM 1 (by decide)
 have hd:decide (1<=1/\1<=3)=true:=rfl;rw[hd]at hr;simp only[Int.cast_ofNat_Int]at hr;have hkl:=zcQ l;have htl:=zaF l;have hidx:=zfS (zav l) (by omega)
 rw[<- zfT]at hidx;have hfl:=zec (zav l) (by omega)
 rw[<- zfT]at hfl;have hbody:R 91 [.d (.list (zpA l l.length))] []=some ([.arr 0 (zca (zcj l)).length,.d (.bool true)],[.arr 1 (bytes (zca (zcj l))) 0]):=by
  rw[zrw];exact zhu (zcj l) (zhD h64) (by omega)
 have hfll:=zbn (l:=zav l) (by omega)
 have hbl:=zcv (zhD h64) (by omega)
 have hC:zeH 1 l=zdj l++zca (zcj l):=rfl;rw[hC];obtain⟨bd,hbd⟩: ∃bd,bd=zca (zcj l):=⟨_,rfl⟩;rw[<- hbd]at hbody hbl ⊢;refine rg b45 rfl ?_;intro T hT;simp -dsimp -implicitDefEqProofs (disch:=first|omega|assumption) [hr]
 generalize hz:zaf _ _ _ _ _ _=z;revert z;refine zaa (σ:=Nat) (λi=>[(0,.d (.int .u8 1)),(1,.d (.list (vs l))),(26,.d (.list (vs l))),(27,.d (.int .i64 l.length)),(28,.d (.int .i64 i))]) (λi=>[]) (λi=>i<=l.length) (λi=>l.length - i) 0 ?_ ?_ ?_
 ·exact Nat.zero_le _
 ·simp -dsimp -implicitDefEqProofs (disch:=first|omega|assumption)
 intro T' f hT' i hi ih
 by_cases h1:i<l.length
 ·rcases ok1 hok h1 with hv | ⟨x,hv⟩
  ·simp -dsimp -implicitDefEqProofs (disch:=first|omega|assumption) [h1,hv,Val.d]
   exact ih (i+1) _ _ h1 (by omega) (by simp -dsimp -implicitDefEqProofs (disch:=first|omega|assumption))
  ·have hkd:=zbE (.whole x)
   simp only[Val.d,Val.kind]at hkd;simp only[Int.cast_ofNat_Int]at hkd;simp -dsimp -implicitDefEqProofs (disch:=first|omega|assumption) [h1,hv,hkd,Val.d]
   exact ih (i+1) _ _ h1 (by omega) (by simp -dsimp -implicitDefEqProofs (disch:=first|omega|assumption))
 obtain rfl:i=l.length:=by omega
 subst hT';clear ih hi h1;have h256: ¬ (256:Int)<l.length:=by omega
 simp -dsimp -implicitDefEqProofs (disch:=first|omega|assumption) [h256]
 generalize hz:zaf _ _ _ _ _ _=z;revert z;refine zaa (σ:=Nat) (λi=>[(0,.d (.int .u8 1)),(8,.arr 0 l.length),(9,.arr 1 (zpA l (i)).length),(10,.arr 2 0),(11,.arr 3 0),(47,.d (.list (vs l))),(48,.d (.int .i64 l.length)),(49,.d (.int .i64 (i:Nat)))]) (λi=>[.arr 1 (thD l (i)) 0,.arr 1 (zpA l (i)) 0,.arr 1 [] 0,.arr 1 [] 0]) (λi=>i<=l.length) (λi=>l.length - i) 0 ?_ ?_ ?_
 ·exact Nat.zero_le _
 ·simp -dsimp -implicitDefEqProofs (disch:=first|omega|assumption) [zjl,zpD]
 intro T2 f2 hT2 i hi ih
 by_cases h1:i<l.length
 ·have hts:=zlV h1
  have hg:=zlU h1;have htl1:=zbJ hi;have htl2:=zbJ (l:=l) (i:=i+1) h1;have hps:=zpG h1;have hpl:=zhA l i;rcases ok1 hok h1 with hv | ⟨x,hv⟩
  ·rw[hv]at hts hps
   simp only[ne_eq,not_true_eq_false,decide_false,List.append_nil]at hts hps;simp -dsimp -implicitDefEqProofs (disch:=first|omega|assumption) [h1,hv,Val.d,hg,htl1,hts]
   refine ih (i+1) _ _ h1 (by omega) ?_
   rw[hps];simp -dsimp -implicitDefEqProofs (disch:=first|omega|assumption)
  ·rw[hv]at hts hps
   simp only[ne_eq,reduceCtorEq,not_false_eq_true,decide_true]at hts hps;simp -dsimp -implicitDefEqProofs (disch:=first|omega|assumption) [h1,hv,Val.d,hg,htl1,hts]
   refine ih (i+1) _ _ h1 (by omega) ?_
   rw[hps];simp -dsimp -implicitDefEqProofs (disch:=first|omega|assumption)
 ·obtain rfl:i=l.length:=by omega
  have htl1:=zbJ (Nat.le_refl l.length);have hpl:=zhA l l.length;subst hT2
  by_cases hm:false∈zav l
  ·rw[zdj,if_pos hm,show (1::za8 (zav l)++bd).length=1+(za8 (zav l)).length+bd.length by simp only[List.length_cons,List.length_append];omega]at hT
   simp -dsimp -implicitDefEqProofs (disch:=first|omega|assumption) [hidx,hm,hfl,hbody,htl1]
   simpa -dsimp -implicitDefEqProofs (disch:=first|omega|assumption) [E]using hT
  ·rw[zdj,if_neg hm,show ([(0:UInt8)]++bd).length=1+bd.length by simp only[List.length_append,List.length_singleton]]at hT
   simp -dsimp -implicitDefEqProofs (disch:=first|omega|assumption) [hidx,hm,hbody,htl1]
   simpa -dsimp -implicitDefEqProofs (disch:=first|omega|assumption) [E]using hT
end Go.Am.Ab
namespace Go.Am.Ab
open Go.Proofs
set_option maxHeartbeats 4000000
set_option maxRecDepth 4000
def zoa (l:List Val) (hn:l.length<=256) (hok:l.any (zqq 2)=false):R 45 [.d (.int .u8 2),.d (.list (vs l))] []=some ([.arr 0 (zeH 2 l).length,E 0],[.arr 1 (bytes (zeH 2 l)) 0]):=by
 have hr:=zfM 2 (by decide)
 have hd:decide (1<=2/\2<=3)=true:=rfl;rw[hd]at hr;simp only[Int.cast_ofNat_Int]at hr;have hkl:=zcQ l;have htl:=zaF l;have hidx:=zfS (zav l) (by omega)
 rw[<- zfT]at hidx;have hfl:=zec (zav l) (by omega)
 rw[<- zfT]at hfl;have hbody:R 90 [.d (.list (zpB l l.length))] []=some ([.arr 0 (za8 (zb6 l)).length],[.arr 1 (bytes (za8 (zb6 l))) 0]):=by
  rw[zrx];exact zec (zb6 l) (by omega)
 have hfll:=zbn (l:=zav l) (by omega)
 have hbl:=zbn (l:=zb6 l) (by omega)
 have hC:zeH 2 l=zdj l++za8 (zb6 l):=rfl;rw[hC];obtain⟨bd,hbd⟩: ∃bd,bd=za8 (zb6 l):=⟨_,rfl⟩;rw[<- hbd]at hbody hbl ⊢;refine rg b45 rfl ?_;intro T hT;simp -dsimp -implicitDefEqProofs (disch:=first|omega|assumption) [hr]
 generalize hz:zaf _ _ _ _ _ _=z;revert z;refine zaa (σ:=Nat) (λi=>[(0,.d (.int .u8 2)),(1,.d (.list (vs l))),(26,.d (.list (vs l))),(27,.d (.int .i64 l.length)),(28,.d (.int .i64 i))]) (λi=>[]) (λi=>i<=l.length) (λi=>l.length - i) 0 ?_ ?_ ?_
 ·exact Nat.zero_le _
 ·simp -dsimp -implicitDefEqProofs (disch:=first|omega|assumption)
 intro T' f hT' i hi ih
 by_cases h1:i<l.length
 ·rcases ok2 hok h1 with hv | ⟨x,hv⟩
  ·simp -dsimp -implicitDefEqProofs (disch:=first|omega|assumption) [h1,hv,Val.d]
   exact ih (i+1) _ _ h1 (by omega) (by simp -dsimp -implicitDefEqProofs (disch:=first|omega|assumption))
  ·have hkd:=zbE (.truth x)
   simp only[Val.d,Val.kind]at hkd;simp only[Int.cast_ofNat_Int]at hkd;simp -dsimp -implicitDefEqProofs (disch:=first|omega|assumption) [h1,hv,hkd,Val.d]
   exact ih (i+1) _ _ h1 (by omega) (by simp -dsimp -implicitDefEqProofs (disch:=first|omega|assumption))
 obtain rfl:i=l.length:=by omega
 subst hT';clear ih hi h1;have h256: ¬ (256:Int)<l.length:=by omega
 simp -dsimp -implicitDefEqProofs (disch:=first|omega|assumption) [h256]
 generalize hz:zaf _ _ _ _ _ _=z;revert z;refine zaa (σ:=Nat) (λi=>[(0,.d (.int .u8 2)),(8,.arr 0 l.length),(9,.arr 1 0),(10,.arr 2 (zpB l (i)).length),(11,.arr 3 0),(47,.d (.list (vs l))),(48,.d (.int .i64 l.length)),(49,.d (.int .i64 (i:Nat)))]) (λi=>[.arr 1 (thD l (i)) 0,.arr 1 [] 0,.arr 1 (zpB l (i)) 0,.arr 1 [] 0]) (λi=>i<=l.length) (λi=>l.length - i) 0 ?_ ?_ ?_
 ·exact Nat.zero_le _
 ·simp -dsimp -implicitDefEqProofs (disch:=first|omega|assumption) [zjl,zpE]
 intro T2 f2 hT2 i hi ih
 by_cases h1:i<l.length
 ·have hts:=zlV h1
  have hg:=zlU h1;have htl1:=zbJ hi;have htl2:=zbJ (l:=l) (i:=i+1) h1;have hps:=zpH h1;have hpl:=zhB l i;rcases ok2 hok h1 with hv | ⟨x,hv⟩
  ·rw[hv]at hts hps
   simp only[ne_eq,not_true_eq_false,decide_false,List.append_nil]at hts hps;simp -dsimp -implicitDefEqProofs (disch:=first|omega|assumption) [h1,hv,Val.d,hg,htl1,hts]
   refine ih (i+1) _ _ h1 (by omega) ?_
   rw[hps];simp -dsimp -implicitDefEqProofs (disch:=first|omega|assumption)
  ·rw[hv]at hts hps
   simp only[ne_eq,reduceCtorEq,not_false_eq_true,decide_true]at hts hps;simp -dsimp -implicitDefEqProofs (disch:=first|omega|assumption) [h1,hv,Val.d,hg,htl1,hts]
   refine ih (i+1) _ _ h1 (by omega) ?_
   rw[hps];simp -dsimp -implicitDefEqProofs (disch:=first|omega|assumption)
 ·obtain rfl:i=l.length:=by omega
  have htl1:=zbJ (Nat.le_refl l.length);have hpl:=zhB l l.length;subst hT2
  by_cases hm:false∈zav l
  ·rw[zdj,if_pos hm,show (1::za8 (zav l)++bd).length=1+(za8 (zav l)).length+bd.length by simp only[List.length_cons,List.length_append];omega]at hT
   simp -dsimp -implicitDefEqProofs (disch:=first|omega|assumption) [hidx,hm,hfl,hbody,htl1]
   simpa -dsimp -implicitDefEqProofs (disch:=first|omega|assumption) [E]using hT
  ·rw[zdj,if_neg hm,show ([(0:UInt8)]++bd).length=1+bd.length by simp only[List.length_append,List.length_singleton]]at hT
   simp -dsimp -implicitDefEqProofs (disch:=first|omega|assumption) [hidx,hm,hbody,htl1]
   simpa -dsimp -implicitDefEqProofs (disch:=first|omega|assumption) [E]using hT
end Go.Am.Ab
namespace Go.Am.Ab
open Go.Proofs
set_option maxHeartbeats 4000000
set_option maxRecDepth 4000
def zob (l:List Val) (hn:l.length<=256) (hok:l.any (zqq 3)=false) (hlo:l.any zhz=false):R 45 [.d (.int .u8 3),.d (.list (vs l))] []=some ([.arr 0 (zeH 3 l).length,E 0],[.arr 1 (bytes (zeH 3 l)) 0]):=by
 have hr:=zfM 3 (by decide)
 have hd:decide (1<=3/\3<=3)=true:=rfl;rw[hd]at hr;simp only[Int.cast_ofNat_Int]at hr;have hkl:=zcQ l;have htl:=zaF l;have hidx:=zfS (zav l) (by omega)
 rw[<- zfT]at hidx;have hfl:=zec (zav l) (by omega)
 rw[<- zfT]at hfl;have hbody:R 92 [.d (.list (zpC l l.length))] []=some ([.arr 0 (zdE (zcT l)).length],[.arr 1 (bytes (zdE (zcT l))) 0]):=by
  rw[zry];exact zn7 (zcT l) (zgA hlo) (by omega)
 have hfll:=zbn (l:=zav l) (by omega)
 have hbl:=ziO (zgA hlo) (by omega)
 have hC:zeH 3 l=zdj l++zdE (zcT l):=rfl;rw[hC];obtain⟨bd,hbd⟩: ∃bd,bd=zdE (zcT l):=⟨_,rfl⟩;rw[<- hbd]at hbody hbl ⊢;refine rg b45 rfl ?_;intro T hT;simp -dsimp -implicitDefEqProofs (disch:=first|omega|assumption) [hr]
 generalize hz:zaf _ _ _ _ _ _=z;revert z;refine zaa (σ:=Nat) (λi=>[(0,.d (.int .u8 3)),(1,.d (.list (vs l))),(26,.d (.list (vs l))),(27,.d (.int .i64 l.length)),(28,.d (.int .i64 i))]) (λi=>[]) (λi=>i<=l.length) (λi=>l.length - i) 0 ?_ ?_ ?_
 ·exact Nat.zero_le _
 ·simp -dsimp -implicitDefEqProofs (disch:=first|omega|assumption)
 intro T' f hT' i hi ih
 by_cases h1:i<l.length
 ·rcases ok3 hok h1 with hv | ⟨x,hv⟩
  ·simp -dsimp -implicitDefEqProofs (disch:=first|omega|assumption) [h1,hv,Val.d]
   exact ih (i+1) _ _ h1 (by omega) (by simp -dsimp -implicitDefEqProofs (disch:=first|omega|assumption))
  ·have hkd:=zbE (.text x)
   simp only[Val.d,Val.kind]at hkd;simp only[Int.cast_ofNat_Int]at hkd;simp -dsimp -implicitDefEqProofs (disch:=first|omega|assumption) [h1,hv,hkd,Val.d]
   exact ih (i+1) _ _ h1 (by omega) (by simp -dsimp -implicitDefEqProofs (disch:=first|omega|assumption))
 obtain rfl:i=l.length:=by omega
 subst hT';clear ih hi h1;have h256: ¬ (256:Int)<l.length:=by omega
 simp -dsimp -implicitDefEqProofs (disch:=first|omega|assumption) [h256]
 generalize hz:zaf _ _ _ _ _ _=z;revert z;refine zaa (σ:=Nat) (λi=>[(0,.d (.int .u8 3)),(8,.arr 0 l.length),(9,.arr 1 0),(10,.arr 2 0),(11,.arr 3 (zpC l (i)).length),(47,.d (.list (vs l))),(48,.d (.int .i64 l.length)),(49,.d (.int .i64 (i:Nat)))]) (λi=>[.arr 1 (thD l (i)) 0,.arr 1 [] 0,.arr 1 [] 0,.arr 1 (zpC l (i)) 0]) (λi=>i<=l.length) (λi=>l.length - i) 0 ?_ ?_ ?_
 ·exact Nat.zero_le _
 ·simp -dsimp -implicitDefEqProofs (disch:=first|omega|assumption) [zjl,zpF]
 intro T2 f2 hT2 i hi ih
 by_cases h1:i<l.length
 ·have hts:=zlV h1
  have hg:=zlU h1;have htl1:=zbJ hi;have htl2:=zbJ (l:=l) (i:=i+1) h1;have hps:=zpI h1;have hpl:=zhC l i;rcases ok3 hok h1 with hv | ⟨x,hv⟩
  ·rw[hv]at hts hps
   simp only[ne_eq,not_true_eq_false,decide_false,List.append_nil]at hts hps;simp -dsimp -implicitDefEqProofs (disch:=first|omega|assumption) [h1,hv,Val.d,hg,htl1,hts]
   refine ih (i+1) _ _ h1 (by omega) ?_
   rw[hps];simp -dsimp -implicitDefEqProofs (disch:=first|omega|assumption)
  ·rw[hv]at hts hps
   simp only[ne_eq,reduceCtorEq,not_false_eq_true,decide_true]at hts hps;have hx: ¬ (64:Int)<x.size:=by
    have:=List.any_eq_false.1 hlo _ (hv ▸ List.getElem_mem h1);simp[zhz]at this;omega
   simp -dsimp -implicitDefEqProofs (disch:=first|omega|assumption) [h1,hv,Val.d,hg,htl1,hts,hx]
   refine ih (i+1) _ _ h1 (by omega) ?_
   rw[hps];simp -dsimp -implicitDefEqProofs (disch:=first|omega|assumption)
 ·obtain rfl:i=l.length:=by omega
  have htl1:=zbJ (Nat.le_refl l.length);have hpl:=zhC l l.length;subst hT2
  by_cases hm:false∈zav l
  ·rw[zdj,if_pos hm,show (1::za8 (zav l)++bd).length=1+(za8 (zav l)).length+bd.length by simp only[List.length_cons,List.length_append];omega]at hT
   simp -dsimp -implicitDefEqProofs (disch:=first|omega|assumption) [hidx,hm,hfl,hbody,htl1]
   simpa -dsimp -implicitDefEqProofs (disch:=first|omega|assumption) [E]using hT
  ·rw[zdj,if_neg hm,show ([(0:UInt8)]++bd).length=1+bd.length by simp only[List.length_append,List.length_singleton]]at hT
   simp -dsimp -implicitDefEqProofs (disch:=first|omega|assumption) [hidx,hm,hbody,htl1]
   simpa -dsimp -implicitDefEqProofs (disch:=first|omega|assumption) [E]using hT
end Go.Am.Ab
