/- Columns, written. -/
import Derived.Test.YtlgdomajdebbdaaGreatDoorColA
import Derived.Test.YtlgdomajdebbdaaGreatDoorReadA
set_option linter.all false
namespace Go.Am.Ab
open Go.Proofs
set_option maxHeartbeats 4000000
set_option maxRecDepth 4000
def zby (l:List Val):List Int:=l.filterMap λv=>match v with | .whole n=>some n | _=>none
def zbD (l:List Val):List Bool:=l.filterMap λv=>match v with | .truth b=>some b | _=>none
def zcW (l:List Val):List ByteArray:=l.filterMap λv=>match v with | .text s=>some s | _=>none
def zao (l:List Val):List Bool:=l.map λv=>decide (v≠ .null)
def zi0 (k:Nat) (l:List Val):List UInt8:=if k=1 then zbx (zby l) else if k=2 then za8 (zbD l) else zc9 (zcW l)
def zda (l:List Val):List UInt8:=if false∈zao l then 1::za8 (zao l) else [0]
def zdb (k:Nat) (l:List Val):List UInt8:=zda l++zi0 k l
def zeB (k:Nat) (v:Val):Bool:=decide (v≠ .null) && decide (v.kind≠k)
def zi1 (v:Val):Bool:=match v with | .text s=>decide (64<s.size) | _=>false
def thD (l:List Val) (i:Nat):List D:=bs ((zao l).take i++List.replicate (l.length - i) false)
def zli (l:List Val):thD l 0=List.replicate l.length (D.bool false):=by simp[thD]
def zaA (l:List Val):(zao l).length=l.length:=by simp[zao]
def zb4 {l:List Val} {i:Nat} (h:i<=l.length):(thD l i).length=l.length:=by simp[thD,zaA];omega
def zg2 (l:List Val):thD l l.length=bs (zao l):=by rw[thD,List.take_of_length_le (by rw[zaA];exact Nat.le_refl _)];simp
def znX {l:List Val} {i:Nat} (h:i<l.length):(thD l i)[i]? =some (.bool false):=by
 have hl:((zao l).take i).length=i:=by rw[List.length_take,zaA];omega
 rw[thD,List.getElem?_map,List.getElem?_append_right (by omega),hl,Nat.sub_self,List.getElem?_replicate,if_pos (by omega)]
 rfl
def znY {l:List Val} {i:Nat} (h:i<l.length):(thD l i).set i (.bool (decide (l[i]≠ .null)))=thD l (i+1):=by
 have hl:((zao l).take i).length=i:=by rw[List.length_take,zaA];omega
 have e:l.length - i=(l.length - (i+1))+1:=by omega
 have ht:i<(zao l).length:=by rw[zaA];exact h
 rw[thD,thD,<- List.map_set,e,List.replicate_succ,List.set_append_right _ _ (by omega),hl,Nat.sub_self,List.set_cons_zero,zam ht,List.append_assoc]
 congr 3;simp[zao]
def zsb (l:List Val) (i:Nat):List D:=(zby (l.take i)).map λn=> .int .i64 n
def zsc (l:List Val) (i:Nat):List D:=(zbD (l.take i)).map D.bool
def zsd (l:List Val) (i:Nat):List D:=(zcW (l.take i)).map D.str
def zse (l:List Val):zsb l 0=[]:=rfl
def zsf (l:List Val):zsc l 0=[]:=rfl
def zsg (l:List Val):zsd l 0=[]:=rfl
def zsh {l:List Val} {i:Nat} (h:i<l.length):zsb l (i+1)=zsb l i++(match l[i] with | .whole n=>[.int .i64 n] | _=>[]):=by
 unfold zsb zby;rw[zam h,List.filterMap_append];cases l[i] <;> simp
def zsi {l:List Val} {i:Nat} (h:i<l.length):zsc l (i+1)=zsc l i++(match l[i] with | .truth b=>[.bool b] | _=>[]):=by
 unfold zsc zbD;rw[zam h,List.filterMap_append];cases l[i] <;> simp
def zsj {l:List Val} {i:Nat} (h:i<l.length):zsd l (i+1)=zsd l i++(match l[i] with | .text s=>[.str s] | _=>[]):=by
 unfold zsd zcW;rw[zam h,List.filterMap_append];cases l[i] <;> simp
def zi2 (l:List Val) (i:Nat):(zsb l i).length<=i:=by
 have:=List.length_filterMap_le (λv:Val=>match v with | .whole n=>some n | _=>none) (l.take i)
 have h2:(l.take i).length<=i:=by simp;omega
 simp only[zsb,zby,List.length_map];omega
def zi3 (l:List Val) (i:Nat):(zsc l i).length<=i:=by
 have:=List.length_filterMap_le (λv:Val=>match v with | .truth b=>some b | _=>none) (l.take i)
 have h2:(l.take i).length<=i:=by simp;omega
 simp only[zsc,zbD,List.length_map];omega
def zi4 (l:List Val) (i:Nat):(zsd l i).length<=i:=by
 have:=List.length_filterMap_le (λv:Val=>match v with | .text s=>some s | _=>none) (l.take i)
 have h2:(l.take i).length<=i:=by simp;omega
 simp only[zsd,zcW,List.length_map];omega
def zug (l:List Val):zsb l l.length=(zby l).map λn=> .int .i64 n:=by rw[zsb,List.take_length]
def zuh (l:List Val):zsc l l.length=(zbD l).map D.bool:=by rw[zsc,List.take_length]
def zui (l:List Val):zsd l l.length=(zcW l).map D.str:=by rw[zsd,List.take_length]
def zeX {l:List Val} (hl: ∀n,Val.whole n∈l->zah n): ∀n∈zby l,zah n:=by
 intro n h;obtain⟨v,hv,e⟩:=List.mem_filterMap.1 h;cases v <;> simp at e;subst e;exact hl _ hv
def zeo {l:List Val} (hl:l.any zi1=false): ∀s∈zcW l,s.size<=64:=by
 intro s h;obtain⟨v,hv,e⟩:=List.mem_filterMap.1 h;cases v <;> simp at e;subst e;have:=List.any_eq_false.1 hl _ hv;simpa[zi1]using this
def zci (l:List Val):(zby l).length<=l.length/\(zbD l).length<=l.length/\(zcW l).length<=l.length:=⟨List.length_filterMap_le _ _,List.length_filterMap_le _ _,List.length_filterMap_le _ _⟩
def zbn {l:List Bool} (hn:l.length<=256):(za8 l).length<=2048:=zcU (by omega) (by simpa using hn)
def zg3 {l:List ByteArray} (hl: ∀s∈l,s.size<=64) (hn:l.length<=256):(zc9 l).length<=100000:=by
 have h1:=zd3 hl hn;have h2:(zey l).length<=100000:=by simp only[zey,List.length_cons];omega
 unfold zc9;split
 ·omega
 ·exact h2
def zsk {k:Nat} {l:List Val} (h:l.any (zeB k)=false) {i:Nat} (hi:i<l.length):l[i]= .null\/l[i].kind=k:=by
 have:=List.any_eq_false.1 h _ (List.getElem_mem hi);simp only[zeB,Bool.and_eq_true,decide_eq_true_eq,not_and,Decidable.not_not]at this
 by_cases c:l[i]= .null
 ·exact .inl c
 ·exact .inr (this c)
def ok1 {l:List Val} (h:l.any (zeB 1)=false) {i:Nat} (hi:i<l.length):l[i]= .null\/ ∃n,l[i]= .whole n:=by
 rcases zsk h hi with e | e
 ·exact .inl e
 ·cases hv:l[i] <;> rw[hv]at e <;> simp[Val.kind]at e
  exact .inr ⟨_,rfl⟩
def ok2 {l:List Val} (h:l.any (zeB 2)=false) {i:Nat} (hi:i<l.length):l[i]= .null\/ ∃n,l[i]= .truth n:=by
 rcases zsk h hi with e | e
 ·exact .inl e
 ·cases hv:l[i] <;> rw[hv]at e <;> simp[Val.kind]at e
  exact .inr ⟨_,rfl⟩
def ok3 {l:List Val} (h:l.any (zeB 3)=false) {i:Nat} (hi:i<l.length):l[i]= .null\/ ∃n,l[i]= .text n:=by
 rcases zsk h hi with e | e
 ·exact .inl e
 ·cases hv:l[i] <;> rw[hv]at e <;> simp[Val.kind]at e
  exact .inr ⟨_,rfl⟩
def zdA (e:Nat):Option (List V × List Obj):=some ([.arr 0 0,E e],[.arr 1 [] 0])
def zuj (k:Nat) (hk:k<256) (h: ¬ (1<=k/\k<=3)) (l:List Val):R 64 [.d (.int .u8 k),.d (.list (vs l))] []=zdA 10:=by
 have hr:=zbw k hk;rw[decide_eq_false h]at hr;unfold zdA;refine rg b64 rfl ?_;intro T hT;simp -dsimp -implicitDefEqProofs (disch:=first|omega|assumption) [hr]
 simpa -dsimp -implicitDefEqProofs (disch:=first|omega|assumption) [E]using hT
end Go.Am.Ab
namespace Go.Am.Ab
open Go.Proofs
set_option maxHeartbeats 4000000
set_option maxRecDepth 4000
def zqu (l:List Val) (hn:l.length<=4611686018427387903) (h:l.any (zeB 1)=true):R 64 [.d (.int .u8 1),.d (.list (vs l))] []=zdA 10:=by
 have hr:=zbw 1 (by decide)
 have hd:decide (1<=1/\1<=3)=true:=rfl;rw[hd]at hr;simp only[Int.cast_ofNat_Int]at hr;unfold zdA;refine rg b64 rfl ?_;intro T hT;simp -dsimp -implicitDefEqProofs (disch:=first|omega|assumption) [hr]
 generalize hz:zac _ _ _ _ _ _=z;revert z;refine zaa (σ:=Nat) (λi=>[(0,.d (.int .u8 1)),(1,.d (.list (vs l))),(26,.d (.list (vs l))),(27,.d (.int .i64 l.length)),(28,.d (.int .i64 i))]) (λi=>[]) (λi=>i<=l.length/\ ∀j,(hj:j<i)->(hl:j<l.length)->zeB 1 l[j]=false) (λi=>l.length - i) 0 ?_ ?_ ?_
 ·exact⟨Nat.zero_le _,λj hj=>by omega⟩
 ·simp -dsimp -implicitDefEqProofs (disch:=first|omega|assumption)
 intro T' f hT' i ⟨hi,hok⟩ ih
 by_cases h1:i<l.length
 ·have step:zeB 1 l[i]=false-> ∀j,(hj:j<i+1)->(hl:j<l.length)->zeB 1 l[j]=false:=λe j hj hl=>by
   by_cases c:j=i
   ·subst c;exact e
   ·exact hok j (by omega) hl
  have hkd:=zaO l[i];rcases hv:l[i] with _ | n | b | s
  all_goals
   rw[hv]at hkd step;simp only[Val.d,Val.kind]at hkd;simp only[Int.cast_ofNat_Int]at hkd
  ·simp -dsimp -implicitDefEqProofs (disch:=first|omega|assumption) [h1,hv,hkd,Val.d]
   exact ih (i+1) _ _ ⟨h1,step (by simp[zeB,Val.kind])⟩ (by omega) (by simp -dsimp -implicitDefEqProofs (disch:=first|omega|assumption))
  ·simp -dsimp -implicitDefEqProofs (disch:=first|omega|assumption) [h1,hv,hkd,Val.d]
   exact ih (i+1) _ _ ⟨h1,step (by simp[zeB,Val.kind])⟩ (by omega) (by simp -dsimp -implicitDefEqProofs (disch:=first|omega|assumption))
  ·subst hT'
   simp -dsimp -implicitDefEqProofs (disch:=first|omega|assumption) [h1,hv,hkd,Val.d]
   simpa -dsimp -implicitDefEqProofs (disch:=first|omega|assumption) [E]using hT
  ·subst hT'
   simp -dsimp -implicitDefEqProofs (disch:=first|omega|assumption) [h1,hv,hkd,Val.d]
   simpa -dsimp -implicitDefEqProofs (disch:=first|omega|assumption) [E]using hT
 ·exfalso
  obtain⟨v,hv,e⟩:=List.any_eq_true.1 h;obtain⟨j,hj,rfl⟩:=List.mem_iff_getElem.1 hv;rw[hok j (by omega) hj]at e
  cases e
def znZ (l:List Val) (hn:l.length<=4611686018427387903) (hm:256<l.length) (hok:l.any (zeB 1)=false):R 64 [.d (.int .u8 1),.d (.list (vs l))] []=zdA 5:=by
 have hr:=zbw 1 (by decide)
 have hd:decide (1<=1/\1<=3)=true:=rfl;rw[hd]at hr;simp only[Int.cast_ofNat_Int]at hr;unfold zdA;refine rg b64 rfl ?_;intro T hT;simp -dsimp -implicitDefEqProofs (disch:=first|omega|assumption) [hr]
 generalize hz:zac _ _ _ _ _ _=z;revert z;refine zaa (σ:=Nat) (λi=>[(0,.d (.int .u8 1)),(1,.d (.list (vs l))),(26,.d (.list (vs l))),(27,.d (.int .i64 l.length)),(28,.d (.int .i64 i))]) (λi=>[]) (λi=>i<=l.length) (λi=>l.length - i) 0 ?_ ?_ ?_
 ·exact Nat.zero_le _
 ·simp -dsimp -implicitDefEqProofs (disch:=first|omega|assumption)
 intro T' f hT' i hi ih
 by_cases h1:i<l.length
 ·rcases ok1 hok h1 with hv | ⟨x,hv⟩
  ·simp -dsimp -implicitDefEqProofs (disch:=first|omega|assumption) [h1,hv,Val.d]
   exact ih (i+1) _ _ h1 (by omega) (by simp -dsimp -implicitDefEqProofs (disch:=first|omega|assumption))
  ·have hkd:=zaO (.whole x)
   simp only[Val.d,Val.kind]at hkd;simp only[Int.cast_ofNat_Int]at hkd;simp -dsimp -implicitDefEqProofs (disch:=first|omega|assumption) [h1,hv,hkd,Val.d]
   exact ih (i+1) _ _ h1 (by omega) (by simp -dsimp -implicitDefEqProofs (disch:=first|omega|assumption))
 obtain rfl:i=l.length:=by omega
 subst hT';clear ih hi h1;have h256:(256:Int)<l.length:=by omega
 simp -dsimp -implicitDefEqProofs (disch:=first|omega|assumption) [h256]
 simpa -dsimp -implicitDefEqProofs (disch:=first|omega|assumption) [E]using hT
def zqv (l:List Val) (hn:l.length<=256) (hok:l.any (zeB 1)=false) (h64: ∀n,Val.whole n∈l->zah n):R 64 [.d (.int .u8 1),.d (.list (vs l))] []=some ([.arr 0 (zdb 1 l).length,E 0],[.arr 1 (bytes (zdb 1 l)) 0]):=by
 have hr:=zbw 1 (by decide)
 have hd:decide (1<=1/\1<=3)=true:=rfl;rw[hd]at hr;simp only[Int.cast_ofNat_Int]at hr;have hkl:=zci l;have htl:=zaA l;have hidx:=zg0 (zao l) (by omega)
 rw[<- zg2]at hidx;have hfl:=zfe (zao l) (by omega)
 rw[<- zg2]at hfl;have hbody:R 124 [.d (.list (zsb l l.length))] []=some ([.arr 0 (zbx (zby l)).length,.d (.bool true)],[.arr 1 (bytes (zbx (zby l))) 0]):=by
  rw[zug];exact ziQ (zby l) (zeX h64) (by omega)
 have hfll:=zbn (l:=zao l) (by omega)
 have hbl:=zbY (zeX h64) (by omega)
 have hC:zdb 1 l=zda l++zbx (zby l):=rfl;rw[hC];obtain⟨bd,hbd⟩: ∃bd,bd=zbx (zby l):=⟨_,rfl⟩;rw[<- hbd]at hbody hbl ⊢;refine rg b64 rfl ?_;intro T hT;simp -dsimp -implicitDefEqProofs (disch:=first|omega|assumption) [hr]
 generalize hz:zac _ _ _ _ _ _=z;revert z;refine zaa (σ:=Nat) (λi=>[(0,.d (.int .u8 1)),(1,.d (.list (vs l))),(26,.d (.list (vs l))),(27,.d (.int .i64 l.length)),(28,.d (.int .i64 i))]) (λi=>[]) (λi=>i<=l.length) (λi=>l.length - i) 0 ?_ ?_ ?_
 ·exact Nat.zero_le _
 ·simp -dsimp -implicitDefEqProofs (disch:=first|omega|assumption)
 intro T' f hT' i hi ih
 by_cases h1:i<l.length
 ·rcases ok1 hok h1 with hv | ⟨x,hv⟩
  ·simp -dsimp -implicitDefEqProofs (disch:=first|omega|assumption) [h1,hv,Val.d]
   exact ih (i+1) _ _ h1 (by omega) (by simp -dsimp -implicitDefEqProofs (disch:=first|omega|assumption))
  ·have hkd:=zaO (.whole x)
   simp only[Val.d,Val.kind]at hkd;simp only[Int.cast_ofNat_Int]at hkd;simp -dsimp -implicitDefEqProofs (disch:=first|omega|assumption) [h1,hv,hkd,Val.d]
   exact ih (i+1) _ _ h1 (by omega) (by simp -dsimp -implicitDefEqProofs (disch:=first|omega|assumption))
 obtain rfl:i=l.length:=by omega
 subst hT';clear ih hi h1;have h256: ¬ (256:Int)<l.length:=by omega
 simp -dsimp -implicitDefEqProofs (disch:=first|omega|assumption) [h256]
 generalize hz:zac _ _ _ _ _ _=z;revert z;refine zaa (σ:=Nat) (λi=>[(0,.d (.int .u8 1)),(8,.arr 0 l.length),(9,.arr 1 (zsb l (i)).length),(10,.arr 2 0),(11,.arr 3 0),(47,.d (.list (vs l))),(48,.d (.int .i64 l.length)),(49,.d (.int .i64 (i:Nat)))]) (λi=>[.arr 1 (thD l (i)) 0,.arr 1 (zsb l (i)) 0,.arr 1 [] 0,.arr 1 [] 0]) (λi=>i<=l.length) (λi=>l.length - i) 0 ?_ ?_ ?_
 ·exact Nat.zero_le _
 ·simp -dsimp -implicitDefEqProofs (disch:=first|omega|assumption) [zli,zse]
 intro T2 f2 hT2 i hi ih
 by_cases h1:i<l.length
 ·have hts:=znY h1
  have hg:=znX h1;have htl1:=zb4 hi;have htl2:=zb4 (l:=l) (i:=i+1) h1;have hps:=zsh h1;have hpl:=zi2 l i;rcases ok1 hok h1 with hv | ⟨x,hv⟩
  ·rw[hv]at hts hps
   simp only[ne_eq,not_true_eq_false,decide_false,List.append_nil]at hts hps;simp -dsimp -implicitDefEqProofs (disch:=first|omega|assumption) [h1,hv,Val.d,hg,htl1,hts]
   refine ih (i+1) _ _ h1 (by omega) ?_
   rw[hps];simp -dsimp -implicitDefEqProofs (disch:=first|omega|assumption)
  ·rw[hv]at hts hps
   simp only[ne_eq,reduceCtorEq,not_false_eq_true,decide_true]at hts hps;simp -dsimp -implicitDefEqProofs (disch:=first|omega|assumption) [h1,hv,Val.d,hg,htl1,hts]
   refine ih (i+1) _ _ h1 (by omega) ?_
   rw[hps];simp -dsimp -implicitDefEqProofs (disch:=first|omega|assumption)
 ·obtain rfl:i=l.length:=by omega
  have htl1:=zb4 (Nat.le_refl l.length);have hpl:=zi2 l l.length;subst hT2
  by_cases hm:false∈zao l
  ·rw[zda,if_pos hm,show (1::za8 (zao l)++bd).length=1+(za8 (zao l)).length+bd.length by simp only[List.length_cons,List.length_append];omega]at hT
   simp -dsimp -implicitDefEqProofs (disch:=first|omega|assumption) [hidx,hm,hfl,hbody,htl1]
   simpa -dsimp -implicitDefEqProofs (disch:=first|omega|assumption) [E]using hT
  ·rw[zda,if_neg hm,show ([(0:UInt8)]++bd).length=1+bd.length by simp only[List.length_append,List.length_singleton]]at hT
   simp -dsimp -implicitDefEqProofs (disch:=first|omega|assumption) [hidx,hm,hbody,htl1]
   simpa -dsimp -implicitDefEqProofs (disch:=first|omega|assumption) [E]using hT
end Go.Am.Ab
namespace Go.Am.Ab
open Go.Proofs
set_option maxHeartbeats 4000000
set_option maxRecDepth 4000
def zqw (l:List Val) (hn:l.length<=4611686018427387903) (h:l.any (zeB 2)=true):R 64 [.d (.int .u8 2),.d (.list (vs l))] []=zdA 10:=by
 have hr:=zbw 2 (by decide)
 have hd:decide (1<=2/\2<=3)=true:=rfl;rw[hd]at hr;simp only[Int.cast_ofNat_Int]at hr;unfold zdA;refine rg b64 rfl ?_;intro T hT;simp -dsimp -implicitDefEqProofs (disch:=first|omega|assumption) [hr]
 generalize hz:zac _ _ _ _ _ _=z;revert z;refine zaa (σ:=Nat) (λi=>[(0,.d (.int .u8 2)),(1,.d (.list (vs l))),(26,.d (.list (vs l))),(27,.d (.int .i64 l.length)),(28,.d (.int .i64 i))]) (λi=>[]) (λi=>i<=l.length/\ ∀j,(hj:j<i)->(hl:j<l.length)->zeB 2 l[j]=false) (λi=>l.length - i) 0 ?_ ?_ ?_
 ·exact⟨Nat.zero_le _,λj hj=>by omega⟩
 ·simp -dsimp -implicitDefEqProofs (disch:=first|omega|assumption)
 intro T' f hT' i ⟨hi,hok⟩ ih
 by_cases h1:i<l.length
 ·have step:zeB 2 l[i]=false-> ∀j,(hj:j<i+1)->(hl:j<l.length)->zeB 2 l[j]=false:=λe j hj hl=>by
   by_cases c:j=i
   ·subst c;exact e
   ·exact hok j (by omega) hl
  have hkd:=zaO l[i];rcases hv:l[i] with _ | n | b | s
  all_goals
   rw[hv]at hkd step;simp only[Val.d,Val.kind]at hkd;simp only[Int.cast_ofNat_Int]at hkd
  ·simp -dsimp -implicitDefEqProofs (disch:=first|omega|assumption) [h1,hv,hkd,Val.d]
   exact ih (i+1) _ _ ⟨h1,step (by simp[zeB,Val.kind])⟩ (by omega) (by simp -dsimp -implicitDefEqProofs (disch:=first|omega|assumption))
  ·subst hT'
   simp -dsimp -implicitDefEqProofs (disch:=first|omega|assumption) [h1,hv,hkd,Val.d]
   simpa -dsimp -implicitDefEqProofs (disch:=first|omega|assumption) [E]using hT
  ·simp -dsimp -implicitDefEqProofs (disch:=first|omega|assumption) [h1,hv,hkd,Val.d]
   exact ih (i+1) _ _ ⟨h1,step (by simp[zeB,Val.kind])⟩ (by omega) (by simp -dsimp -implicitDefEqProofs (disch:=first|omega|assumption))
  ·subst hT'
   simp -dsimp -implicitDefEqProofs (disch:=first|omega|assumption) [h1,hv,hkd,Val.d]
   simpa -dsimp -implicitDefEqProofs (disch:=first|omega|assumption) [E]using hT
 ·exfalso
  obtain⟨v,hv,e⟩:=List.any_eq_true.1 h;obtain⟨j,hj,rfl⟩:=List.mem_iff_getElem.1 hv;rw[hok j (by omega) hj]at e
  cases e
def zn0 (l:List Val) (hn:l.length<=4611686018427387903) (hm:256<l.length) (hok:l.any (zeB 2)=false):R 64 [.d (.int .u8 2),.d (.list (vs l))] []=zdA 5:=by
 have hr:=zbw 2 (by decide)
 have hd:decide (1<=2/\2<=3)=true:=rfl;rw[hd]at hr;simp only[Int.cast_ofNat_Int]at hr;unfold zdA;refine rg b64 rfl ?_;intro T hT;simp -dsimp -implicitDefEqProofs (disch:=first|omega|assumption) [hr]
 generalize hz:zac _ _ _ _ _ _=z;revert z;refine zaa (σ:=Nat) (λi=>[(0,.d (.int .u8 2)),(1,.d (.list (vs l))),(26,.d (.list (vs l))),(27,.d (.int .i64 l.length)),(28,.d (.int .i64 i))]) (λi=>[]) (λi=>i<=l.length) (λi=>l.length - i) 0 ?_ ?_ ?_
 ·exact Nat.zero_le _
 ·simp -dsimp -implicitDefEqProofs (disch:=first|omega|assumption)
 intro T' f hT' i hi ih
 by_cases h1:i<l.length
 ·rcases ok2 hok h1 with hv | ⟨x,hv⟩
  ·simp -dsimp -implicitDefEqProofs (disch:=first|omega|assumption) [h1,hv,Val.d]
   exact ih (i+1) _ _ h1 (by omega) (by simp -dsimp -implicitDefEqProofs (disch:=first|omega|assumption))
  ·have hkd:=zaO (.truth x)
   simp only[Val.d,Val.kind]at hkd;simp only[Int.cast_ofNat_Int]at hkd;simp -dsimp -implicitDefEqProofs (disch:=first|omega|assumption) [h1,hv,hkd,Val.d]
   exact ih (i+1) _ _ h1 (by omega) (by simp -dsimp -implicitDefEqProofs (disch:=first|omega|assumption))
 obtain rfl:i=l.length:=by omega
 subst hT';clear ih hi h1;have h256:(256:Int)<l.length:=by omega
 simp -dsimp -implicitDefEqProofs (disch:=first|omega|assumption) [h256]
 simpa -dsimp -implicitDefEqProofs (disch:=first|omega|assumption) [E]using hT
def zqx (l:List Val) (hn:l.length<=256) (hok:l.any (zeB 2)=false):R 64 [.d (.int .u8 2),.d (.list (vs l))] []=some ([.arr 0 (zdb 2 l).length,E 0],[.arr 1 (bytes (zdb 2 l)) 0]):=by
 have hr:=zbw 2 (by decide)
 have hd:decide (1<=2/\2<=3)=true:=rfl;rw[hd]at hr;simp only[Int.cast_ofNat_Int]at hr;have hkl:=zci l;have htl:=zaA l;have hidx:=zg0 (zao l) (by omega)
 rw[<- zg2]at hidx;have hfl:=zfe (zao l) (by omega)
 rw[<- zg2]at hfl;have hbody:R 123 [.d (.list (zsc l l.length))] []=some ([.arr 0 (za8 (zbD l)).length],[.arr 1 (bytes (za8 (zbD l))) 0]):=by
  rw[zuh];exact zfe (zbD l) (by omega)
 have hfll:=zbn (l:=zao l) (by omega)
 have hbl:=zbn (l:=zbD l) (by omega)
 have hC:zdb 2 l=zda l++za8 (zbD l):=rfl;rw[hC];obtain⟨bd,hbd⟩: ∃bd,bd=za8 (zbD l):=⟨_,rfl⟩;rw[<- hbd]at hbody hbl ⊢;refine rg b64 rfl ?_;intro T hT;simp -dsimp -implicitDefEqProofs (disch:=first|omega|assumption) [hr]
 generalize hz:zac _ _ _ _ _ _=z;revert z;refine zaa (σ:=Nat) (λi=>[(0,.d (.int .u8 2)),(1,.d (.list (vs l))),(26,.d (.list (vs l))),(27,.d (.int .i64 l.length)),(28,.d (.int .i64 i))]) (λi=>[]) (λi=>i<=l.length) (λi=>l.length - i) 0 ?_ ?_ ?_
 ·exact Nat.zero_le _
 ·simp -dsimp -implicitDefEqProofs (disch:=first|omega|assumption)
 intro T' f hT' i hi ih
 by_cases h1:i<l.length
 ·rcases ok2 hok h1 with hv | ⟨x,hv⟩
  ·simp -dsimp -implicitDefEqProofs (disch:=first|omega|assumption) [h1,hv,Val.d]
   exact ih (i+1) _ _ h1 (by omega) (by simp -dsimp -implicitDefEqProofs (disch:=first|omega|assumption))
  ·have hkd:=zaO (.truth x)
   simp only[Val.d,Val.kind]at hkd;simp only[Int.cast_ofNat_Int]at hkd;simp -dsimp -implicitDefEqProofs (disch:=first|omega|assumption) [h1,hv,hkd,Val.d]
   exact ih (i+1) _ _ h1 (by omega) (by simp -dsimp -implicitDefEqProofs (disch:=first|omega|assumption))
 obtain rfl:i=l.length:=by omega
 subst hT';clear ih hi h1;have h256: ¬ (256:Int)<l.length:=by omega
 simp -dsimp -implicitDefEqProofs (disch:=first|omega|assumption) [h256]
 generalize hz:zac _ _ _ _ _ _=z;revert z;refine zaa (σ:=Nat) (λi=>[(0,.d (.int .u8 2)),(8,.arr 0 l.length),(9,.arr 1 0),(10,.arr 2 (zsc l (i)).length),(11,.arr 3 0),(47,.d (.list (vs l))),(48,.d (.int .i64 l.length)),(49,.d (.int .i64 (i:Nat)))]) (λi=>[.arr 1 (thD l (i)) 0,.arr 1 [] 0,.arr 1 (zsc l (i)) 0,.arr 1 [] 0]) (λi=>i<=l.length) (λi=>l.length - i) 0 ?_ ?_ ?_
 ·exact Nat.zero_le _
 ·simp -dsimp -implicitDefEqProofs (disch:=first|omega|assumption) [zli,zsf]
 intro T2 f2 hT2 i hi ih
 by_cases h1:i<l.length
 ·have hts:=znY h1
  have hg:=znX h1;have htl1:=zb4 hi;have htl2:=zb4 (l:=l) (i:=i+1) h1;have hps:=zsi h1;have hpl:=zi3 l i;rcases ok2 hok h1 with hv | ⟨x,hv⟩
  ·rw[hv]at hts hps
   simp only[ne_eq,not_true_eq_false,decide_false,List.append_nil]at hts hps;simp -dsimp -implicitDefEqProofs (disch:=first|omega|assumption) [h1,hv,Val.d,hg,htl1,hts]
   refine ih (i+1) _ _ h1 (by omega) ?_
   rw[hps];simp -dsimp -implicitDefEqProofs (disch:=first|omega|assumption)
  ·rw[hv]at hts hps
   simp only[ne_eq,reduceCtorEq,not_false_eq_true,decide_true]at hts hps;simp -dsimp -implicitDefEqProofs (disch:=first|omega|assumption) [h1,hv,Val.d,hg,htl1,hts]
   refine ih (i+1) _ _ h1 (by omega) ?_
   rw[hps];simp -dsimp -implicitDefEqProofs (disch:=first|omega|assumption)
 ·obtain rfl:i=l.length:=by omega
  have htl1:=zb4 (Nat.le_refl l.length);have hpl:=zi3 l l.length;subst hT2
  by_cases hm:false∈zao l
  ·rw[zda,if_pos hm,show (1::za8 (zao l)++bd).length=1+(za8 (zao l)).length+bd.length by simp only[List.length_cons,List.length_append];omega]at hT
   simp -dsimp -implicitDefEqProofs (disch:=first|omega|assumption) [hidx,hm,hfl,hbody,htl1]
   simpa -dsimp -implicitDefEqProofs (disch:=first|omega|assumption) [E]using hT
  ·rw[zda,if_neg hm,show ([(0:UInt8)]++bd).length=1+bd.length by simp only[List.length_append,List.length_singleton]]at hT
   simp -dsimp -implicitDefEqProofs (disch:=first|omega|assumption) [hidx,hm,hbody,htl1]
   simpa -dsimp -implicitDefEqProofs (disch:=first|omega|assumption) [E]using hT
end Go.Am.Ab
namespace Go.Am.Ab
open Go.Proofs
set_option maxHeartbeats 4000000
set_option maxRecDepth 4000
def zqy (l:List Val) (hn:l.length<=4611686018427387903) (h:l.any (zeB 3)=true):R 64 [.d (.int .u8 3),.d (.list (vs l))] []=zdA 10:=by
 have hr:=zbw 3 (by decide)
 have hd:decide (1<=3/\3<=3)=true:=rfl;rw[hd]at hr;simp only[Int.cast_ofNat_Int]at hr;unfold zdA;refine rg b64 rfl ?_;intro T hT;simp -dsimp -implicitDefEqProofs (disch:=first|omega|assumption) [hr]
 generalize hz:zac _ _ _ _ _ _=z;revert z;refine zaa (σ:=Nat) (λi=>[(0,.d (.int .u8 3)),(1,.d (.list (vs l))),(26,.d (.list (vs l))),(27,.d (.int .i64 l.length)),(28,.d (.int .i64 i))]) (λi=>[]) (λi=>i<=l.length/\ ∀j,(hj:j<i)->(hl:j<l.length)->zeB 3 l[j]=false) (λi=>l.length - i) 0 ?_ ?_ ?_
 ·exact⟨Nat.zero_le _,λj hj=>by omega⟩
 ·simp -dsimp -implicitDefEqProofs (disch:=first|omega|assumption)
 intro T' f hT' i ⟨hi,hok⟩ ih
 by_cases h1:i<l.length
 ·have step:zeB 3 l[i]=false-> ∀j,(hj:j<i+1)->(hl:j<l.length)->zeB 3 l[j]=false:=λe j hj hl=>by
   by_cases c:j=i
   ·subst c;exact e
   ·exact hok j (by omega) hl
  have hkd:=zaO l[i];rcases hv:l[i] with _ | n | b | s
  all_goals
   rw[hv]at hkd step;simp only[Val.d,Val.kind]at hkd;simp only[Int.cast_ofNat_Int]at hkd
  ·simp -dsimp -implicitDefEqProofs (disch:=first|omega|assumption) [h1,hv,hkd,Val.d]
   exact ih (i+1) _ _ ⟨h1,step (by simp[zeB,Val.kind])⟩ (by omega) (by simp -dsimp -implicitDefEqProofs (disch:=first|omega|assumption))
  ·subst hT'
   simp -dsimp -implicitDefEqProofs (disch:=first|omega|assumption) [h1,hv,hkd,Val.d]
   simpa -dsimp -implicitDefEqProofs (disch:=first|omega|assumption) [E]using hT
  ·subst hT'
   simp -dsimp -implicitDefEqProofs (disch:=first|omega|assumption) [h1,hv,hkd,Val.d]
   simpa -dsimp -implicitDefEqProofs (disch:=first|omega|assumption) [E]using hT
  ·simp -dsimp -implicitDefEqProofs (disch:=first|omega|assumption) [h1,hv,hkd,Val.d]
   exact ih (i+1) _ _ ⟨h1,step (by simp[zeB,Val.kind])⟩ (by omega) (by simp -dsimp -implicitDefEqProofs (disch:=first|omega|assumption))
 ·exfalso
  obtain⟨v,hv,e⟩:=List.any_eq_true.1 h;obtain⟨j,hj,rfl⟩:=List.mem_iff_getElem.1 hv;rw[hok j (by omega) hj]at e
  cases e
def zn1 (l:List Val) (hn:l.length<=4611686018427387903) (hm:256<l.length) (hok:l.any (zeB 3)=false):R 64 [.d (.int .u8 3),.d (.list (vs l))] []=zdA 5:=by
 have hr:=zbw 3 (by decide)
 have hd:decide (1<=3/\3<=3)=true:=rfl;rw[hd]at hr;simp only[Int.cast_ofNat_Int]at hr;unfold zdA;refine rg b64 rfl ?_;intro T hT;simp -dsimp -implicitDefEqProofs (disch:=first|omega|assumption) [hr]
 generalize hz:zac _ _ _ _ _ _=z;revert z;refine zaa (σ:=Nat) (λi=>[(0,.d (.int .u8 3)),(1,.d (.list (vs l))),(26,.d (.list (vs l))),(27,.d (.int .i64 l.length)),(28,.d (.int .i64 i))]) (λi=>[]) (λi=>i<=l.length) (λi=>l.length - i) 0 ?_ ?_ ?_
 ·exact Nat.zero_le _
 ·simp -dsimp -implicitDefEqProofs (disch:=first|omega|assumption)
 intro T' f hT' i hi ih
 by_cases h1:i<l.length
 ·rcases ok3 hok h1 with hv | ⟨x,hv⟩
  ·simp -dsimp -implicitDefEqProofs (disch:=first|omega|assumption) [h1,hv,Val.d]
   exact ih (i+1) _ _ h1 (by omega) (by simp -dsimp -implicitDefEqProofs (disch:=first|omega|assumption))
  ·have hkd:=zaO (.text x)
   simp only[Val.d,Val.kind]at hkd;simp only[Int.cast_ofNat_Int]at hkd;simp -dsimp -implicitDefEqProofs (disch:=first|omega|assumption) [h1,hv,hkd,Val.d]
   exact ih (i+1) _ _ h1 (by omega) (by simp -dsimp -implicitDefEqProofs (disch:=first|omega|assumption))
 obtain rfl:i=l.length:=by omega
 subst hT';clear ih hi h1;have h256:(256:Int)<l.length:=by omega
 simp -dsimp -implicitDefEqProofs (disch:=first|omega|assumption) [h256]
 simpa -dsimp -implicitDefEqProofs (disch:=first|omega|assumption) [E]using hT
def zqz (l:List Val) (hn:l.length<=256) (hok:l.any (zeB 3)=false) (hlo:l.any zi1=false):R 64 [.d (.int .u8 3),.d (.list (vs l))] []=some ([.arr 0 (zdb 3 l).length,E 0],[.arr 1 (bytes (zdb 3 l)) 0]):=by
 have hr:=zbw 3 (by decide)
 have hd:decide (1<=3/\3<=3)=true:=rfl;rw[hd]at hr;simp only[Int.cast_ofNat_Int]at hr;have hkl:=zci l;have htl:=zaA l;have hidx:=zg0 (zao l) (by omega)
 rw[<- zg2]at hidx;have hfl:=zfe (zao l) (by omega)
 rw[<- zg2]at hfl;have hbody:R 125 [.d (.list (zsd l l.length))] []=some ([.arr 0 (zc9 (zcW l)).length],[.arr 1 (bytes (zc9 (zcW l))) 0]):=by
  rw[zui];exact zql (zcW l) (zeo hlo) (by omega)
 have hfll:=zbn (l:=zao l) (by omega)
 have hbl:=zg3 (zeo hlo) (by omega)
 have hC:zdb 3 l=zda l++zc9 (zcW l):=rfl;rw[hC];obtain⟨bd,hbd⟩: ∃bd,bd=zc9 (zcW l):=⟨_,rfl⟩;rw[<- hbd]at hbody hbl ⊢;refine rg b64 rfl ?_;intro T hT;simp -dsimp -implicitDefEqProofs (disch:=first|omega|assumption) [hr]
 generalize hz:zac _ _ _ _ _ _=z;revert z;refine zaa (σ:=Nat) (λi=>[(0,.d (.int .u8 3)),(1,.d (.list (vs l))),(26,.d (.list (vs l))),(27,.d (.int .i64 l.length)),(28,.d (.int .i64 i))]) (λi=>[]) (λi=>i<=l.length) (λi=>l.length - i) 0 ?_ ?_ ?_
 ·exact Nat.zero_le _
 ·simp -dsimp -implicitDefEqProofs (disch:=first|omega|assumption)
 intro T' f hT' i hi ih
 by_cases h1:i<l.length
 ·rcases ok3 hok h1 with hv | ⟨x,hv⟩
  ·simp -dsimp -implicitDefEqProofs (disch:=first|omega|assumption) [h1,hv,Val.d]
   exact ih (i+1) _ _ h1 (by omega) (by simp -dsimp -implicitDefEqProofs (disch:=first|omega|assumption))
  ·have hkd:=zaO (.text x)
   simp only[Val.d,Val.kind]at hkd;simp only[Int.cast_ofNat_Int]at hkd;simp -dsimp -implicitDefEqProofs (disch:=first|omega|assumption) [h1,hv,hkd,Val.d]
   exact ih (i+1) _ _ h1 (by omega) (by simp -dsimp -implicitDefEqProofs (disch:=first|omega|assumption))
 obtain rfl:i=l.length:=by omega
 subst hT';clear ih hi h1;have h256: ¬ (256:Int)<l.length:=by omega
 simp -dsimp -implicitDefEqProofs (disch:=first|omega|assumption) [h256]
 generalize hz:zac _ _ _ _ _ _=z;revert z;refine zaa (σ:=Nat) (λi=>[(0,.d (.int .u8 3)),(8,.arr 0 l.length),(9,.arr 1 0),(10,.arr 2 0),(11,.arr 3 (zsd l (i)).length),(47,.d (.list (vs l))),(48,.d (.int .i64 l.length)),(49,.d (.int .i64 (i:Nat)))]) (λi=>[.arr 1 (thD l (i)) 0,.arr 1 [] 0,.arr 1 [] 0,.arr 1 (zsd l (i)) 0]) (λi=>i<=l.length) (λi=>l.length - i) 0 ?_ ?_ ?_
 ·exact Nat.zero_le _
 ·simp -dsimp -implicitDefEqProofs (disch:=first|omega|assumption) [zli,zsg]
 intro T2 f2 hT2 i hi ih
 by_cases h1:i<l.length
 ·have hts:=znY h1
  have hg:=znX h1;have htl1:=zb4 hi;have htl2:=zb4 (l:=l) (i:=i+1) h1;have hps:=zsj h1;have hpl:=zi4 l i;rcases ok3 hok h1 with hv | ⟨x,hv⟩
  ·rw[hv]at hts hps
   simp only[ne_eq,not_true_eq_false,decide_false,List.append_nil]at hts hps;simp -dsimp -implicitDefEqProofs (disch:=first|omega|assumption) [h1,hv,Val.d,hg,htl1,hts]
   refine ih (i+1) _ _ h1 (by omega) ?_
   rw[hps];simp -dsimp -implicitDefEqProofs (disch:=first|omega|assumption)
  ·rw[hv]at hts hps
   simp only[ne_eq,reduceCtorEq,not_false_eq_true,decide_true]at hts hps;have hx: ¬ (64:Int)<x.size:=by
    have:=List.any_eq_false.1 hlo _ (hv ▸ List.getElem_mem h1);simp[zi1]at this;omega
   simp -dsimp -implicitDefEqProofs (disch:=first|omega|assumption) [h1,hv,Val.d,hg,htl1,hts,hx]
   refine ih (i+1) _ _ h1 (by omega) ?_
   rw[hps];simp -dsimp -implicitDefEqProofs (disch:=first|omega|assumption)
 ·obtain rfl:i=l.length:=by omega
  have htl1:=zb4 (Nat.le_refl l.length);have hpl:=zi4 l l.length;subst hT2
  by_cases hm:false∈zao l
  ·rw[zda,if_pos hm,show (1::za8 (zao l)++bd).length=1+(za8 (zao l)).length+bd.length by simp only[List.length_cons,List.length_append];omega]at hT
   simp -dsimp -implicitDefEqProofs (disch:=first|omega|assumption) [hidx,hm,hfl,hbody,htl1]
   simpa -dsimp -implicitDefEqProofs (disch:=first|omega|assumption) [E]using hT
  ·rw[zda,if_neg hm,show ([(0:UInt8)]++bd).length=1+bd.length by simp only[List.length_append,List.length_singleton]]at hT
   simp -dsimp -implicitDefEqProofs (disch:=first|omega|assumption) [hidx,hm,hbody,htl1]
   simpa -dsimp -implicitDefEqProofs (disch:=first|omega|assumption) [E]using hT
end Go.Am.Ab
