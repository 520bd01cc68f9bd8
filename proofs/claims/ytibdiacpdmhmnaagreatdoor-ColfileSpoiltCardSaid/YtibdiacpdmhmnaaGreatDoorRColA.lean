/- Columns of the document, their parts. -/
import Derived.Test.YtibdiacpdmhmnaaGreatDoorBitsA
import Derived.Test.YtibdiacpdmhmnaaGreatDoorVars
import Derived.Test.YtibdiacpdmhmnaaGreatDoorRefInts
import Derived.Test.YtibdiacpdmhmnaaGreatDoorColA
import Derived.Test.YtibdiacpdmhmnaaGreatDoorColB
set_option linter.all false
namespace Go.Am.Ab.Str
open Go.Proofs
set_option maxHeartbeats 4000000
set_option maxRecDepth 4000
def ins_length (x:Nat): ∀l:List Nat,(ins x l).length<=l.length+1
 |[]=>by simp[ins]
 |y::r=>by
  unfold ins;have:=ins_length x r;split
  ·simp
  ·split
   ·simp
   ·simp only[yad];omega
def uniq_length_le (l:List Nat):(uniq l).length<=l.length:=by
 have key: ∀ (l u:List Nat),(l.foldl (λu x=>ins x u) u).length<=u.length+l.length:=by
  intro l
  induction l with
  |nil=>intro u;simp
  |cons x r ih=>
   intro u;have h1:=ih (ins x u);have h2:=ins_length x u;simp only[ya7,yad];omega
 have:=key l [];simpa[uniq]using this
def insG (x:Nat):Bool->List Nat->List Nat
 |done,[]=>if done then [] else [x]
 |done,y::r=>if y=x then y::insG x true r else if done then y::insG x true r else if x<y then x::y::insG x true r else y::insG x false r
def insG_true (x:Nat): ∀l,insG x true l=l
 |[]=>rfl
 |y::r=>by simp[insG,insG_true x r]
def insG_false (x:Nat): ∀l,insG x false l=ins x l
 |[]=>rfl
 |y::r=>by
  simp only[insG,ins,insG_true,insG_false x r,yau,yaY]
  by_cases h1:y=x
  ·subst h1;simp
  ·have h2: ¬ x=y:=λe=>h1 e.symm
   simp[h1,h2]
def insG_step {x:Nat} {u:List Nat} {k:Nat} (h:k<u.length) (done:Bool):insG x done (u.drop k)=(if at' u k=x then [at' u k] else if done then [at' u k] else if x<at' u k then [x,at' u k] else [at' u k])++insG x (done || decide (x=at' u k) || decide (x<at' u k)) (u.drop (k+1)):=by
 rw[yaC h,get_at h,insG]
 by_cases h1:at' u k=x
 ·have h2:x=at' u k:=h1.symm
  rw[yaj h1,yaj h1,yaK h2];simp
 ·have h2: ¬ x=at' u k:=λe=>h1 e.symm
  rw[yag h1,yag h1,yaM h2];cases done with
  |true=>simp
  |false=>
   by_cases h3:x<at' u k
   ·simp[h3]
   ·simp[h3]
def runlikeS_runs {wd:Nat->ByteArray} (hwd:Mono wd) (l:List Nat) (hn:l.length<=256):R 104 [.d (.list (ws wd l))] []=some ([.arr 0 (uniq l).length],[.arr 1 (ws wd (uniq l)) 0]):=by
 have hsnoc: ∀i,i<l.length->uniq (l.take (i+1))=ins (at' l i) (uniq (l.take i)):=λi hi=>by
  unfold uniq;rw[zao hi,yci,get_at hi];rfl
 refine rg zJd rfl ?_;intro T hT;simp -dsimp -implicitDefEqProofs (disch:=first|omega|assumption)
 generalize hz:zaj _ _ _ _ _ _=z;revert z;refine zaa (σ:=Nat) (λi=>[(0,.d (.list (ws wd l))),(3,.arr 0 (uniq (l.take i)).length),(4,.d (.int .i64 i))]) (λi=>[.arr 1 (ws wd (uniq (l.take i))) 0]) (λi=>i<=l.length) (λi=>l.length - i) 0 ?_ ?_ ?_
 ·simp
 ·simp -dsimp -implicitDefEqProofs (disch:=first|omega|assumption) [uniq]
 intro T' f hT' i hi ih
 by_cases h1:i<l.length
 ·have gi:=get_at h1
  have hun:=uniq_length_le (l.take i);rw[yan]at hun;have hins:=ins_length (at' l i) (uniq (l.take i));rw[<- hsnoc i h1]at hins;obtain⟨u,hu⟩: ∃u,u=uniq (l.take i):=⟨_,rfl⟩;obtain⟨x,hx⟩: ∃x,x=at' l i:=⟨_,rfl⟩;have hs:=hsnoc i h1;rw[<- hu,<- hx]at hs;rw[<- hu]at hun hins;rw[<- hx]at gi;rw[<- hu];simp -dsimp -implicitDefEqProofs (disch:=first|omega|assumption) [hwd.beq,hwd.lt,h1,gi]
  generalize hz:zaj _ _ _ _ _ _=z;revert z;refine zaa (σ:=Nat × Bool × List Nat) (λy=>[(0,.d (.list (ws wd l))),(3,.arr 0 u.length),(4,.d (.int .i64 i)),(5,.arr 1 y.2.2.length),(6,.d (.bool y.2.1)),(7,.d (.int .i64 y.1))]) (λy=>[.arr 1 (ws wd u) 0,.arr 1 (ws wd y.2.2) 0]) (λy=>y.1<=u.length/\y.2.2.length<=2*y.1/\y.2.2++insG x y.2.1 (u.drop y.1)=uniq (l.take (i+1))) (λy=>u.length - y.1) (0,false,[]) ?_ ?_ ?_
  ·refine⟨yai _,yaf _, ?_⟩
   simp only[ybH,ycv];rw[insG_false,hs]
  ·simp -dsimp -implicitDefEqProofs (disch:=first|omega|assumption)
  intro T2 f2 hT2 ⟨k,done,nx⟩ ⟨k1,k2,k3⟩ ih2;simp only at k1 k2 k3 ih2
  by_cases h2:k<u.length
  ·have gk:=get_at h2
   have hst:=insG_step (x:=x) h2 done;rw[hst,<- yal]at k3;have nd:u.drop (k+1)=u.drop (k+1):=rfl;have fin: ∀ (d2:Bool) (n2:List Nat),n2=nx++(if at' u k=x then [at' u k] else if done then [at' u k] else if x<at' u k then [x,at' u k] else [at' u k])->d2=(done || decide (x=at' u k) || decide (x<at' u k))->(k+1<=u.length/\n2.length<=2*(k+1)/\n2++insG x d2 (u.drop (k+1))=uniq (l.take (i+1))):=by
    intro d2 n2 e1 e2;refine⟨h2, ?_,by rw[e1,e2];exact k3⟩
    rw[e1,yab];have:(if at' u k=x then [at' u k] else if done then [at' u k] else if x<at' u k then [x,at' u k] else [at' u k]).length<=2:=by split <;> (try split) <;> (try split) <;> simp
    omega
   by_cases c1:at' u k=x
   ·have c1':x=at' u k:=c1.symm
    simp -dsimp -implicitDefEqProofs (disch:=first|omega|assumption) [hwd.beq,hwd.lt,h1,h2,gi,gk,c1]
    refine ih2 (k+1,true,nx++[x]) _ _ (fin _ _ (by rw[yaj c1,c1]) (by rw[yaK c1'];simp)) (by simp only;omega) ?_
    simp -dsimp -implicitDefEqProofs (disch:=first|omega|assumption) [c1]
   ·have c1': ¬ x=at' u k:=λe=>c1 e.symm
    cases done with
    |true=>
     simp -dsimp -implicitDefEqProofs (disch:=first|omega|assumption) [hwd.beq,hwd.lt,h1,h2,gi,gk,c1]
     refine ih2 (k+1,true,nx++[at' u k]) _ _ (fin _ _ (by rw[yag c1];rfl) (by simp)) (by simp only;omega) ?_
     simp -dsimp -implicitDefEqProofs (disch:=first|omega|assumption) [c1]
    |false=>
     by_cases c2:x<at' u k
     ·simp -dsimp -implicitDefEqProofs (disch:=first|omega|assumption) [hwd.beq,hwd.lt,h1,h2,gi,gk,c1,c2]
      refine ih2 (k+1,true,nx++[x,at' u k]) _ _ (fin _ _ (by rw[yag c1,yag (by simp),yaj c2]) (by simp[c2])) (by simp only;omega) ?_
      simp -dsimp -implicitDefEqProofs (disch:=first|omega|assumption) [c1]
     ·simp -dsimp -implicitDefEqProofs (disch:=first|omega|assumption) [hwd.beq,hwd.lt,h1,h2,gi,gk,c1,c2]
      refine ih2 (k+1,false,nx++[at' u k]) _ _ (fin _ _ (by rw[yag c1,yag (by simp),yag c2]) (by simp[c2,c1'])) (by simp only;omega) ?_
      simp -dsimp -implicitDefEqProofs (disch:=first|omega|assumption) [c1]
  ·have h2':k=u.length:=by omega
   rw[ybj (by omega)]at k3
   have hnl:(uniq (l.take (i+1))).length<=257:=by omega
   subst hT2;cases done with
   |true=>
    have k4:nx=uniq (l.take (i+1)):=by rw[<- k3];simp[insG]
    simp -dsimp -implicitDefEqProofs (disch:=first|omega|assumption) [hwd.beq,hwd.lt,h1,h2,gi]
    refine ih (i+1) _ _ h1 (by omega) ?_
    rw[<- k4];simp -dsimp -implicitDefEqProofs (disch:=first|omega|assumption)
   |false=>
    have k4:nx++[x]=uniq (l.take (i+1)):=by rw[<- k3];simp[insG]
    simp -dsimp -implicitDefEqProofs (disch:=first|omega|assumption) [hwd.beq,hwd.lt,h1,h2,gi]
    refine ih (i+1) _ _ h1 (by omega) ?_
    rw[<- k4];simp -dsimp -implicitDefEqProofs (disch:=first|omega|assumption)
 ·have hil:i=l.length:=by omega
  rw[yar (by omega)]
  subst hT';simp -dsimp -implicitDefEqProofs (disch:=first|omega|assumption) [hwd.beq,hwd.lt,h1]
  simpa -dsimp -implicitDefEqProofs (disch:=first|omega|assumption) using hT
end Go.Am.Ab.Str
namespace Go.Am.Ab
open Go.Proofs
def znC (l:List ByteArray) (hn:l.length<=256):R 104 [.d (.list (ss l))] []=some ([.arr 0 (zeL l).length],[.arr 1 (ss (zeL l)) 0]):=by
 obtain⟨wd,r,hwd,rfl⟩:=zAb l;have h:=Str.runlikeS_runs hwd r (by simpa using hn)
 rw[zsa hwd,zsc,zsc,yah];exact h
def zeE (l:List Bool) (hn:l.length<=256):R 102 [.d (zkd (l.map bit))] []=some ([.arr 0 (za5 l).length],[.arr 1 (bytes (za5 l)) 0]):=by
 have h64: ∀n∈l.map bit,n<18446744073709551616:=λn h=>by have:=zsb l n h;omega
 have hp:=zkf (l.map bit) 1 h64 (by omega) (by simpa using hn) (zmy l)
 rw[show za8 1 (l.map bit)=za5 l from rfl]at hp
 obtain⟨q,hq⟩: ∃q,q=zkd (l.map bit):=⟨_,rfl⟩;rw[<- hq]at hp ⊢;have hp':R 144 [.d q,.d (.int .i64 1)] []=some ([.arr 0 (za5 l).length,.d (.bool true)],[.arr 1 (bytes (za5 l)) 0]):=hp;refine rg zJb rfl ?_;intro T hT;simp -dsimp -implicitDefEqProofs (disch:=first|omega|assumption) [hp']
 simpa -dsimp -implicitDefEqProofs (disch:=first|omega|assumption) using hT
def znD (l:List Int) (hl: ∀n∈l,zai n) (hn:l.length<=256):R 146 [.d (ints l)] []=some ([.arr 0 (zbg l).length],[.arr 1 (bytes (zbg l)) 0]):=by
 have h:=zkn l hl hn;have hb:=zcO hl hn;have hp:=za3 (zbp l).length (by omega)
 have hpl:=zam (n:=(zbp l).length) (by omega)
 have hw:IntKind.u64.wrap ((zbp l).length:Int)=(zbp l).length:=zak (by omega) (by omega)
 refine rg zJq rfl ?_;intro T hT;simp -dsimp -implicitDefEqProofs (disch:=first|omega|assumption) [h,hp,hw]
 simpa -dsimp -implicitDefEqProofs (disch:=first|omega|assumption) [zbg]using hT
def zkH (l:List ByteArray) (hl: ∀s∈l,s.size<=64) (hn:l.length<=256):R 105 [.d (.list (ss l))] []=some ([.arr 0 (zbC l).length],[.arr 1 (bytes (zbC l)) 0]):=by
 have hsi:=zfN hl;have hsl:(zaR l).length=l.length:=by simp[zaR]
 have hcl:=zda hsi (by omega)
 have hfl:=zcl hl l.length (yaf _);have hc:=znD (zaR l) hsi (by omega)
 have hcs:R 146 [.d (.list (zcY zdk l l.length))] []=some ([.arr 0 (zbg (zaR l)).length],[.arr 1 (bytes (zbg (zaR l))) 0]):=by
  rw[za2 (yaf _),<- hc,ints,zaR,yaL];rfl
 refine rg zJe rfl ?_;intro T hT;simp -dsimp -implicitDefEqProofs (disch:=first|omega|assumption)
 generalize hz:zaj _ _ _ _ _ _=z;revert z;refine zaa (σ:=Nat) (λi=>[(0,.d (.list (ss l))),(3,.arr 0 i),(4,.arr 1 (zeD l i).length),(5,.d (.int .i64 i))]) (λi=>[.arr 1 (zcY zdk l i) 0,.arr 1 (bytes (zeD l i)) 0]) (λi=>i<=l.length) (λi=>l.length - i) 0 ?_ ?_ ?_
 ·exact yai _
 ·simp -dsimp -implicitDefEqProofs (disch:=first|omega|assumption) [zav,zfM]
 intro T' f hT' i hi ih
 by_cases h1:i<l.length
 ·have hsz:=hl l[i] (yam _)
  have htk:=zaw (g:=zdk) h1;have hlen:=zah (g:=zdk) hi;have hft:=zea h1;have hfi:=zcl hl i hi;have h3:=zgD l[i];simp -dsimp -implicitDefEqProofs (disch:=first|omega|assumption) [h1,hlen,h3]
  refine ih (i+1) _ _ h1 (by omega) ?_
  rw[htk,hft];simp -dsimp -implicitDefEqProofs (disch:=first|omega|assumption) [h3,zdk]
 ·obtain rfl:i=l.length:=by omega
  have hlen:=zah (g:=zdk) hi;subst hT';simp -dsimp -implicitDefEqProofs (disch:=first|omega|assumption) [hcs,hlen]
  simpa -dsimp -implicitDefEqProofs (disch:=first|omega|assumption) [zbC,yal,yaH]using hT
end Go.Am.Ab
namespace Go.Am.Ab
open Go.Proofs
set_option maxHeartbeats 4000000
def zsk {c:Cel} (h:chk c=0):fix c=c:=by rw[fix,yaj h]
def zkI {c:Cel} (h:chk c=0) (hk:c.kind=1):zat c= .whole c.n:=by
 unfold zat;rw[zsk h,yaj hk]
def zpt {c:Cel} (h:chk c=0) (hk:c.kind=2):zat c= .truth (decide (c.n=1)):=by
 unfold zat;rw[zsk h,yag (by omega),yaj hk]
def zjs {c:Cel} (h:chk c=0) (hk:c.kind=3):zat c= .text c.s:=by
 unfold zat;rw[zsk h,yag (by omega),yag (by omega),yaj hk]
def zhq {c:Cel} (h:chk c=0) (hk:c.kind=0):zat c= .null:=by
 unfold zat;rw[zsk h,yag (by omega),yag (by omega),yag (by omega)]
def znE {c:Cel} (h:chk c=0):(zat c).kind=c.kind:=by
 have hk:=(zcn h).1;have h4:c.kind=0\/c.kind=1\/c.kind=2\/c.kind=3:=by omega
 rcases h4 with e | e | e | e
 ·rw[zhq h e,e];rfl
 ·rw[zkI h e,e];rfl
 ·rw[zpt h e,e];rfl
 ·rw[zjs h e,e];rfl
def zAl {c:Cel} (h:chk c=0):zat c= .null↔c.kind=0:=by
 constructor
 ·intro e
  rw[<- znE h,e];rfl
 ·exact zhq h
def zwb (k:Nat) (c:Cel):Bool:=decide (c.kind≠0) && decide (c.kind≠k)
def zAm {l:List Cel} (hl: ∀c∈l,chk c=0):(l.map zat).any zkC=false:=by
 rw[ydb];intro v hv;obtain⟨c,hc,rfl⟩:=List.mem_map.1 hv;have h:=hl c hc;have hs:=(zcn h).2.2.2.2;cases e:zat c with
 |text s=>
  have hk:c.kind=3:=by rw[<- znE h,e];rfl
  rw[zjs h hk]at e;cases e;simp[zkC];omega
 |_=>simp[zkC]
def nnz (l:List Cel):List Cel:=l.filter λc=>decide (c.kind≠0)
def zkJ {l:List Cel} (hl: ∀c∈l,chk c=0):zap (l.map zat)=l.map λc=>decide (c.kind≠0):=by
 rw[zap,yaL];apply yaX;intro c hc;exact decide_eq_decide.2 (not_congr (zAl (hl c hc)))
def zsl: ∀ {l:List Cel},(∀c∈l,chk c=0)->(∀c∈l,c.kind=0\/c.kind=1)->(nnz l).map (·.n)=zbD (l.map zat)
 |[],_,_=>rfl
 |c::r,h,hk=>by
  have ih:=zsl (l:=r) (λx hx=>h x (by simp[hx])) λx hx=>hk x (by simp[hx])
  have hc:=h c (by simp)
  unfold nnz zbD at*;rcases hk c (by simp) with e | e
  ·rw[yb1,yag (by simp[e]),yaO,ycl,zhq hc e];exact ih
  ·rw[yb1,yaj (by simp[e]),yaO,yaO,ycl,zkI hc e,ih]
def zsm: ∀ {l:List Cel},(∀c∈l,chk c=0)->(∀c∈l,c.kind=0\/c.kind=2)->(nnz l).map (λc=>IntKind.u64.wrap c.n)=(zbE (l.map zat)).map λb=>((bit b:Nat):Int)
 |[],_,_=>rfl
 |c::r,h,hk=>by
  have ih:=zsm (l:=r) (λx hx=>h x (by simp[hx])) λx hx=>hk x (by simp[hx])
  have hc:=h c (by simp)
  unfold nnz zbE at*;rcases hk c (by simp) with e | e
  ·rw[yb1,yag (by simp[e]),yaO,ycl,zhq hc e];exact ih
  ·have hn:=(zcn hc).2.2.2.1 e
   rw[yb1,yaj (by simp[e]),yaO,yaO,ycl,zpt hc e,ih]
   simp only[yaO];congr 1;rcases hn with z | z <;> rw[z] <;> rfl
def zwc: ∀ {l:List Cel},(∀c∈l,chk c=0)->(∀c∈l,c.kind=0\/c.kind=3)->(nnz l).map (·.s)=zcZ (l.map zat)
 |[],_,_=>rfl
 |c::r,h,hk=>by
  have ih:=zwc (l:=r) (λx hx=>h x (by simp[hx])) λx hx=>hk x (by simp[hx])
  have hc:=h c (by simp)
  unfold nnz zcZ at*;rcases hk c (by simp) with e | e
  ·rw[yb1,yag (by simp[e]),yaO,ycl,zhq hc e];exact ih
  ·rw[yb1,yaj (by simp[e]),yaO,yaO,ycl,zjs hc e,ih]
def zhr (g:Cel->D) (l:List Cel) (i:Nat):List D:=(nnz (l.take i)).map g
def zkK (g:Cel->D) (l:List Cel):zhr g l 0=[]:=rfl
def zcQ {g:Cel->D} {l:List Cel} {i:Nat} (h:i<l.length):zhr g l (i+1)=zhr g l i++(if l[i].kind≠0 then [g l[i]] else []):=by
 unfold zhr nnz;rw[zao h,List.filter_append,ybf];congr 1
 by_cases e:l[i].kind=0
 ·simp[e]
 ·simp[e]
def zax (g:Cel->D) (l:List Cel) (i:Nat):(zhr g l i).length<=i:=by
 have:=List.length_filter_le (λc:Cel=>decide (c.kind≠0)) (l.take i)
 have h2:(l.take i).length<=i:=by simp;omega
 simp only[zhr,nnz,yah];omega
def znF (g:Cel->D) (l:List Cel):zhr g l l.length=(nnz l).map g:=by rw[zhr,yaQ]
end Go.Am.Ab
