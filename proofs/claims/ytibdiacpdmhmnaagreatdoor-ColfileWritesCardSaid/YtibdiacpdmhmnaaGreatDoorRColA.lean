/- Columns of the document, their parts. -/
import Derived.Test.YtibdiacpdmhmnaaGreatDoorBitsA
import Derived.Test.YtibdiacpdmhmnaaGreatDoorVars
import Derived.Test.YtibdiacpdmhmnaaGreatDoorColA
import Derived.Test.YtibdiacpdmhmnaaGreatDoorRefInts
import Derived.Test.YtibdiacpdmhmnaaGreatDoorColB
set_option linter.all false
namespace Go.Am.Ab.Str
open Go.Proofs
set_option maxHeartbeats 4000000
set_option maxRecDepth 4000
def ins_length (x:Nat): ∀l:List Nat,(ins x l).length<=l.length+1
 |[]=>by simp[ins]
 |y::r=>by
  unfold ins;have:=ins_length x r;split
  ·simp
  ·split
   ·simp
   ·simp only[List.length_cons];omega
def uniq_length_le (l:List Nat):(uniq l).length<=l.length:=by
 have key: ∀ (l u:List Nat),(l.foldl (λu x=>ins x u) u).length<=u.length+l.length:=by
  intro l
  induction l with
  |nil=>intro u;simp
  |cons x r ih=>
   intro u;have h1:=ih (ins x u);have h2:=ins_length x u;simp only[List.foldl_cons,List.length_cons];omega
 have:=key l [];simpa[uniq]using this
def insG (x:Nat):Bool->List Nat->List Nat
 |done,[]=>if done then [] else [x]
 |done,y::r=>if y=x then y::insG x true r else if done then y::insG x true r else if x<y then x::y::insG x true r else y::insG x false r
def insG_true (x:Nat): ∀l,insG x true l=l
 |[]=>rfl
 |y::r=>by simp[insG,insG_true x r]
def insG_false (x:Nat): ∀l,insG x false l=ins x l
 |[]=>rfl
 |y::r=>by
  simp only[insG,ins,insG_true,insG_false x r,Bool.false_eq_true,if_false]
  by_cases h1:y=x
  ·subst h1;simp
  ·have h2: ¬ x=y:=λe=>h1 e.symm
   simp[h1,h2]
def insG_step {x:Nat} {u:List Nat} {k:Nat} (h:k<u.length) (done:Bool):insG x done (u.drop k)=(if at' u k=x then [at' u k] else if done then [at' u k] else if x<at' u k then [x,at' u k] else [at' u k])++insG x (done || decide (x=at' u k) || decide (x<at' u k)) (u.drop (k+1)):=by
 rw[List.drop_eq_getElem_cons h,get_at h,insG]
 by_cases h1:at' u k=x
 ·have h2:x=at' u k:=h1.symm
  rw[if_pos h1,if_pos h1,decide_eq_true h2];simp
 ·have h2: ¬ x=at' u k:=λe=>h1 e.symm
  rw[if_neg h1,if_neg h1,decide_eq_false h2];cases done with
  |true=>simp
  |false=>
   by_cases h3:x<at' u k
   ·simp[h3]
   ·simp[h3]
def runlikeS_runs {wd:Nat->ByteArray} (hwd:Mono wd) (l:List Nat) (hn:l.length<=256):R 104 [.d (.list (ws wd l))] []=some ([.arr 0 (uniq l).length],[.arr 1 (ws wd (uniq l)) 0]):=by
 have hsnoc: ∀i,i<l.length->uniq (l.take (i+1))=ins (at' l i) (uniq (l.take i)):=λi hi=>by
  unfold uniq;rw[zaq hi,List.foldl_append,get_at hi];rfl
 refine rg zBo rfl ?_;intro T hT;simp -dsimp -implicitDefEqProofs (disch:=first|omega|assumption)
 generalize hz:zaf _ _ _ _ _ _=z;revert z;refine zaa (σ:=Nat) (λi=>[(0,.d (.list (ws wd l))),(3,.arr 0 (uniq (l.take i)).length),(4,.d (.int .i64 i))]) (λi=>[.arr 1 (ws wd (uniq (l.take i))) 0]) (λi=>i<=l.length) (λi=>l.length - i) 0 ?_ ?_ ?_
 ·simp
 ·simp -dsimp -implicitDefEqProofs (disch:=first|omega|assumption) [uniq]
 intro T' f hT' i hi ih
 by_cases h1:i<l.length
 ·have gi:=get_at h1
  have hun:=uniq_length_le (l.take i);rw[List.length_take]at hun;have hins:=ins_length (at' l i) (uniq (l.take i));rw[<- hsnoc i h1]at hins;obtain⟨u,hu⟩: ∃u,u=uniq (l.take i):=⟨_,rfl⟩;obtain⟨x,hx⟩: ∃x,x=at' l i:=⟨_,rfl⟩;have hs:=hsnoc i h1;rw[<- hu,<- hx]at hs;rw[<- hu]at hun hins;rw[<- hx]at gi;rw[<- hu];simp -dsimp -implicitDefEqProofs (disch:=first|omega|assumption) [hwd.beq,hwd.lt,h1,gi]
  generalize hz:zaf _ _ _ _ _ _=z;revert z;refine zaa (σ:=Nat × Bool × List Nat) (λy=>[(0,.d (.list (ws wd l))),(3,.arr 0 u.length),(4,.d (.int .i64 i)),(5,.arr 1 y.2.2.length),(6,.d (.bool y.2.1)),(7,.d (.int .i64 y.1))]) (λy=>[.arr 1 (ws wd u) 0,.arr 1 (ws wd y.2.2) 0]) (λy=>y.1<=u.length/\y.2.2.length<=2*y.1/\y.2.2++insG x y.2.1 (u.drop y.1)=uniq (l.take (i+1))) (λy=>u.length - y.1) (0,false,[]) ?_ ?_ ?_
  ·refine⟨Nat.zero_le _,Nat.le_refl _, ?_⟩
   simp only[List.nil_append,List.drop_zero];rw[insG_false,hs]
  ·simp -dsimp -implicitDefEqProofs (disch:=first|omega|assumption)
  intro T2 f2 hT2 ⟨k,done,nx⟩ ⟨k1,k2,k3⟩ ih2;simp only at k1 k2 k3 ih2
  by_cases h2:k<u.length
  ·have gk:=get_at h2
   have hst:=insG_step (x:=x) h2 done;rw[hst,<- List.append_assoc]at k3;have nd:u.drop (k+1)=u.drop (k+1):=rfl;have fin: ∀ (d2:Bool) (n2:List Nat),n2=nx++(if at' u k=x then [at' u k] else if done then [at' u k] else if x<at' u k then [x,at' u k] else [at' u k])->d2=(done || decide (x=at' u k) || decide (x<at' u k))->(k+1<=u.length/\n2.length<=2*(k+1)/\n2++insG x d2 (u.drop (k+1))=uniq (l.take (i+1))):=by
    intro d2 n2 e1 e2;refine⟨h2, ?_,by rw[e1,e2];exact k3⟩
    rw[e1,List.length_append];have:(if at' u k=x then [at' u k] else if done then [at' u k] else if x<at' u k then [x,at' u k] else [at' u k]).length<=2:=by split <;> (try split) <;> (try split) <;> simp
    omega
   by_cases c1:at' u k=x
   ·have c1':x=at' u k:=c1.symm
    simp -dsimp -implicitDefEqProofs (disch:=first|omega|assumption) [hwd.beq,hwd.lt,h1,h2,gi,gk,c1]
    refine ih2 (k+1,true,nx++[x]) _ _ (fin _ _ (by rw[if_pos c1,c1]) (by rw[decide_eq_true c1'];simp)) (by simp only;omega) ?_
    simp -dsimp -implicitDefEqProofs (disch:=first|omega|assumption) [c1]
   ·have c1': ¬ x=at' u k:=λe=>c1 e.symm
    cases done with
    |true=>
     simp -dsimp -implicitDefEqProofs (disch:=first|omega|assumption) [hwd.beq,hwd.lt,h1,h2,gi,gk,c1]
     refine ih2 (k+1,true,nx++[at' u k]) _ _ (fin _ _ (by rw[if_neg c1];rfl) (by simp)) (by simp only;omega) ?_
     simp -dsimp -implicitDefEqProofs (disch:=first|omega|assumption) [c1]
    |false=>
     by_cases c2:x<at' u k
     ·simp -dsimp -implicitDefEqProofs (disch:=first|omega|assumption) [hwd.beq,hwd.lt,h1,h2,gi,gk,c1,c2]
      refine ih2 (k+1,true,nx++[x,at' u k]) _ _ (fin _ _ (by rw[if_neg c1,if_neg (by simp),if_pos c2]) (by simp[c2])) (by simp only;omega) ?_
      simp -dsimp -implicitDefEqProofs (disch:=first|omega|assumption) [c1]
     ·simp -dsimp -implicitDefEqProofs (disch:=first|omega|assumption) [hwd.beq,hwd.lt,h1,h2,gi,gk,c1,c2]
      refine ih2 (k+1,false,nx++[at' u k]) _ _ (fin _ _ (by rw[if_neg c1,if_neg (by simp),if_neg c2]) (by simp[c2,c1'])) (by simp only;omega) ?_
      simp -dsimp -implicitDefEqProofs (disch:=first|omega|assumption) [c1]
  ·have h2':k=u.length:=by omega
   rw[List.drop_of_length_le (by omega)]at k3
   have hnl:(uniq (l.take (i+1))).length<=257:=by omega
   subst hT2;cases done with
   |true=>
    have k4:nx=uniq (l.take (i+1)):=by rw[<- k3];simp[insG]
    simp -dsimp -implicitDefEqProofs (disch:=first|omega|assumption) [hwd.beq,hwd.lt,h1,h2,gi]
    refine ih (i+1) _ _ h1 (by omega) ?_
    rw[<- k4];simp -dsimp -implicitDefEqProofs (disch:=first|omega|assumption)
   |false=>
    have k4:nx++[x]=uniq (l.take (i+1)):=by rw[<- k3];simp[insG]
    simp -dsimp -implicitDefEqProofs (disch:=first|omega|assumption) [hwd.beq,hwd.lt,h1,h2,gi]
    refine ih (i+1) _ _ h1 (by omega) ?_
    rw[<- k4];simp -dsimp -implicitDefEqProofs (disch:=first|omega|assumption)
 ·have hil:i=l.length:=by omega
  rw[List.take_of_length_le (by omega)]
  subst hT';simp -dsimp -implicitDefEqProofs (disch:=first|omega|assumption) [hwd.beq,hwd.lt,h1]
  simpa -dsimp -implicitDefEqProofs (disch:=first|omega|assumption) using hT
end Go.Am.Ab.Str
namespace Go.Am.Ab
open Go.Proofs
def zjm (l:List ByteArray) (hn:l.length<=256):R 104 [.d (.list (ss l))] []=some ([.arr 0 (zdX l).length],[.arr 1 (ss (zdX l)) 0]):=by
 obtain⟨wd,r,hwd,rfl⟩:=ztl l;have h:=Str.runlikeS_runs hwd r (by simpa using hn)
 rw[zmX hwd,zm0,zm0,List.length_map];exact h
def zdA (l:List Bool) (hn:l.length<=256):R 102 [.d (zhm (l.map bit))] []=some ([.arr 0 (za8 l).length],[.arr 1 (bytes (za8 l)) 0]):=by
 have h64: ∀n∈l.map bit,n<18446744073709551616:=λn h=>by have:=zps l n h;omega
 have hp:=zhn (l.map bit) 1 h64 (by omega) (by simpa using hn) (ziM l)
 rw[show zbL 1 (l.map bit)=za8 l from rfl]at hp
 obtain⟨q,hq⟩: ∃q,q=zhm (l.map bit):=⟨_,rfl⟩;rw[<- hq]at hp ⊢;have hp':R 144 [.d q,.d (.int .i64 1)] []=some ([.arr 0 (za8 l).length,.d (.bool true)],[.arr 1 (bytes (za8 l)) 0]):=hp;refine rg zBm rfl ?_;intro T hT;simp -dsimp -implicitDefEqProofs (disch:=first|omega|assumption) [hp']
 simpa -dsimp -implicitDefEqProofs (disch:=first|omega|assumption) using hT
def zjn (l:List Int) (hl: ∀n∈l,zat n) (hn:l.length<=256):R 146 [.d (ints l)] []=some ([.arr 0 (za4 l).length],[.arr 1 (bytes (za4 l)) 0]):=by
 have h:=zhy l hl hn;have hb:=zcv hl hn;have hp:=zaP (zca l).length (by omega)
 have hpl:=zak (n:=(zca l).length) (by omega)
 have hw:IntKind.u64.wrap ((zca l).length:Int)=(zca l).length:=zaj (by omega) (by omega)
 refine rg zBA rfl ?_;intro T hT;simp -dsimp -implicitDefEqProofs (disch:=first|omega|assumption) [h,hp,hw]
 simpa -dsimp -implicitDefEqProofs (disch:=first|omega|assumption) [za4]using hT
def zhE (l:List ByteArray) (hl: ∀s∈l,s.size<=64) (hn:l.length<=256):R 105 [.d (.list (ss l))] []=some ([.arr 0 (zbt l).length],[.arr 1 (bytes (zbt l)) 0]):=by
 have hsi:=zff hl;have hsl:(zbg l).length=l.length:=by simp[zbg]
 have hcl:=zcw hsi (by omega)
 have hfl:=zbT hl l.length (Nat.le_refl _);have hc:=zjn (zbg l) hsi (by omega)
 have hcs:R 146 [.d (.list (zcY zcF l l.length))] []=some ([.arr 0 (za4 (zbg l)).length],[.arr 1 (bytes (za4 (zbg l))) 0]):=by
  rw[zbk (Nat.le_refl _),<- hc,ints,zbg,List.map_map];rfl
 refine rg zBp rfl ?_;intro T hT;simp -dsimp -implicitDefEqProofs (disch:=first|omega|assumption)
 generalize hz:zaf _ _ _ _ _ _=z;revert z;refine zaa (σ:=Nat) (λi=>[(0,.d (.list (ss l))),(3,.arr 0 i),(4,.arr 1 (zeG l i).length),(5,.d (.int .i64 i))]) (λi=>[.arr 1 (zcY zcF l i) 0,.arr 1 (bytes (zeG l i)) 0]) (λi=>i<=l.length) (λi=>l.length - i) 0 ?_ ?_ ?_
 ·exact Nat.zero_le _
 ·simp -dsimp -implicitDefEqProofs (disch:=first|omega|assumption) [zaL,zed]
 intro T' f hT' i hi ih
 by_cases h1:i<l.length
 ·have hsz:=hl l[i] (List.getElem_mem _)
  have htk:=zaM (g:=zcF) h1;have hlen:=zai (g:=zcF) hi;have hft:=zdh h1;have hfi:=zbT hl i hi;have h3:=zhv l[i];simp -dsimp -implicitDefEqProofs (disch:=first|omega|assumption) [h1,hlen,h3]
  refine ih (i+1) _ _ h1 (by omega) ?_
  rw[htk,hft];simp -dsimp -implicitDefEqProofs (disch:=first|omega|assumption) [h3,zcF]
 ·obtain rfl:i=l.length:=by omega
  have hlen:=zai (g:=zcF) hi;subst hT';simp -dsimp -implicitDefEqProofs (disch:=first|omega|assumption) [hcs,hlen]
  simpa -dsimp -implicitDefEqProofs (disch:=first|omega|assumption) [zbt,List.append_assoc,Nat.add_assoc]using hT
end Go.Am.Ab
namespace Go.Am.Ab
open Go.Proofs
set_option maxHeartbeats 4000000
def zm1 {c:Cel} (h:chk c=0):fix c=c:=by rw[fix,if_pos h]
def zhF {c:Cel} (h:chk c=0) (hk:c.kind=1):zan c= .whole c.n:=by
 unfold zan;rw[zm1 h,if_pos hk]
def zkI {c:Cel} (h:chk c=0) (hk:c.kind=2):zan c= .truth (decide (c.n=1)):=by
 unfold zan;rw[zm1 h,if_neg (by omega),if_pos hk]
def zgB {c:Cel} (h:chk c=0) (hk:c.kind=3):zan c= .text c.s:=by
 unfold zan;rw[zm1 h,if_neg (by omega),if_neg (by omega),if_pos hk]
def zfg {c:Cel} (h:chk c=0) (hk:c.kind=0):zan c= .null:=by
 unfold zan;rw[zm1 h,if_neg (by omega),if_neg (by omega),if_neg (by omega)]
def zjo {c:Cel} (h:chk c=0):(zan c).kind=c.kind:=by
 have hk:=(zci h).1;have h4:c.kind=0\/c.kind=1\/c.kind=2\/c.kind=3:=by omega
 rcases h4 with e | e | e | e
 ·rw[zfg h e,e];rfl
 ·rw[zhF h e,e];rfl
 ·rw[zkI h e,e];rfl
 ·rw[zgB h e,e];rfl
def ztm {c:Cel} (h:chk c=0):zan c= .null↔c.kind=0:=by
 constructor
 ·intro e
  rw[<- zjo h,e];rfl
 ·exact zfg h
def zpK (k:Nat) (c:Cel):Bool:=decide (c.kind≠0) && decide (c.kind≠k)
def ztn {l:List Cel} (hl: ∀c∈l,chk c=0):(l.map zan).any zhz=false:=by
 rw[List.any_eq_false];intro v hv;obtain⟨c,hc,rfl⟩:=List.mem_map.1 hv;have h:=hl c hc;have hs:=(zci h).2.2.2.2;cases e:zan c with
 |text s=>
  have hk:c.kind=3:=by rw[<- zjo h,e];rfl
  rw[zgB h hk]at e;cases e;simp[zhz];omega
 |_=>simp[zhz]
def nnz (l:List Cel):List Cel:=l.filter λc=>decide (c.kind≠0)
def zhG {l:List Cel} (hl: ∀c∈l,chk c=0):zav (l.map zan)=l.map λc=>decide (c.kind≠0):=by
 rw[zav,List.map_map];apply List.map_congr_left;intro c hc;exact decide_eq_decide.2 (not_congr (ztm (hl c hc)))
def zm2: ∀ {l:List Cel},(∀c∈l,chk c=0)->(∀c∈l,c.kind=0\/c.kind=1)->(nnz l).map (·.n)=zcj (l.map zan)
 |[],_,_=>rfl
 |c::r,h,hk=>by
  have ih:=zm2 (l:=r) (λx hx=>h x (by simp[hx])) λx hx=>hk x (by simp[hx])
  have hc:=h c (by simp)
  unfold nnz zcj at*;rcases hk c (by simp) with e | e
  ·rw[List.filter_cons,if_neg (by simp[e]),List.map_cons,List.filterMap_cons,zfg hc e];exact ih
  ·rw[List.filter_cons,if_pos (by simp[e]),List.map_cons,List.map_cons,List.filterMap_cons,zhF hc e,ih]
def zm3: ∀ {l:List Cel},(∀c∈l,chk c=0)->(∀c∈l,c.kind=0\/c.kind=2)->(nnz l).map (λc=>IntKind.u64.wrap c.n)=(zb6 (l.map zan)).map λb=>((bit b:Nat):Int)
 |[],_,_=>rfl
 |c::r,h,hk=>by
  have ih:=zm3 (l:=r) (λx hx=>h x (by simp[hx])) λx hx=>hk x (by simp[hx])
  have hc:=h c (by simp)
  unfold nnz zb6 at*;rcases hk c (by simp) with e | e
  ·rw[List.filter_cons,if_neg (by simp[e]),List.map_cons,List.filterMap_cons,zfg hc e];exact ih
  ·have hn:=(zci hc).2.2.2.1 e
   rw[List.filter_cons,if_pos (by simp[e]),List.map_cons,List.map_cons,List.filterMap_cons,zkI hc e,ih]
   simp only[List.map_cons];congr 1;rcases hn with z | z <;> rw[z] <;> rfl
def zpL: ∀ {l:List Cel},(∀c∈l,chk c=0)->(∀c∈l,c.kind=0\/c.kind=3)->(nnz l).map (·.s)=zcT (l.map zan)
 |[],_,_=>rfl
 |c::r,h,hk=>by
  have ih:=zpL (l:=r) (λx hx=>h x (by simp[hx])) λx hx=>hk x (by simp[hx])
  have hc:=h c (by simp)
  unfold nnz zcT at*;rcases hk c (by simp) with e | e
  ·rw[List.filter_cons,if_neg (by simp[e]),List.map_cons,List.filterMap_cons,zfg hc e];exact ih
  ·rw[List.filter_cons,if_pos (by simp[e]),List.map_cons,List.map_cons,List.filterMap_cons,zgB hc e,ih]
def zfh (g:Cel->D) (l:List Cel) (i:Nat):List D:=(nnz (l.take i)).map g
def zhH (g:Cel->D) (l:List Cel):zfh g l 0=[]:=rfl
def zck {g:Cel->D} {l:List Cel} {i:Nat} (h:i<l.length):zfh g l (i+1)=zfh g l i++(if l[i].kind≠0 then [g l[i]] else []):=by
 unfold zfh nnz;rw[zaq h,List.filter_append,List.map_append];congr 1
 by_cases e:l[i].kind=0
 ·simp[e]
 ·simp[e]
def zaw (g:Cel->D) (l:List Cel) (i:Nat):(zfh g l i).length<=i:=by
 have:=List.length_filter_le (λc:Cel=>decide (c.kind≠0)) (l.take i)
 have h2:(l.take i).length<=i:=by simp;omega
 simp only[zfh,nnz,List.length_map];omega
def zjp (g:Cel->D) (l:List Cel):zfh g l l.length=(nnz l).map g:=by rw[zfh,List.take_length]
end Go.Am.Ab
