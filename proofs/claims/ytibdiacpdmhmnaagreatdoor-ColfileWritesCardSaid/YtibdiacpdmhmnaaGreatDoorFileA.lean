/- Files of rows: parts. -/
import Derived.Test.YtibdiacpdmhmnaaGreatDoorStatA
import Derived.Test.YtibdiacpdmhmnaaGreatDoorSchemaA
import Derived.Test.YtibdiacpdmhmnaaGreatDoorColD
import Derived.Test.YtibdiacpdmhmnaaGreatDoorSums
set_option linter.all false
namespace Go.Am.Ab
open Go.Proofs
set_option maxHeartbeats 4000000
set_option maxRecDepth 4000
def zeK:Val->List UInt8
 |.null=>put 0
 |.whole n=>zaY n
 |.truth b=>zfV b
 |.text s=>put s.size++tx s
def vok (v:Val):Prop:=match v with
 |.whole n=> -9223372036854775808<=n/\n<=9223372036854775807
 |.text s=>s.size<=1000
 |_=>True
def zee {v:Val} (h:vok v):(zeK v).length<=1010:=by
 cases v with
 |null=>show (put 0).length<=1010;rw[ziG (by omega)];simp
 |whole n=>have:=zaH h;show (zaY n).length<=1010;omega
 |truth b=>simp[zeK,zfV]
 |text s=>
  have h':s.size<=1000:=h;have:=zak (n:=s.size) (by omega)
  show (put s.size++tx s).length<=1010
  rw[List.length_append];have d:(tx s).length=s.size:=by simp[tx]
  omega
def zjw (x:Sta) (v w:Val):List UInt8:=
 put x.nulls++((if x.has=true then (if x.high=true then 3 else 1) else 0)::((if x.has=true then zeK v else [])++(if x.has=true/\x.high=true then zeK w else [])))
def zl9 (n:Int):(Utf8.encode n).size<=4:=by
 unfold Utf8.encode;simp only;split
 all_goals
  split <;> (try split) <;> (try split) <;> simp[ByteArray.size]
def zna (s:ByteArray) (n:Nat):(frs s n).size<=s.size:=by
 unfold frs;split
 ·rw[ByteArray.size_extract];omega
 ·exact Nat.le_refl _
def zkU (s:ByteArray) (L:List (Nat × Nat × Bool)): ∀ (k:Nat) (t:ByteArray),zjF s L k=some t->t.size<=s.size+4
 |0,t,h=>by cases h
 |k+1,t,h=>by
  unfold zjF at h;split at h
  ·split at h
   ·simp only[Option.some.injEq]at h;subst h
    have:=zl9 (nxt ‹Nat × Nat × Bool›.1:Nat);rw[ByteArray.size_append,ByteArray.size_extract];omega
   ·exact zkU s L k t h
  ·cases h
def zrJ (s:ByteArray) (n:Nat):(abv s n).1.size<=s.size+4:=by
 unfold abv;split
 ·simp
 ·split
  ·simp
  ·split
   ·rename_i h;exact zkU s _ _ _ h
   ·simp
def zjx {l:List Val} (hl: ∀v∈l,match v with | .whole n=> -9223372036854775808<=n/\n<=9223372036854775807 | .text s=>s.size<=64 | _=>True): ∃v w,(zcp l).mn=zag v/\(zcp l).mx=zag w/\vok v/\vok w/\(zcp l).nulls<=l.length:=by
 have hok:=zgD (p:=λv=>match v with | .whole n=> -9223372036854775808<=n/\n<=9223372036854775807 | .text s=>s.size<=64 | _=>True) hl l.length (Nat.le_refl _)
 rw[List.take_length]at hok;unfold zcp;generalize l.foldl stp st0=x at*;have hn:=hok.nu;have hle:=hok.le;unfold zcR;split
 ·exact⟨.null,.null,rfl,rfl,trivial,trivial,hn⟩
 ·rename_i hh
  obtain⟨k1,p1,p2,k2⟩:=hle (by simpa using hh)
  split
  ·rename_i s hs
   rw[hs]at p1 k1;split
   ·exact⟨.text noS,.null,rfl,rfl,Nat.zero_le _,trivial,hn⟩
   ·split
    ·refine⟨.text (frs s 4),.text (abv (zhM x.mo) 4).1,rfl,rfl, ?_, ?_,hn⟩
     ·have:=zna s 4
      show (frs s 4).size<=1000
      have h':s.size<=64:=p1;omega
     ·have:=zrJ (zhM x.mo) 4
      show (abv (zhM x.mo) 4).1.size<=1000
      have h':(zhM x.mo).size<=64:=by
       cases hm:x.mo with
       |text s=>rw[hm]at p2;exact p2
       |_=>simp[zhM]
      omega
    ·refine⟨.text (frs s 4),.null,rfl,rfl, ?_,trivial,hn⟩
     have:=zna s 4
     show (frs s 4).size<=1000
     have h':s.size<=64:=p1;omega
  ·rename_i hne
   refine⟨x.le,x.mo,rfl,rfl, ?_, ?_,hn⟩
   ·cases hv:x.le with
    |text s=>exact absurd hv (hne s)
    |whole n=>rw[hv]at p1;exact p1
    |_=>trivial
   ·cases hv:x.mo with
    |text s=>rw[hv]at p2;show s.size<=1000;have h':s.size<=64:=p2;omega
    |whole n=>rw[hv]at p2;exact p2
    |_=>trivial
def zfX (b:List UInt8) (v:Val) (hv:vok v) (hb:b.length<=100000000):R 93 [.arr 0 b.length,.d (zag v).d] [.arr 1 (bytes b) 0]=some ([.arr 0 (b++zeK v).length],[.arr 1 (bytes (b++zeK v)) 0]):=by
 cases v with
 |null=>
  have h:R 42 [.d (.int .u64 0)] []=some ([.arr 0 (put 0).length],[.arr 1 (bytes (put 0)) 0]):=zaS 0 (by omega)
  have hl:=zak (n:=0) (by omega)
  simp only[vc0,Cel.d,zeK];refine rg b93 rfl ?_;intro T hT;simp -dsimp -implicitDefEqProofs (disch:=first|omega|assumption) [h,zaj]
  simpa -dsimp -implicitDefEqProofs (disch:=first|omega|assumption) using hT
 |whole n=>
  have h:=zbZ n hv.1 hv.2;have hl:=zaH hv;simp only[vc1,Cel.d,zeK];refine rg b93 rfl ?_;intro T hT;simp -dsimp -implicitDefEqProofs (disch:=first|omega|assumption) [h]
  simpa -dsimp -implicitDefEqProofs (disch:=first|omega|assumption) using hT
 |truth t=>
  simp only[vc2,Cel.d,zeK];cases t
  all_goals
   refine rg b93 rfl ?_;intro T hT;simp -dsimp -implicitDefEqProofs (disch:=first|omega|assumption)
   simpa -dsimp -implicitDefEqProofs (disch:=first|omega|assumption) [zfV]using hT
 |text s=>
  have hs:s.size<=1000:=hv;have h:=zaS s.size (by omega)
  have hl:=zak (n:=s.size) (by omega)
  have d1:(s.size:Int)<=18446744073709551615:=by omega
  simp only[vc3,Cel.d,zeK];refine rg b93 rfl ?_;intro T hT;simp -dsimp -implicitDefEqProofs (disch:=first|omega|assumption) [h,zaj,d1]
  simpa -dsimp -implicitDefEqProofs (disch:=first|omega|assumption) [tx,Nat.add_assoc]using hT
def zol (b:List UInt8) (x:Sta) (v w:Val) (hm:x.mn=zag v) (hx:x.mx=zag w) (hv:vok v) (hw:vok w) (hn:x.nulls<=1000000) (hh:x.high=true->x.has=true) (hb:b.length<=90000000):
 R 46 [.arr 0 b.length,.d x.d] [.arr 1 (bytes b) 0]=some ([.arr 0 (b++zjw x v w).length],[.arr 1 (bytes (b++zjw x v w)) 0]):=by
 obtain⟨rows,nulls,has,high,mn,mx⟩:=x;simp only at hm hx hn hh;subst hm;subst hx;have p:=zaS nulls (by omega)
 have pl:=zak (n:=nulls) (by omega)
 have d1:(nulls:Int)<=18446744073709551615:=by omega
 have vl:=zee hv;have wl:=zee hw;unfold zjw;simp only;have l1:(b++(put nulls++[1])).length=b.length+(put nulls).length+1:=by simp[Nat.add_assoc]
 have l3:(b++(put nulls++[3])).length=b.length+(put nulls).length+1:=by simp[Nat.add_assoc]
 have c1:bytes (b++(put nulls++[1]))=bytes b++(bytes (put nulls)++[.int .u8 1]):=by simp
 have c3:bytes (b++(put nulls++[3]))=bytes b++(bytes (put nulls)++[.int .u8 3]):=by simp
 cases has with
 |false=>
  cases high with
  |true=>exact absurd (hh rfl) (by decide)
  |false=>
   simp only[Sta.d];refine rg b46 rfl ?_;intro T hT;simp -dsimp -implicitDefEqProofs (disch:=first|omega|assumption) [p,zaj,d1]
   simpa -dsimp -implicitDefEqProofs (disch:=first|omega|assumption) [Nat.add_assoc]using hT
 |true=>
  cases high with
  |false=>
   have h1:=zfX (b++(put nulls++[1])) v hv (by omega)
   have e:b++(put nulls++((if true=true then if false=true then 3 else 1 else 0)::((if true=true then zeK v else [])++if true=true/\false=true then zeK w else [])))=b++(put nulls++[1])++zeK v:=by simp
   rw[e];generalize b++(put nulls++[1])++zeK v=r at*;rw[l1,c1]at h1;simp only[Sta.d,Cel.d]at h1 ⊢;refine rg b46 rfl ?_;intro T hT;simp -dsimp -implicitDefEqProofs (disch:=first|omega|assumption) [p,zaj,d1,h1]
   simpa -dsimp -implicitDefEqProofs (disch:=first|omega|assumption) using hT
  |true=>
   have h1:=zfX (b++(put nulls++[3])) v hv (by omega)
   have h2:=zfX (b++(put nulls++[3])++zeK v) w hw (by rw[List.length_append];omega)
   have e:b++(put nulls++((if true=true then if true=true then 3 else 1 else 0)::((if true=true then zeK v else [])++if true=true/\true=true then zeK w else [])))=b++(put nulls++[3])++zeK v++zeK w:=by simp
   rw[e];generalize b++(put nulls++[3])++zeK v++zeK w=r at*;generalize b++(put nulls++[3])++zeK v=q at*;rw[l3,c3]at h1;simp only[Sta.d,Cel.d]at h1 h2 ⊢;refine rg b46 rfl ?_;intro T hT;simp -dsimp -implicitDefEqProofs (disch:=first|omega|assumption) [p,zaj,d1,h1,h2]
   simpa -dsimp -implicitDefEqProofs (disch:=first|omega|assumption) using hT
end Go.Am.Ab
namespace Go.Am.Ab
open Go.Proofs
set_option maxHeartbeats 4000000
set_option maxRecDepth 4000
def ziS (v:Val) (hv:vok v):R 106 [.d (zag v).d] []=some ([.arr 0 (zeK v).length],[.arr 1 (bytes (zeK v)) 0]):=by
 cases v with
 |null=>
  have h:R 52 [.d (.int .u64 0)] []=some ([.arr 0 (put 0).length],[.arr 1 (bytes (put 0)) 0]):=zaP 0 (by omega)
  have hl:=zak (n:=0) (by omega)
  simp only[vc0,Cel.d,zeK];refine rg zxT rfl ?_;intro T hT;simp -dsimp -implicitDefEqProofs (disch:=first|omega|assumption) [h,zaj]
  simpa -dsimp -implicitDefEqProofs (disch:=first|omega|assumption) using hT
 |whole n=>
  have h:=zbC n hv.1 hv.2;have hl:=zaH hv;simp only[vc1,Cel.d,zeK];refine rg zxT rfl ?_;intro T hT;simp -dsimp -implicitDefEqProofs (disch:=first|omega|assumption) [h]
  simpa -dsimp -implicitDefEqProofs (disch:=first|omega|assumption) using hT
 |truth t=>
  simp only[vc2,Cel.d,zeK];cases t
  all_goals
   refine rg zxT rfl ?_;intro T hT;simp -dsimp -implicitDefEqProofs (disch:=first|omega|assumption)
   simpa -dsimp -implicitDefEqProofs (disch:=first|omega|assumption) [zfV]using hT
 |text s=>
  have hs:s.size<=1000:=hv;have h:=zaP s.size (by omega)
  have hl:=zak (n:=s.size) (by omega)
  have d1:(s.size:Int)<=18446744073709551615:=by omega
  simp only[vc3,Cel.d,zeK];refine rg zxT rfl ?_;intro T hT;simp -dsimp -implicitDefEqProofs (disch:=first|omega|assumption) [h,zaj,d1]
  simpa -dsimp -implicitDefEqProofs (disch:=first|omega|assumption) [tx]using hT
def zma (x:Sta) (v w:Val) (hm:x.mn=zag v) (hx:x.mx=zag w) (hv:vok v) (hw:vok w) (hn:x.nulls<=1000000) (hh:x.high=true->x.has=true):
 R 55 [.d x.d] []=some ([.arr 0 (zjw x v w).length],[.arr 1 (bytes (zjw x v w)) 0]):=by
 obtain⟨rows,nulls,has,high,mn,mx⟩:=x;simp only at hm hx hn hh;subst hm;subst hx;have p:=zaP nulls (by omega)
 have pl:=zak (n:=nulls) (by omega)
 have d1:(nulls:Int)<=18446744073709551615:=by omega
 have vl:=zee hv;have wl:=zee hw;have h1:=ziS v hv;have h2:=ziS w hw;simp only[Cel.d]at h1 h2;unfold zjw;simp only;cases has with
 |false=>
  cases high with
  |true=>exact absurd (hh rfl) (by decide)
  |false=>
   simp only[Sta.d];refine rg b55 rfl ?_;intro T hT;simp -dsimp -implicitDefEqProofs (disch:=first|omega|assumption) [p,zaj,d1]
   simpa -dsimp -implicitDefEqProofs (disch:=first|omega|assumption) using hT
 |true=>
  cases high with
  |false=>
   simp only[Sta.d];refine rg b55 rfl ?_;intro T hT;simp -dsimp -implicitDefEqProofs (disch:=first|omega|assumption) [p,zaj,d1,h1]
   simpa -dsimp -implicitDefEqProofs (disch:=first|omega|assumption) [Nat.add_assoc,Nat.add_comm,Nat.add_left_comm]using hT
  |true=>
   simp only[Sta.d];refine rg b55 rfl ?_;intro T hT;simp -dsimp -implicitDefEqProofs (disch:=first|omega|assumption) [p,zaj,d1,h1,h2]
   simpa -dsimp -implicitDefEqProofs (disch:=first|omega|assumption) [Nat.add_assoc,Nat.add_comm,Nat.add_left_comm]using hT
abbrev zfl (l:List (List Val)):List D:=l.map λr=> .list (vs r)
abbrev zcx (l:List (List Cel)):List D:=l.map λr=> .list (ce r)
@[simp] def zrK (l:List (List Cel)):zap 1 (l.map λr=> .list (ce r))=true:=zaK l λ_=>rfl
@[simp] def zrL (l:List (List Val)):zap 1 (l.map λr=> .list (vs r))=true:=zaK l λ_=>rfl
def atV (r:List Val) (i:Nat):Val:=r.getD i .null
def col (g:List (List Val)) (i:Nat):List Val:=g.map λr=>atV r i
def zmb {r:List Val} {i:Nat} (h:i<r.length):r[i]=atV r i:=by simp[atV,List.getD_eq_getElem?_getD,h]
def zkV (g:List (List Val)) (i:Nat) (h: ∀r∈g,i<r.length) (hn:g.length<=1000000) (hi:i<=1000000):R 44 [.d (.list (zfl g)),.d (.int .i64 i)] []=some ([.arr 0 g.length],[.arr 1 (vs (col g i)) 0]):=by
 have hend:vs (col g i)=zcY (λr=>(atV r i).d) g g.length:=by
  rw[zbk (Nat.le_refl _)]
  show (g.map _).map Val.d=_
  rw[List.map_map];rfl
 rw[hend];refine rg b44 rfl ?_;intro T hT;simp -dsimp -implicitDefEqProofs (disch:=first|omega|assumption)
 generalize hz:zaf _ _ _ _ _ _=z;revert z;refine zaa (σ:=Nat) (λj=>[(1,.d (.int .i64 i)),(5,.arr 0 j),(8,.d (.list (zfl g))),(9,.d (.int .i64 g.length)),(10,.d (.int .i64 j))]) (λj=>[.arr 1 (zcY (λr=>(atV r i).d) g j) 0]) (λj=>j<=g.length) (λj=>g.length - j) 0 ?_ ?_ ?_
 ·exact Nat.zero_le _
 ·simp -dsimp -implicitDefEqProofs (disch:=first|omega|assumption) [zaL]
 intro T' f hT' j hj ih
 by_cases h1:j<g.length
 ·have hc:=h g[j] (List.getElem_mem _)
  have ha:=zmb hc;have htk:=zaM (g:=λr=>(atV r i).d) h1
  have hlen:=zai (g:=λr=>(atV r i).d) hj
  simp -dsimp -implicitDefEqProofs (disch:=first|omega|assumption) [h1,hc,ha,hlen]
  refine ih (j+1) _ _ h1 (by omega) ?_
  rw[htk];simp -dsimp -implicitDefEqProofs (disch:=first|omega|assumption)
 ·have e:j=g.length:=by omega
  subst e;subst hT';simp -dsimp -implicitDefEqProofs (disch:=first|omega|assumption)
  simpa -dsimp -implicitDefEqProofs (disch:=first|omega|assumption) using hT
def zjy (g:List (List Val)) (i:Nat) (h: ∀r∈g,i<r.length) (hn:g.length<=1000000) (hi:i<=1000000):R 34 [.d (.list (zcx (g.map (·.map zag)))),.d (.int .i64 i)] []=some ([.arr 0 g.length],[.arr 3 (ce ((col g i).map zag)) 0]):=by
 have hend:ce ((col g i).map zag)=zcY (λr=>(zag (atV r i)).d) g g.length:=by
  rw[zbk (Nat.le_refl _)]
  show ((g.map _).map _).map Cel.d=_
  rw[List.map_map,List.map_map];rfl
 rw[hend];refine rg b34 rfl ?_;intro T hT;simp -dsimp -implicitDefEqProofs (disch:=first|omega|assumption)
 generalize hz:zaf _ _ _ _ _ _=z;revert z;refine zaa (σ:=Nat) (λj=>[(0,.d (.list (zcx (g.map (·.map zag))))),(1,.d (.int .i64 i)),(5,.arr 0 j),(6,.d (.int .i64 j))]) (λj=>[.arr 3 (zcY (λr=>(zag (atV r i)).d) g j) 0]) (λj=>j<=g.length) (λj=>g.length - j) 0 ?_ ?_ ?_
 ·exact Nat.zero_le _
 ·simp -dsimp -implicitDefEqProofs (disch:=first|omega|assumption) [zaL]
 intro T' f hT' j hj ih
 by_cases h1:j<g.length
 ·have hc:=h g[j] (List.getElem_mem _)
  have ha:=zmb hc;have hcc:=zhq (zag (atV g[j] i));have htk:=zaM (g:=λr=>(zag (atV r i)).d) h1
  have hlen:=zai (g:=λr=>(zag (atV r i)).d) hj
  simp -dsimp -implicitDefEqProofs (disch:=first|omega|assumption) [h1,hc,ha,hlen,hcc]
  refine ih (j+1) _ _ h1 (by omega) ?_
  rw[htk];simp -dsimp -implicitDefEqProofs (disch:=first|omega|assumption)
  exact (ztj _).symm
 ·have e:j=g.length:=by omega
  subst e;subst hT';simp -dsimp -implicitDefEqProofs (disch:=first|omega|assumption)
  simpa -dsimp -implicitDefEqProofs (disch:=first|omega|assumption) using hT
def cks {α:Type} (n:Nat):Nat->List α->List (List α)
 |0,_=>[]
 |_+1,[]=>[]
 |m+1,x::xs=>(x::xs).take n::cks n m ((x::xs).drop n)
def ziT {α:Type} (f:α->D) (n:Nat): ∀ (m:Nat) (l:List α),zcl n m (l.map f)=(cks n m l).map (·.map f)
 |0,_=>rfl
 |_+1,[]=>rfl
 |m+1,x::xs=>by
  have ih:=ziT f n m ((x::xs).drop n)
  show ((x::xs).map f).take n::zcl n m (((x::xs).map f).drop n)=_
  rw[<- List.map_drop,ih,<- List.map_take];rfl
def zp4 {α β:Type} (f:α->β) (n:Nat): ∀ (m:Nat) (l:List α),cks n m (l.map f)=(cks n m l).map (·.map f)
 |0,_=>rfl
 |_+1,[]=>rfl
 |m+1,x::xs=>by
  have ih:=zp4 f n m ((x::xs).drop n)
  show ((x::xs).map f).take n::cks n m (((x::xs).map f).drop n)=_
  rw[<- List.map_drop,ih,<- List.map_take];rfl
def ztw {α:Type} (n m:Nat):cks n m ([]:List α)=[]:=by cases m <;> rfl
def zrM {α:Type} {n m:Nat} {l:List α} (hm:l.length<=m) (h:0<l.length) (hn:0<n): ∃m',(l.drop n).length<=m'/\cks n m l=l.take n::cks n m' (l.drop n):=by
 cases l with
 |nil=>simp at h
 |cons x xs=>
  cases m with
  |zero=>simp at hm
  |succ m=>exact⟨m,by simp at hm ⊢;omega,rfl⟩
def zp5 {α:Type} {n:Nat}: ∀ {m:Nat} {l:List α} {g:List α},g∈cks n m l->g.length<=n/\ ∀x∈g,x∈l
 |0,_,_,h=>by simp[cks]at h
 |_+1,[],_,h=>by simp[cks]at h
 |m+1,x::xs,g,h=>by
  rcases List.mem_cons.1 h with rfl | h
  ·exact⟨by simp;omega,λ_=>List.mem_of_mem_take⟩
  ·obtain⟨h1,h2⟩:=zp5 h
   exact⟨h1,λx hx=>List.mem_of_mem_drop (h2 x hx)⟩
def zef {α:Type} {n:Nat}: ∀ (m:Nat) (l:List α),(cks n m l).length<=m
 |0,_=>Nat.le_refl _
 |_+1,[]=>Nat.zero_le _
 |m+1,x::xs=>Nat.succ_le_succ (zef m _)
def zmc (X:List (List Cel)) (n:Nat) (hn:1<=n) (hn2:n<=64) (hX:X.length<=1000000):R 53 [.d (.list (zcx X)),.d (.int .i64 n)] []=some ([.arr 0 (cks n X.length X).length],[.arr 1 ((cks n X.length X).map λg=> .list (zcx g)) 0]):=by
 refine rg b53 rfl ?_;intro T hT;simp -dsimp -implicitDefEqProofs (disch:=first|omega|assumption)
 generalize hz:zaf _ _ _ _ _ _=z;revert z;refine zaa (σ:=Nat × List (List (List Cel))) (λx=>[(0,.d (.list (zcx X))),(1,.d (.int .i64 n)),(5,.arr 0 x.2.length),(6,.d (.int .i64 x.1))]) (λx=>[.arr 1 (x.2.map λg=> .list (zcx g)) 0]) (λx=>x.1<=X.length+n/\x.2.length<=x.1/\ ∃m,(X.drop x.1).length<=m/\cks n X.length X=x.2++cks n m (X.drop x.1)) (λx=>X.length+n - x.1) (0,[]) ?_ ?_ ?_
 ·exact⟨Nat.zero_le _,Nat.zero_le _,X.length,Nat.le_refl _,rfl⟩
 ·simp -dsimp -implicitDefEqProofs (disch:=first|omega|assumption)
 intro T' f hT' ⟨i,P⟩ ⟨h1,hp,m,h2,h3⟩ ih;simp only at h1 hp h2 h3 ih
 by_cases hi:i<X.length
 ·obtain⟨m',e1,e2⟩:=zrM (n:=n) h2 (by rw[List.length_drop];omega) (by omega)
  rw[List.drop_drop]at e1 e2;rw[e2,<- List.singleton_append,<- List.append_assoc]at h3;obtain⟨W,hW⟩: ∃W,W=(X.drop i).take n:=⟨_,rfl⟩;rw[<- hW]at h3;have w1:List.drop i (List.take (i+n) (zcx X))=zcx W:=by
   rw[hW,<- List.map_take,<- List.map_drop,List.drop_take,Nat.add_sub_cancel_left]
  by_cases d1:(i:Int)+n<X.length
  ·have d2:((i:Int)+n).toNat=i+n:=by omega
   simp -dsimp -implicitDefEqProofs (disch:=first|omega|assumption) [hi,d1,d2,w1]
   refine ih (i+n,P++[W]) _ _ ⟨by simp only;omega,by simp only[List.length_append,List.length_cons,List.length_nil];omega,m',e1,h3⟩ (by simp only;omega) ?_
   simp -dsimp -implicitDefEqProofs (disch:=first|omega|assumption)
  ·have w2:List.take (i+n) (zcx X)=zcx X:=List.take_of_length_le (by rw[List.length_map];omega)
   have w3:List.take X.length (zcx X)=zcx X:=List.take_of_length_le (by rw[List.length_map];omega)
   rw[w2]at w1;simp -dsimp -implicitDefEqProofs (disch:=first|omega|assumption) [hi,d1,w1,w3]
   refine ih (i+n,P++[W]) _ _ ⟨by simp only;omega,by simp only[List.length_append,List.length_cons,List.length_nil];omega,m',e1,h3⟩ (by simp only;omega) ?_
   simp -dsimp -implicitDefEqProofs (disch:=first|omega|assumption)
 ·have e:X.drop i=[]:=List.drop_eq_nil_of_le (by omega)
  rw[e,ztw,List.append_nil]at h3;rw[h3]at hT;subst hT';simp -dsimp -implicitDefEqProofs (disch:=first|omega|assumption) [hi]
  simpa -dsimp -implicitDefEqProofs (disch:=first|omega|assumption) using hT
end Go.Am.Ab
namespace Go.Am.Ab
open Go.Proofs
set_option maxHeartbeats 4000000
def znb: ∀ (l seen:List Fld) (prev:Int),zov seen prev l=0-> ∀f∈l,zkK f.name=true/\1<=f.kind/\f.kind<=3
 |[],_,_,_,f,h=>by simp at h
 |g::r,seen,prev,h,f,hf=>by
  unfold zov at h;split at h
  ·rename_i h0
   rcases List.mem_cons.1 hf with rfl | hf
   ·unfold zk5 at h0
    split at h0
    ·omega
    ·split at h0
     ·omega
     ·rename_i h2
      split at h0
      ·omega
      ·simp at h2
       exact⟨h2.1,by omega,by omega⟩
   ·exact znb r _ _ h f hf
  ·rename_i h0;exact absurd h h0
structure SchIs (s:Sch):Prop where
 one:1<=s.fields.length
 len:s.fields.length<=8
 fld: ∀f∈s.fields,f.name.size<=16/\1<=f.kind/\f.kind<=3
def zp6 {s:Sch} (h:zow s=0):SchIs s:=by
 unfold zow at h;split at h
 ·omega
 ·refine⟨by omega,by omega,λf hf=> ?_⟩
  obtain⟨h1,h2⟩:=znb _ _ _ h f hf;refine⟨?_,h2⟩;unfold zkK at h1;simp only[Bool.and_eq_true,decide_eq_true_eq]at h1;omega
def kd (s:Sch) (i:Nat):Nat:=(s.fields.getD i ⟨0,noS,0,false⟩).kind.toNat
def zsq {s:Sch} {i:Nat} (h:i<s.fields.length):kd s i=s.fields[i].kind.toNat:=by simp[kd,List.getD_eq_getElem?_getD,h]
def ztx {s:Sch} (hs:SchIs s) {i:Nat} (h:i<s.fields.length):1<=kd s i/\kd s i<=3/\s.fields[i].kind=kd s i:=by
 obtain⟨_,h1,h2⟩:=hs.fld s.fields[i] (List.getElem_mem _);rw[zsq h];omega
def zp7 {f:Fld} {v:Val} (h:zgE f v=0) (hk:1<=f.kind/\f.kind<=3) (hi: ∀n,v= .whole n->zat n):zrF f.kind.toNat v:=by
 cases v with
 |null=>exact .inl rfl
 |whole n=>
  unfold zgE at h;simp only at h;split at h
  ·omega
  ·rename_i h1
   refine .inr ⟨?_,hi,λs e=>by cases e⟩
   simp only[Val.kind,Decidable.not_not]at h1 ⊢;omega
 |truth b=>
  unfold zgE at h;simp only at h;split at h
  ·omega
  ·rename_i h1
   refine .inr ⟨?_,hi,λs e=>by cases e⟩
   simp only[Val.kind,Decidable.not_not]at h1 ⊢;omega
 |text s=>
  unfold zgE at h;simp only at h;split at h
  ·omega
  ·rename_i h1
   split at h
   ·omega
   ·refine .inr ⟨?_,hi,λt e=>by cases e;omega⟩
    simp only[Val.kind];omega
def znc: ∀ (fs:List Fld) (l:List Val),zpS fs l=0-> ∀ (i:Nat) (h:i<fs.length) (h2:i<l.length),zgE fs[i] l[i]=0
 |[],_,_,_,h,_=>by simp at h
 |_::_,[],_,_,_,h2=>by simp at h2
 |f::fs,v::vs,h,i,h1,h2=>by
  unfold zpS at h;split at h
  ·rename_i h0
   cases i with
   |zero=>exact h0
   |succ i=>exact znc fs vs h i (by simpa using h1) (by simpa using h2)
  ·rename_i h0;exact absurd h h0
def zsr (s:Sch) (r:List Val):Prop:=r.length=s.fields.length/\ ∀i,i<s.fields.length->zrF (kd s i) (atV r i)
def zrN {s:Sch} (hs:SchIs s) {r:List Val} (h:fit s r=0) (hi: ∀n,Val.whole n∈r->zat n):zsr s r:=by
 unfold fit at h;split at h
 ·omega
 ·rename_i hl
  have hl':r.length=s.fields.length:=by omega
  refine⟨hl',λi h1=> ?_⟩
  have h2:i<r.length:=by omega
  have h3:=znc _ _ h i h1 h2;rw[zsq h1,<- zmb h2];exact zp7 h3 (hs.fld _ (List.getElem_mem _)).2 λn e=>hi n (e ▸ List.getElem_mem _)
def znd (s:Sch):List (List Val)->Int
 |[]=>0
 |r::rs=>if fit s r=0 then znd s rs else fit s r
def zne {s:Sch}: ∀ {X:List (List Val)},znd s X=0-> ∀r∈X,fit s r=0
 |[],_,r,h=>by simp at h
 |x::xs,h,r,hr=>by
  unfold znd at h;split at h
  ·rename_i h0
   rcases List.mem_cons.1 hr with rfl | hr
   ·exact h0
   ·exact zne h r hr
  ·rename_i h0;exact absurd h h0
def zkW {s:Sch} {X:List (List Val)} {k:Nat} {r:List Val} (hk:k<X.length) (hr:X[k]=r):znd s (X.drop k)=if fit s r=0 then znd s (X.drop (k+1)) else fit s r:=by
 rw[List.drop_eq_getElem_cons hk,hr];rfl
def znf {s:Sch} (hs:SchIs s) {X:List (List Val)} (h:znd s X=0) (hi: ∀r∈X, ∀n,Val.whole n∈r->zat n): ∀r∈X,zsr s r:=λr hr=>zrN hs (zne h r hr) (hi r hr)
def zjz {s:Sch} {g:List (List Val)} (h: ∀r∈g,zsr s r) {i:Nat} (hi:i<s.fields.length):zkR (kd s i) (col g i):=by
 intro v hv;obtain⟨r,hr,rfl⟩:=List.mem_map.1 hv;exact (h r hr).2 i hi
def zxY (c:Cel):List UInt8:=if c.kind=1 then zaY c.n else if c.kind=2 then zfV (decide (c.n=1)) else put c.s.size++tx c.s
def zp8 (v:Val):zxY (zag v)=zeK v:=by
 cases v with
 |null=>simp[zxY,zag,Cel.none,zeK,tx]
 |whole n=>rfl
 |truth b=>cases b <;> rfl
 |text s=>rfl
def stB (x:Sta):List UInt8:=put x.nulls++((if x.has=true then (if x.high=true then 3 else 1) else 0)::((if x.has=true then zxY x.mn else [])++(if x.has=true/\x.high=true then zxY x.mx else [])))
def zp9 {x:Sta} {v w:Val} (h1:x.mn=zag v) (h2:x.mx=zag w):zjw x v w=stB x:=by
 unfold zjw stB;rw[h1,h2,zp8,zp8]
def zfY {k:Nat} {l:List Val} (g:zkR k l): ∀v∈l,match v with | .whole n=> -9223372036854775808<=n/\n<=9223372036854775807 | .text s=>s.size<=64 | _=>True:=by
 intro v hv;rcases g v hv with rfl | ⟨_,h1,h2⟩
 ·trivial
 ·cases v with
  |whole n=>exact h1 n rfl
  |text s=>exact h2 s rfl
  |_=>trivial
def zng (l:List Val):(zcp l).high=true->(zcp l).has=true:=by
 unfold zcp zcR;split
 ·intro h;exact h
 ·split
  ·split
   ·intro _;rfl
   ·split <;> intro _ <;> rfl
  ·intro _;rfl
def zmd {k:Nat} {l:List Val} (g:zkR k l) (hn:l.length<=1000000):(stB (zcp l)).length<=2050:=by
 obtain⟨v,w,h1,h2,h3,h4,h5⟩:=zjx (zfY g);rw[<- zp9 h1 h2];unfold zjw;have a:=zak (n:=(zcp l).nulls) (by omega)
 have b:=zee h3;have c:=zee h4;simp only[List.length_append,List.length_cons];split <;> split <;> (try simp only[List.length_nil]) <;> omega
def zhO (s:Sch) (g:List (List Val)) (i:Nat):List UInt8:=(List.range i).flatMap λj=>zeH (kd s j) (col g j)
def zhP (s:Sch) (g:List (List Val)) (i:Nat):List UInt8:=(List.range i).flatMap λj=>put (zeH (kd s j) (col g j)).length++stB (zcp (col g j))
def zfZ (s:Sch) (g:List (List Val)) (i:Nat):zhO s g (i+1)=zhO s g i++zeH (kd s i) (col g i):=by simp[zhO,List.range_succ]
def zf0 (s:Sch) (g:List (List Val)) (i:Nat):zhP s g (i+1)=zhP s g i++(put (zeH (kd s i) (col g i)).length++stB (zcp (col g i))):=by simp[zhP,List.range_succ]
def zgF {s:Sch} (hs:SchIs s) {g:List (List Val)} (h: ∀r∈g,zsr s r) (hg:g.length<=64): ∀i,i<=s.fields.length->(zhO s g i).length<=200000*i/\(zhP s g i).length<=2060*i
 |0,_=>⟨Nat.le_refl _,Nat.le_refl _⟩
 |i+1,hi=>by
  obtain⟨h1,h2⟩:=zgF hs h hg i (by omega)
  have hk:=ztx hs (i:=i) (by omega)
  have hl:(col g i).length=g.length:=by simp[col]
  have gd:=zjz h (i:=i) (by omega)
  have a:=zjt ⟨hk.1,hk.2.1⟩ gd (by omega)
  have b:=zmd gd (by omega)
  have c:=zak (n:=(zeH (kd s i) (col g i)).length) (by omega)
  rw[zfZ,zf0];simp only[List.length_append];omega
def zqa (s:Sch) (P:List (List (List Val))):List UInt8:=P.flatMap λg=>zhO s g s.fields.length
def zme (s:Sch) (P:List (List (List Val))):List UInt8:=P.flatMap λg=>zhP s g s.fields.length
def zkX (s:Sch) (P:List (List (List Val))) (g:List (List Val)):zqa s (P++[g])=zqa s P++zhO s g s.fields.length:=by simp[zqa]
def zkY (s:Sch) (P:List (List (List Val))) (g:List (List Val)):zme s (P++[g])=zme s P++zhP s g s.fields.length:=by simp[zme]
def zjA {s:Sch} (hs:SchIs s): ∀ {P:List (List (List Val))},(∀g∈P,g.length<=64/\ ∀r∈g,zsr s r)->(zqa s P).length<=1600000*P.length/\(zme s P).length<=16480*P.length
 |[],_=>⟨Nat.le_refl _,Nat.le_refl _⟩
 |g::P,h=>by
  obtain⟨h1,h2⟩:=zjA hs (P:=P) λg' h'=>h g' (by simp[h'])
  obtain⟨h3,h4⟩:=h g (by simp)
  obtain⟨h5,h6⟩:=zgF hs h4 h3 s.fields.length (Nat.le_refl _);have:=hs.len
  show (zhO s g s.fields.length++zqa s P).length<=_/\(zhP s g s.fields.length++zme s P).length<=_
  simp only[List.length_append,List.length_cons];omega
def le4 (n:Nat):List UInt8:=[UInt8.ofNat n,UInt8.ofNat (n / 256),UInt8.ofNat (n / 65536),UInt8.ofNat (n / 16777216)]
def zqb (n:Nat):bytes (le4 n)=[.int .u8 ((n:Int) % 256),.int .u8 ((n:Int) / 256 % 256),.int .u8 ((n:Int) / 65536 % 256),.int .u8 ((n:Int) / 16777216 % 256)]:=by
 simp[le4]
def zgr (s:Sch) (X:List (List Val)) (n:Nat):List UInt8:=zia s++(put X.length++put n)
def zmf (s:Sch) (X:List (List Val)) (n:Nat):List UInt8:=zgr s X n++zme s (cks n X.length X)
def zmg (s:Sch) (X:List (List Val)) (n:Nat):List UInt8:=67::70::49::(zqa s (cks n X.length X)++(zmf s X n++le4 (zmf s X n).length))
def zrO (s:Sch) (X:List (List Val)) (n:Nat):List UInt8:=zfW (zmg s X n)
def zhQ (s:Sch) (X:List (List Val)) (n:Int):List UInt8 × Int:=
 if zow s≠0 then ([],zow s) else if n<1\/64<n then ([],1) else if 256<X.length then ([],5) else if znd s X≠0 then ([],znd s X)
 else if 65536<(zrO s X n.toNat).length then ([],4) else (zrO s X n.toNat,0)
def zmh {s:Sch} {X:List (List Val)} (h: ∀r∈X,zsr s r) {n:Nat} (hn:n<=64): ∀g∈cks n X.length X,g.length<=64/\ ∀r∈g,zsr s r:=λg hg=>by
 obtain⟨h1,h2⟩:=zp5 hg;exact⟨by omega,λr hr=>h r (h2 r hr)⟩
def zgG {s:Sch} (hs:SchIs s) (h0:SchOk s) (X:List (List Val)) (hX:X.length<=256) {n:Nat} (hn:n<=64):(zgr s X n).length<=41000:=by
 have a:=zjr h0.fld;have b:=zak (n:=X.length) (by omega)
 have c:=zak (n:=n) (by omega)
 have d:(zhN s).length<=20:=by
  have:=zak (n:=s.id.toNat) (by have:=h0.id;omega)
  have:=zak (n:=s.fields.length) (by have:=hs.len;omega)
  simp only[zhN,List.length_append];omega
 have:=hs.len;simp only[zgr,zia,List.length_append];omega
def znh {s:Sch} (hs:SchIs s) (h0:SchOk s) {X:List (List Val)} (hX:X.length<=256) (h: ∀r∈X,zsr s r) {n:Nat} (hn:n<=64):(zmf s X n).length<=5000000/\(zmg s X n).length<1000000000:=by
 have a:=zgG hs h0 X hX hn;obtain⟨b,c⟩:=zjA hs (zmh h hn);have d:=zef (n:=n) X.length X;have e:(zmf s X n).length<=5000000:=by
  simp only[zmf,List.length_append];omega
 refine⟨e, ?_⟩;simp only[zmg,le4,List.length_append,List.length_cons,List.length_nil];omega
end Go.Am.Ab
