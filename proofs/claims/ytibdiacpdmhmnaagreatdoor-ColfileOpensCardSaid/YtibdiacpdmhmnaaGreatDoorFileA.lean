/- Files of rows: parts. -/
import Derived.Test.YtibdiacpdmhmnaaGreatDoorSchemaA
import Derived.Test.YtibdiacpdmhmnaaGreatDoorSums
import Derived.Test.YtibdiacpdmhmnaaGreatDoorStatA
import Derived.Test.YtibdiacpdmhmnaaGreatDoorColD
set_option linter.all false
namespace Go.Am.Ab
open Go.Proofs
set_option maxHeartbeats 4000000
set_option maxRecDepth 4000
def zfY:Val->List UInt8
 |.null=>put 0
 |.whole n=>za5 n
 |.truth b=>zhc b
 |.text s=>put s.size++tx s
def vok (v:Val):Prop:=match v with
 |.whole n=> -9223372036854775808<=n/\n<=9223372036854775807
 |.text s=>s.size<=1000
 |_=>True
def zff {v:Val} (h:vok v):(zfY v).length<=1010:=by
 cases v with
 |null=>show (put 0).length<=1010;rw[zkA (by omega)];simp
 |whole n=>have:=zaP h;show (za5 n).length<=1010;omega
 |truth b=>simp[zfY,zhc]
 |text s=>
  have h':s.size<=1000:=h;have:=zan (n:=s.size) (by omega)
  show (put s.size++tx s).length<=1010
  rw[yaf];have d:(tx s).length=s.size:=by simp[tx]
  omega
def zlL (x:Sta) (v w:Val):List UInt8:=
 put x.nulls++((if x.has=true then (if x.high=true then 3 else 1) else 0)::((if x.has=true then zfY v else [])++(if x.has=true/\x.high=true then zfY w else [])))
def zoM (n:Int):(Utf8.encode n).size<=4:=by
 unfold Utf8.encode;simp only;split
 all_goals
  split <;> (try split) <;> (try split) <;> simp[ByteArray.size]
def zp6 (s:ByteArray) (n:Nat):(frs s n).size<=s.size:=by
 unfold frs;split
 ·rw[ybU];omega
 ·exact yab _
def znr (s:ByteArray) (L:List (Nat × Nat × Bool)): ∀ (k:Nat) (t:ByteArray),zlU s L k=some t->t.size<=s.size+4
 |0,t,h=>by cases h
 |k+1,t,h=>by
  unfold zlU at h;split at h
  ·split at h
   ·simp only[yaa]at h;subst h
    have:=zoM (nxt ‹Nat × Nat × Bool›.1:Nat);rw[yck,ybU];omega
   ·exact znr s L k t h
  ·cases h
def zvv (s:ByteArray) (n:Nat):(abv s n).1.size<=s.size+4:=by
 unfold abv;split
 ·simp
 ·split
  ·simp
  ·split
   ·rename_i h;exact znr s _ _ _ h
   ·simp
def zlM {l:List Val} (hl: ∀v∈l,match v with | .whole n=> -9223372036854775808<=n/\n<=9223372036854775807 | .text s=>s.size<=64 | _=>True): ∃v w,(zb2 l).mn=zaf v/\(zb2 l).mx=zaf w/\vok v/\vok w/\(zb2 l).nulls<=l.length:=by
 have hok:=zib (p:=λv=>match v with | .whole n=> -9223372036854775808<=n/\n<=9223372036854775807 | .text s=>s.size<=64 | _=>True) hl l.length (yab _)
 rw[yaR]at hok;unfold zb2;generalize l.foldl stp st0=x at*;have hn:=hok.nu;have hle:=hok.le;unfold zdl;split
 ·exact⟨.null,.null,rfl,rfl,trivial,trivial,hn⟩
 ·rename_i hh
  obtain⟨k1,p1,p2,k2⟩:=hle (by simpa using hh)
  split
  ·rename_i s hs
   rw[hs]at p1 k1;split
   ·exact⟨.text noS,.null,rfl,rfl,yai _,trivial,hn⟩
   ·split
    ·refine⟨.text (frs s 4),.text (abv (zju x.mo) 4).1,rfl,rfl, ?_, ?_,hn⟩
     ·have:=zp6 s 4
      show (frs s 4).size<=1000
      have h':s.size<=64:=p1;omega
     ·have:=zvv (zju x.mo) 4
      show (abv (zju x.mo) 4).1.size<=1000
      have h':(zju x.mo).size<=64:=by
       cases hm:x.mo with
       |text s=>rw[hm]at p2;exact p2
       |_=>simp[zju]
      omega
    ·refine⟨.text (frs s 4),.null,rfl,rfl, ?_,trivial,hn⟩
     have:=zp6 s 4
     show (frs s 4).size<=1000
     have h':s.size<=64:=p1;omega
  ·rename_i hne
   refine⟨x.le,x.mo,rfl,rfl, ?_, ?_,hn⟩
   ·cases hv:x.le with
    |text s=>exact absurd hv (hne s)
    |whole n=>rw[hv]at p1;exact p1
    |_=>trivial
   ·cases hv:x.mo with
    |text s=>rw[hv]at p2;show s.size<=1000;have h':s.size<=64:=p2;omega
    |whole n=>rw[hv]at p2;exact p2
    |_=>trivial
def zhl (b:List UInt8) (v:Val) (hv:vok v) (hb:b.length<=100000000):R 93 [.arr 0 b.length,.d (zaf v).d] [.arr 1 (bytes b) 0]=some ([.arr 0 (b++zfY v).length],[.arr 1 (bytes (b++zfY v)) 0]):=by
 cases v with
 |null=>
  have h:R 42 [.d (.int .u64 0)] []=some ([.arr 0 (put 0).length],[.arr 1 (bytes (put 0)) 0]):=zaY 0 (by omega)
  have hl:=zan (n:=0) (by omega)
  simp only[vc0,Cel.d,zfY];refine rg b93 rfl ?_;intro T hT;simp -dsimp -implicitDefEqProofs (disch:=first|omega|assumption) [h,zai]
  simpa -dsimp -implicitDefEqProofs (disch:=first|omega|assumption) using hT
 |whole n=>
  have h:=zce n hv.1 hv.2;have hl:=zaP hv;simp only[vc1,Cel.d,zfY];refine rg b93 rfl ?_;intro T hT;simp -dsimp -implicitDefEqProofs (disch:=first|omega|assumption) [h]
  simpa -dsimp -implicitDefEqProofs (disch:=first|omega|assumption) using hT
 |truth t=>
  simp only[vc2,Cel.d,zfY];cases t
  all_goals
   refine rg b93 rfl ?_;intro T hT;simp -dsimp -implicitDefEqProofs (disch:=first|omega|assumption)
   simpa -dsimp -implicitDefEqProofs (disch:=first|omega|assumption) [zhc]using hT
 |text s=>
  have hs:s.size<=1000:=hv;have h:=zaY s.size (by omega)
  have hl:=zan (n:=s.size) (by omega)
  have d1:(s.size:Int)<=18446744073709551615:=by omega
  simp only[vc3,Cel.d,zfY];refine rg b93 rfl ?_;intro T hT;simp -dsimp -implicitDefEqProofs (disch:=first|omega|assumption) [h,zai,d1]
  simpa -dsimp -implicitDefEqProofs (disch:=first|omega|assumption) [tx,yaC]using hT
def zrC (b:List UInt8) (x:Sta) (v w:Val) (hm:x.mn=zaf v) (hx:x.mx=zaf w) (hv:vok v) (hw:vok w) (hn:x.nulls<=1000000) (hh:x.high=true->x.has=true) (hb:b.length<=90000000):
 R 46 [.arr 0 b.length,.d x.d] [.arr 1 (bytes b) 0]=some ([.arr 0 (b++zlL x v w).length],[.arr 1 (bytes (b++zlL x v w)) 0]):=by
 obtain⟨rows,nulls,has,high,mn,mx⟩:=x;simp only at hm hx hn hh;subst hm;subst hx;have p:=zaY nulls (by omega)
 have pl:=zan (n:=nulls) (by omega)
 have d1:(nulls:Int)<=18446744073709551615:=by omega
 have vl:=zff hv;have wl:=zff hw;unfold zlL;simp only;have l1:(b++(put nulls++[1])).length=b.length+(put nulls).length+1:=by simp[yaC]
 have l3:(b++(put nulls++[3])).length=b.length+(put nulls).length+1:=by simp[yaC]
 have c1:bytes (b++(put nulls++[1]))=bytes b++(bytes (put nulls)++[.int .u8 1]):=by simp
 have c3:bytes (b++(put nulls++[3]))=bytes b++(bytes (put nulls)++[.int .u8 3]):=by simp
 cases has with
 |false=>
  cases high with
  |true=>exact absurd (hh rfl) (by decide)
  |false=>
   simp only[Sta.d];refine rg b46 rfl ?_;intro T hT;simp -dsimp -implicitDefEqProofs (disch:=first|omega|assumption) [p,zai,d1]
   simpa -dsimp -implicitDefEqProofs (disch:=first|omega|assumption) [yaC]using hT
 |true=>
  cases high with
  |false=>
   have h1:=zhl (b++(put nulls++[1])) v hv (by omega)
   have e:b++(put nulls++((if true=true then if false=true then 3 else 1 else 0)::((if true=true then zfY v else [])++if true=true/\false=true then zfY w else [])))=b++(put nulls++[1])++zfY v:=by simp
   rw[e];generalize b++(put nulls++[1])++zfY v=r at*;rw[l1,c1]at h1;simp only[Sta.d,Cel.d]at h1 ⊢;refine rg b46 rfl ?_;intro T hT;simp -dsimp -implicitDefEqProofs (disch:=first|omega|assumption) [p,zai,d1,h1]
   simpa -dsimp -implicitDefEqProofs (disch:=first|omega|assumption) using hT
  |true=>
   have h1:=zhl (b++(put nulls++[3])) v hv (by omega)
   have h2:=zhl (b++(put nulls++[3])++zfY v) w hw (by rw[yaf];omega)
   have e:b++(put nulls++((if true=true then if true=true then 3 else 1 else 0)::((if true=true then zfY v else [])++if true=true/\true=true then zfY w else [])))=b++(put nulls++[3])++zfY v++zfY w:=by simp
   rw[e];generalize b++(put nulls++[3])++zfY v++zfY w=r at*;generalize b++(put nulls++[3])++zfY v=q at*;rw[l3,c3]at h1;simp only[Sta.d,Cel.d]at h1 h2 ⊢;refine rg b46 rfl ?_;intro T hT;simp -dsimp -implicitDefEqProofs (disch:=first|omega|assumption) [p,zai,d1,h1,h2]
   simpa -dsimp -implicitDefEqProofs (disch:=first|omega|assumption) using hT
end Go.Am.Ab
namespace Go.Am.Ab
open Go.Proofs
set_option maxHeartbeats 4000000
set_option maxRecDepth 4000
def zkV (v:Val) (hv:vok v):R 106 [.d (zaf v).d] []=some ([.arr 0 (zfY v).length],[.arr 1 (bytes (zfY v)) 0]):=by
 cases v with
 |null=>
  have h:R 52 [.d (.int .u64 0)] []=some ([.arr 0 (put 0).length],[.arr 1 (bytes (put 0)) 0]):=zaV 0 (by omega)
  have hl:=zan (n:=0) (by omega)
  simp only[vc0,Cel.d,zfY];refine rg zCb rfl ?_;intro T hT;simp -dsimp -implicitDefEqProofs (disch:=first|omega|assumption) [h,zai]
  simpa -dsimp -implicitDefEqProofs (disch:=first|omega|assumption) using hT
 |whole n=>
  have h:=zbN n hv.1 hv.2;have hl:=zaP hv;simp only[vc1,Cel.d,zfY];refine rg zCb rfl ?_;intro T hT;simp -dsimp -implicitDefEqProofs (disch:=first|omega|assumption) [h]
  simpa -dsimp -implicitDefEqProofs (disch:=first|omega|assumption) using hT
 |truth t=>
  simp only[vc2,Cel.d,zfY];cases t
  all_goals
   refine rg zCb rfl ?_;intro T hT;simp -dsimp -implicitDefEqProofs (disch:=first|omega|assumption)
   simpa -dsimp -implicitDefEqProofs (disch:=first|omega|assumption) [zhc]using hT
 |text s=>
  have hs:s.size<=1000:=hv;have h:=zaV s.size (by omega)
  have hl:=zan (n:=s.size) (by omega)
  have d1:(s.size:Int)<=18446744073709551615:=by omega
  simp only[vc3,Cel.d,zfY];refine rg zCb rfl ?_;intro T hT;simp -dsimp -implicitDefEqProofs (disch:=first|omega|assumption) [h,zai,d1]
  simpa -dsimp -implicitDefEqProofs (disch:=first|omega|assumption) [tx]using hT
def zoN (x:Sta) (v w:Val) (hm:x.mn=zaf v) (hx:x.mx=zaf w) (hv:vok v) (hw:vok w) (hn:x.nulls<=1000000) (hh:x.high=true->x.has=true):
 R 55 [.d x.d] []=some ([.arr 0 (zlL x v w).length],[.arr 1 (bytes (zlL x v w)) 0]):=by
 obtain⟨rows,nulls,has,high,mn,mx⟩:=x;simp only at hm hx hn hh;subst hm;subst hx;have p:=zaV nulls (by omega)
 have pl:=zan (n:=nulls) (by omega)
 have d1:(nulls:Int)<=18446744073709551615:=by omega
 have vl:=zff hv;have wl:=zff hw;have h1:=zkV v hv;have h2:=zkV w hw;simp only[Cel.d]at h1 h2;unfold zlL;simp only;cases has with
 |false=>
  cases high with
  |true=>exact absurd (hh rfl) (by decide)
  |false=>
   simp only[Sta.d];refine rg b55 rfl ?_;intro T hT;simp -dsimp -implicitDefEqProofs (disch:=first|omega|assumption) [p,zai,d1]
   simpa -dsimp -implicitDefEqProofs (disch:=first|omega|assumption) using hT
 |true=>
  cases high with
  |false=>
   simp only[Sta.d];refine rg b55 rfl ?_;intro T hT;simp -dsimp -implicitDefEqProofs (disch:=first|omega|assumption) [p,zai,d1,h1]
   simpa -dsimp -implicitDefEqProofs (disch:=first|omega|assumption) [yaC,yby,Nat.add_left_comm]using hT
  |true=>
   simp only[Sta.d];refine rg b55 rfl ?_;intro T hT;simp -dsimp -implicitDefEqProofs (disch:=first|omega|assumption) [p,zai,d1,h1,h2]
   simpa -dsimp -implicitDefEqProofs (disch:=first|omega|assumption) [yaC,yby,Nat.add_left_comm]using hT
abbrev zbe (l:List (List Val)):List D:=l.map λr=> .list (vs r)
abbrev zdB (l:List (List Cel)):List D:=l.map λr=> .list (ce r)
@[simp] def zvw (l:List (List Cel)):zao 1 (l.map λr=> .list (ce r))=true:=zaO l λ_=>rfl
@[simp] def zei (l:List (List Val)):zao 1 (l.map λr=> .list (vs r))=true:=zaO l λ_=>rfl
def atV (r:List Val) (i:Nat):Val:=r.getD i .null
def col (g:List (List Val)) (i:Nat):List Val:=g.map λr=>atV r i
def zoO {r:List Val} {i:Nat} (h:i<r.length):r[i]=atV r i:=by simp[atV,yaD,h]
def zeV (g:List (List Val)) (i:Nat) (h: ∀r∈g,i<r.length) (hn:g.length<=1000000) (hi:i<=1000000):R 44 [.d (.list (zbe g)),.d (.int .i64 i)] []=some ([.arr 0 g.length],[.arr 1 (vs (col g i)) 0]):=by
 have hend:vs (col g i)=zdg (λr=>(atV r i).d) g g.length:=by
  rw[za8 (yab _)]
  show (g.map _).map Val.d=_
  rw[ya0];rfl
 rw[hend];refine rg b44 rfl ?_;intro T hT;simp -dsimp -implicitDefEqProofs (disch:=first|omega|assumption)
 generalize hz:zad _ _ _ _ _ _=z;revert z;refine zaa (σ:=Nat) (λj=>[(1,.d (.int .i64 i)),(5,.arr 0 j),(8,.d (.list (zbe g))),(9,.d (.int .i64 g.length)),(10,.d (.int .i64 j))]) (λj=>[.arr 1 (zdg (λr=>(atV r i).d) g j) 0]) (λj=>j<=g.length) (λj=>g.length - j) 0 ?_ ?_ ?_
 ·exact yai _
 ·simp -dsimp -implicitDefEqProofs (disch:=first|omega|assumption) [zaG]
 intro T' f hT' j hj ih
 by_cases h1:j<g.length
 ·have hc:=h g[j] (yal _)
  have ha:=zoO hc;have htk:=zaH (g:=λr=>(atV r i).d) h1
  have hlen:=zak (g:=λr=>(atV r i).d) hj
  simp -dsimp -implicitDefEqProofs (disch:=first|omega|assumption) [h1,hc,ha,hlen]
  refine ih (j+1) _ _ h1 (by omega) ?_
  rw[htk];simp -dsimp -implicitDefEqProofs (disch:=first|omega|assumption)
 ·have e:j=g.length:=by omega
  subst e;subst hT';simp -dsimp -implicitDefEqProofs (disch:=first|omega|assumption)
  simpa -dsimp -implicitDefEqProofs (disch:=first|omega|assumption) using hT
def zlN (g:List (List Val)) (i:Nat) (h: ∀r∈g,i<r.length) (hn:g.length<=1000000) (hi:i<=1000000):R 34 [.d (.list (zdB (g.map (·.map zaf)))),.d (.int .i64 i)] []=some ([.arr 0 g.length],[.arr 3 (ce ((col g i).map zaf)) 0]):=by
 have hend:ce ((col g i).map zaf)=zdg (λr=>(zaf (atV r i)).d) g g.length:=by
  rw[za8 (yab _)]
  show ((g.map _).map _).map Cel.d=_
  rw[ya0,ya0];rfl
 rw[hend];refine rg b34 rfl ?_;intro T hT;simp -dsimp -implicitDefEqProofs (disch:=first|omega|assumption)
 generalize hz:zad _ _ _ _ _ _=z;revert z;refine zaa (σ:=Nat) (λj=>[(0,.d (.list (zdB (g.map (·.map zaf))))),(1,.d (.int .i64 i)),(5,.arr 0 j),(6,.d (.int .i64 j))]) (λj=>[.arr 3 (zdg (λr=>(zaf (atV r i)).d) g j) 0]) (λj=>j<=g.length) (λj=>g.length - j) 0 ?_ ?_ ?_
 ·exact yai _
 ·simp -dsimp -implicitDefEqProofs (disch:=first|omega|assumption) [zaG]
 intro T' f hT' j hj ih
 by_cases h1:j<g.length
 ·have hc:=h g[j] (yal _)
  have ha:=zoO hc;have hcc:=zsP (zaf (atV g[j] i));have htk:=zaH (g:=λr=>(zaf (atV r i)).d) h1
  have hlen:=zak (g:=λr=>(zaf (atV r i)).d) hj
  simp -dsimp -implicitDefEqProofs (disch:=first|omega|assumption) [h1,hc,ha,hlen,hcc]
  refine ih (j+1) _ _ h1 (by omega) ?_
  rw[htk];simp -dsimp -implicitDefEqProofs (disch:=first|omega|assumption)
  exact (zEA _).symm
 ·have e:j=g.length:=by omega
  subst e;subst hT';simp -dsimp -implicitDefEqProofs (disch:=first|omega|assumption)
  simpa -dsimp -implicitDefEqProofs (disch:=first|omega|assumption) using hT
def cks {α:Type} (n:Nat):Nat->List α->List (List α)
 |0,_=>[]
 |_+1,[]=>[]
 |m+1,x::xs=>(x::xs).take n::cks n m ((x::xs).drop n)
def zhm {α:Type} (f:α->D) (n:Nat): ∀ (m:Nat) (l:List α),zcw n m (l.map f)=(cks n m l).map (·.map f)
 |0,_=>rfl
 |_+1,[]=>rfl
 |m+1,x::xs=>by
  have ih:=zhm f n m ((x::xs).drop n)
  show ((x::xs).map f).take n::zcw n m (((x::xs).map f).drop n)=_
  rw[<- yb5,ih,<- ybE];rfl
def ztG {α β:Type} (f:α->β) (n:Nat): ∀ (m:Nat) (l:List α),cks n m (l.map f)=(cks n m l).map (·.map f)
 |0,_=>rfl
 |_+1,[]=>rfl
 |m+1,x::xs=>by
  have ih:=ztG f n m ((x::xs).drop n)
  show ((x::xs).map f).take n::cks n m (((x::xs).map f).drop n)=_
  rw[<- yb5,ih,<- ybE];rfl
def zxh {α:Type} (n m:Nat):cks n m ([]:List α)=[]:=by cases m <;> rfl
def zp7 {α:Type} {n m:Nat} {l:List α} (hm:l.length<=m) (h:0<l.length) (hn:0<n): ∃m',(l.drop n).length<=m'/\cks n m l=l.take n::cks n m' (l.drop n):=by
 cases l with
 |nil=>simp at h
 |cons x xs=>
  cases m with
  |zero=>simp at hm
  |succ m=>exact⟨m,by simp at hm ⊢;omega,rfl⟩
def ztH {α:Type} {n:Nat}: ∀ {m:Nat} {l:List α} {g:List α},g∈cks n m l->g.length<=n/\ ∀x∈g,x∈l
 |0,_,_,h=>by simp[cks]at h
 |_+1,[],_,h=>by simp[cks]at h
 |m+1,x::xs,g,h=>by
  rcases List.mem_cons.1 h with rfl | h
  ·exact⟨by simp;omega,λ_=>yaH⟩
  ·obtain⟨h1,h2⟩:=ztH h
   exact⟨h1,λx hx=>ycm (h2 x hx)⟩
def zdS {α:Type} {n:Nat}: ∀ (m:Nat) (l:List α),(cks n m l).length<=m
 |0,_=>yab _
 |_+1,[]=>yai _
 |m+1,x::xs=>Nat.succ_le_succ (zdS m _)
def zoP (X:List (List Cel)) (n:Nat) (hn:1<=n) (hn2:n<=64) (hX:X.length<=1000000):R 53 [.d (.list (zdB X)),.d (.int .i64 n)] []=some ([.arr 0 (cks n X.length X).length],[.arr 1 ((cks n X.length X).map λg=> .list (zdB g)) 0]):=by
 refine rg b53 rfl ?_;intro T hT;simp -dsimp -implicitDefEqProofs (disch:=first|omega|assumption)
 generalize hz:zad _ _ _ _ _ _=z;revert z;refine zaa (σ:=Nat × List (List (List Cel))) (λx=>[(0,.d (.list (zdB X))),(1,.d (.int .i64 n)),(5,.arr 0 x.2.length),(6,.d (.int .i64 x.1))]) (λx=>[.arr 1 (x.2.map λg=> .list (zdB g)) 0]) (λx=>x.1<=X.length+n/\x.2.length<=x.1/\ ∃m,(X.drop x.1).length<=m/\cks n X.length X=x.2++cks n m (X.drop x.1)) (λx=>X.length+n - x.1) (0,[]) ?_ ?_ ?_
 ·exact⟨yai _,yai _,X.length,yab _,rfl⟩
 ·simp -dsimp -implicitDefEqProofs (disch:=first|omega|assumption)
 intro T' f hT' ⟨i,P⟩ ⟨h1,hp,m,h2,h3⟩ ih;simp only at h1 hp h2 h3 ih
 by_cases hi:i<X.length
 ·obtain⟨m',e1,e2⟩:=zp7 (n:=n) h2 (by rw[yay];omega) (by omega)
  rw[ycK]at e1 e2;rw[e2,<- List.singleton_append,<- yaq]at h3;obtain⟨W,hW⟩: ∃W,W=(X.drop i).take n:=⟨_,rfl⟩;rw[<- hW]at h3;have w1:List.drop i (List.take (i+n) (zdB X))=zdB W:=by
   rw[hW,<- ybE,<- yb5,List.drop_take,yaM]
  by_cases d1:(i:Int)+n<X.length
  ·have d2:((i:Int)+n).toNat=i+n:=by omega
   simp -dsimp -implicitDefEqProofs (disch:=first|omega|assumption) [hi,d1,d2,w1]
   refine ih (i+n,P++[W]) _ _ ⟨by simp only;omega,by simp only[yaf,yag,yat];omega,m',e1,h3⟩ (by simp only;omega) ?_
   simp -dsimp -implicitDefEqProofs (disch:=first|omega|assumption)
  ·have w2:List.take (i+n) (zdB X)=zdB X:=yaw (by rw[yam];omega)
   have w3:List.take X.length (zdB X)=zdB X:=yaw (by rw[yam];omega)
   rw[w2]at w1;simp -dsimp -implicitDefEqProofs (disch:=first|omega|assumption) [hi,d1,w1,w3]
   refine ih (i+n,P++[W]) _ _ ⟨by simp only;omega,by simp only[yaf,yag,yat];omega,m',e1,h3⟩ (by simp only;omega) ?_
   simp -dsimp -implicitDefEqProofs (disch:=first|omega|assumption)
 ·have e:X.drop i=[]:=ybD (by omega)
  rw[e,zxh,yau]at h3;rw[h3]at hT;subst hT';simp -dsimp -implicitDefEqProofs (disch:=first|omega|assumption) [hi]
  simpa -dsimp -implicitDefEqProofs (disch:=first|omega|assumption) using hT
end Go.Am.Ab
namespace Go.Am.Ab
open Go.Proofs
set_option maxHeartbeats 4000000
def zp8: ∀ (l seen:List Fld) (prev:Int),zrN seen prev l=0-> ∀f∈l,zmW f.name=true/\1<=f.kind/\f.kind<=3
 |[],_,_,_,f,h=>by simp at h
 |g::r,seen,prev,h,f,hf=>by
  unfold zrN at h;split at h
  ·rename_i h0
   rcases List.mem_cons.1 hf with rfl | hf
   ·unfold znI at h0
    split at h0
    ·omega
    ·split at h0
     ·omega
     ·rename_i h2
      split at h0
      ·omega
      ·simp at h2
       exact⟨h2.1,by omega,by omega⟩
   ·exact zp8 r _ _ h f hf
  ·rename_i h0;exact absurd h h0
structure SchIs (s:Sch):Prop where
 one:1<=s.fields.length
 len:s.fields.length<=8
 fld: ∀f∈s.fields,f.name.size<=16/\1<=f.kind/\f.kind<=3
def zjB {s:Sch} (h:zly s=0):SchIs s:=by
 unfold zly at h;split at h
 ·omega
 ·refine⟨by omega,by omega,λf hf=> ?_⟩
  obtain⟨h1,h2⟩:=zp8 _ _ _ h f hf;refine⟨?_,h2⟩;unfold zmW at h1;simp only[yar,yaG]at h1;omega
def kd (s:Sch) (i:Nat):Nat:=(s.fields.getD i ⟨0,noS,0,false⟩).kind.toNat
def zwc {s:Sch} {i:Nat} (h:i<s.fields.length):kd s i=s.fields[i].kind.toNat:=by simp[kd,yaD,h]
def zxi {s:Sch} (hs:SchIs s) {i:Nat} (h:i<s.fields.length):1<=kd s i/\kd s i<=3/\s.fields[i].kind=kd s i:=by
 obtain⟨_,h1,h2⟩:=hs.fld s.fields[i] (yal _);rw[zwc h];omega
def ztI {f:Fld} {v:Val} (h:zh5 f v=0) (hk:1<=f.kind/\f.kind<=3) (hi: ∀n,v= .whole n->zal n):zvt f.kind.toNat v:=by
 cases v with
 |null=>exact .inl rfl
 |whole n=>
  unfold zh5 at h;simp only at h;split at h
  ·omega
  ·rename_i h1
   refine .inr ⟨?_,hi,λs e=>by cases e⟩
   simp only[Val.kind,ydE]at h1 ⊢;omega
 |truth b=>
  unfold zh5 at h;simp only at h;split at h
  ·omega
  ·rename_i h1
   refine .inr ⟨?_,hi,λs e=>by cases e⟩
   simp only[Val.kind,ydE]at h1 ⊢;omega
 |text s=>
  unfold zh5 at h;simp only at h;split at h
  ·omega
  ·rename_i h1
   split at h
   ·omega
   ·refine .inr ⟨?_,hi,λt e=>by cases e;omega⟩
    simp only[Val.kind];omega
def zp9: ∀ (fs:List Fld) (l:List Val),zs1 fs l=0-> ∀ (i:Nat) (h:i<fs.length) (h2:i<l.length),zh5 fs[i] l[i]=0
 |[],_,_,_,h,_=>by simp at h
 |_::_,[],_,_,_,h2=>by simp at h2
 |f::fs,v::vs,h,i,h1,h2=>by
  unfold zs1 at h;split at h
  ·rename_i h0
   cases i with
   |zero=>exact h0
   |succ i=>exact zp9 fs vs h i (by simpa using h1) (by simpa using h2)
  ·rename_i h0;exact absurd h h0
def zwd (s:Sch) (r:List Val):Prop:=r.length=s.fields.length/\ ∀i,i<s.fields.length->zvt (kd s i) (atV r i)
def zvx {s:Sch} (hs:SchIs s) {r:List Val} (h:fit s r=0) (hi: ∀n,Val.whole n∈r->zal n):zwd s r:=by
 unfold fit at h;split at h
 ·omega
 ·rename_i hl
  have hl':r.length=s.fields.length:=by omega
  refine⟨hl',λi h1=> ?_⟩
  have h2:i<r.length:=by omega
  have h3:=zp9 _ _ h i h1 h2;rw[zwc h1,<- zoO h2];exact ztI h3 (hs.fld _ (yal _)).2 λn e=>hi n (e ▸ yal _)
def zoQ (s:Sch):List (List Val)->Int
 |[]=>0
 |r::rs=>if fit s r=0 then zoQ s rs else fit s r
def zqa {s:Sch}: ∀ {X:List (List Val)},zoQ s X=0-> ∀r∈X,fit s r=0
 |[],_,r,h=>by simp at h
 |x::xs,h,r,hr=>by
  unfold zoQ at h;split at h
  ·rename_i h0
   rcases List.mem_cons.1 hr with rfl | hr
   ·exact h0
   ·exact zqa h r hr
  ·rename_i h0;exact absurd h h0
def zns {s:Sch} {X:List (List Val)} {k:Nat} {r:List Val} (hk:k<X.length) (hr:X[k]=r):zoQ s (X.drop k)=if fit s r=0 then zoQ s (X.drop (k+1)) else fit s r:=by
 rw[yaA hk,hr];rfl
def zlO {s:Sch} (hs:SchIs s) {X:List (List Val)} (h:zoQ s X=0) (hi: ∀r∈X, ∀n,Val.whole n∈r->zal n): ∀r∈X,zwd s r:=λr hr=>zvx hs (zqa h r hr) (hi r hr)
def zgG {s:Sch} {g:List (List Val)} (h: ∀r∈g,zwd s r) {i:Nat} (hi:i<s.fields.length):zj1 (kd s i) (col g i):=by
 intro v hv;obtain⟨r,hr,rfl⟩:=List.mem_map.1 hv;exact (h r hr).2 i hi
def zCm (c:Cel):List UInt8:=if c.kind=1 then za5 c.n else if c.kind=2 then zhc (decide (c.n=1)) else put c.s.size++tx c.s
def ztJ (v:Val):zCm (zaf v)=zfY v:=by
 cases v with
 |null=>simp[zCm,zaf,Cel.none,zfY,tx]
 |whole n=>rfl
 |truth b=>cases b <;> rfl
 |text s=>rfl
def stB (x:Sta):List UInt8:=put x.nulls++((if x.has=true then (if x.high=true then 3 else 1) else 0)::((if x.has=true then zCm x.mn else [])++(if x.has=true/\x.high=true then zCm x.mx else [])))
def ztK {x:Sta} {v w:Val} (h1:x.mn=zaf v) (h2:x.mx=zaf w):zlL x v w=stB x:=by
 unfold zlL stB;rw[h1,h2,ztJ,ztJ]
def zhn {k:Nat} {l:List Val} (g:zj1 k l): ∀v∈l,match v with | .whole n=> -9223372036854775808<=n/\n<=9223372036854775807 | .text s=>s.size<=64 | _=>True:=by
 intro v hv;rcases g v hv with rfl | ⟨_,h1,h2⟩
 ·trivial
 ·cases v with
  |whole n=>exact h1 n rfl
  |text s=>exact h2 s rfl
  |_=>trivial
def zqb (l:List Val):(zb2 l).high=true->(zb2 l).has=true:=by
 unfold zb2 zdl;split
 ·intro h;exact h
 ·split
  ·split
   ·intro _;rfl
   ·split <;> intro _ <;> rfl
  ·intro _;rfl
def zoR {k:Nat} {l:List Val} (g:zj1 k l) (hn:l.length<=1000000):(stB (zb2 l)).length<=2050:=by
 obtain⟨v,w,h1,h2,h3,h4,h5⟩:=zlM (zhn g);rw[<- ztK h1 h2];unfold zlL;have a:=zan (n:=(zb2 l).nulls) (by omega)
 have b:=zff h3;have c:=zff h4;simp only[yaf,yag];split <;> split <;> (try simp only[yat]) <;> omega
def zjC (s:Sch) (g:List (List Val)) (i:Nat):List UInt8:=(List.range i).flatMap λj=>zeT (kd s j) (col g j)
def zjD (s:Sch) (g:List (List Val)) (i:Nat):List UInt8:=(List.range i).flatMap λj=>put (zeT (kd s j) (col g j)).length++stB (zb2 (col g j))
def zho (s:Sch) (g:List (List Val)) (i:Nat):zjC s g (i+1)=zjC s g i++zeT (kd s i) (col g i):=by simp[zjC,ydl]
def zhp (s:Sch) (g:List (List Val)) (i:Nat):zjD s g (i+1)=zjD s g i++(put (zeT (kd s i) (col g i)).length++stB (zb2 (col g i))):=by simp[zjD,ydl]
def zie {s:Sch} (hs:SchIs s) {g:List (List Val)} (h: ∀r∈g,zwd s r) (hg:g.length<=64): ∀i,i<=s.fields.length->(zjC s g i).length<=200000*i/\(zjD s g i).length<=2060*i
 |0,_=>⟨yab _,yab _⟩
 |i+1,hi=>by
  obtain⟨h1,h2⟩:=zie hs h hg i (by omega)
  have hk:=zxi hs (i:=i) (by omega)
  have hl:(col g i).length=g.length:=by simp[col]
  have gd:=zgG h (i:=i) (by omega)
  have a:=zid ⟨hk.1,hk.2.1⟩ gd (by omega)
  have b:=zoR gd (by omega)
  have c:=zan (n:=(zeT (kd s i) (col g i)).length) (by omega)
  rw[zho,zhp];simp only[yaf];omega
def ztL (s:Sch) (P:List (List (List Val))):List UInt8:=P.flatMap λg=>zjC s g s.fields.length
def zoS (s:Sch) (P:List (List (List Val))):List UInt8:=P.flatMap λg=>zjD s g s.fields.length
def znt (s:Sch) (P:List (List (List Val))) (g:List (List Val)):ztL s (P++[g])=ztL s P++zjC s g s.fields.length:=by simp[ztL]
def znu (s:Sch) (P:List (List (List Val))) (g:List (List Val)):zoS s (P++[g])=zoS s P++zjD s g s.fields.length:=by simp[zoS]
def zlP {s:Sch} (hs:SchIs s): ∀ {P:List (List (List Val))},(∀g∈P,g.length<=64/\ ∀r∈g,zwd s r)->(ztL s P).length<=1600000*P.length/\(zoS s P).length<=16480*P.length
 |[],_=>⟨yab _,yab _⟩
 |g::P,h=>by
  obtain⟨h1,h2⟩:=zlP hs (P:=P) λg' h'=>h g' (by simp[h'])
  obtain⟨h3,h4⟩:=h g (by simp)
  obtain⟨h5,h6⟩:=zie hs h4 h3 s.fields.length (yab _);have:=hs.len
  show (zjC s g s.fields.length++ztL s P).length<=_/\(zjD s g s.fields.length++zoS s P).length<=_
  simp only[yaf,yag];omega
def le4 (n:Nat):List UInt8:=[UInt8.ofNat n,UInt8.ofNat (n / 256),UInt8.ofNat (n / 65536),UInt8.ofNat (n / 16777216)]
def ztM (n:Nat):bytes (le4 n)=[.int .u8 ((n:Int) % 256),.int .u8 ((n:Int) / 256 % 256),.int .u8 ((n:Int) / 65536 % 256),.int .u8 ((n:Int) / 16777216 % 256)]:=by
 simp[le4]
def zhY (s:Sch) (X:List (List Val)) (n:Nat):List UInt8:=zjY s++(put X.length++put n)
def zoT (s:Sch) (X:List (List Val)) (n:Nat):List UInt8:=zhY s X n++zoS s (cks n X.length X)
def zoU (s:Sch) (X:List (List Val)) (n:Nat):List UInt8:=67::70::49::(ztL s (cks n X.length X)++(zoT s X n++le4 (zoT s X n).length))
def zvy (s:Sch) (X:List (List Val)) (n:Nat):List UInt8:=zdk (zoU s X n)
def zcP (s:Sch) (X:List (List Val)) (n:Int):List UInt8 × Int:=
 if zly s≠0 then ([],zly s) else if n<1\/64<n then ([],1) else if 256<X.length then ([],5) else if zoQ s X≠0 then ([],zoQ s X)
 else if 65536<(zvy s X n.toNat).length then ([],4) else (zvy s X n.toNat,0)
def zlQ {s:Sch} {X:List (List Val)} (h: ∀r∈X,zwd s r) {n:Nat} (hn:n<=64): ∀g∈cks n X.length X,g.length<=64/\ ∀r∈g,zwd s r:=λg hg=>by
 obtain⟨h1,h2⟩:=ztH hg;exact⟨by omega,λr hr=>h r (h2 r hr)⟩
def zif {s:Sch} (hs:SchIs s) (h0:SchOk s) (X:List (List Val)) (hX:X.length<=256) {n:Nat} (hn:n<=64):(zhY s X n).length<=41000:=by
 have a:=zlA h0.fld;have b:=zan (n:=X.length) (by omega)
 have c:=zan (n:=n) (by omega)
 have d:(zja s).length<=20:=by
  have:=zan (n:=s.id.toNat) (by have:=h0.id;omega)
  have:=zan (n:=s.fields.length) (by have:=hs.len;omega)
  simp only[zja,yaf];omega
 have:=hs.len;simp only[zhY,zjY,yaf];omega
def zqc {s:Sch} (hs:SchIs s) (h0:SchOk s) {X:List (List Val)} (hX:X.length<=256) (h: ∀r∈X,zwd s r) {n:Nat} (hn:n<=64):(zoT s X n).length<=5000000/\(zoU s X n).length<1000000000:=by
 have a:=zif hs h0 X hX hn;obtain⟨b,c⟩:=zlP hs (zlQ h hn);have d:=zdS (n:=n) X.length X;have e:(zoT s X n).length<=5000000:=by
  simp only[zoT,yaf];omega
 refine⟨e, ?_⟩;simp only[zoU,le4,yaf,yag,yat];omega
end Go.Am.Ab
