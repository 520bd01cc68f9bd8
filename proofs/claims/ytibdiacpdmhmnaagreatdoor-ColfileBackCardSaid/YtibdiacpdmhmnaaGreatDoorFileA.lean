/- Files of rows: parts. -/
import Derived.Test.YtibdiacpdmhmnaaGreatDoorSchemaA
import Derived.Test.YtibdiacpdmhmnaaGreatDoorSums
import Derived.Test.YtibdiacpdmhmnaaGreatDoorStatA
import Derived.Test.YtibdiacpdmhmnaaGreatDoorColD
set_option linter.all false
namespace Go.Am.Ab
open Go.Proofs
set_option maxHeartbeats 4000000
set_option maxRecDepth 4000
def zfm:Val->List UInt8
 |.null=>put 0
 |.whole n=>za1 n
 |.truth b=>zeO b
 |.text s=>put s.size++tx s
def vok (v:Val):Prop:=match v with
 |.whole n=> -9223372036854775808<=n/\n<=9223372036854775807
 |.text s=>s.size<=1000
 |_=>True
def zfQ {v:Val} (h:vok v):(zfm v).length<=1010:=by
 cases v with
 |null=>show (put 0).length<=1010;rw[zgd (by omega)];simp
 |whole n=>have:=zaK h;show (za1 n).length<=1010;omega
 |truth b=>simp[zfm,zeO]
 |text s=>
  have h':s.size<=1000:=h;have:=zam (n:=s.size) (by omega)
  show (put s.size++tx s).length<=1010
  rw[yab];have d:(tx s).length=s.size:=by simp[tx]
  omega
def zlr (x:Sta) (v w:Val):List UInt8:=
 put x.nulls++((if x.has=true then (if x.high=true then 3 else 1) else 0)::((if x.has=true then zfm v else [])++(if x.has=true/\x.high=true then zfm w else [])))
def zkX (n:Int):(Utf8.encode n).size<=4:=by
 unfold Utf8.encode;simp only;split
 all_goals
  split <;> (try split) <;> (try split) <;> simp[ByteArray.size]
def znJ (s:ByteArray) (n:Nat):(frs s n).size<=s.size:=by
 unfold frs;split
 ·rw[ybL];omega
 ·exact yaf _
def zpC (s:ByteArray) (L:List (Nat × Nat × Bool)): ∀ (k:Nat) (t:ByteArray),zmt s L k=some t->t.size<=s.size+4
 |0,t,h=>by cases h
 |k+1,t,h=>by
  unfold zmt at h;split at h
  ·split at h
   ·simp only[yaa]at h;subst h
    have:=zkX (nxt ‹Nat × Nat × Bool›.1:Nat);rw[yb5,ybL];omega
   ·exact zpC s L k t h
  ·cases h
def zyp (s:ByteArray) (n:Nat):(abv s n).1.size<=s.size+4:=by
 unfold abv;split
 ·simp
 ·split
  ·simp
  ·split
   ·rename_i h;exact zpC s _ _ _ h
   ·simp
def znK {l:List Val} (hl: ∀v∈l,match v with | .whole n=> -9223372036854775808<=n/\n<=9223372036854775807 | .text s=>s.size<=64 | _=>True): ∃v w,(zaW l).mn=zac v/\(zaW l).mx=zac w/\vok v/\vok w/\(zaW l).nulls<=l.length:=by
 have hok:=zfP (p:=λv=>match v with | .whole n=> -9223372036854775808<=n/\n<=9223372036854775807 | .text s=>s.size<=64 | _=>True) hl l.length (yaf _)
 rw[yaQ]at hok;unfold zaW;generalize l.foldl stp st0=x at*;have hn:=hok.nu;have hle:=hok.le;unfold zdd;split
 ·exact⟨.null,.null,rfl,rfl,trivial,trivial,hn⟩
 ·rename_i hh
  obtain⟨k1,p1,p2,k2⟩:=hle (by simpa using hh)
  split
  ·rename_i s hs
   rw[hs]at p1 k1;split
   ·exact⟨.text noS,.null,rfl,rfl,yai _,trivial,hn⟩
   ·split
    ·refine⟨.text (frs s 4),.text (abv (ziY x.mo) 4).1,rfl,rfl, ?_, ?_,hn⟩
     ·have:=znJ s 4
      show (frs s 4).size<=1000
      have h':s.size<=64:=p1;omega
     ·have:=zyp (ziY x.mo) 4
      show (abv (ziY x.mo) 4).1.size<=1000
      have h':(ziY x.mo).size<=64:=by
       cases hm:x.mo with
       |text s=>rw[hm]at p2;exact p2
       |_=>simp[ziY]
      omega
    ·refine⟨.text (frs s 4),.null,rfl,rfl, ?_,trivial,hn⟩
     have:=znJ s 4
     show (frs s 4).size<=1000
     have h':s.size<=64:=p1;omega
  ·rename_i hne
   refine⟨x.le,x.mo,rfl,rfl, ?_, ?_,hn⟩
   ·cases hv:x.le with
    |text s=>exact absurd hv (hne s)
    |whole n=>rw[hv]at p1;exact p1
    |_=>trivial
   ·cases hv:x.mo with
    |text s=>rw[hv]at p2;show s.size<=1000;have h':s.size<=64:=p2;omega
    |whole n=>rw[hv]at p2;exact p2
    |_=>trivial
def zin (b:List UInt8) (v:Val) (hv:vok v) (hb:b.length<=100000000):R 93 [.arr 0 b.length,.d (zac v).d] [.arr 1 (bytes b) 0]=some ([.arr 0 (b++zfm v).length],[.arr 1 (bytes (b++zfm v)) 0]):=by
 cases v with
 |null=>
  have h:R 42 [.d (.int .u64 0)] []=some ([.arr 0 (put 0).length],[.arr 1 (bytes (put 0)) 0]):=za7 0 (by omega)
  have hl:=zam (n:=0) (by omega)
  simp only[vc0,Cel.d,zfm];refine rg b93 rfl ?_;intro T hT;simp -dsimp -implicitDefEqProofs (disch:=first|omega|assumption) [h,zak]
  simpa -dsimp -implicitDefEqProofs (disch:=first|omega|assumption) using hT
 |whole n=>
  have h:=zcr n hv.1 hv.2;have hl:=zaK hv;simp only[vc1,Cel.d,zfm];refine rg b93 rfl ?_;intro T hT;simp -dsimp -implicitDefEqProofs (disch:=first|omega|assumption) [h]
  simpa -dsimp -implicitDefEqProofs (disch:=first|omega|assumption) using hT
 |truth t=>
  simp only[vc2,Cel.d,zfm];cases t
  all_goals
   refine rg b93 rfl ?_;intro T hT;simp -dsimp -implicitDefEqProofs (disch:=first|omega|assumption)
   simpa -dsimp -implicitDefEqProofs (disch:=first|omega|assumption) [zeO]using hT
 |text s=>
  have hs:s.size<=1000:=hv;have h:=za7 s.size (by omega)
  have hl:=zam (n:=s.size) (by omega)
  have d1:(s.size:Int)<=18446744073709551615:=by omega
  simp only[vc3,Cel.d,zfm];refine rg b93 rfl ?_;intro T hT;simp -dsimp -implicitDefEqProofs (disch:=first|omega|assumption) [h,zak,d1]
  simpa -dsimp -implicitDefEqProofs (disch:=first|omega|assumption) [tx,yaH]using hT
def zuj (b:List UInt8) (x:Sta) (v w:Val) (hm:x.mn=zac v) (hx:x.mx=zac w) (hv:vok v) (hw:vok w) (hn:x.nulls<=1000000) (hh:x.high=true->x.has=true) (hb:b.length<=90000000):
 R 46 [.arr 0 b.length,.d x.d] [.arr 1 (bytes b) 0]=some ([.arr 0 (b++zlr x v w).length],[.arr 1 (bytes (b++zlr x v w)) 0]):=by
 obtain⟨rows,nulls,has,high,mn,mx⟩:=x;simp only at hm hx hn hh;subst hm;subst hx;have p:=za7 nulls (by omega)
 have pl:=zam (n:=nulls) (by omega)
 have d1:(nulls:Int)<=18446744073709551615:=by omega
 have vl:=zfQ hv;have wl:=zfQ hw;unfold zlr;simp only;have l1:(b++(put nulls++[1])).length=b.length+(put nulls).length+1:=by simp[yaH]
 have l3:(b++(put nulls++[3])).length=b.length+(put nulls).length+1:=by simp[yaH]
 have c1:bytes (b++(put nulls++[1]))=bytes b++(bytes (put nulls)++[.int .u8 1]):=by simp
 have c3:bytes (b++(put nulls++[3]))=bytes b++(bytes (put nulls)++[.int .u8 3]):=by simp
 cases has with
 |false=>
  cases high with
  |true=>exact absurd (hh rfl) (by decide)
  |false=>
   simp only[Sta.d];refine rg b46 rfl ?_;intro T hT;simp -dsimp -implicitDefEqProofs (disch:=first|omega|assumption) [p,zak,d1]
   simpa -dsimp -implicitDefEqProofs (disch:=first|omega|assumption) [yaH]using hT
 |true=>
  cases high with
  |false=>
   have h1:=zin (b++(put nulls++[1])) v hv (by omega)
   have e:b++(put nulls++((if true=true then if false=true then 3 else 1 else 0)::((if true=true then zfm v else [])++if true=true/\false=true then zfm w else [])))=b++(put nulls++[1])++zfm v:=by simp
   rw[e];generalize b++(put nulls++[1])++zfm v=r at*;rw[l1,c1]at h1;simp only[Sta.d,Cel.d]at h1 ⊢;refine rg b46 rfl ?_;intro T hT;simp -dsimp -implicitDefEqProofs (disch:=first|omega|assumption) [p,zak,d1,h1]
   simpa -dsimp -implicitDefEqProofs (disch:=first|omega|assumption) using hT
  |true=>
   have h1:=zin (b++(put nulls++[3])) v hv (by omega)
   have h2:=zin (b++(put nulls++[3])++zfm v) w hw (by rw[yab];omega)
   have e:b++(put nulls++((if true=true then if true=true then 3 else 1 else 0)::((if true=true then zfm v else [])++if true=true/\true=true then zfm w else [])))=b++(put nulls++[3])++zfm v++zfm w:=by simp
   rw[e];generalize b++(put nulls++[3])++zfm v++zfm w=r at*;generalize b++(put nulls++[3])++zfm v=q at*;rw[l3,c3]at h1;simp only[Sta.d,Cel.d]at h1 h2 ⊢;refine rg b46 rfl ?_;intro T hT;simp -dsimp -implicitDefEqProofs (disch:=first|omega|assumption) [p,zak,d1,h1,h2]
   simpa -dsimp -implicitDefEqProofs (disch:=first|omega|assumption) using hT
end Go.Am.Ab
namespace Go.Am.Ab
open Go.Proofs
set_option maxHeartbeats 4000000
set_option maxRecDepth 4000
def zmJ (v:Val) (hv:vok v):R 106 [.d (zac v).d] []=some ([.arr 0 (zfm v).length],[.arr 1 (bytes (zfm v)) 0]):=by
 cases v with
 |null=>
  have h:R 52 [.d (.int .u64 0)] []=some ([.arr 0 (put 0).length],[.arr 1 (bytes (put 0)) 0]):=za3 0 (by omega)
  have hl:=zam (n:=0) (by omega)
  simp only[vc0,Cel.d,zfm];refine rg zE2 rfl ?_;intro T hT;simp -dsimp -implicitDefEqProofs (disch:=first|omega|assumption) [h,zak]
  simpa -dsimp -implicitDefEqProofs (disch:=first|omega|assumption) using hT
 |whole n=>
  have h:=zb2 n hv.1 hv.2;have hl:=zaK hv;simp only[vc1,Cel.d,zfm];refine rg zE2 rfl ?_;intro T hT;simp -dsimp -implicitDefEqProofs (disch:=first|omega|assumption) [h]
  simpa -dsimp -implicitDefEqProofs (disch:=first|omega|assumption) using hT
 |truth t=>
  simp only[vc2,Cel.d,zfm];cases t
  all_goals
   refine rg zE2 rfl ?_;intro T hT;simp -dsimp -implicitDefEqProofs (disch:=first|omega|assumption)
   simpa -dsimp -implicitDefEqProofs (disch:=first|omega|assumption) [zeO]using hT
 |text s=>
  have hs:s.size<=1000:=hv;have h:=za3 s.size (by omega)
  have hl:=zam (n:=s.size) (by omega)
  have d1:(s.size:Int)<=18446744073709551615:=by omega
  simp only[vc3,Cel.d,zfm];refine rg zE2 rfl ?_;intro T hT;simp -dsimp -implicitDefEqProofs (disch:=first|omega|assumption) [h,zak,d1]
  simpa -dsimp -implicitDefEqProofs (disch:=first|omega|assumption) [tx]using hT
def zq6 (x:Sta) (v w:Val) (hm:x.mn=zac v) (hx:x.mx=zac w) (hv:vok v) (hw:vok w) (hn:x.nulls<=1000000) (hh:x.high=true->x.has=true):
 R 55 [.d x.d] []=some ([.arr 0 (zlr x v w).length],[.arr 1 (bytes (zlr x v w)) 0]):=by
 obtain⟨rows,nulls,has,high,mn,mx⟩:=x;simp only at hm hx hn hh;subst hm;subst hx;have p:=za3 nulls (by omega)
 have pl:=zam (n:=nulls) (by omega)
 have d1:(nulls:Int)<=18446744073709551615:=by omega
 have vl:=zfQ hv;have wl:=zfQ hw;have h1:=zmJ v hv;have h2:=zmJ w hw;simp only[Cel.d]at h1 h2;unfold zlr;simp only;cases has with
 |false=>
  cases high with
  |true=>exact absurd (hh rfl) (by decide)
  |false=>
   simp only[Sta.d];refine rg b55 rfl ?_;intro T hT;simp -dsimp -implicitDefEqProofs (disch:=first|omega|assumption) [p,zak,d1]
   simpa -dsimp -implicitDefEqProofs (disch:=first|omega|assumption) using hT
 |true=>
  cases high with
  |false=>
   simp only[Sta.d];refine rg b55 rfl ?_;intro T hT;simp -dsimp -implicitDefEqProofs (disch:=first|omega|assumption) [p,zak,d1,h1]
   simpa -dsimp -implicitDefEqProofs (disch:=first|omega|assumption) [yaH,ybC,Nat.add_left_comm]using hT
  |true=>
   simp only[Sta.d];refine rg b55 rfl ?_;intro T hT;simp -dsimp -implicitDefEqProofs (disch:=first|omega|assumption) [p,zak,d1,h1,h2]
   simpa -dsimp -implicitDefEqProofs (disch:=first|omega|assumption) [yaH,ybC,Nat.add_left_comm]using hT
abbrev zaU (l:List (List Val)):List D:=l.map λr=> .list (vs r)
abbrev zbr (l:List (List Cel)):List D:=l.map λr=> .list (ce r)
@[simp] def zyq (l:List (List Cel)):zaq 1 (l.map λr=> .list (ce r))=true:=zaS l λ_=>rfl
@[simp] def zeH (l:List (List Val)):zaq 1 (l.map λr=> .list (vs r))=true:=zaS l λ_=>rfl
def atV (r:List Val) (i:Nat):Val:=r.getD i .null
def col (g:List (List Val)) (i:Nat):List Val:=g.map λr=>atV r i
def zkY {r:List Val} {i:Nat} (h:i<r.length):r[i]=atV r i:=by simp[atV,yay,h]
def zdH (g:List (List Val)) (i:Nat) (h: ∀r∈g,i<r.length) (hn:g.length<=1000000) (hi:i<=1000000):R 44 [.d (.list (zaU g)),.d (.int .i64 i)] []=some ([.arr 0 g.length],[.arr 1 (vs (col g i)) 0]):=by
 have hend:vs (col g i)=zcY (λr=>(atV r i).d) g g.length:=by
  rw[za2 (yaf _)]
  show (g.map _).map Val.d=_
  rw[yaL];rfl
 rw[hend];refine rg b44 rfl ?_;intro T hT;simp -dsimp -implicitDefEqProofs (disch:=first|omega|assumption)
 generalize hz:zaj _ _ _ _ _ _=z;revert z;refine zaa (σ:=Nat) (λj=>[(1,.d (.int .i64 i)),(5,.arr 0 j),(8,.d (.list (zaU g))),(9,.d (.int .i64 g.length)),(10,.d (.int .i64 j))]) (λj=>[.arr 1 (zcY (λr=>(atV r i).d) g j) 0]) (λj=>j<=g.length) (λj=>g.length - j) 0 ?_ ?_ ?_
 ·exact yai _
 ·simp -dsimp -implicitDefEqProofs (disch:=first|omega|assumption) [zav]
 intro T' f hT' j hj ih
 by_cases h1:j<g.length
 ·have hc:=h g[j] (yam _)
  have ha:=zkY hc;have htk:=zaw (g:=λr=>(atV r i).d) h1
  have hlen:=zah (g:=λr=>(atV r i).d) hj
  simp -dsimp -implicitDefEqProofs (disch:=first|omega|assumption) [h1,hc,ha,hlen]
  refine ih (j+1) _ _ h1 (by omega) ?_
  rw[htk];simp -dsimp -implicitDefEqProofs (disch:=first|omega|assumption)
 ·have e:j=g.length:=by omega
  subst e;subst hT';simp -dsimp -implicitDefEqProofs (disch:=first|omega|assumption)
  simpa -dsimp -implicitDefEqProofs (disch:=first|omega|assumption) using hT
def zhu (g:List (List Val)) (i:Nat) (h: ∀r∈g,i<r.length) (hn:g.length<=1000000) (hi:i<=1000000):R 34 [.d (.list (zbr (g.map (·.map zac)))),.d (.int .i64 i)] []=some ([.arr 0 g.length],[.arr 3 (ce ((col g i).map zac)) 0]):=by
 have hend:ce ((col g i).map zac)=zcY (λr=>(zac (atV r i)).d) g g.length:=by
  rw[za2 (yaf _)]
  show ((g.map _).map _).map Cel.d=_
  rw[yaL,yaL];rfl
 rw[hend];refine rg b34 rfl ?_;intro T hT;simp -dsimp -implicitDefEqProofs (disch:=first|omega|assumption)
 generalize hz:zaj _ _ _ _ _ _=z;revert z;refine zaa (σ:=Nat) (λj=>[(0,.d (.list (zbr (g.map (·.map zac))))),(1,.d (.int .i64 i)),(5,.arr 0 j),(6,.d (.int .i64 j))]) (λj=>[.arr 3 (zcY (λr=>(zac (atV r i)).d) g j) 0]) (λj=>j<=g.length) (λj=>g.length - j) 0 ?_ ?_ ?_
 ·exact yai _
 ·simp -dsimp -implicitDefEqProofs (disch:=first|omega|assumption) [zav]
 intro T' f hT' j hj ih
 by_cases h1:j<g.length
 ·have hc:=h g[j] (yam _)
  have ha:=zkY hc;have hcc:=zks (zac (atV g[j] i));have htk:=zaw (g:=λr=>(zac (atV r i)).d) h1
  have hlen:=zah (g:=λr=>(zac (atV r i)).d) hj
  simp -dsimp -implicitDefEqProofs (disch:=first|omega|assumption) [h1,hc,ha,hlen,hcc]
  refine ih (j+1) _ _ h1 (by omega) ?_
  rw[htk];simp -dsimp -implicitDefEqProofs (disch:=first|omega|assumption)
  exact (zz5 _).symm
 ·have e:j=g.length:=by omega
  subst e;subst hT';simp -dsimp -implicitDefEqProofs (disch:=first|omega|assumption)
  simpa -dsimp -implicitDefEqProofs (disch:=first|omega|assumption) using hT
def cks {α:Type} (n:Nat):Nat->List α->List (List α)
 |0,_=>[]
 |_+1,[]=>[]
 |m+1,x::xs=>(x::xs).take n::cks n m ((x::xs).drop n)
def zio {α:Type} (f:α->D) (n:Nat): ∀ (m:Nat) (l:List α),zcI n m (l.map f)=(cks n m l).map (·.map f)
 |0,_=>rfl
 |_+1,[]=>rfl
 |m+1,x::xs=>by
  have ih:=zio f n m ((x::xs).drop n)
  show ((x::xs).map f).take n::zcI n m (((x::xs).map f).drop n)=_
  rw[<- ycd,ih,<- ybO];rfl
def zwm {α β:Type} (f:α->β) (n:Nat): ∀ (m:Nat) (l:List α),cks n m (l.map f)=(cks n m l).map (·.map f)
 |0,_=>rfl
 |_+1,[]=>rfl
 |m+1,x::xs=>by
  have ih:=zwm f n m ((x::xs).drop n)
  show ((x::xs).map f).take n::cks n m (((x::xs).map f).drop n)=_
  rw[<- ycd,ih,<- ybO];rfl
def zAq {α:Type} (n m:Nat):cks n m ([]:List α)=[]:=by cases m <;> rfl
def znL {α:Type} {n m:Nat} {l:List α} (hm:l.length<=m) (h:0<l.length) (hn:0<n): ∃m',(l.drop n).length<=m'/\cks n m l=l.take n::cks n m' (l.drop n):=by
 cases l with
 |nil=>simp at h
 |cons x xs=>
  cases m with
  |zero=>simp at hm
  |succ m=>exact⟨m,by simp at hm ⊢;omega,rfl⟩
def zwn {α:Type} {n:Nat}: ∀ {m:Nat} {l:List α} {g:List α},g∈cks n m l->g.length<=n/\ ∀x∈g,x∈l
 |0,_,_,h=>by simp[cks]at h
 |_+1,[],_,h=>by simp[cks]at h
 |m+1,x::xs,g,h=>by
  rcases List.mem_cons.1 h with rfl | h
  ·exact⟨by simp;omega,λ_=>yaD⟩
  ·obtain⟨h1,h2⟩:=zwn h
   exact⟨h1,λx hx=>ybQ (h2 x hx)⟩
def zee {α:Type} {n:Nat}: ∀ (m:Nat) (l:List α),(cks n m l).length<=m
 |0,_=>yaf _
 |_+1,[]=>yai _
 |m+1,x::xs=>Nat.succ_le_succ (zee m _)
def zq7 (X:List (List Cel)) (n:Nat) (hn:1<=n) (hn2:n<=64) (hX:X.length<=1000000):R 53 [.d (.list (zbr X)),.d (.int .i64 n)] []=some ([.arr 0 (cks n X.length X).length],[.arr 1 ((cks n X.length X).map λg=> .list (zbr g)) 0]):=by
 refine rg b53 rfl ?_;intro T hT;simp -dsimp -implicitDefEqProofs (disch:=first|omega|assumption)
 generalize hz:zaj _ _ _ _ _ _=z;revert z;refine zaa (σ:=Nat × List (List (List Cel))) (λx=>[(0,.d (.list (zbr X))),(1,.d (.int .i64 n)),(5,.arr 0 x.2.length),(6,.d (.int .i64 x.1))]) (λx=>[.arr 1 (x.2.map λg=> .list (zbr g)) 0]) (λx=>x.1<=X.length+n/\x.2.length<=x.1/\ ∃m,(X.drop x.1).length<=m/\cks n X.length X=x.2++cks n m (X.drop x.1)) (λx=>X.length+n - x.1) (0,[]) ?_ ?_ ?_
 ·exact⟨yai _,yai _,X.length,yaf _,rfl⟩
 ·simp -dsimp -implicitDefEqProofs (disch:=first|omega|assumption)
 intro T' f hT' ⟨i,P⟩ ⟨h1,hp,m,h2,h3⟩ ih;simp only at h1 hp h2 h3 ih
 by_cases hi:i<X.length
 ·obtain⟨m',e1,e2⟩:=znL (n:=n) h2 (by rw[yaw];omega) (by omega)
  rw[ycK]at e1 e2;rw[e2,<- List.singleton_append,<- yal]at h3;obtain⟨W,hW⟩: ∃W,W=(X.drop i).take n:=⟨_,rfl⟩;rw[<- hW]at h3;have w1:List.drop i (List.take (i+n) (zbr X))=zbr W:=by
   rw[hW,<- ybO,<- ycd,List.drop_take,yaR]
  by_cases d1:(i:Int)+n<X.length
  ·have d2:((i:Int)+n).toNat=i+n:=by omega
   simp -dsimp -implicitDefEqProofs (disch:=first|omega|assumption) [hi,d1,d2,w1]
   refine ih (i+n,P++[W]) _ _ ⟨by simp only;omega,by simp only[yab,yad,yat];omega,m',e1,h3⟩ (by simp only;omega) ?_
   simp -dsimp -implicitDefEqProofs (disch:=first|omega|assumption)
  ·have w2:List.take (i+n) (zbr X)=zbr X:=yar (by rw[yah];omega)
   have w3:List.take X.length (zbr X)=zbr X:=yar (by rw[yah];omega)
   rw[w2]at w1;simp -dsimp -implicitDefEqProofs (disch:=first|omega|assumption) [hi,d1,w1,w3]
   refine ih (i+n,P++[W]) _ _ ⟨by simp only;omega,by simp only[yab,yad,yat];omega,m',e1,h3⟩ (by simp only;omega) ?_
   simp -dsimp -implicitDefEqProofs (disch:=first|omega|assumption)
 ·have e:X.drop i=[]:=ybq (by omega)
  rw[e,zAq,yaq]at h3;rw[h3]at hT;subst hT';simp -dsimp -implicitDefEqProofs (disch:=first|omega|assumption) [hi]
  simpa -dsimp -implicitDefEqProofs (disch:=first|omega|assumption) using hT
end Go.Am.Ab
namespace Go.Am.Ab
open Go.Proofs
set_option maxHeartbeats 4000000
def zsy: ∀ (l seen:List Fld) (prev:Int),zuy seen prev l=0-> ∀f∈l,zo6 f.name=true/\1<=f.kind/\f.kind<=3
 |[],_,_,_,f,h=>by simp at h
 |g::r,seen,prev,h,f,hf=>by
  unfold zuy at h;split at h
  ·rename_i h0
   rcases List.mem_cons.1 hf with rfl | hf
   ·unfold zp1 at h0
    split at h0
    ·omega
    ·split at h0
     ·omega
     ·rename_i h2
      split at h0
      ·omega
      ·simp at h2
       exact⟨h2.1,by omega,by omega⟩
   ·exact zsy r _ _ h f hf
  ·rename_i h0;exact absurd h h0
structure SchIs (s:Sch):Prop where
 one:1<=s.fields.length
 len:s.fields.length<=8
 fld: ∀f∈s.fields,f.name.size<=16/\1<=f.kind/\f.kind<=3
def zdU {s:Sch} (h:zib s=0):SchIs s:=by
 unfold zib at h;split at h
 ·omega
 ·refine⟨by omega,by omega,λf hf=> ?_⟩
  obtain⟨h1,h2⟩:=zsy _ _ _ h f hf;refine⟨?_,h2⟩;unfold zo6 at h1;simp only[yav,yaG]at h1;omega
def kd (s:Sch) (i:Nat):Nat:=(s.fields.getD i ⟨0,noS,0,false⟩).kind.toNat
def zwo {s:Sch} {i:Nat} (h:i<s.fields.length):kd s i=s.fields[i].kind.toNat:=by simp[kd,yay,h]
def zwp {s:Sch} (hs:SchIs s) {i:Nat} (h:i<s.fields.length):1<=kd s i/\kd s i<=3/\s.fields[i].kind=kd s i:=by
 obtain⟨_,h1,h2⟩:=hs.fld s.fields[i] (yam _);rw[zwo h];omega
def zwq {f:Fld} {v:Val} (h:zjp f v=0) (hk:1<=f.kind/\f.kind<=3) (hi: ∀n,v= .whole n->zai n):zq3 f.kind.toNat v:=by
 cases v with
 |null=>exact .inl rfl
 |whole n=>
  unfold zjp at h;simp only at h;split at h
  ·omega
  ·rename_i h1
   refine .inr ⟨?_,hi,λs e=>by cases e⟩
   simp only[Val.kind,ydO]at h1 ⊢;omega
 |truth b=>
  unfold zjp at h;simp only at h;split at h
  ·omega
  ·rename_i h1
   refine .inr ⟨?_,hi,λs e=>by cases e⟩
   simp only[Val.kind,ydO]at h1 ⊢;omega
 |text s=>
  unfold zjp at h;simp only at h;split at h
  ·omega
  ·rename_i h1
   split at h
   ·omega
   ·refine .inr ⟨?_,hi,λt e=>by cases e;omega⟩
    simp only[Val.kind];omega
def zsz: ∀ (fs:List Fld) (l:List Val),zvH fs l=0-> ∀ (i:Nat) (h:i<fs.length) (h2:i<l.length),zjp fs[i] l[i]=0
 |[],_,_,_,h,_=>by simp at h
 |_::_,[],_,_,_,h2=>by simp at h2
 |f::fs,v::vs,h,i,h1,h2=>by
  unfold zvH at h;split at h
  ·rename_i h0
   cases i with
   |zero=>exact h0
   |succ i=>exact zsz fs vs h i (by simpa using h1) (by simpa using h2)
  ·rename_i h0;exact absurd h h0
def zmK (s:Sch) (r:List Val):Prop:=r.length=s.fields.length/\ ∀i,i<s.fields.length->zq3 (kd s i) (atV r i)
def zsA {s:Sch} (hs:SchIs s) {r:List Val} (h:fit s r=0) (hi: ∀n,Val.whole n∈r->zai n):zmK s r:=by
 unfold fit at h;split at h
 ·omega
 ·rename_i hl
  have hl':r.length=s.fields.length:=by omega
  refine⟨hl',λi h1=> ?_⟩
  have h2:i<r.length:=by omega
  have h3:=zsz _ _ h i h1 h2;rw[zwo h1,<- zkY h2];exact zwq h3 (hs.fld _ (yam _)).2 λn e=>hi n (e ▸ yam _)
def znM (s:Sch):List (List Val)->Int
 |[]=>0
 |r::rs=>if fit s r=0 then znM s rs else fit s r
def zsB {s:Sch}: ∀ {X:List (List Val)},znM s X=0-> ∀r∈X,fit s r=0
 |[],_,r,h=>by simp at h
 |x::xs,h,r,hr=>by
  unfold znM at h;split at h
  ·rename_i h0
   rcases List.mem_cons.1 hr with rfl | hr
   ·exact h0
   ·exact zsB h r hr
  ·rename_i h0;exact absurd h h0
def zpD {s:Sch} {X:List (List Val)} {k:Nat} {r:List Val} (hk:k<X.length) (hr:X[k]=r):znM s (X.drop k)=if fit s r=0 then znM s (X.drop (k+1)) else fit s r:=by
 rw[yaC hk,hr];rfl
def zjw {s:Sch} (hs:SchIs s) {X:List (List Val)} (h:znM s X=0) (hi: ∀r∈X, ∀n,Val.whole n∈r->zai n): ∀r∈X,zmK s r:=λr hr=>zsA hs (zsB h r hr) (hi r hr)
def zdn {s:Sch} {g:List (List Val)} (h: ∀r∈g,zmK s r) {i:Nat} (hi:i<s.fields.length):zgh (kd s i) (col g i):=by
 intro v hv;obtain⟨r,hr,rfl⟩:=List.mem_map.1 hv;exact (h r hr).2 i hi
def zw2 (c:Cel):List UInt8:=if c.kind=1 then za1 c.n else if c.kind=2 then zeO (decide (c.n=1)) else put c.s.size++tx c.s
def zq8 (v:Val):zw2 (zac v)=zfm v:=by
 cases v with
 |null=>simp[zw2,zac,Cel.none,zfm,tx]
 |whole n=>rfl
 |truth b=>cases b <;> rfl
 |text s=>rfl
def stB (x:Sta):List UInt8:=put x.nulls++((if x.has=true then (if x.high=true then 3 else 1) else 0)::((if x.has=true then zw2 x.mn else [])++(if x.has=true/\x.high=true then zw2 x.mx else [])))
def zsC {x:Sta} {v w:Val} (h1:x.mn=zac v) (h2:x.mx=zac w):zlr x v w=stB x:=by
 unfold zlr stB;rw[h1,h2,zq8,zq8]
def ziq {k:Nat} {l:List Val} (g:zgh k l): ∀v∈l,match v with | .whole n=> -9223372036854775808<=n/\n<=9223372036854775807 | .text s=>s.size<=64 | _=>True:=by
 intro v hv;rcases g v hv with rfl | ⟨_,h1,h2⟩
 ·trivial
 ·cases v with
  |whole n=>exact h1 n rfl
  |text s=>exact h2 s rfl
  |_=>trivial
def znN (l:List Val):(zaW l).high=true->(zaW l).has=true:=by
 unfold zaW zdd;split
 ·intro h;exact h
 ·split
  ·split
   ·intro _;rfl
   ·split <;> intro _ <;> rfl
  ·intro _;rfl
def zq9 {k:Nat} {l:List Val} (g:zgh k l) (hn:l.length<=1000000):(stB (zaW l)).length<=2050:=by
 obtain⟨v,w,h1,h2,h3,h4,h5⟩:=znK (ziq g);rw[<- zsC h1 h2];unfold zlr;have a:=zam (n:=(zaW l).nulls) (by omega)
 have b:=zfQ h3;have c:=zfQ h4;simp only[yab,yad];split <;> split <;> (try simp only[yat]) <;> omega
def zeI (s:Sch) (g:List (List Val)) (i:Nat):List UInt8:=(List.range i).flatMap λj=>zdh (kd s j) (col g j)
def zgH (s:Sch) (g:List (List Val)) (i:Nat):List UInt8:=(List.range i).flatMap λj=>put (zdh (kd s j) (col g j)).length++stB (zaW (col g j))
def zfR (s:Sch) (g:List (List Val)) (i:Nat):zeI s g (i+1)=zeI s g i++zdh (kd s i) (col g i):=by simp[zeI,yc3]
def zfS (s:Sch) (g:List (List Val)) (i:Nat):zgH s g (i+1)=zgH s g i++(put (zdh (kd s i) (col g i)).length++stB (zaW (col g i))):=by simp[zgH,yc3]
def zjx {s:Sch} (hs:SchIs s) {g:List (List Val)} (h: ∀r∈g,zmK s r) (hg:g.length<=64): ∀i,i<=s.fields.length->(zeI s g i).length<=200000*i/\(zgH s g i).length<=2060*i
 |0,_=>⟨yaf _,yaf _⟩
 |i+1,hi=>by
  obtain⟨h1,h2⟩:=zjx hs h hg i (by omega)
  have hk:=zwp hs (i:=i) (by omega)
  have hl:(col g i).length=g.length:=by simp[col]
  have gd:=zdn h (i:=i) (by omega)
  have a:=zjv ⟨hk.1,hk.2.1⟩ gd (by omega)
  have b:=zq9 gd (by omega)
  have c:=zam (n:=(zdh (kd s i) (col g i)).length) (by omega)
  rw[zfR,zfS];simp only[yab];omega
def zja (s:Sch) (P:List (List (List Val))):List UInt8:=P.flatMap λg=>zeI s g s.fields.length
def zjy (s:Sch) (P:List (List (List Val))):List UInt8:=P.flatMap λg=>zgH s g s.fields.length
def zpE (s:Sch) (P:List (List (List Val))) (g:List (List Val)):zja s (P++[g])=zja s P++zeI s g s.fields.length:=by simp[zja]
def zpF (s:Sch) (P:List (List (List Val))) (g:List (List Val)):zjy s (P++[g])=zjy s P++zgH s g s.fields.length:=by simp[zjy]
def znO {s:Sch} (hs:SchIs s): ∀ {P:List (List (List Val))},(∀g∈P,g.length<=64/\ ∀r∈g,zmK s r)->(zja s P).length<=1600000*P.length/\(zjy s P).length<=16480*P.length
 |[],_=>⟨yaf _,yaf _⟩
 |g::P,h=>by
  obtain⟨h1,h2⟩:=znO hs (P:=P) λg' h'=>h g' (by simp[h'])
  obtain⟨h3,h4⟩:=h g (by simp)
  obtain⟨h5,h6⟩:=zjx hs h4 h3 s.fields.length (yaf _);have:=hs.len
  show (zeI s g s.fields.length++zja s P).length<=_/\(zgH s g s.fields.length++zjy s P).length<=_
  simp only[yab,yad];omega
def le4 (n:Nat):List UInt8:=[UInt8.ofNat n,UInt8.ofNat (n / 256),UInt8.ofNat (n / 65536),UInt8.ofNat (n / 16777216)]
def zwr (n:Nat):bytes (le4 n)=[.int .u8 ((n:Int) % 256),.int .u8 ((n:Int) / 256 % 256),.int .u8 ((n:Int) / 65536 % 256),.int .u8 ((n:Int) / 16777216 % 256)]:=by
 simp[le4]
def zhv (s:Sch) (X:List (List Val)) (n:Nat):List UInt8:=zic s++(put X.length++put n)
def zir (s:Sch) (X:List (List Val)) (n:Nat):List UInt8:=zhv s X n++zjy s (cks n X.length X)
def zeP (s:Sch) (X:List (List Val)) (n:Nat):List UInt8:=67::70::49::(zja s (cks n X.length X)++(zir s X n++le4 (zir s X n).length))
def zfn (s:Sch) (X:List (List Val)) (n:Nat):List UInt8:=zdc (zeP s X n)
def zcz (s:Sch) (X:List (List Val)) (n:Int):List UInt8 × Int:=
 if zib s≠0 then ([],zib s) else if n<1\/64<n then ([],1) else if 256<X.length then ([],5) else if znM s X≠0 then ([],znM s X)
 else if 65536<(zfn s X n.toNat).length then ([],4) else (zfn s X n.toNat,0)
def znP {s:Sch} {X:List (List Val)} (h: ∀r∈X,zmK s r) {n:Nat} (hn:n<=64): ∀g∈cks n X.length X,g.length<=64/\ ∀r∈g,zmK s r:=λg hg=>by
 obtain⟨h1,h2⟩:=zwn hg;exact⟨by omega,λr hr=>h r (h2 r hr)⟩
def zjz {s:Sch} (hs:SchIs s) (h0:SchOk s) (X:List (List Val)) (hX:X.length<=256) {n:Nat} (hn:n<=64):(zhv s X n).length<=41000:=by
 have a:=znu h0.fld;have b:=zam (n:=X.length) (by omega)
 have c:=zam (n:=n) (by omega)
 have d:(zhm s).length<=20:=by
  have:=zam (n:=s.id.toNat) (by have:=h0.id;omega)
  have:=zam (n:=s.fields.length) (by have:=hs.len;omega)
  simp only[zhm,yab];omega
 have:=hs.len;simp only[zhv,zic,yab];omega
def zsD {s:Sch} (hs:SchIs s) (h0:SchOk s) {X:List (List Val)} (hX:X.length<=256) (h: ∀r∈X,zmK s r) {n:Nat} (hn:n<=64):(zir s X n).length<=5000000/\(zeP s X n).length<1000000000:=by
 have a:=zjz hs h0 X hX hn;obtain⟨b,c⟩:=znO hs (znP h hn);have d:=zee (n:=n) X.length X;have e:(zir s X n).length<=5000000:=by
  simp only[zir,yab];omega
 refine⟨e, ?_⟩;simp only[zeP,le4,yab,yad,yat];omega
end Go.Am.Ab
