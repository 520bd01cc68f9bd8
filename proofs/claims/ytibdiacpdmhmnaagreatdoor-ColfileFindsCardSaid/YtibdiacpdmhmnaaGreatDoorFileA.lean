/- Files of rows: parts. -/
import Derived.Test.YtibdiacpdmhmnaaGreatDoorSchemaA
import Derived.Test.YtibdiacpdmhmnaaGreatDoorStatA
import Derived.Test.YtibdiacpdmhmnaaGreatDoorColD
import Derived.Test.YtibdiacpdmhmnaaGreatDoorSums
set_option linter.all false
namespace Go.Am.Ab
open Go.Proofs
set_option maxHeartbeats 4000000
set_option maxRecDepth 4000
def zhm:Val->List UInt8
 |.null=>put 0
 |.whole n=>zbe n
 |.truth b=>zg9 b
 |.text s=>put s.size++tx s
def vok (v:Val):Prop:=match v with
 |.whole n=> -9223372036854775808<=n/\n<=9223372036854775807
 |.text s=>s.size<=1000
 |_=>True
def zjf {v:Val} (h:vok v):(zhm v).length<=1010:=by
 cases v with
 |null=>show (put 0).length<=1010;rw[ziA (by omega)];simp
 |whole n=>have:=zbp h;show (zbe n).length<=1010;omega
 |truth b=>simp[zhm,zg9]
 |text s=>
  have h':s.size<=1000:=h;have:=zaq (n:=s.size) (by omega)
  show (put s.size++tx s).length<=1010
  rw[yae];have d:(tx s).length=s.size:=by simp[tx]
  omega
def zqu (x:Sta) (v w:Val):List UInt8:=
 put x.nulls++((if x.has=true then (if x.high=true then 3 else 1) else 0)::((if x.has=true then zhm v else [])++(if x.has=true/\x.high=true then zhm w else [])))
def zkz (n:Int):(Utf8.encode n).size<=4:=by
 unfold Utf8.encode;simp only;split
 all_goals
  split <;> (try split) <;> (try split) <;> simp[ByteArray.size]
def zm6 (s:ByteArray) (n:Nat):(frs s n).size<=s.size:=by
 unfold frs;split
 ·rw[ybG];omega
 ·exact yaj _
def zoZ (s:ByteArray) (L:List (Nat × Nat × Bool)): ∀ (k:Nat) (t:ByteArray),zjW s L k=some t->t.size<=s.size+4
 |0,t,h=>by cases h
 |k+1,t,h=>by
  unfold zjW at h;split at h
  ·split at h
   ·simp only[yaa]at h;subst h
    have:=zkz (nxt ‹Nat × Nat × Bool›.1:Nat);rw[yb5,ybG];omega
   ·exact zoZ s L k t h
  ·cases h
def zyw (s:ByteArray) (n:Nat):(abv s n).1.size<=s.size+4:=by
 unfold abv;split
 ·simp
 ·split
  ·simp
  ·split
   ·rename_i h;exact zoZ s _ _ _ h
   ·simp
def zrR {l:List Val} (hl: ∀v∈l,match v with | .whole n=> -9223372036854775808<=n/\n<=9223372036854775807 | .text s=>s.size<=64 | _=>True): ∃v w,(zaW l).mn=cellOf v/\(zaW l).mx=cellOf w/\vok v/\vok w/\(zaW l).nulls<=l.length:=by
 have hok:=zer (p:=λv=>match v with | .whole n=> -9223372036854775808<=n/\n<=9223372036854775807 | .text s=>s.size<=64 | _=>True) hl l.length (yaj _)
 rw[yaW]at hok;unfold zaW;generalize l.foldl stp st0=x at*;have hn:=hok.nu;have hle:=hok.le;unfold zcG;split
 ·exact⟨.null,.null,rfl,rfl,trivial,trivial,hn⟩
 ·rename_i hh
  obtain⟨k1,p1,p2,k2⟩:=hle (by simpa using hh)
  split
  ·rename_i s hs
   rw[hs]at p1 k1;split
   ·exact⟨.text noS,.null,rfl,rfl,yai _,trivial,hn⟩
   ·split
    ·refine⟨.text (frs s 4),.text (abv (zd2 x.mo) 4).1,rfl,rfl, ?_, ?_,hn⟩
     ·have:=zm6 s 4
      show (frs s 4).size<=1000
      have h':s.size<=64:=p1;omega
     ·have:=zyw (zd2 x.mo) 4
      show (abv (zd2 x.mo) 4).1.size<=1000
      have h':(zd2 x.mo).size<=64:=by
       cases hm:x.mo with
       |text s=>rw[hm]at p2;exact p2
       |_=>simp[zd2]
      omega
    ·refine⟨.text (frs s 4),.null,rfl,rfl, ?_,trivial,hn⟩
     have:=zm6 s 4
     show (frs s 4).size<=1000
     have h':s.size<=64:=p1;omega
  ·rename_i hne
   refine⟨x.le,x.mo,rfl,rfl, ?_, ?_,hn⟩
   ·cases hv:x.le with
    |text s=>exact absurd hv (hne s)
    |whole n=>rw[hv]at p1;exact p1
    |_=>trivial
   ·cases hv:x.mo with
    |text s=>rw[hv]at p2;show s.size<=1000;have h':s.size<=64:=p2;omega
    |whole n=>rw[hv]at p2;exact p2
    |_=>trivial
def zh9 (b:List UInt8) (v:Val) (hv:vok v) (hb:b.length<=100000000):R 93 [.arr 0 b.length,.d (cellOf v).d] [.arr 1 (bytes b) 0]=some ([.arr 0 (b++zhm v).length],[.arr 1 (bytes (b++zhm v)) 0]):=by
 cases v with
 |null=>
  have h:R 42 [.d (.int .u64 0)] []=some ([.arr 0 (put 0).length],[.arr 1 (bytes (put 0)) 0]):=zaZ 0 (by omega)
  have hl:=zaq (n:=0) (by omega)
  simp only[vc0,Cel.d,zhm];refine rg b93 rfl ?_;intro T hT;simp -dsimp -implicitDefEqProofs (disch:=omega) [h,zal]
  simpa -dsimp -implicitDefEqProofs (disch:=omega) using hT
 |whole n=>
  have h:=zcc n hv.1 hv.2;have hl:=zbp hv;simp only[vc1,Cel.d,zhm];refine rg b93 rfl ?_;intro T hT;simp -dsimp -implicitDefEqProofs (disch:=omega) [h]
  simpa -dsimp -implicitDefEqProofs (disch:=omega) using hT
 |truth t=>
  simp only[vc2,Cel.d,zhm];cases t
  all_goals
   refine rg b93 rfl ?_;intro T hT;simp -dsimp -implicitDefEqProofs (disch:=omega)
   simpa -dsimp -implicitDefEqProofs (disch:=omega) [zg9]using hT
 |text s=>
  have hs:s.size<=1000:=hv;have h:=zaZ s.size (by omega)
  have hl:=zaq (n:=s.size) (by omega)
  have d1:(s.size:Int)<=18446744073709551615:=by omega
  simp only[vc3,Cel.d,zhm];refine rg b93 rfl ?_;intro T hT;simp -dsimp -implicitDefEqProofs (disch:=omega) [h,zal,d1]
  simpa -dsimp -implicitDefEqProofs (disch:=omega) [tx,yaY]using hT
def ztI (b:List UInt8) (x:Sta) (v w:Val) (hm:x.mn=cellOf v) (hx:x.mx=cellOf w) (hv:vok v) (hw:vok w) (hn:x.nulls<=1000000) (hh:x.high=true->x.has=true) (hb:b.length<=90000000):
 R 46 [.arr 0 b.length,.d x.d] [.arr 1 (bytes b) 0]=some ([.arr 0 (b++zqu x v w).length],[.arr 1 (bytes (b++zqu x v w)) 0]):=by
 obtain⟨rows,nulls,has,high,mn,mx⟩:=x;simp only at hm hx hn hh;subst hm;subst hx;have p:=zaZ nulls (by omega)
 have pl:=zaq (n:=nulls) (by omega)
 have d1:(nulls:Int)<=18446744073709551615:=by omega
 have vl:=zjf hv;have wl:=zjf hw;unfold zqu;simp only;have l1:(b++(put nulls++[1])).length=b.length+(put nulls).length+1:=by simp[yaY]
 have l3:(b++(put nulls++[3])).length=b.length+(put nulls).length+1:=by simp[yaY]
 have c1:bytes (b++(put nulls++[1]))=bytes b++(bytes (put nulls)++[.int .u8 1]):=by simp
 have c3:bytes (b++(put nulls++[3]))=bytes b++(bytes (put nulls)++[.int .u8 3]):=by simp
 cases has with
 |false=>
  cases high with
  |true=>exact absurd (hh rfl) (by decide)
  |false=>
   simp only[Sta.d];refine rg b46 rfl ?_;intro T hT;simp -dsimp -implicitDefEqProofs (disch:=omega) [p,zal,d1]
   simpa -dsimp -implicitDefEqProofs (disch:=omega) [yaY]using hT
 |true=>
  cases high with
  |false=>
   have h1:=zh9 (b++(put nulls++[1])) v hv (by omega)
   have e:b++(put nulls++((if true=true then if false=true then 3 else 1 else 0)::((if true=true then zhm v else [])++if true=true/\false=true then zhm w else [])))=b++(put nulls++[1])++zhm v:=by simp
   rw[e];generalize b++(put nulls++[1])++zhm v=r at*;rw[l1,c1]at h1;simp only[Sta.d,Cel.d]at h1 ⊢;refine rg b46 rfl ?_;intro T hT;simp -dsimp -implicitDefEqProofs (disch:=omega) [p,zal,d1,h1]
   simpa -dsimp -implicitDefEqProofs (disch:=omega) using hT
  |true=>
   have h1:=zh9 (b++(put nulls++[3])) v hv (by omega)
   have h2:=zh9 (b++(put nulls++[3])++zhm v) w hw (by rw[yae];omega)
   have e:b++(put nulls++((if true=true then if true=true then 3 else 1 else 0)::((if true=true then zhm v else [])++if true=true/\true=true then zhm w else [])))=b++(put nulls++[3])++zhm v++zhm w:=by simp
   rw[e];generalize b++(put nulls++[3])++zhm v++zhm w=r at*;generalize b++(put nulls++[3])++zhm v=q at*;rw[l3,c3]at h1;simp only[Sta.d,Cel.d]at h1 h2 ⊢;refine rg b46 rfl ?_;intro T hT;simp -dsimp -implicitDefEqProofs (disch:=omega) [p,zal,d1,h1,h2]
   simpa -dsimp -implicitDefEqProofs (disch:=omega) using hT
end Go.Am.Ab
namespace Go.Am.Ab
open Go.Proofs
set_option maxHeartbeats 4000000
set_option maxRecDepth 4000
abbrev zaK (l:List (List Val)):List D:=l.map λr=> .list (vs r)
abbrev zbD (l:List (List Cel)):List D:=l.map λr=> .list (ce r)
@[simp] def zyx (l:List (List Cel)):zam 1 (l.map λr=> .list (ce r))=true:=zaJ l λ_=>rfl
@[simp] def zda (l:List (List Val)):zam 1 (l.map λr=> .list (vs r))=true:=zaJ l λ_=>rfl
def atV (r:List Val) (i:Nat):Val:=r.getD i .null
def col (g:List (List Val)) (i:Nat):List Val:=g.map λr=>atV r i
def zdL {r:List Val} {i:Nat} (h:i<r.length):r[i]=atV r i:=by simp[atV,yas,h]
def zfc (g:List (List Val)) (i:Nat) (h: ∀r∈g,i<r.length) (hn:g.length<=1000000) (hi:i<=1000000):R 44 [.d (.list (zaK g)),.d (.int .i64 i)] []=some ([.arr 0 g.length],[.arr 1 (vs (col g i)) 0]):=by
 have hend:vs (col g i)=zeo (λr=>(atV r i).d) g g.length:=by
  rw[zbg (yaj _)]
  show (g.map _).map Val.d=_
  rw[yaQ];rfl
 rw[hend];refine rg b44 rfl ?_;intro T hT;simp -dsimp -implicitDefEqProofs (disch:=omega)
 generalize hz:zaf _ _ _ _ _ _=z;revert z;refine zaa (σ:=Nat) (λj=>[(1,.d (.int .i64 i)),(5,.arr 0 j),(8,.d (.list (zaK g))),(9,.d (.int .i64 g.length)),(10,.d (.int .i64 j))]) (λj=>[.arr 1 (zeo (λr=>(atV r i).d) g j) 0]) (λj=>j<=g.length) (λj=>g.length - j) 0 ?_ ?_ ?_
 ·exact yai _
 ·simp -dsimp -implicitDefEqProofs (disch:=omega) [zaO]
 intro T' f hT' j hj ih
 by_cases h1:j<g.length
 ·have hc:=h g[j] (yam _)
  have ha:=zdL hc;have htk:=zaP (g:=λr=>(atV r i).d) h1
  have hlen:=zak (g:=λr=>(atV r i).d) hj
  simp -dsimp -implicitDefEqProofs (disch:=omega) [h1,hc,ha,hlen]
  refine ih (j+1) _ _ h1 (by omega) ?_
  rw[htk];simp -dsimp -implicitDefEqProofs (disch:=omega)
 ·have e:j=g.length:=by omega
  subst e;subst hT';simp -dsimp -implicitDefEqProofs (disch:=omega)
  simpa -dsimp -implicitDefEqProofs (disch:=omega) using hT
def zm7 (g:List (List Val)) (i:Nat) (h: ∀r∈g,i<r.length) (hn:g.length<=1000000) (hi:i<=1000000):R 34 [.d (.list (zbD (g.map (·.map cellOf)))),.d (.int .i64 i)] []=some ([.arr 0 g.length],[.arr 3 (ce ((col g i).map cellOf)) 0]):=by
 have hend:ce ((col g i).map cellOf)=zeo (λr=>(cellOf (atV r i)).d) g g.length:=by
  rw[zbg (yaj _)]
  show ((g.map _).map _).map Cel.d=_
  rw[yaQ,yaQ];rfl
 rw[hend];refine rg b34 rfl ?_;intro T hT;simp -dsimp -implicitDefEqProofs (disch:=omega)
 generalize hz:zaf _ _ _ _ _ _=z;revert z;refine zaa (σ:=Nat) (λj=>[(0,.d (.list (zbD (g.map (·.map cellOf))))),(1,.d (.int .i64 i)),(5,.arr 0 j),(6,.d (.int .i64 j))]) (λj=>[.arr 3 (zeo (λr=>(cellOf (atV r i)).d) g j) 0]) (λj=>j<=g.length) (λj=>g.length - j) 0 ?_ ?_ ?_
 ·exact yai _
 ·simp -dsimp -implicitDefEqProofs (disch:=omega) [zaO]
 intro T' f hT' j hj ih
 by_cases h1:j<g.length
 ·have hc:=h g[j] (yam _)
  have ha:=zdL hc;have hcc:=zj5 (cellOf (atV g[j] i));have htk:=zaP (g:=λr=>(cellOf (atV r i)).d) h1
  have hlen:=zak (g:=λr=>(cellOf (atV r i)).d) hj
  simp -dsimp -implicitDefEqProofs (disch:=omega) [h1,hc,ha,hlen,hcc]
  refine ih (j+1) _ _ h1 (by omega) ?_
  rw[htk];simp -dsimp -implicitDefEqProofs (disch:=omega)
  exact (zAA _).symm
 ·have e:j=g.length:=by omega
  subst e;subst hT';simp -dsimp -implicitDefEqProofs (disch:=omega)
  simpa -dsimp -implicitDefEqProofs (disch:=omega) using hT
def cks {α:Type} (n:Nat):Nat->List α->List (List α)
 |0,_=>[]
 |_+1,[]=>[]
 |m+1,x::xs=>(x::xs).take n::cks n m ((x::xs).drop n)
def zfD {α:Type} (f:α->D) (n:Nat): ∀ (m:Nat) (l:List α),zcg n m (l.map f)=(cks n m l).map (·.map f)
 |0,_=>rfl
 |_+1,[]=>rfl
 |m+1,x::xs=>by
  have ih:=zfD f n m ((x::xs).drop n)
  show ((x::xs).map f).take n::zcg n m (((x::xs).map f).drop n)=_
  rw[<- ycc,ih,<- ybQ];rfl
def zv5 {α β:Type} (f:α->β) (n:Nat): ∀ (m:Nat) (l:List α),cks n m (l.map f)=(cks n m l).map (·.map f)
 |0,_=>rfl
 |_+1,[]=>rfl
 |m+1,x::xs=>by
  have ih:=zv5 f n m ((x::xs).drop n)
  show ((x::xs).map f).take n::cks n m (((x::xs).map f).drop n)=_
  rw[<- ycc,ih,<- ybQ];rfl
def zAQ {α:Type} (n m:Nat):cks n m ([]:List α)=[]:=by cases m <;> rfl
def zm8 {α:Type} {n m:Nat} {l:List α} (hm:l.length<=m) (h:0<l.length) (hn:0<n): ∃m',(l.drop n).length<=m'/\cks n m l=l.take n::cks n m' (l.drop n):=by
 cases l with
 |nil=>simp at h
 |cons x xs=>
  cases m with
  |zero=>simp at hm
  |succ m=>exact⟨m,by simp at hm ⊢;omega,rfl⟩
def zia {α:Type} {n:Nat}: ∀ {m:Nat} {l:List α} {g:List α},g∈cks n m l->g.length<=n/\ ∀x∈g,x∈l
 |0,_,_,h=>by simp[cks]at h
 |_+1,[],_,h=>by simp[cks]at h
 |m+1,x::xs,g,h=>by
  rcases List.mem_cons.1 h with rfl | h
  ·exact⟨by simp;omega,λ_=>yaH⟩
  ·obtain⟨h1,h2⟩:=zia h
   exact⟨h1,λx hx=>ybF (h2 x hx)⟩
def zdh {α:Type} {n:Nat}: ∀ (m:Nat) (l:List α),(cks n m l).length<=m
 |0,_=>yaj _
 |_+1,[]=>yai _
 |m+1,x::xs=>Nat.succ_le_succ (zdh m _)
def zqv (X:List (List Cel)) (n:Nat) (hn:1<=n) (hn2:n<=64) (hX:X.length<=1000000):R 53 [.d (.list (zbD X)),.d (.int .i64 n)] []=some ([.arr 0 (cks n X.length X).length],[.arr 1 ((cks n X.length X).map λg=> .list (zbD g)) 0]):=by
 refine rg b53 rfl ?_;intro T hT;simp -dsimp -implicitDefEqProofs (disch:=omega)
 generalize hz:zaf _ _ _ _ _ _=z;revert z;refine zaa (σ:=Nat × List (List (List Cel))) (λx=>[(0,.d (.list (zbD X))),(1,.d (.int .i64 n)),(5,.arr 0 x.2.length),(6,.d (.int .i64 x.1))]) (λx=>[.arr 1 (x.2.map λg=> .list (zbD g)) 0]) (λx=>x.1<=X.length+n/\x.2.length<=x.1/\ ∃m,(X.drop x.1).length<=m/\cks n X.length X=x.2++cks n m (X.drop x.1)) (λx=>X.length+n - x.1) (0,[]) ?_ ?_ ?_
 ·exact⟨yai _,yai _,X.length,yaj _,rfl⟩
 ·simp -dsimp -implicitDefEqProofs (disch:=omega)
 intro T' f hT' ⟨i,P⟩ ⟨h1,hp,m,h2,h3⟩ ih;simp only at h1 hp h2 h3 ih
 by_cases hi:i<X.length
 ·obtain⟨m',e1,e2⟩:=zm8 (n:=n) h2 (by rw[yax];omega) (by omega)
  rw[ycI]at e1 e2;rw[e2,<- List.singleton_append,<- yan]at h3;obtain⟨W,hW⟩: ∃W,W=(X.drop i).take n:=⟨_,rfl⟩;rw[<- hW]at h3;have w1:List.drop i (List.take (i+n) (zbD X))=zbD W:=by
   rw[hW,<- ybQ,<- ycc,List.drop_take,yaP]
  by_cases d1:(i:Int)+n<X.length
  ·have d2:((i:Int)+n).toNat=i+n:=by omega
   simp -dsimp -implicitDefEqProofs (disch:=omega) [hi,d1,d2,w1]
   refine ih (i+n,P++[W]) _ _ ⟨by simp only;omega,by simp only[yae,yaf,yaz];omega,m',e1,h3⟩ (by simp only;omega) ?_
   simp -dsimp -implicitDefEqProofs (disch:=omega)
  ·have w2:List.take (i+n) (zbD X)=zbD X:=yaA (by rw[yah];omega)
   have w3:List.take X.length (zbD X)=zbD X:=yaA (by rw[yah];omega)
   rw[w2]at w1;simp -dsimp -implicitDefEqProofs (disch:=omega) [hi,d1,w1,w3]
   refine ih (i+n,P++[W]) _ _ ⟨by simp only;omega,by simp only[yae,yaf,yaz];omega,m',e1,h3⟩ (by simp only;omega) ?_
   simp -dsimp -implicitDefEqProofs (disch:=omega)
 ·have e:X.drop i=[]:=ybv (by omega)
  rw[e,zAQ,yap]at h3;rw[h3]at hT;subst hT';simp -dsimp -implicitDefEqProofs (disch:=omega) [hi]
  simpa -dsimp -implicitDefEqProofs (disch:=omega) using hT
end Go.Am.Ab
namespace Go.Am.Ab
open Go.Proofs
set_option maxHeartbeats 4000000
def zrS: ∀ (l seen:List Fld) (prev:Int),zue seen prev l=0-> ∀f∈l,zoj f.name=true/\1<=f.kind/\f.kind<=3
 |[],_,_,_,f,h=>by simp at h
 |g::r,seen,prev,h,f,hf=>by
  unfold zue at h;split at h
  ·rename_i h0
   rcases List.mem_cons.1 hf with rfl | hf
   ·unfold zpl at h0
    split at h0
    ·omega
    ·split at h0
     ·omega
     ·rename_i h2
      split at h0
      ·omega
      ·simp at h2
       exact⟨h2.1,by omega,by omega⟩
   ·exact zrS r _ _ h f hf
  ·rename_i h0;exact absurd h h0
structure SchIs (s:Sch):Prop where
 one:1<=s.fields.length
 len:s.fields.length<=8
 fld: ∀f∈s.fields,f.name.size<=16/\1<=f.kind/\f.kind<=3
def zfd {s:Sch} (h:zj6 s=0):SchIs s:=by
 unfold zj6 at h;split at h
 ·omega
 ·refine⟨by omega,by omega,λf hf=> ?_⟩
  obtain⟨h1,h2⟩:=zrS _ _ _ h f hf;refine⟨?_,h2⟩;unfold zoj at h1;simp only[yaw,yaB]at h1;omega
def kd (s:Sch) (i:Nat):Nat:=(s.fields.getD i ⟨0,noS,0,false⟩).kind.toNat
def zv6 {s:Sch} {i:Nat} (h:i<s.fields.length):kd s i=s.fields[i].kind.toNat:=by simp[kd,yas,h]
def zyy {s:Sch} (hs:SchIs s) {i:Nat} (h:i<s.fields.length):1<=kd s i/\kd s i<=3/\s.fields[i].kind=kd s i:=by
 obtain⟨_,h1,h2⟩:=hs.fld s.fields[i] (yam _);rw[zv6 h];omega
def zv7 {f:Fld} {v:Val} (h:zi7 f v=0) (hk:1<=f.kind/\f.kind<=3) (hi: ∀n,v= .whole n->zah n):zoS f.kind.toNat v:=by
 cases v with
 |null=>exact .inl rfl
 |whole n=>
  unfold zi7 at h;simp only at h;split at h
  ·omega
  ·rename_i h1
   refine .inr ⟨?_,hi,λs e=>by cases e⟩
   simp only[Val.kind,yc6]at h1 ⊢;omega
 |truth b=>
  unfold zi7 at h;simp only at h;split at h
  ·omega
  ·rename_i h1
   refine .inr ⟨?_,hi,λs e=>by cases e⟩
   simp only[Val.kind,yc6]at h1 ⊢;omega
 |text s=>
  unfold zi7 at h;simp only at h;split at h
  ·omega
  ·rename_i h1
   split at h
   ·omega
   ·refine .inr ⟨?_,hi,λt e=>by cases e;omega⟩
    simp only[Val.kind];omega
def zrT: ∀ (fs:List Fld) (l:List Val),zu7 fs l=0-> ∀ (i:Nat) (h:i<fs.length) (h2:i<l.length),zi7 fs[i] l[i]=0
 |[],_,_,_,h,_=>by simp at h
 |_::_,[],_,_,_,h2=>by simp at h2
 |f::fs,v::vs,h,i,h1,h2=>by
  unfold zu7 at h;split at h
  ·rename_i h0
   cases i with
   |zero=>exact h0
   |succ i=>exact zrT fs vs h i (by simpa using h1) (by simpa using h2)
  ·rename_i h0;exact absurd h h0
def zfe (s:Sch) (r:List Val):Prop:=r.length=s.fields.length/\ ∀i,i<s.fields.length->zoS (kd s i) (atV r i)
def zrU {s:Sch} (hs:SchIs s) {r:List Val} (h:fit s r=0) (hi: ∀n,Val.whole n∈r->zah n):zfe s r:=by
 unfold fit at h;split at h
 ·omega
 ·rename_i hl
  have hl':r.length=s.fields.length:=by omega
  refine⟨hl',λi h1=> ?_⟩
  have h2:i<r.length:=by omega
  have h3:=zrT _ _ h i h1 h2;rw[zv6 h1,<- zdL h2];exact zv7 h3 (hs.fld _ (yam _)).2 λn e=>hi n (e ▸ yam _)
def zpo (s:Sch):List (List Val)->Int
 |[]=>0
 |r::rs=>if fit s r=0 then zpo s rs else fit s r
def zrV {s:Sch}: ∀ {X:List (List Val)},zpo s X=0-> ∀r∈X,fit s r=0
 |[],_,r,h=>by simp at h
 |x::xs,h,r,hr=>by
  unfold zpo at h;split at h
  ·rename_i h0
   rcases List.mem_cons.1 hr with rfl | hr
   ·exact h0
   ·exact zrV h r hr
  ·rename_i h0;exact absurd h h0
def zv8 {s:Sch} {X:List (List Val)} {k:Nat} {r:List Val} (hk:k<X.length) (hr:X[k]=r):zpo s (X.drop k)=if fit s r=0 then zpo s (X.drop (k+1)) else fit s r:=by
 rw[yao hk,hr];rfl
def zm9 {s:Sch} (hs:SchIs s) {X:List (List Val)} (h:zpo s X=0) (hi: ∀r∈X, ∀n,Val.whole n∈r->zah n): ∀r∈X,zfe s r:=λr hr=>zrU hs (zrV h r hr) (hi r hr)
def zdb {s:Sch} {g:List (List Val)} (h: ∀r∈g,zfe s r) {i:Nat} (hi:i<s.fields.length):zfL (kd s i) (col g i):=by
 intro v hv;obtain⟨r,hr,rfl⟩:=List.mem_map.1 hv;exact (h r hr).2 i hi
def zw5 (c:Cel):List UInt8:=if c.kind=1 then zbe c.n else if c.kind=2 then zg9 (decide (c.n=1)) else put c.s.size++tx c.s
def zqw (v:Val):zw5 (cellOf v)=zhm v:=by
 cases v with
 |null=>simp[zw5,cellOf,Cel.none,zhm,tx]
 |whole n=>rfl
 |truth b=>cases b <;> rfl
 |text s=>rfl
def stB (x:Sta):List UInt8:=put x.nulls++((if x.has=true then (if x.high=true then 3 else 1) else 0)::((if x.has=true then zw5 x.mn else [])++(if x.has=true/\x.high=true then zw5 x.mx else [])))
def zv9 {x:Sta} {v w:Val} (h1:x.mn=cellOf v) (h2:x.mx=cellOf w):zqu x v w=stB x:=by
 unfold zqu stB;rw[h1,h2,zqw,zqw]
def zl9 {k:Nat} {l:List Val} (g:zfL k l): ∀v∈l,match v with | .whole n=> -9223372036854775808<=n/\n<=9223372036854775807 | .text s=>s.size<=64 | _=>True:=by
 intro v hv;rcases g v hv with rfl | ⟨_,h1,h2⟩
 ·trivial
 ·cases v with
  |whole n=>exact h1 n rfl
  |text s=>exact h2 s rfl
  |_=>trivial
def zrW (l:List Val):(zaW l).high=true->(zaW l).has=true:=by
 unfold zaW zcG;split
 ·intro h;exact h
 ·split
  ·split
   ·intro _;rfl
   ·split <;> intro _ <;> rfl
  ·intro _;rfl
def zwa {k:Nat} {l:List Val} (g:zfL k l) (hn:l.length<=1000000):(stB (zaW l)).length<=2050:=by
 obtain⟨v,w,h1,h2,h3,h4,h5⟩:=zrR (zl9 g);rw[<- zv9 h1 h2];unfold zqu;have a:=zaq (n:=(zaW l).nulls) (by omega)
 have b:=zjf h3;have c:=zjf h4;simp only[yae,yaf];split <;> split <;> (try simp only[yaz]) <;> omega
def zff (s:Sch) (g:List (List Val)) (i:Nat):List UInt8:=(List.range i).flatMap λj=>zez (kd s j) (col g j)
def zib (s:Sch) (g:List (List Val)) (i:Nat):List UInt8:=(List.range i).flatMap λj=>put (zez (kd s j) (col g j)).length++stB (zaW (col g j))
def zic (s:Sch) (g:List (List Val)) (i:Nat):zff s g (i+1)=zff s g i++zez (kd s i) (col g i):=by simp[zff,ycX]
def zid (s:Sch) (g:List (List Val)) (i:Nat):zib s g (i+1)=zib s g i++(put (zez (kd s i) (col g i)).length++stB (zaW (col g i))):=by simp[zib,ycX]
def zna {s:Sch} (hs:SchIs s) {g:List (List Val)} (h: ∀r∈g,zfe s r) (hg:g.length<=64): ∀i,i<=s.fields.length->(zff s g i).length<=200000*i/\(zib s g i).length<=2060*i
 |0,_=>⟨yaj _,yaj _⟩
 |i+1,hi=>by
  obtain⟨h1,h2⟩:=zna hs h hg i (by omega)
  have hk:=zyy hs (i:=i) (by omega)
  have hl:(col g i).length=g.length:=by simp[col]
  have gd:=zdb h (i:=i) (by omega)
  have a:=zm1 ⟨hk.1,hk.2.1⟩ gd (by omega)
  have b:=zwa gd (by omega)
  have c:=zaq (n:=(zez (kd s i) (col g i)).length) (by omega)
  rw[zic,zid];simp only[yae];omega
def zk7 (s:Sch) (P:List (List (List Val))):List UInt8:=P.flatMap λg=>zff s g s.fields.length
def zo0 (s:Sch) (P:List (List (List Val))):List UInt8:=P.flatMap λg=>zib s g s.fields.length
def zwb (s:Sch) (P:List (List (List Val))) (g:List (List Val)):zk7 s (P++[g])=zk7 s P++zff s g s.fields.length:=by simp[zk7]
def zwc (s:Sch) (P:List (List (List Val))) (g:List (List Val)):zo0 s (P++[g])=zo0 s P++zib s g s.fields.length:=by simp[zo0]
def zqx {s:Sch} (hs:SchIs s): ∀ {P:List (List (List Val))},(∀g∈P,g.length<=64/\ ∀r∈g,zfe s r)->(zk7 s P).length<=1600000*P.length/\(zo0 s P).length<=16480*P.length
 |[],_=>⟨yaj _,yaj _⟩
 |g::P,h=>by
  obtain⟨h1,h2⟩:=zqx hs (P:=P) λg' h'=>h g' (by simp[h'])
  obtain⟨h3,h4⟩:=h g (by simp)
  obtain⟨h5,h6⟩:=zna hs h4 h3 s.fields.length (yaj _);have:=hs.len
  show (zff s g s.fields.length++zk7 s P).length<=_/\(zib s g s.fields.length++zo0 s P).length<=_
  simp only[yae,yaf];omega
def le4 (n:Nat):List UInt8:=[UInt8.ofNat n,UInt8.ofNat (n / 256),UInt8.ofNat (n / 65536),UInt8.ofNat (n / 16777216)]
def zwd (n:Nat):bytes (le4 n)=[.int .u8 ((n:Int) % 256),.int .u8 ((n:Int) / 256 % 256),.int .u8 ((n:Int) / 65536 % 256),.int .u8 ((n:Int) / 16777216 % 256)]:=by
 simp[le4]
def zo1 (s:Sch) (X:List (List Val)) (n:Nat):List UInt8:=zmK s++(put X.length++put n)
def ziW (s:Sch) (X:List (List Val)) (n:Nat):List UInt8:=zo1 s X n++zo0 s (cks n X.length X)
def zie (s:Sch) (X:List (List Val)) (n:Nat):List UInt8:=67::70::49::(zk7 s (cks n X.length X)++(ziW s X n++le4 (ziW s X n).length))
def zif (s:Sch) (X:List (List Val)) (n:Nat):List UInt8:=zgp (zie s X n)
def zd4 (s:Sch) (X:List (List Val)) (n:Int):List UInt8 × Int:=
 if zj6 s≠0 then ([],zj6 s) else if n<1\/64<n then ([],1) else if 256<X.length then ([],5) else if zpo s X≠0 then ([],zpo s X)
 else if 65536<(zif s X n.toNat).length then ([],4) else (zif s X n.toNat,0)
def zqy {s:Sch} {X:List (List Val)} (h: ∀r∈X,zfe s r) {n:Nat} (hn:n<=64): ∀g∈cks n X.length X,g.length<=64/\ ∀r∈g,zfe s r:=λg hg=>by
 obtain⟨h1,h2⟩:=zia hg;exact⟨by omega,λr hr=>h r (h2 r hr)⟩
def znb {s:Sch} (hs:SchIs s) (h0:SchOk s) (X:List (List Val)) (hX:X.length<=256) {n:Nat} (hn:n<=64):(zo1 s X n).length<=41000:=by
 have a:=zrn h0.fld;have b:=zaq (n:=X.length) (by omega)
 have c:=zaq (n:=n) (by omega)
 have d:(zk4 s).length<=20:=by
  have:=zaq (n:=s.id.toNat) (by have:=h0.id;omega)
  have:=zaq (n:=s.fields.length) (by have:=hs.len;omega)
  simp only[zk4,yae];omega
 have:=hs.len;simp only[zo1,zmK,yae];omega
def zyz {s:Sch} (hs:SchIs s) (h0:SchOk s) {X:List (List Val)} (hX:X.length<=256) (h: ∀r∈X,zfe s r) {n:Nat} (hn:n<=64):(ziW s X n).length<=5000000/\(zie s X n).length<1000000000:=by
 have a:=znb hs h0 X hX hn;obtain⟨b,c⟩:=zqx hs (zqy h hn);have d:=zdh (n:=n) X.length X;have e:(ziW s X n).length<=5000000:=by
  simp only[ziW,yae];omega
 refine⟨e, ?_⟩;simp only[zie,le4,yae,yaf,yaz];omega
end Go.Am.Ab
