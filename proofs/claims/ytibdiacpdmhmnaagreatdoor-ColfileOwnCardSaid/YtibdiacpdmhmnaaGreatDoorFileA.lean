/- Files of rows: parts. -/
import Derived.Test.YtibdiacpdmhmnaaGreatDoorStatA
import Derived.Test.YtibdiacpdmhmnaaGreatDoorSchemaA
import Derived.Test.YtibdiacpdmhmnaaGreatDoorColD
import Derived.Test.YtibdiacpdmhmnaaGreatDoorSums
set_option linter.all false
namespace Go.Am.Ab
open Go.Proofs
set_option maxHeartbeats 4000000
set_option maxRecDepth 4000
def zhe:Val->List UInt8
 |.null=>put 0
 |.whole n=>zbi n
 |.truth b=>zha b
 |.text s=>put s.size++tx s
def vok (v:Val):Prop:=match v with
 |.whole n=> -9223372036854775808<=n/\n<=9223372036854775807
 |.text s=>s.size<=1000
 |_=>True
def ziV {v:Val} (h:vok v):(zhe v).length<=1010:=by
 cases v with
 |null=>show (put 0).length<=1010;rw[zik (by omega)];simp
 |whole n=>have:=zbo h;show (zbi n).length<=1010;omega
 |truth b=>simp[zhe,zha]
 |text s=>
  have h':s.size<=1000:=h;have:=zau (n:=s.size) (by omega)
  show (put s.size++tx s).length<=1010
  rw[yae];have d:(tx s).length=s.size:=by simp[tx]
  omega
def zpT (x:Sta) (v w:Val):List UInt8:=
 put x.nulls++((if x.has=true then (if x.high=true then 3 else 1) else 0)::((if x.has=true then zhe v else [])++(if x.has=true/\x.high=true then zhe w else [])))
def zkk (n:Int):(Utf8.encode n).size<=4:=by
 unfold Utf8.encode;simp only;split
 all_goals
  split <;> (try split) <;> (try split) <;> simp[ByteArray.size]
def zmJ (s:ByteArray) (n:Nat):(frs s n).size<=s.size:=by
 unfold frs;split
 ·rw[ybG];omega
 ·exact yag _
def zox (s:ByteArray) (L:List (Nat × Nat × Bool)): ∀ (k:Nat) (t:ByteArray),zqE s L k=some t->t.size<=s.size+4
 |0,t,h=>by cases h
 |k+1,t,h=>by
  unfold zqE at h;split at h
  ·split at h
   ·simp only[yaa]at h;subst h
    have:=zkk (nxt ‹Nat × Nat × Bool›.1:Nat);rw[yb4,ybG];omega
   ·exact zox s L k t h
  ·cases h
def zxH (s:ByteArray) (n:Nat):(abv s n).1.size<=s.size+4:=by
 unfold abv;split
 ·simp
 ·split
  ·simp
  ·split
   ·rename_i h;exact zox s _ _ _ h
   ·simp
def zri {l:List Val} (hl: ∀v∈l,match v with | .whole n=> -9223372036854775808<=n/\n<=9223372036854775807 | .text s=>s.size<=64 | _=>True): ∃v w,(za3 l).mn=zah v/\(za3 l).mx=zah w/\vok v/\vok w/\(za3 l).nulls<=l.length:=by
 have hok:=zg7 (p:=λv=>match v with | .whole n=> -9223372036854775808<=n/\n<=9223372036854775807 | .text s=>s.size<=64 | _=>True) hl l.length (yag _)
 rw[ybf]at hok;unfold za3;generalize l.foldl stp st0=x at*;have hn:=hok.nu;have hle:=hok.le;unfold zeW;split
 ·exact⟨.null,.null,rfl,rfl,trivial,trivial,hn⟩
 ·rename_i hh
  obtain⟨k1,p1,p2,k2⟩:=hle (by simpa using hh)
  split
  ·rename_i s hs
   rw[hs]at p1 k1;split
   ·exact⟨.text noS,.null,rfl,rfl,yaj _,trivial,hn⟩
   ·split
    ·refine⟨.text (frs s 4),.text (abv (ziv x.mo) 4).1,rfl,rfl, ?_, ?_,hn⟩
     ·have:=zmJ s 4
      show (frs s 4).size<=1000
      have h':s.size<=64:=p1;omega
     ·have:=zxH (ziv x.mo) 4
      show (abv (ziv x.mo) 4).1.size<=1000
      have h':(ziv x.mo).size<=64:=by
       cases hm:x.mo with
       |text s=>rw[hm]at p2;exact p2
       |_=>simp[ziv]
      omega
    ·refine⟨.text (frs s 4),.null,rfl,rfl, ?_,trivial,hn⟩
     have:=zmJ s 4
     show (frs s 4).size<=1000
     have h':s.size<=64:=p1;omega
  ·rename_i hne
   refine⟨x.le,x.mo,rfl,rfl, ?_, ?_,hn⟩
   ·cases hv:x.le with
    |text s=>exact absurd hv (hne s)
    |whole n=>rw[hv]at p1;exact p1
    |_=>trivial
   ·cases hv:x.mo with
    |text s=>rw[hv]at p2;show s.size<=1000;have h':s.size<=64:=p2;omega
    |whole n=>rw[hv]at p2;exact p2
    |_=>trivial
def zhY (b:List UInt8) (v:Val) (hv:vok v) (hb:b.length<=100000000):R 93 [.arr 0 b.length,.d (zah v).d] [.arr 1 (bytes b) 0]=some ([.arr 0 (b++zhe v).length],[.arr 1 (bytes (b++zhe v)) 0]):=by
 cases v with
 |null=>
  have h:R 42 [.d (.int .u64 0)] []=some ([.arr 0 (put 0).length],[.arr 1 (bytes (put 0)) 0]):=zaW 0 (by omega)
  have hl:=zau (n:=0) (by omega)
  simp only[vc0,Cel.d,zhe];refine rg b93 rfl ?_;intro T hT;simp -dsimp -implicitDefEqProofs (disch:=first|omega|assumption) [h,zan]
  simpa -dsimp -implicitDefEqProofs (disch:=first|omega|assumption) using hT
 |whole n=>
  have h:=zce n hv.1 hv.2;have hl:=zbo hv;simp only[vc1,Cel.d,zhe];refine rg b93 rfl ?_;intro T hT;simp -dsimp -implicitDefEqProofs (disch:=first|omega|assumption) [h]
  simpa -dsimp -implicitDefEqProofs (disch:=first|omega|assumption) using hT
 |truth t=>
  simp only[vc2,Cel.d,zhe];cases t
  all_goals
   refine rg b93 rfl ?_;intro T hT;simp -dsimp -implicitDefEqProofs (disch:=first|omega|assumption)
   simpa -dsimp -implicitDefEqProofs (disch:=first|omega|assumption) [zha]using hT
 |text s=>
  have hs:s.size<=1000:=hv;have h:=zaW s.size (by omega)
  have hl:=zau (n:=s.size) (by omega)
  have d1:(s.size:Int)<=18446744073709551615:=by omega
  simp only[vc3,Cel.d,zhe];refine rg b93 rfl ?_;intro T hT;simp -dsimp -implicitDefEqProofs (disch:=first|omega|assumption) [h,zan,d1]
  simpa -dsimp -implicitDefEqProofs (disch:=first|omega|assumption) [tx,ya0]using hT
def zs4 (b:List UInt8) (x:Sta) (v w:Val) (hm:x.mn=zah v) (hx:x.mx=zah w) (hv:vok v) (hw:vok w) (hn:x.nulls<=1000000) (hh:x.high=true->x.has=true) (hb:b.length<=90000000):
 R 46 [.arr 0 b.length,.d x.d] [.arr 1 (bytes b) 0]=some ([.arr 0 (b++zpT x v w).length],[.arr 1 (bytes (b++zpT x v w)) 0]):=by
 obtain⟨rows,nulls,has,high,mn,mx⟩:=x;simp only at hm hx hn hh;subst hm;subst hx;have p:=zaW nulls (by omega)
 have pl:=zau (n:=nulls) (by omega)
 have d1:(nulls:Int)<=18446744073709551615:=by omega
 have vl:=ziV hv;have wl:=ziV hw;unfold zpT;simp only;have l1:(b++(put nulls++[1])).length=b.length+(put nulls).length+1:=by simp[ya0]
 have l3:(b++(put nulls++[3])).length=b.length+(put nulls).length+1:=by simp[ya0]
 have c1:bytes (b++(put nulls++[1]))=bytes b++(bytes (put nulls)++[.int .u8 1]):=by simp
 have c3:bytes (b++(put nulls++[3]))=bytes b++(bytes (put nulls)++[.int .u8 3]):=by simp
 cases has with
 |false=>
  cases high with
  |true=>exact absurd (hh rfl) (by decide)
  |false=>
   simp only[Sta.d];refine rg b46 rfl ?_;intro T hT;simp -dsimp -implicitDefEqProofs (disch:=first|omega|assumption) [p,zan,d1]
   simpa -dsimp -implicitDefEqProofs (disch:=first|omega|assumption) [ya0]using hT
 |true=>
  cases high with
  |false=>
   have h1:=zhY (b++(put nulls++[1])) v hv (by omega)
   have e:b++(put nulls++((if true=true then if false=true then 3 else 1 else 0)::((if true=true then zhe v else [])++if true=true/\false=true then zhe w else [])))=b++(put nulls++[1])++zhe v:=by simp
   rw[e];generalize b++(put nulls++[1])++zhe v=r at*;rw[l1,c1]at h1;simp only[Sta.d,Cel.d]at h1 ⊢;refine rg b46 rfl ?_;intro T hT;simp -dsimp -implicitDefEqProofs (disch:=first|omega|assumption) [p,zan,d1,h1]
   simpa -dsimp -implicitDefEqProofs (disch:=first|omega|assumption) using hT
  |true=>
   have h1:=zhY (b++(put nulls++[3])) v hv (by omega)
   have h2:=zhY (b++(put nulls++[3])++zhe v) w hw (by rw[yae];omega)
   have e:b++(put nulls++((if true=true then if true=true then 3 else 1 else 0)::((if true=true then zhe v else [])++if true=true/\true=true then zhe w else [])))=b++(put nulls++[3])++zhe v++zhe w:=by simp
   rw[e];generalize b++(put nulls++[3])++zhe v++zhe w=r at*;generalize b++(put nulls++[3])++zhe v=q at*;rw[l3,c3]at h1;simp only[Sta.d,Cel.d]at h1 h2 ⊢;refine rg b46 rfl ?_;intro T hT;simp -dsimp -implicitDefEqProofs (disch:=first|omega|assumption) [p,zan,d1,h1,h2]
   simpa -dsimp -implicitDefEqProofs (disch:=first|omega|assumption) using hT
end Go.Am.Ab
namespace Go.Am.Ab
open Go.Proofs
set_option maxHeartbeats 4000000
set_option maxRecDepth 4000
abbrev za6 (l:List (List Val)):List D:=l.map λr=> .list (vs r)
abbrev zdL (l:List (List Cel)):List D:=l.map λr=> .list (ce r)
@[simp] def zxI (l:List (List Cel)):zao 1 (l.map λr=> .list (ce r))=true:=zaJ l λ_=>rfl
@[simp] def zes (l:List (List Val)):zao 1 (l.map λr=> .list (vs r))=true:=zaJ l λ_=>rfl
def atV (r:List Val) (i:Nat):Val:=r.getD i .null
def col (g:List (List Val)) (i:Nat):List Val:=g.map λr=>atV r i
def zmK {r:List Val} {i:Nat} (h:i<r.length):r[i]=atV r i:=by simp[atV,yaw,h]
def ze7 (g:List (List Val)) (i:Nat) (h: ∀r∈g,i<r.length) (hn:g.length<=1000000) (hi:i<=1000000):R 44 [.d (.list (za6 g)),.d (.int .i64 i)] []=some ([.arr 0 g.length],[.arr 1 (vs (col g i)) 0]):=by
 have hend:vs (col g i)=zey (λr=>(atV r i).d) g g.length:=by
  rw[zbw (yag _)]
  show (g.map _).map Val.d=_
  rw[ya3];rfl
 rw[hend];refine rg b44 rfl ?_;intro T hT;simp -dsimp -implicitDefEqProofs (disch:=first|omega|assumption)
 generalize hz:zak _ _ _ _ _ _=z;revert z;refine zaa (σ:=Nat) (λj=>[(1,.d (.int .i64 i)),(5,.arr 0 j),(8,.d (.list (za6 g))),(9,.d (.int .i64 g.length)),(10,.d (.int .i64 j))]) (λj=>[.arr 1 (zey (λr=>(atV r i).d) g j) 0]) (λj=>j<=g.length) (λj=>g.length - j) 0 ?_ ?_ ?_
 ·exact yaj _
 ·simp -dsimp -implicitDefEqProofs (disch:=first|omega|assumption) [zaR]
 intro T' f hT' j hj ih
 by_cases h1:j<g.length
 ·have hc:=h g[j] (yar _)
  have ha:=zmK hc;have htk:=zaS (g:=λr=>(atV r i).d) h1
  have hlen:=zam (g:=λr=>(atV r i).d) hj
  simp -dsimp -implicitDefEqProofs (disch:=first|omega|assumption) [h1,hc,ha,hlen]
  refine ih (j+1) _ _ h1 (by omega) ?_
  rw[htk];simp -dsimp -implicitDefEqProofs (disch:=first|omega|assumption)
 ·have e:j=g.length:=by omega
  subst e;subst hT';simp -dsimp -implicitDefEqProofs (disch:=first|omega|assumption)
  simpa -dsimp -implicitDefEqProofs (disch:=first|omega|assumption) using hT
def cks {α:Type} (n:Nat):Nat->List α->List (List α)
 |0,_=>[]
 |_+1,[]=>[]
 |m+1,x::xs=>(x::xs).take n::cks n m ((x::xs).drop n)
def zhZ {α:Type} (f:α->D) (n:Nat): ∀ (m:Nat) (l:List α),zcv n m (l.map f)=(cks n m l).map (·.map f)
 |0,_=>rfl
 |_+1,[]=>rfl
 |m+1,x::xs=>by
  have ih:=zhZ f n m ((x::xs).drop n)
  show ((x::xs).map f).take n::zcv n m (((x::xs).map f).drop n)=_
  rw[<- ycm,ih,<- ybZ];rfl
def zrj {α:Type} {n m:Nat} {l:List α} (hm:l.length<=m) (h:0<l.length) (hn:0<n): ∃m',(l.drop n).length<=m'/\cks n m l=l.take n::cks n m' (l.drop n):=by
 cases l with
 |nil=>simp at h
 |cons x xs=>
  cases m with
  |zero=>simp at hm
  |succ m=>exact⟨m,by simp at hm ⊢;omega,rfl⟩
def zvn {α:Type} {n:Nat}: ∀ {m:Nat} {l:List α} {g:List α},g∈cks n m l->g.length<=n/\ ∀x∈g,x∈l
 |0,_,_,h=>by simp[cks]at h
 |_+1,[],_,h=>by simp[cks]at h
 |m+1,x::xs,g,h=>by
  rcases List.mem_cons.1 h with rfl | h
  ·exact⟨by simp;omega,λ_=>yaH⟩
  ·obtain⟨h1,h2⟩:=zvn h
   exact⟨h1,λx hx=>ybO (h2 x hx)⟩
def zfy {α:Type} {n:Nat}: ∀ (m:Nat) (l:List α),(cks n m l).length<=m
 |0,_=>yag _
 |_+1,[]=>yaj _
 |m+1,x::xs=>Nat.succ_le_succ (zfy m _)
end Go.Am.Ab
namespace Go.Am.Ab
open Go.Proofs
set_option maxHeartbeats 4000000
def zrk: ∀ (l seen:List Fld) (prev:Int),ztt seen prev l=0-> ∀f∈l,zoc f.name=true/\1<=f.kind/\f.kind<=3
 |[],_,_,_,f,h=>by simp at h
 |g::r,seen,prev,h,f,hf=>by
  unfold ztt at h;split at h
  ·rename_i h0
   rcases List.mem_cons.1 hf with rfl | hf
   ·unfold zoR at h0
    split at h0
    ·omega
    ·split at h0
     ·omega
     ·rename_i h2
      split at h0
      ·omega
      ·simp at h2
       exact⟨h2.1,by omega,by omega⟩
   ·exact zrk r _ _ h f hf
  ·rename_i h0;exact absurd h h0
structure SchIs (s:Sch):Prop where
 one:1<=s.fields.length
 len:s.fields.length<=8
 fld: ∀f∈s.fields,f.name.size<=16/\1<=f.kind/\f.kind<=3
def ze8 {s:Sch} (h:zj7 s=0):SchIs s:=by
 unfold zj7 at h;split at h
 ·omega
 ·refine⟨by omega,by omega,λf hf=> ?_⟩
  obtain⟨h1,h2⟩:=zrk _ _ _ h f hf;refine⟨?_,h2⟩;unfold zoc at h1;simp only[yas,yaA]at h1;omega
def kd (s:Sch) (i:Nat):Nat:=(s.fields.getD i ⟨0,noS,0,false⟩).kind.toNat
def zvo {s:Sch} {i:Nat} (h:i<s.fields.length):kd s i=s.fields[i].kind.toNat:=by simp[kd,yaw,h]
def zxJ {s:Sch} (hs:SchIs s) {i:Nat} (h:i<s.fields.length):1<=kd s i/\kd s i<=3/\s.fields[i].kind=kd s i:=by
 obtain⟨_,h1,h2⟩:=hs.fld s.fields[i] (yar _);rw[zvo h];omega
def zvp {f:Fld} {v:Val} (h:ziR f v=0) (hk:1<=f.kind/\f.kind<=3) (hi: ∀n,v= .whole n->zaf n):zpP f.kind.toNat v:=by
 cases v with
 |null=>exact .inl rfl
 |whole n=>
  unfold ziR at h;simp only at h;split at h
  ·omega
  ·rename_i h1
   refine .inr ⟨?_,hi,λs e=>by cases e⟩
   simp only[Val.kind,ydM]at h1 ⊢;omega
 |truth b=>
  unfold ziR at h;simp only at h;split at h
  ·omega
  ·rename_i h1
   refine .inr ⟨?_,hi,λs e=>by cases e⟩
   simp only[Val.kind,ydM]at h1 ⊢;omega
 |text s=>
  unfold ziR at h;simp only at h;split at h
  ·omega
  ·rename_i h1
   split at h
   ·omega
   ·refine .inr ⟨?_,hi,λt e=>by cases e;omega⟩
    simp only[Val.kind];omega
def zrl: ∀ (fs:List Fld) (l:List Val),zu0 fs l=0-> ∀ (i:Nat) (h:i<fs.length) (h2:i<l.length),ziR fs[i] l[i]=0
 |[],_,_,_,h,_=>by simp at h
 |_::_,[],_,_,_,h2=>by simp at h2
 |f::fs,v::vs,h,i,h1,h2=>by
  unfold zu0 at h;split at h
  ·rename_i h0
   cases i with
   |zero=>exact h0
   |succ i=>exact zrl fs vs h i (by simpa using h1) (by simpa using h2)
  ·rename_i h0;exact absurd h h0
def zlT (s:Sch) (r:List Val):Prop:=r.length=s.fields.length/\ ∀i,i<s.fields.length->zpP (kd s i) (atV r i)
def zrm {s:Sch} (hs:SchIs s) {r:List Val} (h:fit s r=0) (hi: ∀n,Val.whole n∈r->zaf n):zlT s r:=by
 unfold fit at h;split at h
 ·omega
 ·rename_i hl
  have hl':r.length=s.fields.length:=by omega
  refine⟨hl',λi h1=> ?_⟩
  have h2:i<r.length:=by omega
  have h3:=zrl _ _ h i h1 h2;rw[zvo h1,<- zmK h2];exact zvp h3 (hs.fld _ (yar _)).2 λn e=>hi n (e ▸ yar _)
def zoT (s:Sch):List (List Val)->Int
 |[]=>0
 |r::rs=>if fit s r=0 then zoT s rs else fit s r
def zrn {s:Sch}: ∀ {X:List (List Val)},zoT s X=0-> ∀r∈X,fit s r=0
 |[],_,r,h=>by simp at h
 |x::xs,h,r,hr=>by
  unfold zoT at h;split at h
  ·rename_i h0
   rcases List.mem_cons.1 hr with rfl | hr
   ·exact h0
   ·exact zrn h r hr
  ·rename_i h0;exact absurd h h0
def zvq {s:Sch} {X:List (List Val)} {k:Nat} {r:List Val} (hk:k<X.length) (hr:X[k]=r):zoT s (X.drop k)=if fit s r=0 then zoT s (X.drop (k+1)) else fit s r:=by
 rw[yaG hk,hr];rfl
def zmL {s:Sch} (hs:SchIs s) {X:List (List Val)} (h:zoT s X=0) (hi: ∀r∈X, ∀n,Val.whole n∈r->zaf n): ∀r∈X,zlT s r:=λr hr=>zrm hs (zrn h r hr) (hi r hr)
def zfz {s:Sch} {g:List (List Val)} (h: ∀r∈g,zlT s r) {i:Nat} (hi:i<s.fields.length):zgj (kd s i) (col g i):=by
 intro v hv;obtain⟨r,hr,rfl⟩:=List.mem_map.1 hv;exact (h r hr).2 i hi
def zwe (c:Cel):List UInt8:=if c.kind=1 then zbi c.n else if c.kind=2 then zha (decide (c.n=1)) else put c.s.size++tx c.s
def zpU (v:Val):zwe (zah v)=zhe v:=by
 cases v with
 |null=>simp[zwe,zah,Cel.none,zhe,tx]
 |whole n=>rfl
 |truth b=>cases b <;> rfl
 |text s=>rfl
def stB (x:Sta):List UInt8:=put x.nulls++((if x.has=true then (if x.high=true then 3 else 1) else 0)::((if x.has=true then zwe x.mn else [])++(if x.has=true/\x.high=true then zwe x.mx else [])))
def zvr {x:Sta} {v w:Val} (h1:x.mn=zah v) (h2:x.mx=zah w):zpT x v w=stB x:=by
 unfold zpT stB;rw[h1,h2,zpU,zpU]
def zlU {k:Nat} {l:List Val} (g:zgj k l): ∀v∈l,match v with | .whole n=> -9223372036854775808<=n/\n<=9223372036854775807 | .text s=>s.size<=64 | _=>True:=by
 intro v hv;rcases g v hv with rfl | ⟨_,h1,h2⟩
 ·trivial
 ·cases v with
  |whole n=>exact h1 n rfl
  |text s=>exact h2 s rfl
  |_=>trivial
def zro (l:List Val):(za3 l).high=true->(za3 l).has=true:=by
 unfold za3 zeW;split
 ·intro h;exact h
 ·split
  ·split
   ·intro _;rfl
   ·split <;> intro _ <;> rfl
  ·intro _;rfl
def zvs {k:Nat} {l:List Val} (g:zgj k l) (hn:l.length<=1000000):(stB (za3 l)).length<=2050:=by
 obtain⟨v,w,h1,h2,h3,h4,h5⟩:=zri (zlU g);rw[<- zvr h1 h2];unfold zpT;have a:=zau (n:=(za3 l).nulls) (by omega)
 have b:=ziV h3;have c:=ziV h4;simp only[yae,yad];split <;> split <;> (try simp only[yav]) <;> omega
def ze9 (s:Sch) (g:List (List Val)) (i:Nat):List UInt8:=(List.range i).flatMap λj=>zeu (kd s j) (col g j)
def zh0 (s:Sch) (g:List (List Val)) (i:Nat):List UInt8:=(List.range i).flatMap λj=>put (zeu (kd s j) (col g j)).length++stB (za3 (col g j))
def zh1 (s:Sch) (g:List (List Val)) (i:Nat):ze9 s g (i+1)=ze9 s g i++zeu (kd s i) (col g i):=by simp[ze9,ycW]
def zh2 (s:Sch) (g:List (List Val)) (i:Nat):zh0 s g (i+1)=zh0 s g i++(put (zeu (kd s i) (col g i)).length++stB (za3 (col g i))):=by simp[zh0,ycW]
def zmM {s:Sch} (hs:SchIs s) {g:List (List Val)} (h: ∀r∈g,zlT s r) (hg:g.length<=64): ∀i,i<=s.fields.length->(ze9 s g i).length<=200000*i/\(zh0 s g i).length<=2060*i
 |0,_=>⟨yag _,yag _⟩
 |i+1,hi=>by
  obtain⟨h1,h2⟩:=zmM hs h hg i (by omega)
  have hk:=zxJ hs (i:=i) (by omega)
  have hl:(col g i).length=g.length:=by simp[col]
  have gd:=zfz h (i:=i) (by omega)
  have a:=zmF ⟨hk.1,hk.2.1⟩ gd (by omega)
  have b:=zvs gd (by omega)
  have c:=zau (n:=(zeu (kd s i) (col g i)).length) (by omega)
  rw[zh1,zh2];simp only[yae];omega
def zkP (s:Sch) (P:List (List (List Val))):List UInt8:=P.flatMap λg=>ze9 s g s.fields.length
def zoy (s:Sch) (P:List (List (List Val))):List UInt8:=P.flatMap λg=>zh0 s g s.fields.length
def zvt (s:Sch) (P:List (List (List Val))) (g:List (List Val)):zkP s (P++[g])=zkP s P++ze9 s g s.fields.length:=by simp[zkP]
def zvu (s:Sch) (P:List (List (List Val))) (g:List (List Val)):zoy s (P++[g])=zoy s P++zh0 s g s.fields.length:=by simp[zoy]
def zpV {s:Sch} (hs:SchIs s): ∀ {P:List (List (List Val))},(∀g∈P,g.length<=64/\ ∀r∈g,zlT s r)->(zkP s P).length<=1600000*P.length/\(zoy s P).length<=16480*P.length
 |[],_=>⟨yag _,yag _⟩
 |g::P,h=>by
  obtain⟨h1,h2⟩:=zpV hs (P:=P) λg' h'=>h g' (by simp[h'])
  obtain⟨h3,h4⟩:=h g (by simp)
  obtain⟨h5,h6⟩:=zmM hs h4 h3 s.fields.length (yag _);have:=hs.len
  show (ze9 s g s.fields.length++zkP s P).length<=_/\(zh0 s g s.fields.length++zoy s P).length<=_
  simp only[yae,yad];omega
def le4 (n:Nat):List UInt8:=[UInt8.ofNat n,UInt8.ofNat (n / 256),UInt8.ofNat (n / 65536),UInt8.ofNat (n / 16777216)]
def zvv (n:Nat):bytes (le4 n)=[.int .u8 ((n:Int) % 256),.int .u8 ((n:Int) / 256 % 256),.int .u8 ((n:Int) / 65536 % 256),.int .u8 ((n:Int) / 16777216 % 256)]:=by
 simp[le4]
def zoz (s:Sch) (X:List (List Val)) (n:Nat):List UInt8:=zmB s++(put X.length++put n)
def ziG (s:Sch) (X:List (List Val)) (n:Nat):List UInt8:=zoz s X n++zoy s (cks n X.length X)
def zh3 (s:Sch) (X:List (List Val)) (n:Nat):List UInt8:=67::70::49::(zkP s (cks n X.length X)++(ziG s X n++le4 (ziG s X n).length))
def zh4 (s:Sch) (X:List (List Val)) (n:Nat):List UInt8:=zgd (zh3 s X n)
def zd2 (s:Sch) (X:List (List Val)) (n:Int):List UInt8 × Int:=
 if zj7 s≠0 then ([],zj7 s) else if n<1\/64<n then ([],1) else if 256<X.length then ([],5) else if zoT s X≠0 then ([],zoT s X)
 else if 65536<(zh4 s X n.toNat).length then ([],4) else (zh4 s X n.toNat,0)
def zpW {s:Sch} {X:List (List Val)} (h: ∀r∈X,zlT s r) {n:Nat} (hn:n<=64): ∀g∈cks n X.length X,g.length<=64/\ ∀r∈g,zlT s r:=λg hg=>by
 obtain⟨h1,h2⟩:=zvn hg;exact⟨by omega,λr hr=>h r (h2 r hr)⟩
def zmN {s:Sch} (hs:SchIs s) (h0:SchOk s) (X:List (List Val)) (hX:X.length<=256) {n:Nat} (hn:n<=64):(zoz s X n).length<=41000:=by
 have a:=zq4 h0.fld;have b:=zau (n:=X.length) (by omega)
 have c:=zau (n:=n) (by omega)
 have d:(zkM s).length<=20:=by
  have:=zau (n:=s.id.toNat) (by have:=h0.id;omega)
  have:=zau (n:=s.fields.length) (by have:=hs.len;omega)
  simp only[zkM,yae];omega
 have:=hs.len;simp only[zoz,zmB,yae];omega
def zxK {s:Sch} (hs:SchIs s) (h0:SchOk s) {X:List (List Val)} (hX:X.length<=256) (h: ∀r∈X,zlT s r) {n:Nat} (hn:n<=64):(ziG s X n).length<=5000000/\(zh3 s X n).length<1000000000:=by
 have a:=zmN hs h0 X hX hn;obtain⟨b,c⟩:=zpV hs (zpW h hn);have d:=zfy (n:=n) X.length X;have e:(ziG s X n).length<=5000000:=by
  simp only[ziG,yae];omega
 refine⟨e, ?_⟩;simp only[zh3,le4,yae,yad,yav];omega
end Go.Am.Ab
