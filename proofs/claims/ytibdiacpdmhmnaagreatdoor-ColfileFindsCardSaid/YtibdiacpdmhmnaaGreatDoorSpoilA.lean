/- Files of rows, spoilt: the walk. -/
import Derived.Test.YtibdiacpdmhmnaaGreatDoorParsing
import Derived.Test.YtibdiacpdmhmnaaGreatDoorFileA
import Derived.Test.YtibdiacpdmhmnaaGreatDoorFileC
set_option linter.all false
namespace Go.Am.Ab
open Go.Proofs
set_option maxHeartbeats 4000000
def zwy (s:ByteArray):(sig s).2.1<=4:=by
 unfold sig sgf
 (repeat' split) <;> simp
def zwz (s:ByteArray): ∀ (m i j:Nat) (x:Nat × Nat × Bool),(sgL s m i)[j]? =some x->x.2.1<=i+4*j
 |0,i,j,x,h=>by simp[sgL]at h
 |m+1,i,j,x,h=>by
  unfold sgL at h;split at h
  ·cases j with
   |zero=>
    simp only[yaF,yaa]at h;rw[<- h];simp
   |succ j=>
    rw[ybs]at h;have:=zwz s m _ j x h;have:=zwy (rst s i);omega
  ·simp at h
def zkH (s:ByteArray): ∀ (m i:Nat),s.size<=m+i->s.size<=i+4*(sgL s m i).length
 |0,i,h=>by omega
 |m+1,i,h=>by
  unfold sgL;split
  ·have h1:=zdp (rst s i)
   have h2:=zwy (rst s i);have:=zkH s m (i+(sig (rst s i)).2.1) (by omega)
   rw[yaf];omega
  ·omega
def zpa (s:ByteArray) (n:Nat):(frs s n).size<=4*n:=by
 unfold frs;split
 ·rename_i x h
  have:=zwz s s.size 0 n x h;rw[ybG];omega
 ·rename_i h
  have h1:=List.getElem?_eq_none_iff.1 h;have h2:=zkH s s.size 0 (by omega)
  unfold sgs at h1;omega
def zmg (s:ByteArray): ∀ (k:Nat) (t:ByteArray),zjW s (sgs s) k=some t->t.size<=4*k+4
 |0,t,h=>by cases h
 |k+1,t,h=>by
  unfold zjW at h;split at h
  ·rename_i x hx
   split at h
   ·simp only[yaa]at h;subst h
    have h1:=zwz s s.size 0 k x hx;have h2:=zkz (nxt x.1:Nat);rw[yb5,ybG];omega
   ·have:=zmg s k t h;omega
  ·cases h
def zpb (s:ByteArray) (n:Nat):(abv s n).1.size<=4*n+4:=by
 unfold abv;split
 ·exact yai _
 ·split
  ·rename_i h
   have h2:=zkH s s.size 0 (by omega)
   unfold sgs at h;simp only;omega
  ·split
   ·rename_i h;exact zmg s _ _ h
   ·exact yai _
def znf {n:Nat} (h:n<16384):(put n).length<=2:=zlF 1 n h
def zcU {v:Val} {n:Nat} (h:match v with | .whole n=>zah n | .text s=>s.size<=n | _=>True) (hn:n<128) (h10:10<=n+1):(zw5 (cellOf v)).length<=n+1:=by
 rw[zqw];cases v with
 |null=>show (put 0).length<=_;rw[ziA (by omega)];simp
 |whole x=>have:=zbp h;show (zbe x).length<=_;omega
 |truth b=>simp[zhm,zg9]
 |text s=>
  have h':s.size<=n:=h
  show (put s.size++tx s).length<=n+1
  rw[yae,ziA (by omega)]
  have:(tx s).length=s.size:=by simp[tx]
  simp only[yaf,yaz];omega
def zwA {k:Nat} {l:List Val} (g:zfL k l):(zw5 (zaW l).mn).length<=17/\(zw5 (zaW l).mx).length<=21/\(zaW l).nulls<=l.length:=by
 have hok:=zer (p:=zoS k) g l.length (yaj _);rw[yaW]at hok;unfold zaW;generalize l.foldl stp st0=x at*;have hn:=hok.nu;have hle:=hok.le;have z:(zw5 Cel.none).length<=17:=zcU (v:= .null) (n:=16) trivial (by omega) (by omega)
 unfold zcG;split
 ·exact⟨z,ya4 z (by omega),hn⟩
 ·rename_i hh
  obtain⟨k1,p1,p2,k2⟩:=hle (by simpa using hh)
  split
  ·rename_i s hs
   split
   ·exact⟨zcU (v:= .text noS) (n:=16) (yai _) (by omega) (by omega),by simp only;omega,hn⟩
   ·split
    ·exact⟨zcU (v:= .text (frs s 4)) (n:=16) (zpa s 4) (by omega) (by omega),zcU (v:= .text _) (n:=20) (zpb _ 4) (by omega) (by omega),hn⟩
    ·exact⟨zcU (v:= .text (frs s 4)) (n:=16) (zpa s 4) (by omega) (by omega),by simp only;omega,hn⟩
  ·rename_i hne
   refine⟨zcU (n:=16) ?_ (by omega) (by omega),zcU (n:=20) ?_ (by omega) (by omega),hn⟩
   ·cases hv:x.le with
    |text s=>exact absurd hv (hne s)
    |whole n=>
     rcases p1 with h | ⟨_,h,_⟩
     ·rw[h]at hv;cases hv
     ·exact h n hv
    |_=>trivial
   ·cases hv:x.mo with
    |text s=>
     exfalso;have hk:k=3:=by
      rcases p2 with h | ⟨h,_⟩
      ·rw[h]at hv;cases hv
      ·rw[hv]at h;exact h.symm
     rcases p1 with h | ⟨h,_⟩
     ·exact k2 h
     ·cases hw:x.le with
      |text s=>exact hne s hw
      |_=>rw[hw]at h;simp only[Val.kind]at h;omega
    |whole n=>
     rcases p2 with h | ⟨_,h,_⟩
     ·rw[h]at hv;cases hv
     ·exact h n hv
    |_=>trivial
def zwB {k:Nat} {l:List Val} (g:zfL k l) (hn:l.length<=256):(stB (zaW l)).length<=41:=by
 obtain⟨h1,h2,h3⟩:=zwA g;have h4:=znf (n:=(zaW l).nulls) (by omega)
 unfold stB;rw[yae,yaf,yae];have e1:(if (zaW l).has=true then zw5 (zaW l).mn else []).length<=17:=by
  split
  ·exact h1
  ·exact yai _
 have e2:(if (zaW l).has=true/\(zaW l).high=true then zw5 (zaW l).mx else []).length<=21:=by
  split
  ·exact h2
  ·exact yai _
 omega
def zkI (l:List Int): ∀k,(zbb l (k+1)).length<=1+(zbC l).length
 |0=>by
  unfold zbb;rw[yag (.inl rfl),yaf]
  show (zbC l).length+1<=_
  omega
 |k+1=>by
  have ih:=zkI l k;unfold zbb;split
  ·rename_i h
   rw[yaf];rcases h with h | h
   ·omega
   ·omega
  ·exact ih
def zqK {l:List ByteArray} (h: ∀s∈l,s.size<=64):(zbC (zaU l)).length<=2*l.length:=by
 induction l with
 |nil=>simp[zbC,zaU]
 |cons s l ih=>
  have h1:=ih λt ht=>h t (by simp[ht])
  have h2:(zbe (s.size:Int)).length<=2:=by
   unfold zbe zig;rw[yag (by omega)]
   exact znf (by have:=h s (by simp);omega)
  show ((zbe (s.size:Int))++zbC (zaU l)).length<=_
  rw[yae,yaf];omega
def ztX {l:List ByteArray} (h: ∀s∈l,s.size<=64):(l.flatMap (·.data.toList)).length<=64*l.length:=by
 induction l with
 |nil=>simp
 |cons s l ih=>
  have h1:=ih λt ht=>h t (by simp[ht])
  have h2:=h s (by simp)
  rw[ya5,yae,zh1,yaf];omega
def zqL {l:List ByteArray} (h: ∀s∈l,s.size<=64) (hn:l.length<=256):(zc7 l).length<=4+66*l.length:=by
 have h1:(zc7 l).length<=(zfY l).length:=by unfold zc7;split <;> omega
 have h2:(zbb (zaU l) 5).length<=_:=zkI (zaU l) 4;have h3:=zqK h;have h4:=ztX h;have h5:=znf (n:=(zb7 (zaU l)).length) (by unfold zb7;omega)
 have h6:(zfY l).length=1+((put (zb7 (zaU l)).length).length+(zb7 (zaU l)).length+(l.flatMap (·.data.toList)).length):=by
  show (0::(put (zb7 (zaU l)).length++zb7 (zaU l)++(l.take l.length).flatMap (·.data.toList))).length=_
  rw[yaW,yaf,yae,yae];omega
 unfold zb7 at h5 h6;omega
def zwC {k:Nat} {l:List Val} (hk:1<=k/\k<=3) (g:zfL k l) (hn:l.length<=256) (h1:1<=l.length):(zez k l).length<=73*l.length:=by
 have a1:(zgl l).length<=2+l.length / 8:=by
  unfold zgl;split
  ·rw[yaf]
   show (zbB 1 ((zaI l).map bit)).length+1<=_
   rw[zbx,yah,zaQ];omega
  ·simp;omega
 have a2:(zcD l).length<=l.length:=ybn _ _;have a3:(zcE l).length<=l.length:=ybn _ _;have a4:(zdK l).length<=l.length:=ybn _ _;have a5:(zmS k l).length<=4+66*l.length:=by
  unfold zmS;split
  ·have:(zbb (zcD l) 5).length<=_:=zkI (zcD l) 4
   have:=zfr (ze2 g.i64);unfold zb7;omega
  ·split
   ·show (zbB 1 ((zcE l).map bit)).length<=_
    rw[zbx,yah];omega
   ·have:=zqL (zhh g.long) (by omega)
    omega
 unfold zez;rw[yae];omega
def zmh {s:Sch} (hs:SchIs s) {g:List (List Val)} (h: ∀r∈g,zfe s r) (hg:g.length<=64) (h1:1<=g.length): ∀i,i<=s.fields.length->(zff s g i).length+(zib s g i).length<=116*(i*g.length)
 |0,_=>by simp[zff,zib]
 |i+1,hi=>by
  have ih:=zmh hs h hg h1 i (by omega)
  have hk:=zyy hs (i:=i) (by omega)
  have hl:(col g i).length=g.length:=by simp[col]
  have gd:=zdb h (i:=i) (by omega)
  have a:=zwC ⟨hk.1,hk.2.1⟩ gd (by omega) (by omega)
  have b:=zwB gd (by omega)
  have c:=znf (n:=(zez (kd s i) (col g i)).length) (by omega)
  have e:(i+1)*g.length=i*g.length+g.length:=ydx i g.length;rw[zic,zid,e];simp only[yae];rw[hl]at a;generalize i*g.length=q at*;omega
def zmi {s:Sch} (hs:SchIs s) {n:Nat} (hn:1<=n) (hn2:n<=64): ∀ (m:Nat) (X:List (List Val)),(∀r∈X,zfe s r)->(zk7 s (cks n m X)).length+(zo0 s (cks n m X)).length<=116*(s.fields.length*X.length)
 |0,_,_=>by simp[cks,zk7,zo0]
 |_+1,[],_=>by simp[cks,zk7,zo0]
 |m+1,x::xs,h=>by
  have ih:=zmi hs hn hn2 m ((x::xs).drop n) λr hr=>h r (ybF hr)
  have hl1:((x::xs).take n).length=min n (xs.length+1):=by rw[yaq,yaf]
  have hc:=zmh hs (g:=(x::xs).take n) (λr hr=>h r (yaH hr)) (by omega) (by omega) s.fields.length (yaj _)
  have e1:zk7 s (cks n (m+1) (x::xs))=zff s ((x::xs).take n) s.fields.length++zk7 s (cks n m ((x::xs).drop n)):=rfl;have e2:zo0 s (cks n (m+1) (x::xs))=zib s ((x::xs).take n) s.fields.length++zo0 s (cks n m ((x::xs).drop n)):=rfl;have e3:s.fields.length*(x::xs).length=s.fields.length*((x::xs).take n).length+s.fields.length*((x::xs).drop n).length:=by
   rw[<- ycM];congr 1;rw[yaq,yax];omega
  rw[e1,e2,e3,yae,yae];omega
def ztY {fs:List Fld} (hf: ∀f∈fs,f.name.size<=16/\f.id<4294967296/\f.kind<256):(fs.flatMap zeX).length<=47*fs.length:=by
 induction fs with
 |nil=>simp
 |cons f r ih=>
  obtain⟨h1,h2,h3⟩:=hf f (by simp)
  have:=ih λg hg=>hf g (by simp[hg])
  have a:=zaq (n:=f.id.toNat) (by omega)
  have b:=zaq (n:=f.name.size) (by omega)
  have c:=zaq (n:=f.kind.toNat) (by omega)
  have d:f.name.data.toList.length=f.name.size:=by simp
  have e:(zeX f).length<=47:=by
   unfold zeX zg9 tx;simp only[yae,yaf,yaz];omega
  simp only[ya5,yae,yaf];omega
def zmj {s:Sch} (hs:SchIs s) (h0:SchOk s) {X:List (List Val)} (hX:X.length<=60) (h: ∀r∈X,zfe s r) {n:Nat} (hn:1<=n) (hn2:n<=64):(zif s X n).length<=65536:=by
 have a:=zmi hs hn hn2 X.length X h;have b:=ztY (fs:=s.fields) λf hf=>⟨(hs.fld f hf).1,(h0.fld f hf).2.1,(h0.fld f hf).2.2.2.1⟩
 have c:=zaq (n:=X.length) (by omega)
 have d:=zaq (n:=n) (by omega)
 have e:(zk4 s).length<=20:=by
  have:=zaq (n:=s.id.toNat) (by have:=h0.id;omega)
  have:=zaq (n:=s.fields.length) (by have:=hs.len;omega)
  simp only[zk4,yae];omega
 have f:s.fields.length*X.length<=8*60:=ybA hs.len hX;have:=hs.len;unfold zif;rw[zbR];simp only[zie,ziW,zo1,zmK,le4,yae,yaf,yaz];omega
def ztZ {s:Sch} (h0:SchOk s) (hc:zj6 s=0) {X:List (List Val)} (hX:X.length<=60) (hf:zpo s X=0) (hi: ∀r∈X, ∀n,Val.whole n∈r->zah n) {n:Nat} (hn:1<=n) (hn2:n<=64):zd4 s X n=(zif s X n,0):=by
 have hs:=zfd hc;have hl:=zmj hs h0 hX (zm9 hs hf hi) hn hn2;unfold zd4;rw[yac (ycl hc),yac (by omega),yac (by omega),yac (ycl hf),yat,yac (by omega)]
end Go.Am.Ab
namespace Go.Am.Ab
open Go.Proofs
set_option maxHeartbeats 8000000
set_option maxRecDepth 4000
def zt0 (s:Sch) (X:List (List Val)) (most:Nat):List (List Val):=(X.filter λr=>decide (fit s r=0)).take most
def zcK (r:List Val):D:= .list (ce (r.map cellOf))
@[simp] def zA0 (r:List Val):(zcK r).cells=[zcK r]:=rfl
def zwD (s:Sch) (hso:s.fields.length<=100) (l:List (List Cel)) (hl: ∀r∈l, ∀c∈r,c.kind<256/\c.s.size<=9223372036854775807) (hn:l.length<=9223372036854775807) (hr: ∀r∈l,r.length<=9223372036854775807) (most:Nat) (hm:most<=1000):
 R 17 [.d s.d,.d (.list (zbD l)),.d (.int .i64 most)] []=some ([.arr 0 (zt0 s (zme l) most).length],[.arr 1 ((zt0 s (zme l) most).map zcK) 0]):=by
 have hf:=ztT l hl hn hr;rw[<- zwt]at hf;have hXl:(zme l).length<=300:=by simp[zme,zw6];omega
 have hXr: ∀r∈zme l,r.length<=20:=λr hr=>by
  obtain⟨q,hq,rfl⟩:=List.mem_map.1 hr;obtain⟨p,hp,rfl⟩:=List.mem_map.1 hq;simp;omega
 generalize zme l=X at*;obtain⟨Z,hZ⟩: ∃Z,Z=zbD (X.map (·.map cellOf)):=⟨_,rfl⟩
 have hZl:Z.length=X.length:=by rw[hZ,yah,yah]
 rw[yah,<- hZ]at hf;have hfit: ∀r∈X,R 50 [.d s.d,.d (zcK r)] []=some ([.d (.int .i64 (fit s r))],[]):=λr hr'=>zu8 s r (by omega) (by have:=hXr r hr';omega)
 have hZg: ∀ (i:Nat) (h:i<X.length),Z[i]? =some (zcK X[i]):=λi h=>by rw[hZ,yau,yau,yak h];rfl
 clear hZ hXr hl;have hsd:s.d= .agg [.int .u32 s.id,.list (s.fields.map Fld.d)]:=rfl;rw[hsd]at hfit ⊢;generalize s.fields.map Fld.d=fl at*;generalize s.id=sid at*;refine rg b17 rfl ?_;intro T hT;simp -dsimp -implicitDefEqProofs (disch:=omega) [hf]
 generalize hz:zaf _ _ _ _ _ _=z;revert z;refine zaa (σ:=Nat × List (List Val)) (λx=>[(2,.d (.int .i64 most)),(3,.ptr 0 0),(7,.arr 1 x.2.length),(8,.arr 2 X.length),(9,.d (.int .i64 x.1))]) (λx=>[.box [.d (.int .u32 sid),.d (.list fl)],.arr 1 (x.2.map zcK) 0,.arr 1 Z 0]) (λx=>x.1<=X.length/\x.2.length<=most/\zt0 s X most=(x.2++(X.drop x.1).filter λr=>decide (fit s r=0)).take most) (λx=>X.length - x.1) (0,[]) ?_ ?_ ?_
 ·exact⟨yai _,yai _,rfl⟩
 ·simp -dsimp -implicitDefEqProofs (disch:=omega)
 intro T' f hT' ⟨i,O⟩ ⟨h1,h2,h3⟩ ih;simp only at h1 h2 h3 ih
 by_cases hi:i<X.length
 ·by_cases ho:O.length<most
  ·obtain⟨r,hr1⟩: ∃r,X[i]=r:=⟨_,rfl⟩
   have hc:=hfit r (hr1 ▸ yam hi);have hZi:Z[i]'(by omega)=zcK r:=by
    have:=hZg i hi;rw[yak (by omega),hr1]at this
    exact yaN this
   have hZi2:i<Z.length:=by omega
   rw[yao hi,hr1,ydk]at h3
   by_cases hq:fit s r=0
   ·rw[yaI hq,yag rfl]at h3
    rw[hq]at hc;simp -dsimp -implicitDefEqProofs (disch:=omega) [hi,ho,hc,hZi,hZi2,hZl]
    refine ih (i+1,O++[r]) _ _ ⟨hi,by simp only[yae,ybg];omega,by rw[yan];exact h3⟩ (by simp only;omega) ?_
    simp -dsimp -implicitDefEqProofs (disch:=omega)
   ·rw[yaO hq,yac (by simp)]at h3
    simp -dsimp -implicitDefEqProofs (disch:=omega) [hi,ho,hc,hZi,hZi2,hZl,hq]
    refine ih (i+1,O) _ _ ⟨hi,h2,h3⟩ (by simp only;omega) ?_
    simp -dsimp -implicitDefEqProofs (disch:=omega)
  ·have e:zt0 s X most=O:=by
    rw[h3,ybE (by omega),yaA (by omega)]
   subst hT';rw[e]at hT;simp -dsimp -implicitDefEqProofs (disch:=omega) [hi,ho]
   simpa -dsimp -implicitDefEqProofs (disch:=omega) using hT
 ·have e:zt0 s X most=O:=by
   rw[h3,ybv (by omega),List.filter_nil,yap,yaA h2]
  subst hT';rw[e]at hT;simp -dsimp -implicitDefEqProofs (disch:=omega) [hi]
  simpa -dsimp -implicitDefEqProofs (disch:=omega) using hT
end Go.Am.Ab
namespace Go.Am.Ab
open Go.Proofs
set_option maxHeartbeats 16000000
set_option maxRecDepth 4000
def zA1 {s:Sch} (hs:SchIs s) {l:List (List Cel)} (hl: ∀r∈l, ∀c∈r,c.kind<256/\zah c.n/\c.s.size<=9223372036854775807) (most:Nat):
 (zt0 s (zme l) most).length<=most/\zpo s (zt0 s (zme l) most)=0/\(∀r∈zt0 s (zme l) most,r.length<=20)/\(∀r∈zt0 s (zme l) most, ∀n,Val.whole n∈r->zah n)/\ ∀r∈zt0 s (zme l) most,zfe s r:=by
 obtain⟨_,h2,h3,_⟩:=zAX hl;have hm: ∀r∈zt0 s (zme l) most,r∈zme l/\fit s r=0:=λr hr=>by
  have:=List.mem_filter.1 (yaH hr);exact⟨this.1,ycr this.2⟩
 have hA: ∀ {X:List (List Val)},(∀r∈X,fit s r=0)->zpo s X=0:=λ{X} h=>by
  induction X with
  |nil=>rfl
  |cons x X ih=>
   unfold zpo;rw[yag (h x (by simp))]
   exact ih λr hr=>h r (by simp[hr])
 refine⟨by unfold zt0;rw[yaq];omega,hA λr hr=>(hm r hr).2,λr hr=>h2 r (hm r hr).1,λr hr=>h3 r (hm r hr).1,λr hr=>zrU hs (hm r hr).2 (h3 r (hm r hr).1)⟩
def zpc {s:Sch} {r:List Val} (h:zfe s r):(r.map cellOf).map zaA=r/\ ∀c∈r.map cellOf,c.kind<256/\c.s.size<=9223372036854775807:=by
 have hv: ∀v∈r, ∃k,zoS k v:=λv hv=>by
  obtain⟨i,hi⟩:=ybo hv;have hlt:i<r.length:=lt_of_getElem? hi;rw[yak hlt,yaa]at hi;exact⟨_,by rw[<- hi,zdL hlt];exact h.2 i (by rw[<- h.1];exact hlt)⟩
 refine⟨?_,λc hc=> ?_⟩
 ·rw[yaQ]
  conv=>rhs;rw[<- yc5 r]
  refine ya0 λv hv'=> ?_
  obtain⟨k,g⟩:=hv v hv';exact (zo2 g).2.1
 ·obtain⟨v,hv',rfl⟩:=List.mem_map.1 hc
  obtain⟨k,g⟩:=hv v hv';obtain⟨h1,h2,_,_,h5⟩:=zbv (zo2 g).1;exact⟨by omega,by omega⟩
def zwE {s:Sch} {W:List (List Val)} (hW:W.length<=1000) (h: ∀r∈W,zfe s r) (hl: ∀r∈W,r.length<=20):R 13 [.d (.list (W.map zcK))] []=some ([.arr 0 W.length],[.arr 1 (zaK W) 0]):=by
 have e:=ztU (W.map (·.map cellOf)) (λr hr=>by
  obtain⟨q,hq,rfl⟩:=List.mem_map.1 hr;exact⟨by rw[yah];have:=hl q hq;omega,(zpc (h q hq)).2⟩) (by rw[yah];omega)
 have e1:(W.map (·.map cellOf)).map (·.map zaA)=W:=by
  rw[yaQ]
  conv=>rhs;rw[<- yc5 W]
  exact ya0 λr hr=>(zpc (h r hr)).1
 have e2:zbD (W.map (·.map cellOf))=W.map zcK:=yaQ
 rw[e1,e2,yah]at e;exact e
end Go.Am.Ab
