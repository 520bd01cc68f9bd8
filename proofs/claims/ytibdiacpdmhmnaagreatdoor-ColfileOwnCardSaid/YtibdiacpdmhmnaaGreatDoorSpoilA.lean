/- Files of rows, spoilt: the walk. -/
import Derived.Test.YtibdiacpdmhmnaaGreatDoorParsing
import Derived.Test.YtibdiacpdmhmnaaGreatDoorFileA
import Derived.Test.YtibdiacpdmhmnaaGreatDoorFileC
set_option linter.all false
namespace Go.Am.Ab
open Go.Proofs
set_option maxHeartbeats 4000000
def zvN (s:ByteArray):(sig s).2.1<=4:=by
 unfold sig sgf
 (repeat' split) <;> simp
def zvO (s:ByteArray): ∀ (m i j:Nat) (x:Nat × Nat × Bool),(sgL s m i)[j]? =some x->x.2.1<=i+4*j
 |0,i,j,x,h=>by simp[sgL]at h
 |m+1,i,j,x,h=>by
  unfold sgL at h;split at h
  ·cases j with
   |zero=>
    simp only[yau,yaa]at h;rw[<- h];simp
   |succ j=>
    rw[yaP]at h;have:=zvO s m _ j x h;have:=zvN (rst s i);omega
  ·simp at h
def zkq (s:ByteArray): ∀ (m i:Nat),s.size<=m+i->s.size<=i+4*(sgL s m i).length
 |0,i,h=>by omega
 |m+1,i,h=>by
  unfold sgL;split
  ·have h1:=zdG (rst s i)
   have h2:=zvN (rst s i);have:=zkq s m (i+(sig (rst s i)).2.1) (by omega)
   rw[yad];omega
  ·omega
def zoH (s:ByteArray) (n:Nat):(frs s n).size<=4*n:=by
 unfold frs;split
 ·rename_i x h
  have:=zvO s s.size 0 n x h;rw[ybG];omega
 ·rename_i h
  have h1:=List.getElem?_eq_none_iff.1 h;have h2:=zkq s s.size 0 (by omega)
  unfold sgs at h1;omega
def zl0 (s:ByteArray): ∀ (k:Nat) (t:ByteArray),zqE s (sgs s) k=some t->t.size<=4*k+4
 |0,t,h=>by cases h
 |k+1,t,h=>by
  unfold zqE at h;split at h
  ·rename_i x hx
   split at h
   ·simp only[yaa]at h;subst h
    have h1:=zvO s s.size 0 k x hx;have h2:=zkk (nxt x.1:Nat);rw[yb4,ybG];omega
   ·have:=zl0 s k t h;omega
  ·cases h
def zoI (s:ByteArray) (n:Nat):(abv s n).1.size<=4*n+4:=by
 unfold abv;split
 ·exact yaj _
 ·split
  ·rename_i h
   have h2:=zkq s s.size 0 (by omega)
   unfold sgs at h;simp only;omega
  ·split
   ·rename_i h;exact zl0 s _ _ h
   ·exact yaj _
def zmQ {n:Nat} (h:n<16384):(put n).length<=2:=zlq 1 n h
def zcR {v:Val} {n:Nat} (h:match v with | .whole n=>zaf n | .text s=>s.size<=n | _=>True) (hn:n<128) (h10:10<=n+1):(zwe (zah v)).length<=n+1:=by
 rw[zpU];cases v with
 |null=>show (put 0).length<=_;rw[zik (by omega)];simp
 |whole x=>have:=zbo h;show (zbi x).length<=_;omega
 |truth b=>simp[zhe,zha]
 |text s=>
  have h':s.size<=n:=h
  show (put s.size++tx s).length<=n+1
  rw[yae,zik (by omega)]
  have:(tx s).length=s.size:=by simp[tx]
  simp only[yad,yav];omega
def zvP {k:Nat} {l:List Val} (g:zgj k l):(zwe (za3 l).mn).length<=17/\(zwe (za3 l).mx).length<=21/\(za3 l).nulls<=l.length:=by
 have hok:=zg7 (p:=zpP k) g l.length (yag _);rw[ybf]at hok;unfold za3;generalize l.foldl stp st0=x at*;have hn:=hok.nu;have hle:=hok.le;have z:(zwe Cel.none).length<=17:=zcR (v:= .null) (n:=16) trivial (by omega) (by omega)
 unfold zeW;split
 ·exact⟨z,ybc z (by omega),hn⟩
 ·rename_i hh
  obtain⟨k1,p1,p2,k2⟩:=hle (by simpa using hh)
  split
  ·rename_i s hs
   split
   ·exact⟨zcR (v:= .text noS) (n:=16) (yaj _) (by omega) (by omega),by simp only;omega,hn⟩
   ·split
    ·exact⟨zcR (v:= .text (frs s 4)) (n:=16) (zoH s 4) (by omega) (by omega),zcR (v:= .text _) (n:=20) (zoI _ 4) (by omega) (by omega),hn⟩
    ·exact⟨zcR (v:= .text (frs s 4)) (n:=16) (zoH s 4) (by omega) (by omega),by simp only;omega,hn⟩
  ·rename_i hne
   refine⟨zcR (n:=16) ?_ (by omega) (by omega),zcR (n:=20) ?_ (by omega) (by omega),hn⟩
   ·cases hv:x.le with
    |text s=>exact absurd hv (hne s)
    |whole n=>
     rcases p1 with h | ⟨_,h,_⟩
     ·rw[h]at hv;cases hv
     ·exact h n hv
    |_=>trivial
   ·cases hv:x.mo with
    |text s=>
     exfalso;have hk:k=3:=by
      rcases p2 with h | ⟨h,_⟩
      ·rw[h]at hv;cases hv
      ·rw[hv]at h;exact h.symm
     rcases p1 with h | ⟨h,_⟩
     ·exact k2 h
     ·cases hw:x.le with
      |text s=>exact hne s hw
      |_=>rw[hw]at h;simp only[Val.kind]at h;omega
    |whole n=>
     rcases p2 with h | ⟨_,h,_⟩
     ·rw[h]at hv;cases hv
     ·exact h n hv
    |_=>trivial
def zvQ {k:Nat} {l:List Val} (g:zgj k l) (hn:l.length<=256):(stB (za3 l)).length<=41:=by
 obtain⟨h1,h2,h3⟩:=zvP g;have h4:=zmQ (n:=(za3 l).nulls) (by omega)
 unfold stB;rw[yae,yad,yae];have e1:(if (za3 l).has=true then zwe (za3 l).mn else []).length<=17:=by
  split
  ·exact h1
  ·exact yaj _
 have e2:(if (za3 l).has=true/\(za3 l).high=true then zwe (za3 l).mx else []).length<=21:=by
  split
  ·exact h2
  ·exact yaj _
 omega
def zkr (l:List Int): ∀k,(zbd l (k+1)).length<=1+(zbC l).length
 |0=>by
  unfold zbd;rw[yai (.inl rfl),yad]
  show (zbC l).length+1<=_
  omega
 |k+1=>by
  have ih:=zkr l k;unfold zbd;split
  ·rename_i h
   rw[yad];rcases h with h | h
   ·omega
   ·omega
  ·exact ih
def zp6 {l:List ByteArray} (h: ∀s∈l,s.size<=64):(zbC (zaT l)).length<=2*l.length:=by
 induction l with
 |nil=>simp[zbC,zaT]
 |cons s l ih=>
  have h1:=ih λt ht=>h t (by simp[ht])
  have h2:(zbi (s.size:Int)).length<=2:=by
   unfold zbi zig;rw[yai (by omega)]
   exact zmQ (by have:=h s (by simp);omega)
  show ((zbi (s.size:Int))++zbC (zaT l)).length<=_
  rw[yae,yad];omega
def zte {l:List ByteArray} (h: ∀s∈l,s.size<=64):(l.flatMap (·.data.toList)).length<=64*l.length:=by
 induction l with
 |nil=>simp
 |cons s l ih=>
  have h1:=ih λt ht=>h t (by simp[ht])
  have h2:=h s (by simp)
  rw[yaY,yae,zhR,yad];omega
def zp7 {l:List ByteArray} (h: ∀s∈l,s.size<=64) (hn:l.length<=256):(zc1 l).length<=4+66*l.length:=by
 have h1:(zc1 l).length<=(zfR l).length:=by unfold zc1;split <;> omega
 have h2:(zbd (zaT l) 5).length<=_:=zkr (zaT l) 4;have h3:=zp6 h;have h4:=zte h;have h5:=zmQ (n:=(zb9 (zaT l)).length) (by unfold zb9;omega)
 have h6:(zfR l).length=1+((put (zb9 (zaT l)).length).length+(zb9 (zaT l)).length+(l.flatMap (·.data.toList)).length):=by
  show (0::(put (zb9 (zaT l)).length++zb9 (zaT l)++(l.take l.length).flatMap (·.data.toList))).length=_
  rw[ybf,yad,yae,yae];omega
 unfold zb9 at h5 h6;omega
def zvR {k:Nat} {l:List Val} (hk:1<=k/\k<=3) (g:zgj k l) (hn:l.length<=256) (h1:1<=l.length):(zeu k l).length<=73*l.length:=by
 have a1:(zgb l).length<=2+l.length / 8:=by
  unfold zgb;split
  ·rw[yad]
   show (zbB 1 ((zaI l).map bit)).length+1<=_
   rw[zbx,yak,zaN];omega
  ·simp;omega
 have a2:(zcE l).length<=l.length:=ybp _ _;have a3:(zcF l).length<=l.length:=ybp _ _;have a4:(zdK l).length<=l.length:=ybp _ _;have a5:(zmy k l).length<=4+66*l.length:=by
  unfold zmy;split
  ·have:(zbd (zcE l) 5).length<=_:=zkr (zcE l) 4
   have:=zfo (zeU g.i64);unfold zb9;omega
  ·split
   ·show (zbB 1 ((zcF l).map bit)).length<=_
    rw[zbx,yak];omega
   ·have:=zp7 (zg5 g.long) (by omega)
    omega
 unfold zeu;rw[yae];omega
def zl1 {s:Sch} (hs:SchIs s) {g:List (List Val)} (h: ∀r∈g,zlT s r) (hg:g.length<=64) (h1:1<=g.length): ∀i,i<=s.fields.length->(ze9 s g i).length+(zh0 s g i).length<=116*(i*g.length)
 |0,_=>by simp[ze9,zh0]
 |i+1,hi=>by
  have ih:=zl1 hs h hg h1 i (by omega)
  have hk:=zxJ hs (i:=i) (by omega)
  have hl:(col g i).length=g.length:=by simp[col]
  have gd:=zfz h (i:=i) (by omega)
  have a:=zvR ⟨hk.1,hk.2.1⟩ gd (by omega) (by omega)
  have b:=zvQ gd (by omega)
  have c:=zmQ (n:=(zeu (kd s i) (col g i)).length) (by omega)
  have e:(i+1)*g.length=i*g.length+g.length:=ydy i g.length;rw[zh1,zh2,e];simp only[yae];rw[hl]at a;generalize i*g.length=q at*;omega
def zl2 {s:Sch} (hs:SchIs s) {n:Nat} (hn:1<=n) (hn2:n<=64): ∀ (m:Nat) (X:List (List Val)),(∀r∈X,zlT s r)->(zkP s (cks n m X)).length+(zoy s (cks n m X)).length<=116*(s.fields.length*X.length)
 |0,_,_=>by simp[cks,zkP,zoy]
 |_+1,[],_=>by simp[cks,zkP,zoy]
 |m+1,x::xs,h=>by
  have ih:=zl2 hs hn hn2 m ((x::xs).drop n) λr hr=>h r (ybO hr)
  have hl1:((x::xs).take n).length=min n (xs.length+1):=by rw[yat,yad]
  have hc:=zl1 hs (g:=(x::xs).take n) (λr hr=>h r (yaH hr)) (by omega) (by omega) s.fields.length (yag _)
  have e1:zkP s (cks n (m+1) (x::xs))=ze9 s ((x::xs).take n) s.fields.length++zkP s (cks n m ((x::xs).drop n)):=rfl;have e2:zoy s (cks n (m+1) (x::xs))=zh0 s ((x::xs).take n) s.fields.length++zoy s (cks n m ((x::xs).drop n)):=rfl;have e3:s.fields.length*(x::xs).length=s.fields.length*((x::xs).take n).length+s.fields.length*((x::xs).drop n).length:=by
   rw[<- ycM];congr 1;rw[yat,yay];omega
  rw[e1,e2,e3,yae,yae];omega
def ztf {fs:List Fld} (hf: ∀f∈fs,f.name.size<=16/\f.id<4294967296/\f.kind<256):(fs.flatMap zeY).length<=47*fs.length:=by
 induction fs with
 |nil=>simp
 |cons f r ih=>
  obtain⟨h1,h2,h3⟩:=hf f (by simp)
  have:=ih λg hg=>hf g (by simp[hg])
  have a:=zau (n:=f.id.toNat) (by omega)
  have b:=zau (n:=f.name.size) (by omega)
  have c:=zau (n:=f.kind.toNat) (by omega)
  have d:f.name.data.toList.length=f.name.size:=by simp
  have e:(zeY f).length<=47:=by
   unfold zeY zha tx;simp only[yae,yad,yav];omega
  simp only[yaY,yae,yad];omega
def zl3 {s:Sch} (hs:SchIs s) (h0:SchOk s) {X:List (List Val)} (hX:X.length<=60) (h: ∀r∈X,zlT s r) {n:Nat} (hn:1<=n) (hn2:n<=64):(zh4 s X n).length<=65536:=by
 have a:=zl2 hs hn hn2 X.length X h;have b:=ztf (fs:=s.fields) λf hf=>⟨(hs.fld f hf).1,(h0.fld f hf).2.1,(h0.fld f hf).2.2.2.1⟩
 have c:=zau (n:=X.length) (by omega)
 have d:=zau (n:=n) (by omega)
 have e:(zkM s).length<=20:=by
  have:=zau (n:=s.id.toNat) (by have:=h0.id;omega)
  have:=zau (n:=s.fields.length) (by have:=hs.len;omega)
  simp only[zkM,yae];omega
 have f:s.fields.length*X.length<=8*60:=ybL hs.len hX;have:=hs.len;unfold zh4;rw[zbR];simp only[zh3,ziG,zoz,zmB,le4,yae,yad,yav];omega
def ztg {s:Sch} (h0:SchOk s) (hc:zj7 s=0) {X:List (List Val)} (hX:X.length<=60) (hf:zoT s X=0) (hi: ∀r∈X, ∀n,Val.whole n∈r->zaf n) {n:Nat} (hn:1<=n) (hn2:n<=64):zd2 s X n=(zh4 s X n,0):=by
 have hs:=ze8 hc;have hl:=zl3 hs h0 hX (zmL hs hf hi) hn hn2;unfold zd2;rw[yaf (ycg hc),yaf (by omega),yaf (by omega),yaf (ycg hf),yaz,yaf (by omega)]
end Go.Am.Ab
namespace Go.Am.Ab
open Go.Proofs
set_option maxHeartbeats 8000000
set_option maxRecDepth 4000
def zth (s:Sch) (X:List (List Val)) (most:Nat):List (List Val):=(X.filter λr=>decide (fit s r=0)).take most
def ziK (r:List Val):D:= .list (ce (r.map zah))
@[simp] def zz8 (r:List Val):(ziK r).cells=[ziK r]:=rfl
def zvS (s:Sch) (hso:s.fields.length<=100) (l:List (List Cel)) (hl: ∀r∈l, ∀c∈r,c.kind<256/\c.s.size<=9223372036854775807) (hn:l.length<=9223372036854775807) (hr: ∀r∈l,r.length<=9223372036854775807) (most:Nat) (hm:most<=1000):
 R 17 [.d s.d,.d (.list (zdL l)),.d (.int .i64 most)] []=some ([.arr 0 (zth s (zlW l) most).length],[.arr 1 ((zth s (zlW l) most).map ziK) 0]):=by
 have hf:=zs8 l hl hn hr;rw[<- zvz]at hf;have hXl:(zlW l).length<=300:=by simp[zlW,zwf];omega
 have hXr: ∀r∈zlW l,r.length<=20:=λr hr=>by
  obtain⟨q,hq,rfl⟩:=List.mem_map.1 hr;obtain⟨p,hp,rfl⟩:=List.mem_map.1 hq;simp;omega
 generalize zlW l=X at*;obtain⟨Z,hZ⟩: ∃Z,Z=zdL (X.map (·.map zah)):=⟨_,rfl⟩
 have hZl:Z.length=X.length:=by rw[hZ,yak,yak]
 rw[yak,<- hZ]at hf;have hfit: ∀r∈X,R 50 [.d s.d,.d (ziK r)] []=some ([.d (.int .i64 (fit s r))],[]):=λr hr'=>zu1 s r (by omega) (by have:=hXr r hr';omega)
 have hZg: ∀ (i:Nat) (h:i<X.length),Z[i]? =some (ziK X[i]):=λi h=>by rw[hZ,yax,yax,yal h];rfl
 clear hZ hXr hl;have hsd:s.d= .agg [.int .u32 s.id,.list (s.fields.map Fld.d)]:=rfl;rw[hsd]at hfit ⊢;generalize s.fields.map Fld.d=fl at*;generalize s.id=sid at*;refine rg b17 rfl ?_;intro T hT;simp -dsimp -implicitDefEqProofs (disch:=first|omega|assumption) [hf]
 generalize hz:zak _ _ _ _ _ _=z;revert z;refine zaa (σ:=Nat × List (List Val)) (λx=>[(2,.d (.int .i64 most)),(3,.ptr 0 0),(7,.arr 1 x.2.length),(8,.arr 2 X.length),(9,.d (.int .i64 x.1))]) (λx=>[.box [.d (.int .u32 sid),.d (.list fl)],.arr 1 (x.2.map ziK) 0,.arr 1 Z 0]) (λx=>x.1<=X.length/\x.2.length<=most/\zth s X most=(x.2++(X.drop x.1).filter λr=>decide (fit s r=0)).take most) (λx=>X.length - x.1) (0,[]) ?_ ?_ ?_
 ·exact⟨yaj _,yaj _,rfl⟩
 ·simp -dsimp -implicitDefEqProofs (disch:=first|omega|assumption)
 intro T' f hT' ⟨i,O⟩ ⟨h1,h2,h3⟩ ih;simp only at h1 h2 h3 ih
 by_cases hi:i<X.length
 ·by_cases ho:O.length<most
  ·obtain⟨r,hr1⟩: ∃r,X[i]=r:=⟨_,rfl⟩
   have hc:=hfit r (hr1 ▸ yar hi);have hZi:Z[i]'(by omega)=ziK r:=by
    have:=hZg i hi;rw[yal (by omega),hr1]at this
    exact yaV this
   have hZi2:i<Z.length:=by omega
   rw[yaG hi,hr1,ydS]at h3
   by_cases hq:fit s r=0
   ·rw[yaQ hq,yai rfl]at h3
    rw[hq]at hc;simp -dsimp -implicitDefEqProofs (disch:=first|omega|assumption) [hi,ho,hc,hZi,hZi2,hZl]
    refine ih (i+1,O++[r]) _ _ ⟨hi,by simp only[yae,ya2];omega,by rw[yam];exact h3⟩ (by simp only;omega) ?_
    simp -dsimp -implicitDefEqProofs (disch:=first|omega|assumption)
   ·rw[yaW hq,yaf (by simp)]at h3
    simp -dsimp -implicitDefEqProofs (disch:=first|omega|assumption) [hi,ho,hc,hZi,hZi2,hZl,hq]
    refine ih (i+1,O) _ _ ⟨hi,h2,h3⟩ (by simp only;omega) ?_
    simp -dsimp -implicitDefEqProofs (disch:=first|omega|assumption)
  ·have e:zth s X most=O:=by
    rw[h3,ybD (by omega),yaB (by omega)]
   subst hT';rw[e]at hT;simp -dsimp -implicitDefEqProofs (disch:=first|omega|assumption) [hi,ho]
   simpa -dsimp -implicitDefEqProofs (disch:=first|omega|assumption) using hT
 ·have e:zth s X most=O:=by
   rw[h3,ybI (by omega),List.filter_nil,yaq,yaB h2]
  subst hT';rw[e]at hT;simp -dsimp -implicitDefEqProofs (disch:=first|omega|assumption) [hi]
  simpa -dsimp -implicitDefEqProofs (disch:=first|omega|assumption) using hT
end Go.Am.Ab
namespace Go.Am.Ab
open Go.Proofs
set_option maxHeartbeats 16000000
set_option maxRecDepth 4000
def zz9 {s:Sch} (hs:SchIs s) {l:List (List Cel)} (hl: ∀r∈l, ∀c∈r,c.kind<256/\zaf c.n/\c.s.size<=9223372036854775807) (most:Nat):
 (zth s (zlW l) most).length<=most/\zoT s (zth s (zlW l) most)=0/\(∀r∈zth s (zlW l) most,r.length<=20)/\(∀r∈zth s (zlW l) most, ∀n,Val.whole n∈r->zaf n)/\ ∀r∈zth s (zlW l) most,zlT s r:=by
 obtain⟨_,h2,h3,_⟩:=zz4 hl;have hm: ∀r∈zth s (zlW l) most,r∈zlW l/\fit s r=0:=λr hr=>by
  have:=List.mem_filter.1 (yaH hr);exact⟨this.1,ydL this.2⟩
 have hA: ∀ {X:List (List Val)},(∀r∈X,fit s r=0)->zoT s X=0:=λ{X} h=>by
  induction X with
  |nil=>rfl
  |cons x X ih=>
   unfold zoT;rw[yai (h x (by simp))]
   exact ih λr hr=>h r (by simp[hr])
 refine⟨by unfold zth;rw[yat];omega,hA λr hr=>(hm r hr).2,λr hr=>h2 r (hm r hr).1,λr hr=>h3 r (hm r hr).1,λr hr=>zrm hs (hm r hr).2 (h3 r (hm r hr).1)⟩
def zoJ {s:Sch} {r:List Val} (h:zlT s r):(r.map zah).map zcB=r/\ ∀c∈r.map zah,c.kind<256/\c.s.size<=9223372036854775807:=by
 have hv: ∀v∈r, ∃k,zpP k v:=λv hv=>by
  obtain⟨i,hi⟩:=ybe hv;have hlt:i<r.length:=lt_of_getElem? hi;rw[yal hlt,yaa]at hi;exact⟨_,by rw[<- hi,zmK hlt];exact h.2 i (by rw[<- h.1];exact hlt)⟩
 refine⟨?_,λc hc=> ?_⟩
 ·rw[ya3]
  conv=>rhs;rw[<- yc4 r]
  refine ya5 λv hv'=> ?_
  obtain⟨k,g⟩:=hv v hv';exact (zoA g).2.1
 ·obtain⟨v,hv',rfl⟩:=List.mem_map.1 hc
  obtain⟨k,g⟩:=hv v hv';obtain⟨h1,h2,_,_,h5⟩:=ziO (zoA g).1;exact⟨by omega,by omega⟩
def zvT {s:Sch} {W:List (List Val)} (hW:W.length<=1000) (h: ∀r∈W,zlT s r) (hl: ∀r∈W,r.length<=20):R 13 [.d (.list (W.map ziK))] []=some ([.arr 0 W.length],[.arr 1 (za6 W) 0]):=by
 have e:=zs9 (W.map (·.map zah)) (λr hr=>by
  obtain⟨q,hq,rfl⟩:=List.mem_map.1 hr;exact⟨by rw[yak];have:=hl q hq;omega,(zoJ (h q hq)).2⟩) (by rw[yak];omega)
 have e1:(W.map (·.map zah)).map (·.map zcB)=W:=by
  rw[ya3]
  conv=>rhs;rw[<- yc4 W]
  exact ya5 λr hr=>(zoJ (h r hr)).1
 have e2:zdL (W.map (·.map zah))=W.map ziK:=ya3
 rw[e1,e2,yak]at e;exact e
end Go.Am.Ab
