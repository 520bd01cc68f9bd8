/- Files of rows, spoilt: the walk. -/
import Derived.Test.YtibdiacpdmhmnaaGreatDoorParsing
import Derived.Test.YtibdiacpdmhmnaaGreatDoorFileA
import Derived.Test.YtibdiacpdmhmnaaGreatDoorFileC
import Derived.Test.YtibdiacpdmhmnaaGreatDoorOpenC
set_option linter.all false
namespace Go.Am.Ab
open Go.Proofs
set_option maxHeartbeats 4000000
def zwI (s:ByteArray):(sig s).2.1<=4:=by
 unfold sig sgf
 (repeat' split) <;> simp
def zwJ (s:ByteArray): ∀ (m i j:Nat) (x:Nat × Nat × Bool),(sgL s m i)[j]? =some x->x.2.1<=i+4*j
 |0,i,j,x,h=>by simp[sgL]at h
 |m+1,i,j,x,h=>by
  unfold sgL at h;split at h
  ·cases j with
   |zero=>
    simp only[yaI,yaa]at h;rw[<- h];simp
   |succ j=>
    rw[yby]at h;have:=zwJ s m _ j x h;have:=zwI (rst s i);omega
  ·simp at h
def zk5 (s:ByteArray): ∀ (m i:Nat),s.size<=m+i->s.size<=i+4*(sgL s m i).length
 |0,i,h=>by omega
 |m+1,i,h=>by
  unfold sgL;split
  ·have h1:=zdS (rst s i)
   have h2:=zwI (rst s i);have:=zk5 s m (i+(sig (rst s i)).2.1) (by omega)
   rw[yad];omega
  ·omega
def zpO (s:ByteArray) (n:Nat):(frs s n).size<=4*n:=by
 unfold frs;split
 ·rename_i x h
  have:=zwJ s s.size 0 n x h;rw[ybL];omega
 ·rename_i h
  have h1:=List.getElem?_eq_none_iff.1 h;have h2:=zk5 s s.size 0 (by omega)
  unfold sgs at h1;omega
def zmT (s:ByteArray): ∀ (k:Nat) (t:ByteArray),zmt s (sgs s) k=some t->t.size<=4*k+4
 |0,t,h=>by cases h
 |k+1,t,h=>by
  unfold zmt at h;split at h
  ·rename_i x hx
   split at h
   ·simp only[yaa]at h;subst h
    have h1:=zwJ s s.size 0 k x hx;have h2:=zkX (nxt x.1:Nat);rw[yb5,ybL];omega
   ·have:=zmT s k t h;omega
  ·cases h
def zpP (s:ByteArray) (n:Nat):(abv s n).1.size<=4*n+4:=by
 unfold abv;split
 ·exact yai _
 ·split
  ·rename_i h
   have h2:=zk5 s s.size 0 (by omega)
   unfold sgs at h;simp only;omega
  ·split
   ·rename_i h;exact zmT s _ _ h
   ·exact yai _
def znS {n:Nat} (h:n<16384):(put n).length<=2:=zmg 1 n h
def zc1 {v:Val} {n:Nat} (h:match v with | .whole n=>zai n | .text s=>s.size<=n | _=>True) (hn:n<128) (h10:10<=n+1):(zw2 (zac v)).length<=n+1:=by
 rw[zq8];cases v with
 |null=>show (put 0).length<=_;rw[zgd (by omega)];simp
 |whole x=>have:=zaK h;show (za1 x).length<=_;omega
 |truth b=>simp[zfm,zeO]
 |text s=>
  have h':s.size<=n:=h
  show (put s.size++tx s).length<=n+1
  rw[yab,zgd (by omega)]
  have:(tx s).length=s.size:=by simp[tx]
  simp only[yad,yat];omega
def zwK {k:Nat} {l:List Val} (g:zgh k l):(zw2 (zaW l).mn).length<=17/\(zw2 (zaW l).mx).length<=21/\(zaW l).nulls<=l.length:=by
 have hok:=zfP (p:=zq3 k) g l.length (yaf _);rw[yaQ]at hok;unfold zaW;generalize l.foldl stp st0=x at*;have hn:=hok.nu;have hle:=hok.le;have z:(zw2 Cel.none).length<=17:=zc1 (v:= .null) (n:=16) trivial (by omega) (by omega)
 unfold zdd;split
 ·exact⟨z,ybd z (by omega),hn⟩
 ·rename_i hh
  obtain⟨k1,p1,p2,k2⟩:=hle (by simpa using hh)
  split
  ·rename_i s hs
   split
   ·exact⟨zc1 (v:= .text noS) (n:=16) (yai _) (by omega) (by omega),by simp only;omega,hn⟩
   ·split
    ·exact⟨zc1 (v:= .text (frs s 4)) (n:=16) (zpO s 4) (by omega) (by omega),zc1 (v:= .text _) (n:=20) (zpP _ 4) (by omega) (by omega),hn⟩
    ·exact⟨zc1 (v:= .text (frs s 4)) (n:=16) (zpO s 4) (by omega) (by omega),by simp only;omega,hn⟩
  ·rename_i hne
   refine⟨zc1 (n:=16) ?_ (by omega) (by omega),zc1 (n:=20) ?_ (by omega) (by omega),hn⟩
   ·cases hv:x.le with
    |text s=>exact absurd hv (hne s)
    |whole n=>
     rcases p1 with h | ⟨_,h,_⟩
     ·rw[h]at hv;cases hv
     ·exact h n hv
    |_=>trivial
   ·cases hv:x.mo with
    |text s=>
     exfalso;have hk:k=3:=by
      rcases p2 with h | ⟨h,_⟩
      ·rw[h]at hv;cases hv
      ·rw[hv]at h;exact h.symm
     rcases p1 with h | ⟨h,_⟩
     ·exact k2 h
     ·cases hw:x.le with
      |text s=>exact hne s hw
      |_=>rw[hw]at h;simp only[Val.kind]at h;omega
    |whole n=>
     rcases p2 with h | ⟨_,h,_⟩
     ·rw[h]at hv;cases hv
     ·exact h n hv
    |_=>trivial
def zwL {k:Nat} {l:List Val} (g:zgh k l) (hn:l.length<=256):(stB (zaW l)).length<=41:=by
 obtain⟨h1,h2,h3⟩:=zwK g;have h4:=znS (n:=(zaW l).nulls) (by omega)
 unfold stB;rw[yab,yad,yab];have e1:(if (zaW l).has=true then zw2 (zaW l).mn else []).length<=17:=by
  split
  ·exact h1
  ·exact yai _
 have e2:(if (zaW l).has=true/\(zaW l).high=true then zw2 (zaW l).mx else []).length<=21:=by
  split
  ·exact h2
  ·exact yai _
 omega
def zk6 (l:List Int): ∀k,(zaQ l (k+1)).length<=1+(zbj l).length
 |0=>by
  unfold zaQ;rw[yaj (.inl rfl),yad]
  show (zbj l).length+1<=_
  omega
 |k+1=>by
  have ih:=zk6 l k;unfold zaQ;split
  ·rename_i h
   rw[yad];rcases h with h | h
   ·omega
   ·omega
  ·exact ih
def zrn {l:List ByteArray} (h: ∀s∈l,s.size<=64):(zbj (zaR l)).length<=2*l.length:=by
 induction l with
 |nil=>simp[zbj,zaR]
 |cons s l ih=>
  have h1:=ih λt ht=>h t (by simp[ht])
  have h2:(za1 (s.size:Int)).length<=2:=by
   unfold za1 zig;rw[yaj (by omega)]
   exact znS (by have:=h s (by simp);omega)
  show ((za1 (s.size:Int))++zbj (zaR l)).length<=_
  rw[yab,yad];omega
def zuq {l:List ByteArray} (h: ∀s∈l,s.size<=64):(l.flatMap (·.data.toList)).length<=64*l.length:=by
 induction l with
 |nil=>simp
 |cons s l ih=>
  have h1:=ih λt ht=>h t (by simp[ht])
  have h2:=h s (by simp)
  rw[ya3,yab,zgD,yad];omega
def zro {l:List ByteArray} (h: ∀s∈l,s.size<=64) (hn:l.length<=256):(zcV l).length<=4+66*l.length:=by
 have h1:(zcV l).length<=(zeb l).length:=by unfold zcV;split <;> omega
 have h2:(zaQ (zaR l) 5).length<=_:=zk6 (zaR l) 4;have h3:=zrn h;have h4:=zuq h;have h5:=znS (n:=(zbp (zaR l)).length) (by unfold zbp;omega)
 have h6:(zeb l).length=1+((put (zbp (zaR l)).length).length+(zbp (zaR l)).length+(l.flatMap (·.data.toList)).length):=by
  show (0::(put (zbp (zaR l)).length++zbp (zaR l)++(l.take l.length).flatMap (·.data.toList))).length=_
  rw[yaQ,yad,yab,yab];omega
 unfold zbp at h5 h6;omega
def zwM {k:Nat} {l:List Val} (hk:1<=k/\k<=3) (g:zgh k l) (hn:l.length<=256) (h1:1<=l.length):(zdh k l).length<=73*l.length:=by
 have a1:(zdl l).length<=2+l.length / 8:=by
  unfold zdl;split
  ·rw[yad]
   show (za8 1 ((zap l).map bit)).length+1<=_
   rw[zbJ,yah,zaz];omega
  ·simp;omega
 have a2:(zbD l).length<=l.length:=ybs _ _;have a3:(zbE l).length<=l.length:=ybs _ _;have a4:(zcZ l).length<=l.length:=ybs _ _;have a5:(zny k l).length<=4+66*l.length:=by
  unfold zny;split
  ·have:(zaQ (zbD l) 5).length<=_:=zk6 (zbD l) 4
   have:=zd4 (zfi g.i64);unfold zbp;omega
  ·split
   ·show (za8 1 ((zbE l).map bit)).length<=_
    rw[zbJ,yah];omega
   ·have:=zro (zfO g.long) (by omega)
    omega
 unfold zdh;rw[yab];omega
def zmU {s:Sch} (hs:SchIs s) {g:List (List Val)} (h: ∀r∈g,zmK s r) (hg:g.length<=64) (h1:1<=g.length): ∀i,i<=s.fields.length->(zeI s g i).length+(zgH s g i).length<=116*(i*g.length)
 |0,_=>by simp[zeI,zgH]
 |i+1,hi=>by
  have ih:=zmU hs h hg h1 i (by omega)
  have hk:=zwp hs (i:=i) (by omega)
  have hl:(col g i).length=g.length:=by simp[col]
  have gd:=zdn h (i:=i) (by omega)
  have a:=zwM ⟨hk.1,hk.2.1⟩ gd (by omega) (by omega)
  have b:=zwL gd (by omega)
  have c:=znS (n:=(zdh (kd s i) (col g i)).length) (by omega)
  have e:(i+1)*g.length=i*g.length+g.length:=ydE i g.length;rw[zfR,zfS,e];simp only[yab];rw[hl]at a;generalize i*g.length=q at*;omega
def zmV {s:Sch} (hs:SchIs s) {n:Nat} (hn:1<=n) (hn2:n<=64): ∀ (m:Nat) (X:List (List Val)),(∀r∈X,zmK s r)->(zja s (cks n m X)).length+(zjy s (cks n m X)).length<=116*(s.fields.length*X.length)
 |0,_,_=>by simp[cks,zja,zjy]
 |_+1,[],_=>by simp[cks,zja,zjy]
 |m+1,x::xs,h=>by
  have ih:=zmV hs hn hn2 m ((x::xs).drop n) λr hr=>h r (ybQ hr)
  have hl1:((x::xs).take n).length=min n (xs.length+1):=by rw[yan,yad]
  have hc:=zmU hs (g:=(x::xs).take n) (λr hr=>h r (yaD hr)) (by omega) (by omega) s.fields.length (yaf _)
  have e1:zja s (cks n (m+1) (x::xs))=zeI s ((x::xs).take n) s.fields.length++zja s (cks n m ((x::xs).drop n)):=rfl;have e2:zjy s (cks n (m+1) (x::xs))=zgH s ((x::xs).take n) s.fields.length++zjy s (cks n m ((x::xs).drop n)):=rfl;have e3:s.fields.length*(x::xs).length=s.fields.length*((x::xs).take n).length+s.fields.length*((x::xs).drop n).length:=by
   rw[<- ycQ];congr 1;rw[yan,yaw];omega
  rw[e1,e2,e3,yab,yab];omega
def zur {fs:List Fld} (hf: ∀f∈fs,f.name.size<=16/\f.id<4294967296/\f.kind<256):(fs.flatMap zdT).length<=47*fs.length:=by
 induction fs with
 |nil=>simp
 |cons f r ih=>
  obtain⟨h1,h2,h3⟩:=hf f (by simp)
  have:=ih λg hg=>hf g (by simp[hg])
  have a:=zam (n:=f.id.toNat) (by omega)
  have b:=zam (n:=f.name.size) (by omega)
  have c:=zam (n:=f.kind.toNat) (by omega)
  have d:f.name.data.toList.length=f.name.size:=by simp
  have e:(zdT f).length<=47:=by
   unfold zdT zeO tx;simp only[yab,yad,yat];omega
  simp only[ya3,yab,yad];omega
def ziw {s:Sch} (hs:SchIs s) (h0:SchOk s) {X:List (List Val)} (hX:X.length<=60) (h: ∀r∈X,zmK s r) {n:Nat} (hn:1<=n) (hn2:n<=64):(zfn s X n).length<=65536:=by
 have a:=zmV hs hn hn2 X.length X h;have b:=zur (fs:=s.fields) λf hf=>⟨(hs.fld f hf).1,(h0.fld f hf).2.1,(h0.fld f hf).2.2.2.1⟩
 have c:=zam (n:=X.length) (by omega)
 have d:=zam (n:=n) (by omega)
 have e:(zhm s).length<=20:=by
  have:=zam (n:=s.id.toNat) (by have:=h0.id;omega)
  have:=zam (n:=s.fields.length) (by have:=hs.len;omega)
  simp only[zhm,yab];omega
 have f:s.fields.length*X.length<=8*60:=ybK hs.len hX;have:=hs.len;unfold zfn;rw[za4];simp only[zeP,zir,zhv,zic,le4,yab,yad,yat];omega
def zmW {s:Sch} (h0:SchOk s) (hc:zib s=0) {X:List (List Val)} (hX:X.length<=60) (hf:znM s X=0) (hi: ∀r∈X, ∀n,Val.whole n∈r->zai n) {n:Nat} (hn:1<=n) (hn2:n<=64):zcz s X n=(zfn s X n,0):=by
 have hs:=zdU hc;have hl:=ziw hs h0 hX (zjw hs hf hi) hn hn2;unfold zcz;rw[yag (yce hc),yag (by omega),yag (by omega),yag (yce hf),yaB,yag (by omega)]
end Go.Am.Ab
namespace Go.Am.Ab
open Go.Proofs
set_option maxHeartbeats 8000000
set_option maxRecDepth 4000
def zsR (s:Sch) (X:List (List Val)) (most:Nat):List (List Val):=(X.filter λr=>decide (fit s r=0)).take most
def zf2 (r:List Val):D:= .list (ce (r.map zac))
@[simp] def zAA (r:List Val):(zf2 r).cells=[zf2 r]:=rfl
def zpQ (s:Sch) (hso:s.fields.length<=100) (l:List (List Cel)) (hl: ∀r∈l, ∀c∈r,c.kind<256/\c.s.size<=9223372036854775807) (hn:l.length<=9223372036854775807) (hr: ∀r∈l,r.length<=9223372036854775807) (most:Nat) (hm:most<=1000):
 R 17 [.d s.d,.d (.list (zbr l)),.d (.int .i64 most)] []=some ([.arr 0 (zsR s (zlu l) most).length],[.arr 1 ((zsR s (zlu l) most).map zf2) 0]):=by
 have hf:=zun l hl hn hr;rw[<- zwF]at hf;have hXl:(zlu l).length<=300:=by simp[zlu,zw3];omega
 have hXr: ∀r∈zlu l,r.length<=20:=λr hr=>by
  obtain⟨q,hq,rfl⟩:=List.mem_map.1 hr;obtain⟨p,hp,rfl⟩:=List.mem_map.1 hq;simp;omega
 generalize zlu l=X at*;obtain⟨Z,hZ⟩: ∃Z,Z=zbr (X.map (·.map zac)):=⟨_,rfl⟩
 have hZl:Z.length=X.length:=by rw[hZ,yah,yah]
 rw[yah,<- hZ]at hf;have hfit: ∀r∈X,R 50 [.d s.d,.d (zf2 r)] []=some ([.d (.int .i64 (fit s r))],[]):=λr hr'=>zo9 s r (by omega) (by have:=hXr r hr';omega)
 have hZg: ∀ (i:Nat) (h:i<X.length),Z[i]? =some (zf2 X[i]):=λi h=>by rw[hZ,yaA,yaA,yao h];rfl
 clear hZ hXr hl;have hsd:s.d= .agg [.int .u32 s.id,.list (s.fields.map Fld.d)]:=rfl;rw[hsd]at hfit ⊢;generalize s.fields.map Fld.d=fl at*;generalize s.id=sid at*;refine rg b17 rfl ?_;intro T hT;simp -dsimp -implicitDefEqProofs (disch:=first|omega|assumption) [hf]
 generalize hz:zaj _ _ _ _ _ _=z;revert z;refine zaa (σ:=Nat × List (List Val)) (λx=>[(2,.d (.int .i64 most)),(3,.ptr 0 0),(7,.arr 1 x.2.length),(8,.arr 2 X.length),(9,.d (.int .i64 x.1))]) (λx=>[.box [.d (.int .u32 sid),.d (.list fl)],.arr 1 (x.2.map zf2) 0,.arr 1 Z 0]) (λx=>x.1<=X.length/\x.2.length<=most/\zsR s X most=(x.2++(X.drop x.1).filter λr=>decide (fit s r=0)).take most) (λx=>X.length - x.1) (0,[]) ?_ ?_ ?_
 ·exact⟨yai _,yai _,rfl⟩
 ·simp -dsimp -implicitDefEqProofs (disch:=first|omega|assumption)
 intro T' f hT' ⟨i,O⟩ ⟨h1,h2,h3⟩ ih;simp only at h1 h2 h3 ih
 by_cases hi:i<X.length
 ·by_cases ho:O.length<most
  ·obtain⟨r,hr1⟩: ∃r,X[i]=r:=⟨_,rfl⟩
   have hc:=hfit r (hr1 ▸ yam hi);have hZi:Z[i]'(by omega)=zf2 r:=by
    have:=hZg i hi;rw[yao (by omega),hr1]at this
    exact ya8 this
   have hZi2:i<Z.length:=by omega
   rw[yaC hi,hr1,yb1]at h3
   by_cases hq:fit s r=0
   ·rw[yaK hq,yaj rfl]at h3
    rw[hq]at hc;simp -dsimp -implicitDefEqProofs (disch:=first|omega|assumption) [hi,ho,hc,hZi,hZi2,hZl]
    refine ih (i+1,O++[r]) _ _ ⟨hi,by simp only[yab,ya5];omega,by rw[yal];exact h3⟩ (by simp only;omega) ?_
    simp -dsimp -implicitDefEqProofs (disch:=first|omega|assumption)
   ·rw[yaM hq,yag (by simp)]at h3
    simp -dsimp -implicitDefEqProofs (disch:=first|omega|assumption) [hi,ho,hc,hZi,hZi2,hZl,hq]
    refine ih (i+1,O) _ _ ⟨hi,h2,h3⟩ (by simp only;omega) ?_
    simp -dsimp -implicitDefEqProofs (disch:=first|omega|assumption)
  ·have e:zsR s X most=O:=by
    rw[h3,ybJ (by omega),yar (by omega)]
   subst hT';rw[e]at hT;simp -dsimp -implicitDefEqProofs (disch:=first|omega|assumption) [hi,ho]
   simpa -dsimp -implicitDefEqProofs (disch:=first|omega|assumption) using hT
 ·have e:zsR s X most=O:=by
   rw[h3,ybq (by omega),List.filter_nil,yaq,yar h2]
  subst hT';rw[e]at hT;simp -dsimp -implicitDefEqProofs (disch:=first|omega|assumption) [hi]
  simpa -dsimp -implicitDefEqProofs (disch:=first|omega|assumption) using hT
end Go.Am.Ab
namespace Go.Am.Ab
open Go.Proofs
set_option maxHeartbeats 16000000
set_option maxRecDepth 4000
def zwN {s:Sch} (hs:SchIs s) {l:List (List Cel)} (hl: ∀r∈l, ∀c∈r,c.kind<256/\zai c.n/\c.s.size<=9223372036854775807) (most:Nat):
 (zsR s (zlu l) most).length<=most/\znM s (zsR s (zlu l) most)=0/\(∀r∈zsR s (zlu l) most,r.length<=20)/\(∀r∈zsR s (zlu l) most, ∀n,Val.whole n∈r->zai n)/\ ∀r∈zsR s (zlu l) most,zmK s r:=by
 obtain⟨_,h2,h3,_⟩:=zAx hl;have hm: ∀r∈zsR s (zlu l) most,r∈zlu l/\fit s r=0:=λr hr=>by
  have:=List.mem_filter.1 (yaD hr);exact⟨this.1,yc9 this.2⟩
 have hA: ∀ {X:List (List Val)},(∀r∈X,fit s r=0)->znM s X=0:=λ{X} h=>by
  induction X with
  |nil=>rfl
  |cons x X ih=>
   unfold znM;rw[yaj (h x (by simp))]
   exact ih λr hr=>h r (by simp[hr])
 refine⟨by unfold zsR;rw[yan];omega,hA λr hr=>(hm r hr).2,λr hr=>h2 r (hm r hr).1,λr hr=>h3 r (hm r hr).1,λr hr=>zsA hs (hm r hr).2 (h3 r (hm r hr).1)⟩
def zpR {s:Sch} {r:List Val} (h:zmK s r):(r.map zac).map zat=r/\ ∀c∈r.map zac,c.kind<256/\c.s.size<=9223372036854775807:=by
 have hv: ∀v∈r, ∃k,zq3 k v:=λv hv=>by
  obtain⟨i,hi⟩:=ybt hv;have hlt:i<r.length:=lt_of_getElem? hi;rw[yao hlt,yaa]at hi;exact⟨_,by rw[<- hi,zkY hlt];exact h.2 i (by rw[<- h.1];exact hlt)⟩
 refine⟨?_,λc hc=> ?_⟩
 ·rw[yaL]
  conv=>rhs;rw[<- ycR r]
  refine yaX λv hv'=> ?_
  obtain⟨k,g⟩:=hv v hv';exact (zei g).2.1
 ·obtain⟨v,hv',rfl⟩:=List.mem_map.1 hc
  obtain⟨k,g⟩:=hv v hv';obtain⟨h1,h2,_,_,h5⟩:=zcn (zei g).1;exact⟨by omega,by omega⟩
def zpS {s:Sch} {W:List (List Val)} (hW:W.length<=1000) (h: ∀r∈W,zmK s r) (hl: ∀r∈W,r.length<=20):R 13 [.d (.list (W.map zf2))] []=some ([.arr 0 W.length],[.arr 1 (zaU W) 0]):=by
 have e:=zuo (W.map (·.map zac)) (λr hr=>by
  obtain⟨q,hq,rfl⟩:=List.mem_map.1 hr;exact⟨by rw[yah];have:=hl q hq;omega,(zpR (h q hq)).2⟩) (by rw[yah];omega)
 have e1:(W.map (·.map zac)).map (·.map zat)=W:=by
  rw[yaL]
  conv=>rhs;rw[<- ycR W]
  exact yaX λr hr=>(zpR (h r hr)).1
 have e2:zbr (W.map (·.map zac))=W.map zf2:=yaL
 rw[e1,e2,yah]at e;exact e
end Go.Am.Ab
namespace Go.Am.Ab
open Go.Proofs
set_option maxHeartbeats 16000000
set_option maxRecDepth 4000
def zD5 (x y:UInt8):zbs .xor .u8 (x.toNat:Int) (y.toNat:Int)=some (.int .u8 (((x ^^^ y).toNat:Nat):Int)):=by
 show some (D.int .u8 (IntKind.u8.wrap ((BitVec.ofInt 8 ((x.toNat:Nat):Int) ^^^ BitVec.ofInt 8 ((y.toNat:Nat):Int)).toNat)))=_
 have hx:=x.toNat_lt;have hy:=y.toNat_lt;have h1:(BitVec.ofInt 8 ((x.toNat:Nat):Int) ^^^ BitVec.ofInt 8 ((y.toNat:Nat):Int)).toNat=x.toNat ^^^ y.toNat:=by
  rw[yca,zaT,zaT,yaJ (by omega),yaJ (by omega)]
 have h2:x.toNat ^^^ y.toNat<256:=ydD (n:=8) (by omega) (by omega)
 have h3:(x ^^^ y).toNat=x.toNat ^^^ y.toNat:=by simp
 rw[h1,h3,zne (by omega) (by omega)]
def zhB (s:Sch) (hs:s.wf) (l:List (List Cel)) (hl: ∀r∈l, ∀c∈r,c.kind<256/\zai c.n/\c.s.size<=9223372036854775807) (hn:l.length<=9223372036854775807) (hr: ∀r∈l,r.length<=9223372036854775807)
 (n:Int) (hni:zai n) (at0:Int) (y:UInt8) (cut:Int):
 R 6 [.d s.d,.d (.list (zbr l)),.d (.int .i64 n),.d (.int .i64 at0),.d (.int .u8 y.toNat),.d (.int .i64 cut)] []=some ([.d (.bool true)],[]):=by
 have al:=zHE;have hg:=zmP s hs.2.2.1;cases hg2:zpK s with
 |true=>
  rw[hg2]at hg;obtain⟨sid,fs⟩:=s;simp only[Sch.d]at hg ⊢;refine rg b6 rfl ?_;intro T hT;simp -dsimp -implicitDefEqProofs (disch:=first|omega|assumption) [al,hg]
  simpa -dsimp -implicitDefEqProofs (disch:=first|omega|assumption) using hT
 |false=>
 rw[hg2]at hg;have h0:=zsK hs hg2;have hc:=zfa s h0.id.1 (λf hf=>by have:=(h0.fld f hf);omega) (by have:=h0.len;omega)
 by_cases hck:zib s=0
 case neg=>
  generalize zib s=e at*;obtain⟨sid,fs⟩:=s;simp only[Sch.d]at hg hc ⊢;refine rg b6 rfl ?_;intro T hT;simp -dsimp -implicitDefEqProofs (disch:=first|omega|assumption) [al,hg,hc,hck]
  simpa -dsimp -implicitDefEqProofs (disch:=first|omega|assumption) using hT
 rw[hck]at hc;have hsi:=zdU hck;obtain⟨w1,w2,w3,w4,w5⟩:=zwN hsi hl 40;have hf:R 17 [.d s.d,.d (.list (zbr l)),.d (.int .i64 40)] []=_:=zpQ s h0.len l (λr hr c hc=>⟨(hl r hr c hc).1,(hl r hr c hc).2.2⟩) hn hr 40 (by omega)
 generalize zsR s (zlu l) 40=W at*;have hv:=zpS (by omega) w5 w3
 have hN0:0<=IntKind.u64.wrap n:=by rw[zae];omega
 obtain⟨N,hN⟩:=yax hN0;obtain⟨g,hg1⟩: ∃g,g=1+N % 64:=⟨_,rfl⟩;have hgi:(1:Int)+(N:Int) % 64=g:=by omega
 have hw:=zgL s W g h0 (by omega) (λr hr=>by have:=w3 r hr;omega) w4
 rw[zmW h0 hck (by omega) w2 w4 (by omega) (by omega)]at hw
 simp only[WrR]at hw;have hfl:=ziw hsi h0 (by omega) w5 (n:=g) (by omega) (by omega)
 have hopen:zgF (zfn s W g)=some (zeP s W g):=zpq _;have htl:(zeP s W g).length<=65536:=by unfold zfn at hfl;rw[za4]at hfl;omega
 generalize zfn s W g=b at*;generalize zeP s W g=t at*;have hro:=zmC b (by omega)
 rw[hopen]at hro;simp only[zAk]at hro;have e1:(W.map zf2).length=W.length:=yah _;have e2:(zaU W).length=W.length:=yah _;generalize W.map zf2=Z at*;generalize zaU W=U at*;generalize W.length=m at*;have hco: ∀c:List UInt8,c.length<=65536->R 5 [B c,.d (.bool true)] []=some ([.d (.bool true)],[]):=λc hc=>ziv c true (by omega)
 obtain⟨sid,fs⟩:=s;simp only[Sch.d]at hg hc hf hw ⊢;clear hopen w2 w3 w4 w5 hl hr;have hgw:IntKind.i64.wrap ((N:Int) % 64)=(N:Int) % 64:=wI (by omega) (by omega)
 by_cases c1:0<=at0
 case neg=>
  by_cases c3:0<=cut
  case neg=>
   have ho:=hco t htl;refine rg b6 rfl ?_;intro T hT;simp -dsimp -implicitDefEqProofs (disch:=first|omega|assumption) [al,hg,hc,hf,hv,hN,hgw,hgi,hw,hro,e1,e2,c1,c3,ho]
   simpa -dsimp -implicitDefEqProofs (disch:=first|omega|assumption) using hT
  by_cases c4:cut<t.length
  case neg=>
   have ho:=hco t htl;refine rg b6 rfl ?_;intro T hT;simp -dsimp -implicitDefEqProofs (disch:=first|omega|assumption) [al,hg,hc,hf,hv,hN,hgw,hgi,hw,hro,e1,e2,c1,c3,c4,ho]
   simpa -dsimp -implicitDefEqProofs (disch:=first|omega|assumption) using hT
  obtain⟨k,rfl⟩: ∃k:Nat,cut=k:=⟨cut.toNat,by omega⟩
  have c5:k<t.length:=by omega
  obtain⟨q,hq⟩: ∃q,q=t.take k:=⟨_,rfl⟩;have hq':List.take k (bytes t)=bytes q:=by rw[hq];exact List.map_take.symm
  have ho:=hco q (by rw[hq,yan];omega)
  refine rg b6 rfl ?_;intro T hT;simp -dsimp -implicitDefEqProofs (disch:=first|omega|assumption) [al,hg,hc,hf,hv,hN,hgw,hgi,hw,hro,e1,e2,c1,c3,c4,c5,hq',ho]
  simpa -dsimp -implicitDefEqProofs (disch:=first|omega|assumption) using hT
 by_cases c2:at0<t.length
 case neg=>
  by_cases c3:0<=cut
  case neg=>
   have ho:=hco t htl;refine rg b6 rfl ?_;intro T hT;simp -dsimp -implicitDefEqProofs (disch:=first|omega|assumption) [al,hg,hc,hf,hv,hN,hgw,hgi,hw,hro,e1,e2,c1,c2,c3,ho]
   simpa -dsimp -implicitDefEqProofs (disch:=first|omega|assumption) using hT
  by_cases c4:cut<t.length
  case neg=>
   have ho:=hco t htl;refine rg b6 rfl ?_;intro T hT;simp -dsimp -implicitDefEqProofs (disch:=first|omega|assumption) [al,hg,hc,hf,hv,hN,hgw,hgi,hw,hro,e1,e2,c1,c2,c3,c4,ho]
   simpa -dsimp -implicitDefEqProofs (disch:=first|omega|assumption) using hT
  obtain⟨k,rfl⟩: ∃k:Nat,cut=k:=⟨cut.toNat,by omega⟩
  have c5:k<t.length:=by omega
  obtain⟨q,hq⟩: ∃q,q=t.take k:=⟨_,rfl⟩;have hq':List.take k (bytes t)=bytes q:=by rw[hq];exact List.map_take.symm
  have ho:=hco q (by rw[hq,yan];omega)
  refine rg b6 rfl ?_;intro T hT;simp -dsimp -implicitDefEqProofs (disch:=first|omega|assumption) [al,hg,hc,hf,hv,hN,hgw,hgi,hw,hro,e1,e2,c1,c2,c3,c4,c5,hq',ho]
  simpa -dsimp -implicitDefEqProofs (disch:=first|omega|assumption) using hT
 obtain⟨m0,rfl⟩: ∃m:Nat,at0=m:=⟨at0.toNat,by omega⟩
 have hm:m0<t.length:=by omega
 obtain⟨z,hz⟩: ∃z,z=t[m0] ^^^ y:=⟨_,rfl⟩;have hx8:zbs .xor .u8 (t[m0].toNat:Int) (y.toNat:Int)=some (.int .u8 ((z.toNat:Nat):Int)):=by rw[hz];exact zD5 _ _
 obtain⟨u,hu⟩: ∃u,u=t.set m0 z:=⟨_,rfl⟩;have hset:(List.map zbi t).set m0 (.int .u8 z.toNat)=List.map zbi u:=by rw[hu,yb0];simp
 have hul:u.length=t.length:=by rw[hu,ydx]
 by_cases c3:0<=cut
 case neg=>
  have ho:=hco u (by omega)
  refine rg b6 rfl ?_;intro T hT;simp -dsimp -implicitDefEqProofs (disch:=first|omega|assumption) [al,hg,hc,hf,hv,hN,hgw,hgi,hw,hro,e1,e2,c1,c2,hm,hx8,hset,hul,c3,ho]
  simpa -dsimp -implicitDefEqProofs (disch:=first|omega|assumption) using hT
 by_cases c4:cut<t.length
 case neg=>
  have ho:=hco u (by omega)
  refine rg b6 rfl ?_;intro T hT;simp -dsimp -implicitDefEqProofs (disch:=first|omega|assumption) [al,hg,hc,hf,hv,hN,hgw,hgi,hw,hro,e1,e2,c1,c2,hm,hx8,hset,hul,c3,c4,ho]
  simpa -dsimp -implicitDefEqProofs (disch:=first|omega|assumption) using hT
 obtain⟨k,rfl⟩: ∃k:Nat,cut=k:=⟨cut.toNat,by omega⟩
 have c5:k<t.length:=by omega
 obtain⟨q,hq⟩: ∃q,q=u.take k:=⟨_,rfl⟩;have hq':List.take k (bytes u)=bytes q:=by rw[hq];exact List.map_take.symm
 have ho:=hco q (by rw[hq,yan];omega)
 refine rg b6 rfl ?_;intro T hT;simp -dsimp -implicitDefEqProofs (disch:=first|omega|assumption) [al,hg,hc,hf,hv,hN,hgw,hgi,hw,hro,e1,e2,c1,c2,hm,hx8,hset,hul,c3,c4,c5,hq',ho]
 simpa -dsimp -implicitDefEqProofs (disch:=first|omega|assumption) using hT
end Go.Am.Ab
