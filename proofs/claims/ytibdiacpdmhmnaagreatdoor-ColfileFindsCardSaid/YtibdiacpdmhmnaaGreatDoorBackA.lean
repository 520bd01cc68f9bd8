/- Files of rows, read back. -/
import Derived.Test.YtibdiacpdmhmnaaGreatDoorParsing
import Derived.Test.YtibdiacpdmhmnaaGreatDoorFileC
import Derived.Test.YtibdiacpdmhmnaaGreatDoorOpenC
import Derived.Test.YtibdiacpdmhmnaaGreatDoorSpoilA
set_option linter.all false
namespace Go.Am.Ab
open Go.Proofs
set_option maxHeartbeats 4000000
def zhq {most n:Nat} (h:n<=most) (h2:n<18446744073709551616) (t:List UInt8):zeB most (put n++t,false)=(n,t,false):=by
 unfold zeB;simp only[zgk h2];rw[yac (by simp;omega)]
 simp
def zhr (l t:List UInt8):zfM l.length (l++t,false)=(t,false):=by
 unfold zfM;rw[yac (by simp)]
 simp
def zwF {k:Nat} {v:Val} (hk:v.kind=k) (h0:1<=k) (h1: ∀n,v= .whole n->zah n) (h2: ∀s,v= .text s->s.size<=64) (t:List UInt8):zkB k (zhm v++t,false)=(t,false):=by
 unfold zkB;cases v with
 |null=>simp only[Val.kind]at hk;omega
 |whole n=>
  simp only[Val.kind]at hk;rw[yag hk.symm];have:=h1 n rfl;simp only[zhm,zbe,zgk (zre this.1 this.2),ydG,ybm,ydc,ydn];exact zhr _ _
 |truth b=>
  simp only[Val.kind]at hk;rw[yac (by omega),yag hk.symm]
  exact zhr (zg9 b) t
 |text s=>
  simp only[Val.kind]at hk;have:=h2 s rfl;rw[yac (by omega),yac (by omega)]
  simp only[zhm,yan];rw[zhq this (by omega)]
  have:=zhr (tx s) t
  rwa [show (tx s).length=s.size by simp[tx]]at this
def zyH (k:Nat) (v:Val):Prop:=v.kind=k/\(∀n,v= .whole n->zah n)/\ ∀s,v= .text s->s.size<=64
def zr9 {k:Nat} {l:List Val} (g:zfL k l): ∃v w,(zaW l).mn=cellOf v/\(zaW l).mx=cellOf w/\((zaW l).has=true->zyH k v)/\((zaW l).has=true->(zaW l).high=true->zyH k w)/\(zaW l).nulls<=l.length:=by
 have hok:=zer (p:=zoS k) g l.length (yaj _);rw[yaW]at hok;unfold zaW;generalize l.foldl stp st0=x at*;have hn:=hok.nu;have hle:=hok.le;unfold zcG;split
 ·exact⟨.null,.null,rfl,rfl,(λh=>nomatch h),(λh=>nomatch h),hn⟩
 ·rename_i hh
  obtain⟨k1,p1,p2,k2⟩:=hle (by simpa using hh)
  have q1:zyH k x.le:=p1.resolve_left k2;have hk0:1<=x.le.kind:=by cases e:x.le <;> simp_all [Val.kind]
  have q2:zyH k x.mo:=p2.resolve_left λe=>by
   rw[e]at k1;have:x.le.kind<=0:=k1;omega
  split
  ·rename_i s hs
   rw[hs]at q1;have hk:k=3:=q1.1.symm;have sm: ∀u:ByteArray,u.size<=64->zyH k (.text u):=λu hu=>⟨by rw[hk];rfl,(λn e=>by cases e),λs e=>by cases e;exact hu⟩
   have f4:(frs s 4).size<=64:=ya4 (zm6 s 4) (q1.2.2 s rfl);split
   ·exact⟨.text noS,.null,rfl,rfl,λ_=>sm _ (yai _),(λ_ h=>nomatch h),hn⟩
   ·split
    ·exact⟨.text (frs s 4),.text (abv (zd2 x.mo) 4).1,rfl,rfl,λ_=>sm _ f4,λ_ _=>sm _ (ya4 (zpb _ 4) (by omega)),hn⟩
    ·exact⟨.text (frs s 4),.null,rfl,rfl,λ_=>sm _ f4,(λ_ h=>nomatch h),hn⟩
  ·exact⟨x.le,x.mo,rfl,rfl,λ_=>q1,λ_ _=>q2,hn⟩
def zwG {k:Nat} {l:List Val} (hk:1<=k) (g:zfL k l) (hn:l.length<=256) (t:List UInt8):ziX k (stB (zaW l)++t,false)=(t,false):=by
 obtain⟨v,w,h1,h2,h3,h4,h5⟩:=zr9 g;have hh:=zrW l;rw[<- zv9 h1 h2];unfold ziX zqu;rw[yan,zhq (by omega) (by omega)]
 simp only[ya9];generalize zaW l=x at*;have c1: ∀ (c:UInt8) (u:List UInt8),zfM 1 (c::u,false)=(u,false):=λc u=>zhr [c] u
 rw[c1];have e: ∀ (v:Val) (u:List UInt8),zyH k v->zkB k (zhm v++u,false)=(u,false):=λv u h=>zwF h.1 hk h.2.1 h.2.2 u
 by_cases a:x.has=true
 ·by_cases b:x.high=true
  ·simp only[a,b,ybk,zqD,and_self,yan]
   show zho k 8 3 _=_
   simp only[zho,Nat.reduceDiv,Nat.reduceMod,Nat.reduceLT,and_self,ybk,e v _ (h3 a),e w _ (h4 a b),ybx,false_and,ybd]
  ·simp only[a,b,ybk,zqD,and_false,yaD,ybd,yap,yan]
   show zho k 8 1 _=_
   simp only[zho,Nat.reduceDiv,Nat.reduceMod,Nat.reduceLT,and_self,ybk,e v _ (h3 a),ybx,false_and,ybd]
 ·simp only[a,yaD,ybd,false_and,zqD,yap,ybT]
  exact zkC _ _ _ _ λh=>absurd h.1 (by decide)
def zfJ {most n:Nat} (h:n<=most) (h2:n<18446744073709551616) (t:List UInt8):zdN most (put n++t,0)=(n,t,0):=by
 unfold zdN;simp only[zgk h2];rw[yac (by simp),yac (by simp),yac (by omega)]
 simp
def zwH (s:ByteArray) (t:List UInt8):zdz s.size (tx s++t,0)=(s,t,0):=by
 unfold zdz;have h:(tx s).length=s.size:=by simp[tx]
 rw[yac (by simp),yac (by simp[h])]
 simp only;rw[ycS h,ycT h]
def zt1 {f:Fld} (h:0<=f.id/\f.id<4294967296/\0<=f.kind/\f.kind<256/\f.name.size<=16) (t:List UInt8):zfN (zeX f++t,0)=(f,t,0):=by
 unfold zfN zeX;simp only[yan];rw[zfJ (by omega) (by omega)]
 simp only;rw[zfJ (by omega) (by omega)]
 simp only;rw[zwH];simp only;rw[zfJ (by omega) (by omega)]
 simp only;have hb:zg9 f.need=put (if f.need then 1 else 0):=by cases f.need <;> (simp only[zg9];rw[ziA (by decide)];rfl)
 rw[hb,zfJ (by split <;> omega) (by split <;> omega)]
 obtain⟨a,b,c,d⟩:=f;simp only at h ⊢;have e1:((a.toNat:Nat):Int)=a:=by omega
 have e2:((c.toNat:Nat):Int)=c:=by omega
 rw[e1,e2];cases d <;> simp
def zkJ: ∀ (fs:List Fld),(∀f∈fs,0<=f.id/\f.id<4294967296/\0<=f.kind/\f.kind<256/\f.name.size<=16)-> ∀ (t:List UInt8) (acc:List Fld),zdr fs.length (fs.flatMap zeX++t,0) acc=(acc++fs,t,0)
 |[],_,t,acc=>by simp[zdr]
 |f::fs,h,t,acc=>by
  simp only[yaf,zdr,ybk,ya5,yan];rw[zt1 (h f (by simp))]
  simp only;rw[zkJ fs (λg hg=>h g (by simp[hg]))]
  simp
def zqM {s:Sch} (h0:SchOk s) (h:zj6 s=0) (t:List UInt8):zcI (zmK s++t)=(s,t,0):=by
 have hs:=zfd h;unfold zcI zmK zk4;simp only[yan];have:=h0.id;have:=hs.len;rw[zfJ (by omega) (by omega)]
 simp only;rw[zfJ (by omega) (by omega)]
 simp only;rw[zkJ s.fields (λf hf=>by
  obtain⟨a,b,c,d,_⟩:=h0.fld f hf;exact⟨a,b,c,d,(hs.fld f hf).1⟩)]
 simp only[ybT,ybk];have e1:((s.id.toNat:Nat):Int)=s.id:=by omega
 rw[e1,show (⟨s.id,s.fields⟩:Sch)=s from rfl,yag h]
end Go.Am.Ab
namespace Go.Am.Ab
open Go.Proofs
set_option maxHeartbeats 4000000
def zmk {s:Sch} (hs:SchIs s) {g:List (List Val)} (hg: ∀r∈g,zfe s r) (hn:g.length<=64) (hl: ∀j,j<s.fields.length->(zez (kd s j) (col g j)).length<=65536) (t e:List UInt8):
 ∀ (js:List Nat),(∀j∈js,j<s.fields.length)-> ∀T:List (List Val),
  zgs g.length (js.map (kd s)) ((js.flatMap λj=>put (zez (kd s j) (col g j)).length++stB (zaW (col g j)))++t,false) ((js.flatMap λj=>zez (kd s j) (col g j))++e) T=some ((t,false),e,js.foldl (λT j=>zqF T (col g j)) T)
 |[],_,T=>rfl
 |j::js,h,T=>by
  have hj:=h j (by simp)
  have hk:=zyy hs hj;have gd:=zdb hg hj;have hc:(col g j).length=g.length:=by simp[col]
  have hlj:=hl j hj;simp only[yaV,ya5,yan,ybc];rw[zfF,zhq hlj (by omega)]
  simp only;rw[zwG hk.1 gd (by omega)]
  rw[yac (by simp),ycS rfl,ycT rfl,<- hc,zyq ⟨hk.1,hk.2.1⟩ gd (by omega)]
  simp only[ydG,ybm,ybd];rw[hc];exact zmk hs hg hn hl t e js (λi hi=>h i (by simp[hi])) _
def zpd {g:List (List Val)}: ∀ (n:Nat),(∀r∈g,n<=r.length)->(List.range n).foldl (λT j=>zqF T (col g j)) (List.replicate g.length [])=g.map (·.take n)
 |0,_=>by
  simp only[List.range_zero,List.foldl_nil,yd0];rw[List.map_const']
 |n+1,h=>by
  rw[ycX,yc4,zpd n λr hr=>by have:=h r hr;omega]
  simp only[ybc,List.foldl_nil,zqF,col];rw[List.zipWith_map];apply ybO
  ·simp
  ·intro i h1 h2
   simp only[List.getElem_zipWith,ybP];have hl:i<g.length:=by simpa using h2
   have:=h g[i] (yam _);rw[<- zdL (by omega),ya3]
def zwI {s:Sch} (hs:SchIs s) {g:List (List Val)} (hg: ∀r∈g,zfe s r) (hn:g.length<=64) (hl: ∀j,j<s.fields.length->(zez (kd s j) (col g j)).length<=65536) (t e:List UInt8):
 zgs g.length (s.fields.map (·.kind.toNat)) (zib s g s.fields.length++t,false) (zff s g s.fields.length++e) (List.replicate g.length [])=some ((t,false),e,g):=by
 have hk:s.fields.map (·.kind.toNat)=(List.range s.fields.length).map (kd s):=by
  apply ybO
  ·simp
  ·intro i h1 h2
   simp only[yah]at h1;simp only[ybP,List.getElem_range,zv6 h1]
 have:=zmk hs hg hn hl t e (List.range s.fields.length) (λj hj=>List.mem_range.1 hj) (List.replicate g.length [])
 rw[<- hk,zpd _ λr hr=>by rw[(hg r hr).1];exact yaj _]at this
 have e1:g.map (·.take s.fields.length)=g:=by
  conv=>rhs;rw[<- yc5 g]
  exact ya0 λr hr=>by rw[<- (hg r hr).1,yaW];rfl
 rw[e1]at this;exact this
def zml {s:Sch} (hs:SchIs s) {n:Nat} (h1:1<=n) (h2:n<=64) (t e:List UInt8): ∀ (f m:Nat) (X:List (List Val)) (acc:List (List Val)),X.length<=m->X.length<f->(∀r∈X,zfe s r)->
 (∀g∈cks n m X, ∀j,j<s.fields.length->(zez (kd s j) (col g j)).length<=65536)->
 ziY (s.fields.map (·.kind.toNat)) n f X.length (zo0 s (cks n m X)++t,false) (zk7 s (cks n m X)++e) acc=some (acc++X)
 |0,m,X,acc,_,hf,_,_=>by omega
 |f+1,m,X,acc,hm,hf,hX,hl=>by
  unfold ziY
  by_cases h0:X.length=0
  ·rw[yag h0,yaE h0,yap]
  ·rw[yac h0]
   obtain⟨m',hm',ec⟩:=zm8 (n:=n) hm (by omega) (by omega)
   rw[ec]at hl ⊢;have hX1: ∀r∈X.take n,zfe s r:=λr hr=>hX r (yaH hr)
   have hlen:(X.take n).length=min X.length n:=by rw[yaq];omega
   have:=zwI hs hX1 (by omega) (hl _ (by simp)) (zo0 s (cks n m' (X.drop n))++t) (zk7 s (cks n m' (X.drop n))++e)
   rw[hlen]at this;simp only[zo0,zk7,ya5,yan]at this ⊢;rw[this];simp only;have hd:X.length - min X.length n=(X.drop n).length:=by rw[yax];omega
   rw[hd];have ih:=zml hs h1 h2 t e f m' (X.drop n) (acc++X.take n) hm' (by rw[yax];omega) (λr hr=>hX r (ybF hr)) λg hg=>hl g (by simp[hg])
   simp only[zo0,zk7]at ih;rw[ih,yan,ybf]
def zpe {α β:Type} {l:List α} {x:α} (hx:x∈l) (f:α->List β):(f x).length<=(l.flatMap f).length:=by
 induction l with
 |nil=>simp at hx
 |cons y l ih=>
  rw[ya5,yae];rcases List.mem_cons.1 hx with rfl | hx
  ·omega
  ·have:=ih hx;omega
def zyI {n:Nat} (h:n<4294967296):zAS (le4 n)=n:=by
 unfold zAS le4;simp only[List.getD_cons_zero,ydp,ydB];omega
def zt2 {s:Sch} (h0:SchOk s) (h:zj6 s=0) {X:List (List Val)} (hX: ∀r∈X,zfe s r) (hl:X.length<=256) {n:Nat} (h1:1<=n) (h2:n<=64)
 (hb:(zif s X n).length<=65536):zne ((zie s X n).drop 3)=some (s,X,n):=by
 have hs:=zfd h;have hB:(zie s X n).length<=65536:=by unfold zif at hb;rw[zbR]at hb;omega
 have hB':(zk7 s (cks n X.length X)).length+(ziW s X n).length<=65536:=by
  simp only[zie,yaf,yae]at hB;omega
 have hcol: ∀g∈cks n X.length X, ∀j,j<s.fields.length->(zez (kd s j) (col g j)).length<=65536:=λg hg j hj=>by
  have a:(zff s g s.fields.length).length<=(zk7 s (cks n X.length X)).length:=by
   unfold zk7;exact zpe hg (λg=>zff s g s.fields.length)
  have b:(zez (kd s j) (col g j)).length<=(zff s g s.fields.length).length:=by
   unfold zff;exact zpe (List.mem_range.2 hj) (λj=>zez (kd s j) (col g j))
  omega
 have e3:(zie s X n).drop 3=(zk7 s (cks n X.length X)++ziW s X n)++le4 (ziW s X n).length:=by simp[zie]
 rw[e3];generalize hG:zk7 s (cks n X.length X)=Gb at*;generalize hF:ziW s X n=Fb at*;have l4:(le4 Fb.length).length=4:=rfl;unfold zne;rw[yac (by simp only[yae,l4];omega)]
 have et:((Gb++Fb)++le4 Fb.length).length - 4=(Gb++Fb).length:=by simp only[yae,l4];omega
 rw[et,ycS rfl,ycT rfl,zyI (by omega)]
 have em:(Gb++Fb).length - Fb.length=Gb.length:=by simp only[yae];omega
 rw[yac (by simp only[yae];omega)]
 simp only[em];rw[ycS rfl,ycT rfl,<- hF,ziW,zo1,yan,zqM h0 h];simp only[ydG,ybm,ybd,yan];rw[zhq hl (by omega)]
 simp only;rw[zhq h2 (by omega)]
 simp only;rw[yac (by simp;omega)]
 have:=zml hs h1 h2 [] [] 257 X.length X [] (yaj _) (by omega) hX hcol
 rw[yap,yap,hG]at this;rw[this];rfl
def zt3 {s:Sch} (h0:SchOk s) (h:zj6 s=0) {X:List (List Val)} (hX: ∀r∈X,zfe s r) (hl:X.length<=256) {n:Nat} (h1:1<=n) (h2:n<=64)
 (hw:zd4 s X n=(zif s X n,0)):zwx (zif s X n)= .inr (s,X,n):=by
 have hb:=zmf s X n;rw[hw]at hb;unfold zwx;rw[show zm5 (zif s X n)=some (zie s X n) from zvZ _]
 simp only;rw[yac (by simp[zie]),zt2 h0 h hX hl h1 h2 hb]
 simp only;rw[hw,yag ⟨rfl,rfl⟩]
end Go.Am.Ab
