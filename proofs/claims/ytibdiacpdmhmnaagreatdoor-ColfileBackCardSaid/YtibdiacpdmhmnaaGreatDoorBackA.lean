/- Files of rows, read back. -/
import Derived.Test.YtibdiacpdmhmnaaGreatDoorParsing
import Derived.Test.YtibdiacpdmhmnaaGreatDoorFileC
import Derived.Test.YtibdiacpdmhmnaaGreatDoorOpenC
import Derived.Test.YtibdiacpdmhmnaaGreatDoorSpoilA
set_option linter.all false
namespace Go.Am.Ab
open Go.Proofs
set_option maxHeartbeats 4000000
def zhC {most n:Nat} (h:n<=most) (h2:n<18446744073709551616) (t:List UInt8):zeM most (put n++t,false)=(n,t,false):=by
 unfold zeM;simp only[zgC h2];rw[yag (by simp;omega)]
 simp
def zhD (l t:List UInt8):zf0 l.length (l++t,false)=(t,false):=by
 unfold zf0;rw[yag (by simp)]
 simp
def zwO {k:Nat} {v:Val} (hk:v.kind=k) (h0:1<=k) (h1: ∀n,v= .whole n->zai n) (h2: ∀s,v= .text s->s.size<=64) (t:List UInt8):zkZ k (zfm v++t,false)=(t,false):=by
 unfold zkZ;cases v with
 |null=>simp only[Val.kind]at hk;omega
 |whole n=>
  simp only[Val.kind]at hk;rw[yaj hk.symm];have:=h1 n rfl;simp only[zfm,za1,zgC (zoN this.1 this.2),ydh,yba,ycC,yct];exact zhD _ _
 |truth b=>
  simp only[Val.kind]at hk;rw[yag (by omega),yaj hk.symm]
  exact zhD (zeO b) t
 |text s=>
  simp only[Val.kind]at hk;have:=h2 s rfl;rw[yag (by omega),yag (by omega)]
  simp only[zfm,yal];rw[zhC this (by omega)]
  have:=zhD (tx s) t
  rwa [show (tx s).length=s.size by simp[tx]]at this
def zBw (k:Nat) (v:Val):Prop:=v.kind=k/\(∀n,v= .whole n->zai n)/\ ∀s,v= .text s->s.size<=64
def zyv {k:Nat} {l:List Val} (g:zgh k l): ∃v w,(zaW l).mn=zac v/\(zaW l).mx=zac w/\((zaW l).has=true->zBw k v)/\((zaW l).has=true->(zaW l).high=true->zBw k w)/\(zaW l).nulls<=l.length:=by
 have hok:=zfP (p:=zq3 k) g l.length (yaf _);rw[yaQ]at hok;unfold zaW;generalize l.foldl stp st0=x at*;have hn:=hok.nu;have hle:=hok.le;unfold zdd;split
 ·exact⟨.null,.null,rfl,rfl,(λh=>nomatch h),(λh=>nomatch h),hn⟩
 ·rename_i hh
  obtain⟨k1,p1,p2,k2⟩:=hle (by simpa using hh)
  have q1:zBw k x.le:=p1.resolve_left k2;have hk0:1<=x.le.kind:=by cases e:x.le <;> simp_all [Val.kind]
  have q2:zBw k x.mo:=p2.resolve_left λe=>by
   rw[e]at k1;have:x.le.kind<=0:=k1;omega
  split
  ·rename_i s hs
   rw[hs]at q1;have hk:k=3:=q1.1.symm;have sm: ∀u:ByteArray,u.size<=64->zBw k (.text u):=λu hu=>⟨by rw[hk];rfl,(λn e=>by cases e),λs e=>by cases e;exact hu⟩
   have f4:(frs s 4).size<=64:=ybd (znJ s 4) (q1.2.2 s rfl);split
   ·exact⟨.text noS,.null,rfl,rfl,λ_=>sm _ (yai _),(λ_ h=>nomatch h),hn⟩
   ·split
    ·exact⟨.text (frs s 4),.text (abv (ziY x.mo) 4).1,rfl,rfl,λ_=>sm _ f4,λ_ _=>sm _ (ybd (zpP _ 4) (by omega)),hn⟩
    ·exact⟨.text (frs s 4),.null,rfl,rfl,λ_=>sm _ f4,(λ_ h=>nomatch h),hn⟩
  ·exact⟨x.le,x.mo,rfl,rfl,λ_=>q1,λ_ _=>q2,hn⟩
def zwP {k:Nat} {l:List Val} (hk:1<=k) (g:zgh k l) (hn:l.length<=256) (t:List UInt8):zjb k (stB (zaW l)++t,false)=(t,false):=by
 obtain⟨v,w,h1,h2,h3,h4,h5⟩:=zyv g;have hh:=znN l;rw[<- zsC h1 h2];unfold zjb zlr;rw[yal,zhC (by omega) (by omega)]
 simp only[yaV];generalize zaW l=x at*;have c1: ∀ (c:UInt8) (u:List UInt8),zf0 1 (c::u,false)=(u,false):=λc u=>zhD [c] u
 rw[c1];have e: ∀ (v:Val) (u:List UInt8),zBw k v->zkZ k (zfm v++u,false)=(u,false):=λv u h=>zwO h.1 hk h.2.1 h.2.2 u
 by_cases a:x.has=true
 ·by_cases b:x.high=true
  ·simp only[a,b,ya6,zra,and_self,yal]
   show zhx k 8 3 _=_
   simp only[zhx,Nat.reduceDiv,Nat.reduceMod,Nat.reduceLT,and_self,ya6,e v _ (h3 a),e w _ (h4 a b),ybG,false_and,yaY]
  ·simp only[a,b,ya6,zra,and_false,yau,yaY,yaq,yal]
   show zhx k 8 1 _=_
   simp only[zhx,Nat.reduceDiv,Nat.reduceMod,Nat.reduceLT,and_self,ya6,e v _ (h3 a),ybG,false_and,yaY]
 ·simp only[a,yau,yaY,false_and,zra,yaq,ybH]
  exact zk0 _ _ _ _ λh=>absurd h.1 (by decide)
def zfX {most n:Nat} (h:n<=most) (h2:n<18446744073709551616) (t:List UInt8):zdW most (put n++t,0)=(n,t,0):=by
 unfold zdW;simp only[zgC h2];rw[yag (by simp),yag (by simp),yag (by omega)]
 simp
def zwQ (s:ByteArray) (t:List UInt8):zdI s.size (tx s++t,0)=(s,t,0):=by
 unfold zdI;have h:(tx s).length=s.size:=by simp[tx]
 rw[yag (by simp),yag (by simp[h])]
 simp only;rw[ycX h,ycx h]
def zus {f:Fld} (h:0<=f.id/\f.id<4294967296/\0<=f.kind/\f.kind<256/\f.name.size<=16) (t:List UInt8):zf1 (zdT f++t,0)=(f,t,0):=by
 unfold zf1 zdT;simp only[yal];rw[zfX (by omega) (by omega)]
 simp only;rw[zfX (by omega) (by omega)]
 simp only;rw[zwQ];simp only;rw[zfX (by omega) (by omega)]
 simp only;have hb:zeO f.need=put (if f.need then 1 else 0):=by cases f.need <;> (simp only[zeO];rw[zgd (by decide)];rfl)
 rw[hb,zfX (by split <;> omega) (by split <;> omega)]
 obtain⟨a,b,c,d⟩:=f;simp only at h ⊢;have e1:((a.toNat:Nat):Int)=a:=by omega
 have e2:((c.toNat:Nat):Int)=c:=by omega
 rw[e1,e2];cases d <;> simp
def zk7: ∀ (fs:List Fld),(∀f∈fs,0<=f.id/\f.id<4294967296/\0<=f.kind/\f.kind<256/\f.name.size<=16)-> ∀ (t:List UInt8) (acc:List Fld),zdz fs.length (fs.flatMap zdT++t,0) acc=(acc++fs,t,0)
 |[],_,t,acc=>by simp[zdz]
 |f::fs,h,t,acc=>by
  simp only[yad,zdz,ya6,ya3,yal];rw[zus (h f (by simp))]
  simp only;rw[zk7 fs (λg hg=>h g (by simp[hg]))]
  simp
def zrp {s:Sch} (h0:SchOk s) (h:zib s=0) (t:List UInt8):zcR (zic s++t)=(s,t,0):=by
 have hs:=zdU h;unfold zcR zic zhm;simp only[yal];have:=h0.id;have:=hs.len;rw[zfX (by omega) (by omega)]
 simp only;rw[zfX (by omega) (by omega)]
 simp only;rw[zk7 s.fields (λf hf=>by
  obtain⟨a,b,c,d,_⟩:=h0.fld f hf;exact⟨a,b,c,d,(hs.fld f hf).1⟩)]
 simp only[ybH,ya6];have e1:((s.id.toNat:Nat):Int)=s.id:=by omega
 rw[e1,show (⟨s.id,s.fields⟩:Sch)=s from rfl,yaj h]
end Go.Am.Ab
namespace Go.Am.Ab
open Go.Proofs
set_option maxHeartbeats 4000000
def zmX {s:Sch} (hs:SchIs s) {g:List (List Val)} (hg: ∀r∈g,zmK s r) (hn:g.length<=64) (hl: ∀j,j<s.fields.length->(zdh (kd s j) (col g j)).length<=65536) (t e:List UInt8):
 ∀ (js:List Nat),(∀j∈js,j<s.fields.length)-> ∀T:List (List Val),
  zgJ g.length (js.map (kd s)) ((js.flatMap λj=>put (zdh (kd s j) (col g j)).length++stB (zaW (col g j)))++t,false) ((js.flatMap λj=>zdh (kd s j) (col g j))++e) T=some ((t,false),e,js.foldl (λT j=>zrc T (col g j)) T)
 |[],_,T=>rfl
 |j::js,h,T=>by
  have hj:=h j (by simp)
  have hk:=zwp hs hj;have gd:=zdn hg hj;have hc:(col g j).length=g.length:=by simp[col]
  have hlj:=hl j hj;simp only[yaO,ya3,yal,ya7];rw[zfU,zhC hlj (by omega)]
  simp only;rw[zwP hk.1 gd (by omega)]
  rw[yag (by simp),ycX rfl,ycx rfl,<- hc,zyo ⟨hk.1,hk.2.1⟩ gd (by omega)]
  simp only[ydh,yba,yaY];rw[hc];exact zmX hs hg hn hl t e js (λi hi=>h i (by simp[hi])) _
def zpT {g:List (List Val)}: ∀ (n:Nat),(∀r∈g,n<=r.length)->(List.range n).foldl (λT j=>zrc T (col g j)) (List.replicate g.length [])=g.map (·.take n)
 |0,_=>by
  simp only[List.range_zero,List.foldl_nil,yd4];rw[List.map_const']
 |n+1,h=>by
  rw[yc3,yci,zpT n λr hr=>by have:=h r hr;omega]
  simp only[ya7,List.foldl_nil,zrc,col];rw[List.zipWith_map];apply ycP
  ·simp
  ·intro i h1 h2
   simp only[List.getElem_zipWith,ybo];have hl:i<g.length:=by simpa using h2
   have:=h g[i] (yam _);rw[<- zkY (by omega),ybc]
def zwR {s:Sch} (hs:SchIs s) {g:List (List Val)} (hg: ∀r∈g,zmK s r) (hn:g.length<=64) (hl: ∀j,j<s.fields.length->(zdh (kd s j) (col g j)).length<=65536) (t e:List UInt8):
 zgJ g.length (s.fields.map (·.kind.toNat)) (zgH s g s.fields.length++t,false) (zeI s g s.fields.length++e) (List.replicate g.length [])=some ((t,false),e,g):=by
 have hk:s.fields.map (·.kind.toNat)=(List.range s.fields.length).map (kd s):=by
  apply ycP
  ·simp
  ·intro i h1 h2
   simp only[yah]at h1;simp only[ybo,List.getElem_range,zwo h1]
 have:=zmX hs hg hn hl t e (List.range s.fields.length) (λj hj=>List.mem_range.1 hj) (List.replicate g.length [])
 rw[<- hk,zpT _ λr hr=>by rw[(hg r hr).1];exact yaf _]at this
 have e1:g.map (·.take s.fields.length)=g:=by
  conv=>rhs;rw[<- ycR g]
  exact yaX λr hr=>by rw[<- (hg r hr).1,yaQ];rfl
 rw[e1]at this;exact this
def zmY {s:Sch} (hs:SchIs s) {n:Nat} (h1:1<=n) (h2:n<=64) (t e:List UInt8): ∀ (f m:Nat) (X:List (List Val)) (acc:List (List Val)),X.length<=m->X.length<f->(∀r∈X,zmK s r)->
 (∀g∈cks n m X, ∀j,j<s.fields.length->(zdh (kd s j) (col g j)).length<=65536)->
 zjc (s.fields.map (·.kind.toNat)) n f X.length (zjy s (cks n m X)++t,false) (zja s (cks n m X)++e) acc=some (acc++X)
 |0,m,X,acc,_,hf,_,_=>by omega
 |f+1,m,X,acc,hm,hf,hX,hl=>by
  unfold zjc
  by_cases h0:X.length=0
  ·rw[yaj h0,yaz h0,yaq]
  ·rw[yag h0]
   obtain⟨m',hm',ec⟩:=znL (n:=n) hm (by omega) (by omega)
   rw[ec]at hl ⊢;have hX1: ∀r∈X.take n,zmK s r:=λr hr=>hX r (yaD hr)
   have hlen:(X.take n).length=min X.length n:=by rw[yan];omega
   have:=zwR hs hX1 (by omega) (hl _ (by simp)) (zjy s (cks n m' (X.drop n))++t) (zja s (cks n m' (X.drop n))++e)
   rw[hlen]at this;simp only[zjy,zja,ya3,yal]at this ⊢;rw[this];simp only;have hd:X.length - min X.length n=(X.drop n).length:=by rw[yaw];omega
   rw[hd];have ih:=zmY hs h1 h2 t e f m' (X.drop n) (acc++X.take n) hm' (by rw[yaw];omega) (λr hr=>hX r (ybQ hr)) λg hg=>hl g (by simp[hg])
   simp only[zjy,zja]at ih;rw[ih,yal,ybm]
def zpU {α β:Type} {l:List α} {x:α} (hx:x∈l) (f:α->List β):(f x).length<=(l.flatMap f).length:=by
 induction l with
 |nil=>simp at hx
 |cons y l ih=>
  rw[ya3,yab];rcases List.mem_cons.1 hx with rfl | hx
  ·omega
  ·have:=ih hx;omega
def zyw {n:Nat} (h:n<4294967296):zAr (le4 n)=n:=by
 unfold zAr le4;simp only[List.getD_cons_zero,yds,UInt8.toNat_ofNat'];omega
def zut {s:Sch} (h0:SchOk s) (h:zib s=0) {X:List (List Val)} (hX: ∀r∈X,zmK s r) (hl:X.length<=256) {n:Nat} (h1:1<=n) (h2:n<=64)
 (hb:(zfn s X n).length<=65536):zls ((zeP s X n).drop 3)=some (s,X,n):=by
 have hs:=zdU h;have hB:(zeP s X n).length<=65536:=by unfold zfn at hb;rw[za4]at hb;omega
 have hB':(zja s (cks n X.length X)).length+(zir s X n).length<=65536:=by
  simp only[zeP,yad,yab]at hB;omega
 have hcol: ∀g∈cks n X.length X, ∀j,j<s.fields.length->(zdh (kd s j) (col g j)).length<=65536:=λg hg j hj=>by
  have a:(zeI s g s.fields.length).length<=(zja s (cks n X.length X)).length:=by
   unfold zja;exact zpU hg (λg=>zeI s g s.fields.length)
  have b:(zdh (kd s j) (col g j)).length<=(zeI s g s.fields.length).length:=by
   unfold zeI;exact zpU (List.mem_range.2 hj) (λj=>zdh (kd s j) (col g j))
  omega
 have e3:(zeP s X n).drop 3=(zja s (cks n X.length X)++zir s X n)++le4 (zir s X n).length:=by simp[zeP]
 rw[e3];generalize hG:zja s (cks n X.length X)=Gb at*;generalize hF:zir s X n=Fb at*;have l4:(le4 Fb.length).length=4:=rfl;unfold zls;rw[yag (by simp only[yab,l4];omega)]
 have et:((Gb++Fb)++le4 Fb.length).length - 4=(Gb++Fb).length:=by simp only[yab,l4];omega
 rw[et,ycX rfl,ycx rfl,zyw (by omega)]
 have em:(Gb++Fb).length - Fb.length=Gb.length:=by simp only[yab];omega
 rw[yag (by simp only[yab];omega)]
 simp only[em];rw[ycX rfl,ycx rfl,<- hF,zir,zhv,yal,zrp h0 h];simp only[ydh,yba,yaY,yal];rw[zhC hl (by omega)]
 simp only;rw[zhC h2 (by omega)]
 simp only;rw[yag (by simp;omega)]
 have:=zmY hs h1 h2 [] [] 257 X.length X [] (yaf _) (by omega) hX hcol
 rw[yaq,yaq,hG]at this;rw[this];rfl
def zuu {s:Sch} (h0:SchOk s) (h:zib s=0) {X:List (List Val)} (hX: ∀r∈X,zmK s r) (hl:X.length<=256) {n:Nat} (h1:1<=n) (h2:n<=64)
 (hw:zcz s X n=(zfn s X n,0)):zlv (zfn s X n)= .inr (s,X,n):=by
 have hb:=zmR s X n;rw[hw]at hb;unfold zlv;rw[show zgF (zfn s X n)=some (zeP s X n) from zpq _]
 simp only;rw[yag (by simp[zeP]),zut h0 h hX hl h1 h2 hb]
 simp only;rw[hw,yaj ⟨rfl,rfl⟩]
end Go.Am.Ab
