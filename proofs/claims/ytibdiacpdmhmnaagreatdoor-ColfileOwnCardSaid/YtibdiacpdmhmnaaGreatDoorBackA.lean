/- Files of rows, read back. -/
import Derived.Test.YtibdiacpdmhmnaaGreatDoorParsing
import Derived.Test.YtibdiacpdmhmnaaGreatDoorFileC
import Derived.Test.YtibdiacpdmhmnaaGreatDoorOpenC
import Derived.Test.YtibdiacpdmhmnaaGreatDoorSpoilA
set_option linter.all false
namespace Go.Am.Ab
open Go.Proofs
set_option maxHeartbeats 4000000
def zhl {most n:Nat} (h:n<=most) (h2:n<18446744073709551616) (t:List UInt8):zev most (put n++t,false)=(n,t,false):=by
 unfold zev;simp only[zga h2];rw[yaf (by simp;omega)]
 simp
def zhm (l t:List UInt8):zfG l.length (l++t,false)=(t,false):=by
 unfold zfG;rw[yaf (by simp)]
 simp
def zvU {k:Nat} {v:Val} (hk:v.kind=k) (h0:1<=k) (h1: ∀n,v= .whole n->zaf n) (h2: ∀s,v= .text s->s.size<=64) (t:List UInt8):zkn k (zhe v++t,false)=(t,false):=by
 unfold zkn;cases v with
 |null=>simp only[Val.kind]at hk;omega
 |whole n=>
  simp only[Val.kind]at hk;rw[yai hk.symm];have:=h1 n rfl;simp only[zhe,zbi,zga (zqJ this.1 this.2),ydT,ybr,ydA,Bool.or_false];exact zhm _ _
 |truth b=>
  simp only[Val.kind]at hk;rw[yaf (by omega),yai hk.symm]
  exact zhm (zha b) t
 |text s=>
  simp only[Val.kind]at hk;have:=h2 s rfl;rw[yaf (by omega),yaf (by omega)]
  simp only[zhe,yam];rw[zhl this (by omega)]
  have:=zhm (tx s) t
  rwa [show (tx s).length=s.size by simp[tx]]at this
def zBa (k:Nat) (v:Val):Prop:=v.kind=k/\(∀n,v= .whole n->zaf n)/\ ∀s,v= .text s->s.size<=64
def zxR {k:Nat} {l:List Val} (g:zgj k l): ∃v w,(za3 l).mn=zah v/\(za3 l).mx=zah w/\((za3 l).has=true->zBa k v)/\((za3 l).has=true->(za3 l).high=true->zBa k w)/\(za3 l).nulls<=l.length:=by
 have hok:=zg7 (p:=zpP k) g l.length (yag _);rw[ybf]at hok;unfold za3;generalize l.foldl stp st0=x at*;have hn:=hok.nu;have hle:=hok.le;unfold zeW;split
 ·exact⟨.null,.null,rfl,rfl,(λh=>nomatch h),(λh=>nomatch h),hn⟩
 ·rename_i hh
  obtain⟨k1,p1,p2,k2⟩:=hle (by simpa using hh)
  have q1:zBa k x.le:=p1.resolve_left k2;have hk0:1<=x.le.kind:=by cases e:x.le <;> simp_all [Val.kind]
  have q2:zBa k x.mo:=p2.resolve_left λe=>by
   rw[e]at k1;have:x.le.kind<=0:=k1;omega
  split
  ·rename_i s hs
   rw[hs]at q1;have hk:k=3:=q1.1.symm;have sm: ∀u:ByteArray,u.size<=64->zBa k (.text u):=λu hu=>⟨by rw[hk];rfl,(λn e=>by cases e),λs e=>by cases e;exact hu⟩
   have f4:(frs s 4).size<=64:=ybc (zmJ s 4) (q1.2.2 s rfl);split
   ·exact⟨.text noS,.null,rfl,rfl,λ_=>sm _ (yaj _),(λ_ h=>nomatch h),hn⟩
   ·split
    ·exact⟨.text (frs s 4),.text (abv (ziv x.mo) 4).1,rfl,rfl,λ_=>sm _ f4,λ_ _=>sm _ (ybc (zoI _ 4) (by omega)),hn⟩
    ·exact⟨.text (frs s 4),.null,rfl,rfl,λ_=>sm _ f4,(λ_ h=>nomatch h),hn⟩
  ·exact⟨x.le,x.mo,rfl,rfl,λ_=>q1,λ_ _=>q2,hn⟩
def zvV {k:Nat} {l:List Val} (hk:1<=k) (g:zgj k l) (hn:l.length<=256) (t:List UInt8):ziH k (stB (za3 l)++t,false)=(t,false):=by
 obtain⟨v,w,h1,h2,h3,h4,h5⟩:=zxR g;have hh:=zro l;rw[<- zvr h1 h2];unfold ziH zpT;rw[yam,zhl (by omega) (by omega)]
 simp only[ya4];generalize za3 l=x at*;have c1: ∀ (c:UInt8) (u:List UInt8),zfG 1 (c::u,false)=(u,false):=λc u=>zhm [c] u
 rw[c1];have e: ∀ (v:Val) (u:List UInt8),zBa k v->zkn k (zhe v++u,false)=(u,false):=λv u h=>zvU h.1 hk h.2.1 h.2.2 u
 by_cases a:x.has=true
 ·by_cases b:x.high=true
  ·simp only[a,b,ybm,zp1,and_self,yam]
   show zhh k 8 3 _=_
   simp only[zhh,Nat.reduceDiv,Nat.reduceMod,Nat.reduceLT,and_self,ybm,e v _ (h3 a),e w _ (h4 a b),ybv,false_and,ybg]
  ·simp only[a,b,ybm,zp1,and_false,yaD,ybg,yaq,yam]
   show zhh k 8 1 _=_
   simp only[zhh,Nat.reduceDiv,Nat.reduceMod,Nat.reduceLT,and_self,ybm,e v _ (h3 a),ybv,false_and,ybg]
 ·simp only[a,yaD,ybg,false_and,zp1,yaq,ybC]
  exact zko _ _ _ _ λh=>absurd h.1 (by decide)
def zfC {most n:Nat} (h:n<=most) (h2:n<18446744073709551616) (t:List UInt8):zdN most (put n++t,0)=(n,t,0):=by
 unfold zdN;simp only[zga h2];rw[yaf (by simp),yaf (by simp),yaf (by omega)]
 simp
def zvW (s:ByteArray) (t:List UInt8):zdw s.size (tx s++t,0)=(s,t,0):=by
 unfold zdw;have h:(tx s).length=s.size:=by simp[tx]
 rw[yaf (by simp),yaf (by simp[h])]
 simp only;rw[ycS h,ycT h]
def zti {f:Fld} (h:0<=f.id/\f.id<4294967296/\0<=f.kind/\f.kind<256/\f.name.size<=16) (t:List UInt8):zfH (zeY f++t,0)=(f,t,0):=by
 unfold zfH zeY;simp only[yam];rw[zfC (by omega) (by omega)]
 simp only;rw[zfC (by omega) (by omega)]
 simp only;rw[zvW];simp only;rw[zfC (by omega) (by omega)]
 simp only;have hb:zha f.need=put (if f.need then 1 else 0):=by cases f.need <;> (simp only[zha];rw[zik (by decide)];rfl)
 rw[hb,zfC (by split <;> omega) (by split <;> omega)]
 obtain⟨a,b,c,d⟩:=f;simp only at h ⊢;have e1:((a.toNat:Nat):Int)=a:=by omega
 have e2:((c.toNat:Nat):Int)=c:=by omega
 rw[e1,e2];cases d <;> simp
def zks: ∀ (fs:List Fld),(∀f∈fs,0<=f.id/\f.id<4294967296/\0<=f.kind/\f.kind<256/\f.name.size<=16)-> ∀ (t:List UInt8) (acc:List Fld),zdj fs.length (fs.flatMap zeY++t,0) acc=(acc++fs,t,0)
 |[],_,t,acc=>by simp[zdj]
 |f::fs,h,t,acc=>by
  simp only[yad,zdj,ybm,yaY,yam];rw[zti (h f (by simp))]
  simp only;rw[zks fs (λg hg=>h g (by simp[hg]))]
  simp
def zp8 {s:Sch} (h0:SchOk s) (h:zj7 s=0) (t:List UInt8):zcH (zmB s++t)=(s,t,0):=by
 have hs:=ze8 h;unfold zcH zmB zkM;simp only[yam];have:=h0.id;have:=hs.len;rw[zfC (by omega) (by omega)]
 simp only;rw[zfC (by omega) (by omega)]
 simp only;rw[zks s.fields (λf hf=>by
  obtain⟨a,b,c,d,_⟩:=h0.fld f hf;exact⟨a,b,c,d,(hs.fld f hf).1⟩)]
 simp only[ybC,ybm];have e1:((s.id.toNat:Nat):Int)=s.id:=by omega
 rw[e1,show (⟨s.id,s.fields⟩:Sch)=s from rfl,yai h]
end Go.Am.Ab
namespace Go.Am.Ab
open Go.Proofs
set_option maxHeartbeats 4000000
def zl4 {s:Sch} (hs:SchIs s) {g:List (List Val)} (hg: ∀r∈g,zlT s r) (hn:g.length<=64) (hl: ∀j,j<s.fields.length->(zeu (kd s j) (col g j)).length<=65536) (t e:List UInt8):
 ∀ (js:List Nat),(∀j∈js,j<s.fields.length)-> ∀T:List (List Val),
  zgh g.length (js.map (kd s)) ((js.flatMap λj=>put (zeu (kd s j) (col g j)).length++stB (za3 (col g j)))++t,false) ((js.flatMap λj=>zeu (kd s j) (col g j))++e) T=some ((t,false),e,js.foldl (λT j=>zp3 T (col g j)) T)
 |[],_,T=>rfl
 |j::js,h,T=>by
  have hj:=h j (by simp)
  have hk:=zxJ hs hj;have gd:=zfz hg hj;have hc:(col g j).length=g.length:=by simp[col]
  have hlj:=hl j hj;simp only[ya1,yaY,yam,yba];rw[zfB,zhl hlj (by omega)]
  simp only;rw[zvV hk.1 gd (by omega)]
  rw[yaf (by simp),ycS rfl,ycT rfl,<- hc,zxB ⟨hk.1,hk.2.1⟩ gd (by omega)]
  simp only[ydT,ybr,ybg];rw[hc];exact zl4 hs hg hn hl t e js (λi hi=>h i (by simp[hi])) _
def zoK {g:List (List Val)}: ∀ (n:Nat),(∀r∈g,n<=r.length)->(List.range n).foldl (λT j=>zp3 T (col g j)) (List.replicate g.length [])=g.map (·.take n)
 |0,_=>by
  simp only[List.range_zero,List.foldl_nil,yd1];rw[List.map_const']
 |n+1,h=>by
  rw[ycW,yc3,zoK n λr hr=>by have:=h r hr;omega]
  simp only[yba,List.foldl_nil,zp3,col];rw[List.zipWith_map];apply ycL
  ·simp
  ·intro i h1 h2
   simp only[List.getElem_zipWith,ybE];have hl:i<g.length:=by simpa using h2
   have:=h g[i] (yar _);rw[<- zmK (by omega),ybj]
def zvX {s:Sch} (hs:SchIs s) {g:List (List Val)} (hg: ∀r∈g,zlT s r) (hn:g.length<=64) (hl: ∀j,j<s.fields.length->(zeu (kd s j) (col g j)).length<=65536) (t e:List UInt8):
 zgh g.length (s.fields.map (·.kind.toNat)) (zh0 s g s.fields.length++t,false) (ze9 s g s.fields.length++e) (List.replicate g.length [])=some ((t,false),e,g):=by
 have hk:s.fields.map (·.kind.toNat)=(List.range s.fields.length).map (kd s):=by
  apply ycL
  ·simp
  ·intro i h1 h2
   simp only[yak]at h1;simp only[ybE,List.getElem_range,zvo h1]
 have:=zl4 hs hg hn hl t e (List.range s.fields.length) (λj hj=>List.mem_range.1 hj) (List.replicate g.length [])
 rw[<- hk,zoK _ λr hr=>by rw[(hg r hr).1];exact yag _]at this
 have e1:g.map (·.take s.fields.length)=g:=by
  conv=>rhs;rw[<- yc4 g]
  exact ya5 λr hr=>by rw[<- (hg r hr).1,ybf];rfl
 rw[e1]at this;exact this
def zl5 {s:Sch} (hs:SchIs s) {n:Nat} (h1:1<=n) (h2:n<=64) (t e:List UInt8): ∀ (f m:Nat) (X:List (List Val)) (acc:List (List Val)),X.length<=m->X.length<f->(∀r∈X,zlT s r)->
 (∀g∈cks n m X, ∀j,j<s.fields.length->(zeu (kd s j) (col g j)).length<=65536)->
 ziI (s.fields.map (·.kind.toNat)) n f X.length (zoy s (cks n m X)++t,false) (zkP s (cks n m X)++e) acc=some (acc++X)
 |0,m,X,acc,_,hf,_,_=>by omega
 |f+1,m,X,acc,hm,hf,hX,hl=>by
  unfold ziI
  by_cases h0:X.length=0
  ·rw[yai h0,yaL h0,yaq]
  ·rw[yaf h0]
   obtain⟨m',hm',ec⟩:=zrj (n:=n) hm (by omega) (by omega)
   rw[ec]at hl ⊢;have hX1: ∀r∈X.take n,zlT s r:=λr hr=>hX r (yaH hr)
   have hlen:(X.take n).length=min X.length n:=by rw[yat];omega
   have:=zvX hs hX1 (by omega) (hl _ (by simp)) (zoy s (cks n m' (X.drop n))++t) (zkP s (cks n m' (X.drop n))++e)
   rw[hlen]at this;simp only[zoy,zkP,yaY,yam]at this ⊢;rw[this];simp only;have hd:X.length - min X.length n=(X.drop n).length:=by rw[yay];omega
   rw[hd];have ih:=zl5 hs h1 h2 t e f m' (X.drop n) (acc++X.take n) hm' (by rw[yay];omega) (λr hr=>hX r (ybO hr)) λg hg=>hl g (by simp[hg])
   simp only[zoy,zkP]at ih;rw[ih,yam,ybk]
def zoL {α β:Type} {l:List α} {x:α} (hx:x∈l) (f:α->List β):(f x).length<=(l.flatMap f).length:=by
 induction l with
 |nil=>simp at hx
 |cons y l ih=>
  rw[yaY,yae];rcases List.mem_cons.1 hx with rfl | hx
  ·omega
  ·have:=ih hx;omega
def zxS {n:Nat} (h:n<4294967296):zz5 (le4 n)=n:=by
 unfold zz5 le4;simp only[List.getD_cons_zero,ydp,UInt8.toNat_ofNat'];omega
def ztj {s:Sch} (h0:SchOk s) (h:zj7 s=0) {X:List (List Val)} (hX: ∀r∈X,zlT s r) (hl:X.length<=256) {n:Nat} (h1:1<=n) (h2:n<=64)
 (hb:(zh4 s X n).length<=65536):zmP ((zh3 s X n).drop 3)=some (s,X,n):=by
 have hs:=ze8 h;have hB:(zh3 s X n).length<=65536:=by unfold zh4 at hb;rw[zbR]at hb;omega
 have hB':(zkP s (cks n X.length X)).length+(ziG s X n).length<=65536:=by
  simp only[zh3,yad,yae]at hB;omega
 have hcol: ∀g∈cks n X.length X, ∀j,j<s.fields.length->(zeu (kd s j) (col g j)).length<=65536:=λg hg j hj=>by
  have a:(ze9 s g s.fields.length).length<=(zkP s (cks n X.length X)).length:=by
   unfold zkP;exact zoL hg (λg=>ze9 s g s.fields.length)
  have b:(zeu (kd s j) (col g j)).length<=(ze9 s g s.fields.length).length:=by
   unfold ze9;exact zoL (List.mem_range.2 hj) (λj=>zeu (kd s j) (col g j))
  omega
 have e3:(zh3 s X n).drop 3=(zkP s (cks n X.length X)++ziG s X n)++le4 (ziG s X n).length:=by simp[zh3]
 rw[e3];generalize hG:zkP s (cks n X.length X)=Gb at*;generalize hF:ziG s X n=Fb at*;have l4:(le4 Fb.length).length=4:=rfl;unfold zmP;rw[yaf (by simp only[yae,l4];omega)]
 have et:((Gb++Fb)++le4 Fb.length).length - 4=(Gb++Fb).length:=by simp only[yae,l4];omega
 rw[et,ycS rfl,ycT rfl,zxS (by omega)]
 have em:(Gb++Fb).length - Fb.length=Gb.length:=by simp only[yae];omega
 rw[yaf (by simp only[yae];omega)]
 simp only[em];rw[ycS rfl,ycT rfl,<- hF,ziG,zoz,yam,zp8 h0 h];simp only[ydT,ybr,ybg,yam];rw[zhl hl (by omega)]
 simp only;rw[zhl h2 (by omega)]
 simp only;rw[yaf (by simp;omega)]
 have:=zl5 hs h1 h2 [] [] 257 X.length X [] (yag _) (by omega) hX hcol
 rw[yaq,yaq,hG]at this;rw[this];rfl
def ztk {s:Sch} (h0:SchOk s) (h:zj7 s=0) {X:List (List Val)} (hX: ∀r∈X,zlT s r) (hl:X.length<=256) {n:Nat} (h1:1<=n) (h2:n<=64)
 (hw:zd2 s X n=(zh4 s X n,0)):zvM (zh4 s X n)= .inr (s,X,n):=by
 have hb:=zlZ s X n;rw[hw]at hb;unfold zvM;rw[show zmI (zh4 s X n)=some (zh3 s X n) from zvh _]
 simp only;rw[yaf (by simp[zh3]),ztj h0 h hX hl h1 h2 hb]
 simp only;rw[hw,yai ⟨rfl,rfl⟩]
end Go.Am.Ab
