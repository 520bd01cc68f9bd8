/- Rows that are told: lists of their own. -/
import Derived.Test.YtibdiacpdmhmnaaGreatDoorOpenA
import Derived.Test.YtibdiacpdmhmnaaGreatDoorOpenC
import Derived.Test.YtibdiacpdmhmnaaGreatDoorSpoilA
import Derived.Test.YtibdiacpdmhmnaaGreatDoorBackB
set_option linter.all false
namespace Go.Am.Ab
open Go.Proofs
set_option maxHeartbeats 8000000
set_option maxRecDepth 4000
def ziY:List (List Val)->V
 |[]=> .nilS
 |r::X=> .clo 1000000000 (.arr 0 (X.length+1)::tcs 1 (r::X))
def zkv:List (List Val)->List Obj
 |[]=>[]
 |r::X=> .arr 1 (List.replicate (X.length+1) .nilM) (X.length+1)::(r::X).map zdl
def zry {T:List (List Val)} {h zav:List Obj} {o:Obj} (ho:o.ids=[]) (hr: ∀f:Nat->Option Nat,o.ren f=some o) (hh:h=o::(T.map zdl++zav)):
 zal [] (List.range (T.length+1))=List.range (T.length+1)/\za8 h (List.range (T.length+1))=List.range (T.length+1)/\(∀j,j<=T.length->zar (List.range (T.length+1)) j=some j)/\
  zax h (zar (List.range (T.length+1))) (List.range (T.length+1))=some (o::T.map zdl):=by
 have hn:(List.range (T.length+1)).Nodup:=ybT;have hg: ∀j,j<=T.length->h[j]? =(o::T.map zdl)[j]? :=λj hj=>by
  rw[hh,<- ya4,yan (by simp;omega)]
 have hget: ∀j,j<=T.length-> ∃o',h[j]? =some o'/\o'.ids=[]/\ ∀f:Nat->Option Nat,o'.ren f=some o':=λj hj=>by
  rw[hg j hj];cases j with
  |zero=>exact⟨o,rfl,ho,hr⟩
  |succ j=>
   have hj':j<T.length:=by omega
   exact⟨zdl T[j],by simp[hj'],rfl,λ_=>rfl⟩
 refine⟨by rw[zco _ _ hn (λi _=>by simp)];rfl, ?_,λj hj=>zbX hn (yaK (by omega)), ?_⟩
 ·refine zcP h _ _ _ λj id _ e=> ?_
  have hid:id<=T.length:=by
   have:=List.mem_range.1 (yao e);omega
  obtain⟨o',e1,e2,_⟩:=hget id hid;simp only[zb5,e1,e2]
 ·refine zcO (by simp) λj a b ha hb=> ?_
  have hj:j<T.length+1:=by
   have:=lt_of_getElem? ha;simpa using this
  rw[yaK hj]at ha;obtain rfl:=yaV ha;obtain⟨o',e1,_,e3⟩:=hget j (by omega)
  rw[hg j (by omega),hb]at e1
  obtain rfl:=yaV e1;rw[hg j (by omega),hb]
  exact e3 _
def zxU {T:List (List Val)} {keep:List (Nat × Nat)} {s s1:Slots} {h zav:List Obj} {o:Obj} (ho:o.ids=[]) (hr: ∀f:Nat->Option Nat,o.ren f=some o)
 (hh:h=o::(T.map zdl++zav)) (hk:zad s h keep=(s1,h)) (hi:(s1.flatMap λq=>q.2.ids)=List.range (T.length+1))
 (hs: ∀f:Nat->Option Nat,(∀j,j<=T.length->f j=some j)->zaw f s1=some s1):zew 0 keep s h=some (s1,o::T.map zdl):=by
 obtain⟨h0,hreach,hpl,htake⟩:=zry ho hr hh;unfold zew;rw[hk];simp only;rw[show List.range 0=[] from rfl,hi,h0,hreach,hs _ hpl,htake]
def zmR: ∀ (n:Nat) (T:List (List Val)),(tcs n T).flatMap V.ids0=List.range' n T.length
 |_,[]=>rfl
 |n,r::T=>by
  show _++(tcs (n+1) T).flatMap V.ids0=_
  rw[zmR (n+1) T];rfl
def zp9 (f:Nat->Option Nat): ∀ (n:Nat) (T:List (List Val)),(∀j,n<=j->j<n+T.length->f j=some j)->(tcs n T).mapM (V.ren0 f)=some (tcs n T)
 |_,[],_=>rfl
 |n,r::T,h=>by
  show (V.arr n r.length::tcs (n+1) T).mapM (V.ren0 f)=some (V.arr n r.length::tcs (n+1) T)
  rw[yaI,zp9 f (n+1) T λj h1 h2=>h j (by omega) (by simp only[yad];omega)]
  simp only[V.ren0,h n (yag _) (by simp),yaF]
  rfl
def zvY (r:List Val) (X:List (List Val)):(ziY (r::X)).ids=List.range ((r::X).length+1):=by
 show [0]++(tcs 1 (r::X)).flatMap V.ids0=_
 rw[zmR,yca,ydf];rfl
def zvZ (f:Nat->Option Nat) (r:List Val) (X:List (List Val)) (h: ∀j,j<=(r::X).length->f j=some j):V.ren2 f (ziY (r::X))=some (ziY (r::X)):=by
 show Option.map (V.clo 1000000000) ((V.arr 0 (X.length+1)::tcs 1 (r::X)).mapM (V.ren0 f))=_
 rw[yaI,zp9 f 1 (r::X) λj _ h2=>h j (by omega)]
 simp only[V.ren0,h 0 (yaj _),yaF];rfl
def ztn (P:Program) (ts:List TypeId) (r:List Val) (X:List (List Val)):zdn P 0 ts [ziY (r::X)] (zkv (r::X))=some ([ziY (r::X)],zkv (r::X)):=by
 obtain⟨h0,hreach,hpl,htake⟩:=zry (T:=r::X) (zav:=[]) (o:= .arr 1 (List.replicate (X.length+1) .nilM) (X.length+1)) rfl (λ_=>rfl) (h:=zkv (r::X)) (by rw[yaq];rfl)
 have hs:zhr P (zkv (r::X)) [ziY (r::X)] ts=([ziY (r::X)],zkv (r::X)):=rfl;unfold zdn;rw[hs];have hi:([ziY (r::X)].flatMap V.ids)=List.range ((r::X).length+1):=by
  rw[yaY,zvY,ydR,yaq]
 simp only;rw[show List.range 0=[] from rfl,hi,h0,hreach,htake]
 simp only[yaI,yck,zvZ _ r X hpl];rfl
def zxV {t0:List Val} {T0:List (List Val)} {s:Slots} {h zav:List Obj} {y a b:D} (hk:zad s h [(3,0),(6,0),(7,0),(8,0)]=([(3,ziY (t0::T0)),(6,.d y),(7,.d a),(8,.d b)],h))
 (hh:h= .arr 1 (List.replicate (T0.length+1) .nilM) (T0.length+1)::((t0::T0).map zdl++zav)):
 zew 0 [(3,0),(6,0),(7,0),(8,0)] s h=some ([(3,ziY (t0::T0)),(6,.d y),(7,.d a),(8,.d b)],zkv (t0::T0)):=by
 refine zxU (T:=t0::T0) rfl (λ_=>rfl) hh hk ?_ λf hf=> ?_
 ·show (ziY (t0::T0)).ids++([]++([]++([]++[])))=_
  rw[zvY];simp only[yaq]
 ·have h1:V.ren f (ziY (t0::T0))=some (ziY (t0::T0)):=zvZ f t0 T0 hf
  have hd: ∀x:D,V.ren f (.d x)=some (.d x):=λ_=>rfl
  unfold zaw;simp only[yaI,yck,h1,hd,yaF];rfl
def zAa (X:List (List Val)) (hX:X.length<=1000) (hr: ∀r∈X,r.length<=1000000) (x0:List Val) (X0:List (List Val)) (hc:X=x0::X0):R 76 [.d (.list (za6 X))] []=some ([ziY X],zkv X):=by
 obtain⟨Y,hY⟩: ∃Y,Y=za6 X:=⟨_,rfl⟩;have hYl:Y.length=X.length:=by rw[hY,yak]
 have hYg: ∀ (i:Nat) (h:i<X.length),Y[i]? =some (.list (vs X[i])):=λi h=>by rw[hY,yax,yal h];rfl
 rw[<- hY];clear hY;refine zt5 (rs:=[.tmp 2]) (ts:=[34]) Tryz.func76 rfl rfl rfl (by kernel_rfl) (by kernel_rfl) zw0 (by simp[Tryz.f76]) ?_
 intro T hT;simp -dsimp -implicitDefEqProofs (disch:=first|omega|assumption) [opM,zi3]
 generalize hz:zak _ _ _ _ _ _=z;revert z;refine zaa (σ:=List (List Val) × List (List Val)) (λx=>[(3,ziY x.1),(6,.d (.list Y)),(7,.d (.int .i64 X.length)),(8,.d (.int .i64 x.1.length))]) (λx=>zkv x.1) (λx=>X=x.1++x.2) (λx=>x.2.length) ([],X) ?_ ?_ ?_
 ·rfl
 ·simp -dsimp -implicitDefEqProofs (disch:=first|omega|assumption) [ziY,zkv,hYl]
 intro T' f hT' ⟨T,U⟩ hTU ih;simp only at hTU ih;cases U with
 |nil=>
  rw[yaq]at hTU;subst hT';have hlt: ¬ T.length<X.length:=by rw[hTU];omega
  have hTc:T=x0::X0:=by rw[<- hTU,hc]
  subst hTc;obtain rfl:=hTU;have hfin:=ztn Tryz.prog [34] x0 X0;generalize ziY (x0::X0)=tv at*;generalize zkv (x0::X0)=th at*;simp -dsimp -implicitDefEqProofs (disch:=first|omega|assumption) [opM,zi3,hlt,-znH]
  rw[hfin];exact hT
 |cons r U=>
  have hlt:T.length<X.length:=by rw[hTU];simp
  have hlt2:T.length<Y.length:=by omega
  have hYi:Y[T.length]= .list (vs r):=by
   have:=hYg T.length hlt;rw[yal hlt2]at this;rw[yaV this];congr 2;simp[hTU]
  have hrl:=hr r (by rw[hTU];simp)
  have hcl:=zp4 r (by omega)
  have hvl:(vs r).length=r.length:=yak _;have hro:zdl r= .arr 1 (vs r) 0:=rfl;generalize vs r=vr at*;cases T with
  |nil=>
   simp only[ziY,zkv,yav]at*;simp -dsimp -implicitDefEqProofs (disch:=first|omega|assumption) [opM,zi3,hlt,hlt2,hYi,hcl,hvl]
   refine ih ([r],U) _ _ (by simp[hTU]) (by simp) ?_
   simp -dsimp -implicitDefEqProofs (disch:=first|omega|assumption) [ziY,zkv,tcs,hro]
  |cons t0 T0=>
   have htl:(tcs 1 (t0::T0)).length=T0.length+1:=by rw[zaZ,yad]
   have hol:((t0::T0).map zdl).length=T0.length+1:=by simp
   have hend:ziY (t0::(T0++[r]))= .clo 1000000000 (.arr 0 (T0.length+1+1)::(tcs 1 (t0::T0)++[.arr (T0.length+2) r.length])):=by
    simp only[ziY,yae,ya2];rw[show t0::(T0++[r])=(t0::T0)++[r] from rfl,zvA,yad,yby 1 (T0.length+1)]
    rfl
   have hheap:Obj.arr 1 (List.replicate (T0.length+1) .nilM++[.nilM]) (T0.length+1+1)::((t0::T0).map zdl++[.arr 1 vr 0,.arr 1 [.nilM] 1])= .arr 1 (List.replicate ((T0++[r]).length+1) .nilM) ((T0++[r]).length+1)::((t0::(T0++[r])).map zdl++[.arr 1 [.nilM] 1]):=by
    rw[yae,ya2,ydm (n:=T0.length+1),<- hro,show t0::(T0++[r])=(t0::T0)++[r] from rfl,ybi]
    simp
   simp only[ziY,zkv,yad]at hlt hlt2 hYi ⊢;have hlt':(T0.length:Int)+1<X.length:=by omega
   generalize hO:(t0::T0).map zdl=O at htl hol hheap ⊢;generalize hC:tcs 1 (t0::T0)=C at htl hol hend ⊢;simp -dsimp -implicitDefEqProofs (disch:=first|omega|assumption) [opM,zi3,hlt,hlt',hlt2,hYi,hcl,hvl,htl,hol]
   refine ih (t0::(T0++[r]),U) _ _ (by simp[hTU]) (by simp) ?_
   refine zxV (zav:=[.arr 1 [.nilM] 1]) ?_ hheap;rw[hend];simp only[yad,yae,ya2];rfl
end Go.Am.Ab
namespace Go.Am.Ab
open Go.Proofs
set_option maxHeartbeats 8000000
set_option maxRecDepth 4000
def zkQ (o:Obj):Prop:=o.ids=[]/\ ∀f:Nat->Option Nat,o.ren f=some o
def zd5 (sz:Nat) (xs:List D) (wm:Nat):zkQ (.arr sz xs wm):=⟨rfl,λ_=>rfl⟩
def zfb (l:List D):zkQ (.box (l.map .d)):=by
 refine⟨?_,λf=> ?_⟩
 ·show (l.map V.d).flatMap V.ids1=[]
  rw[ycZ];intro x hx;obtain⟨y,_,rfl⟩:=List.mem_map.1 hx;rfl
 ·show (Option.map Obj.box ((l.map V.d).mapM (V.ren1 f)))=_
  rw[zcO (r:=l.map V.d) rfl λj a b ha hb=>by
   rw[ha]at hb;obtain rfl:=yaV hb;rw[yax]at ha;obtain⟨x,_,rfl⟩:=Option.map_eq_some_iff.1 ha;rfl]
  rfl
def zv0 {h zav:List Obj} {H:List Obj} (hf: ∀o∈H,zkQ o) (hh:h=H++zav):
 zal [] (List.range H.length)=List.range H.length/\za8 h (List.range H.length)=List.range H.length/\(∀j,j<H.length->zar (List.range H.length) j=some j)/\
  zax h (zar (List.range H.length)) (List.range H.length)=some H:=by
 have hn:(List.range H.length).Nodup:=ybT;have hg: ∀j,j<H.length->h[j]? =H[j]? :=λj hj=>by rw[hh,yan hj]
 refine⟨by rw[zco _ _ hn (λi _=>by simp)];rfl, ?_,λj hj=>zbX hn (yaK hj), ?_⟩
 ·refine zcP h _ _ _ λj id _ e=> ?_
  have hid:id<H.length:=List.mem_range.1 (yao e);have e1:=hg id hid;rw[yal hid]at e1;simp only[zb5,e1,(hf _ (yar hid)).1]
 ·refine zcO (by simp) λj a b ha hb=> ?_
  have hj:j<H.length:=by
   have:=lt_of_getElem? ha;simpa using this
  rw[yaK hj]at ha;obtain rfl:=yaV ha;rw[hg j hj,hb];exact (hf b (yao hb)).2 _
def zmV (k:Nat) (X:List (List Val)):V:= .clo 1000000000 (.arr k X.length::tcs (k+1) X)
def zyN (X:List (List Val)):Obj:= .arr 1 (List.replicate X.length .nilM) X.length
def zmS (k:Nat) (X:List (List Val)):(zmV k X).ids=List.range' k (X.length+1):=by
 show [k]++(tcs (k+1) X).flatMap V.ids0=_
 rw[zmR,ydf];rfl
def zxW (f:Nat->Option Nat) (k:Nat) (X:List (List Val)) (h: ∀j,k<=j->j<k+X.length+1->f j=some j):V.ren2 f (zmV k X)=some (zmV k X):=by
 show Option.map (V.clo 1000000000) ((V.arr k X.length::tcs (k+1) X).mapM (V.ren0 f))=_
 rw[yaI,zp9 f (k+1) X λj h1 h2=>h j (by omega) (by omega)]
 simp only[V.ren0,h k (yag _) (by omega),yaF]
 rfl
def zrz (m:Nat): ∀ (n:Nat) (X:List (List Val)),(tcs n X).mapM (V.ren0 (zd7 [] m))=some (tcs (m+n) X)
 |_,[]=>rfl
 |n,r::X=>by
  show (V.arr n r.length::tcs (n+1) X).mapM (V.ren0 (zd7 [] m))=some (V.arr (m+n) r.length::tcs (m+n+1) X)
  rw[yaI,zrz m (n+1) X];rfl
def zxX (m:Nat) (r:List Val) (X:List (List Val)):V.ren (zd7 [] m) (ziY (r::X))=some (zmV m (r::X)):=by
 show Option.map (V.clo 1000000000) ((V.arr 0 (X.length+1)::tcs 1 (r::X)).mapM (V.ren0 (zd7 [] m)))=_
 rw[yaI,zrz];rfl
def zv1 (f:Nat->Option Nat) (X:List (List Val)):(zkv X).mapM (Obj.ren f)=some (zkv X):=by
 refine zcO rfl λj a b ha hb=> ?_
 rw[ha]at hb;obtain rfl:=yaV hb;have:zkQ a:=by
  cases X with
  |nil=>simp[zkv]at ha
  |cons r X=>
   rcases List.mem_cons.1 (yao ha) with rfl | h
   ·exact zd5 _ _ _
   ·obtain⟨x,_,rfl⟩:=List.mem_map.1 h
    exact zd5 _ _ _
 exact this.2 f
def zh6 {α:Type} (l os:List α):zbk l [] os=l:=by cases os <;> rfl
def zv2 (k m:Nat):zal (List.range k) (List.range' k m)=List.range (k+m):=by
 rw[zco _ _ ycB λi hi=> ?_]
 ·have:= @List.range'_append_1 0 k m
  rw[yaO]at this;rw[yca,yca,this]
 ·rw[List.mem_range'_1]at hi
  rw[ydE];omega
def zqa {P:Program} {k:Nat} {ts:List TypeId} {H:List Obj} {v:V} (hf: ∀o∈H,zkQ o) (hs:zhr P H [v] ts=([v],H)) (hi:zal (List.range k) v.ids=List.range H.length)
 (hr: ∀f:Nat->Option Nat,(∀j,j<H.length->f j=some j)->V.ren2 f v=some v):zdn P k ts [v] H=some ([v],H):=by
 obtain⟨h0,hreach,hpl,htake⟩:=zv0 (zav:=[]) hf (yaq H).symm;unfold zdn;rw[hs];simp only[yaY,ydR,yaq];rw[hi,hreach,htake];simp only[yaI,yck,hr _ hpl];rfl
def zrA (X:List (List Val)): ∀o∈zyN X::X.map zdl,zkQ o:=λo ho=>by
 rcases List.mem_cons.1 ho with rfl | h
 ·exact zd5 _ _ _
 ·obtain⟨x,_,rfl⟩:=List.mem_map.1 h
  exact zd5 _ _ _
def zAb (a0 a1 gg st:D) (X:List (List Val)) (hX:X.length<=1000) (hr: ∀r∈X,r.length<=1000000) (x0:List Val) (X0:List (List Val)) (hc:X=x0::X0):
 R 27 [.ptr 0 0] [.box [.d a0,.d a1,.d (.list (za6 X)),.d gg,.d st]]=some ([zmV 1 X],.box [.d a0,.d a1,.d (.list (za6 X)),.d gg,.d st]::zyN X::X.map zdl):=by
 have h:=zAa X hX hr x0 X0 hc;subst hc;have hb:=zxX 1 x0 X0;have hbb:=zv1 (zd7 [] 1) (x0::X0);have hl:(za6 (x0::X0)).length=(x0::X0).length:=yak _;have hfin: ∀Y,zdn Tryz.prog 1 [34] [zmV 1 (x0::X0)] (.box [.d a0,.d a1,.d (.list Y),.d gg,.d st]::zkv (x0::X0))=some ([zmV 1 (x0::X0)],.box [.d a0,.d a1,.d (.list Y),.d gg,.d st]::zkv (x0::X0)):=λY=>by
  refine zqa (λo ho=> ?_) rfl ?_ λf hf=>zxW f 1 _ λj _ h2=>hf j (by simp only[zkv,yad,yak]at h2 ⊢;omega)
  ·rcases List.mem_cons.1 ho with rfl | h
   ·exact zfb [a0,a1,.list Y,gg,st]
   ·exact zrA (x0::X0) o h
  ·rw[zmS,zv2]
   congr 1;simp only[zkv,yad,yak];omega
 have hTO:zyN (x0::X0)::(x0::X0).map zdl=zkv (x0::X0):=rfl;rw[hTO];generalize za6 (x0::X0)=Y at*;generalize ziY (x0::X0)=tv at*;generalize zkv (x0::X0)=th at*;generalize zmV 1 (x0::X0)=tk at*;refine rg b27 rfl ?_;intro T hT;simp -dsimp -implicitDefEqProofs (disch:=first|omega|assumption) [h,hl,hb,hbb,zh6,-znH]
 rw[hfin];exact hT
end Go.Am.Ab
namespace Go.Am.Ab
open Go.Proofs
set_option maxHeartbeats 16000000
set_option maxRecDepth 4000
attribute [local simp] ztz zgn zkU za9 V.isOwn
def zto (X:List (List Val)):zdb (za6 X)=true:=by
 refine zfj _ (λr=> ?_) X
 exact zjH _ (λv=>by cases v <;> rfl) (λv=>by cases v <;> rfl) r
def ztp (fs:List Fld):zdb (fs.map Fld.d)=true/\zi0 (fs.map Fld.d)=true:=by
 have h:=zjH Fld.d (λ_=>rfl) (λ_=>rfl) fs
 simpa[and_comm]using h
def zqb (n:Nat) (l:List (List (List Val))):zdb (l.map (zdx n))=true:=by
 refine zfj _ (λg=> ?_) l
 exact zjH _ (λj=>rfl) (λj=>rfl) (List.range n)
def zrB {H h:List Obj} {I:List Nat} {keep:List (Nat × Nat)} {s s1 s2:Slots} (hn:I.Nodup) (hk:zad s h keep=(s1,h)) (hI:(s1.flatMap λq=>q.2.ids)=I)
 (hl:I.length=H.length) (hs: ∀ (k id:Nat),I[k]? =some id->h[id]? =H[k]?) (hf: ∀o∈H,zkQ o) (hr:zaw (zar I) s1=some s2):zew 0 keep s h=some (s2,H):=by
 have hget: ∀ (k id:Nat),I[k]? =some id-> ∃o,h[id]? =some o/\H[k]? =some o/\zkQ o:=λk id e=>by
  have hk:k<H.length:=by have:=lt_of_getElem? e;omega
  exact⟨H[k],by rw[hs k id e,yal hk],yal hk,hf _ (yar hk)⟩
 have h0:zal [] I=I:=by rw[zco _ _ hn (λi _=>by simp)];rfl
 have h1:za8 h I=I:=zcP h _ _ _ λj id _ e=>by
  obtain⟨o,e1,_,e3⟩:=hget j id e;simp only[zb5,e1,e3.1]
 have h2:zax h (zar I) I=some H:=zcO hl λj a b ha hb=>by
  obtain⟨o,e1,e2,e3⟩:=hget j a ha;rw[hb]at e2;cases e2;rw[e1];exact e3.2 _
 unfold zew;rw[hk];simp only;rw[show List.range 0=[] from rfl,hI,h0,h1,hr,h2]
def zhn (f:Nat->Option Nat) (k k2:Nat) (X:List (List Val)) (h: ∀j,j<X.length+1->f (k+j)=some (k2+j)):V.ren f (zmV k X)=some (zmV k2 X):=by
 have ht: ∀ (n n2:Nat) (X:List (List Val)),(∀j,j<X.length->f (n+j)=some (n2+j))->(tcs n X).mapM (V.ren0 f)=some (tcs n2 X):=λn n2 X h=>by
  refine zcO (by rw[zaZ,zaZ]) λj a b ha hb=> ?_
  rw[zgf]at ha hb;cases e:X[j]? with
  |none=>rw[e]at ha;cases ha
  |some r=>
   rw[e]at ha hb;cases ha;cases hb;simp only[V.ren0,h j (lt_of_getElem? e),yaF]
 show Option.map (V.clo 1000000000) ((V.arr k X.length::tcs (k+1) X).mapM (V.ren0 f))=_
 rw[yaI,ht (k+1) (k2+1) X λj hj=>by
  have:=h (j+1) (by omega)
  rw[show k+1+j=k+(j+1) by omega,show k2+1+j=k2+(j+1) by omega];exact this]
 simp only[V.ren0,show f k=some k2 from h 0 (by omega),yaF]
 rfl
def zxY:R 76 [.d (.list [])] []=some ([.arr 0 0],[.arr 1 [] 0]):=by
 refine zt5 (rs:=[.tmp 2]) (ts:=[34]) Tryz.func76 rfl rfl rfl (by kernel_rfl) (by kernel_rfl) zw0 (by simp[Tryz.f76]) ?_
 intro T hT;simp -dsimp -implicitDefEqProofs (disch:=first|omega|assumption) [opM,zi3]
 generalize hz:zak _ _ _ _ _ _=z;revert z;refine zaa (σ:=Nat) (λ_=>[(3,.nilS),(6,.d (.list [])),(7,.d (.int .i64 0)),(8,.d (.int .i64 0))]) (λ_=>[]) (λ_=>True) (λ_=>0) 0 ?_ ?_ ?_
 ·trivial
 ·simp -dsimp -implicitDefEqProofs (disch:=first|omega|assumption)
 intro T' f hT' i hi ih;subst hT';simp -dsimp -implicitDefEqProofs (disch:=first|omega|assumption) [opM,zi3]
 simpa -dsimp -implicitDefEqProofs (disch:=first|omega|assumption) using hT
def zxZ (a0 a1 gg st:D):R 27 [.ptr 0 0] [.box [.d a0,.d a1,.d (.list []),.d gg,.d st]]=some ([.arr 1 0],[.box [.d a0,.d a1,.d (.list []),.d gg,.d st],.arr 1 [] 0]):=by
 have h:=zxY;refine rg b27 rfl ?_;intro T hT;simp -dsimp -implicitDefEqProofs (disch:=first|omega|assumption) [h]
 simpa -dsimp -implicitDefEqProofs (disch:=first|omega|assumption) using hT
def zc9: ∀ (H H':List Obj),(∀o∈H, ∀cs,o≠ .box cs)->zas H H'
 |[],_,_=>trivial
 |o::H,[],hb=>by
  have h1:=hb o (by simp)
  have h2:=zc9 H [] λo ho=>hb o (by simp[ho])
  cases o <;> first | exact h2 | exact absurd rfl (h1 _)
 |o::H,o'::H',hb=>by
  have h1:=hb o (by simp)
  have h2:=zc9 H H' λo ho=>hb o (by simp[ho])
  cases o <;> first | exact h2 | exact absurd rfl (h1 _)
def oO (l:List D):Obj:= .arr 1 l 0
def zkt (s:Sch) (hs:s.wf) (l:List (List Cel)) (hl: ∀r∈l, ∀c∈r,c.kind<256/\zaf c.n/\c.s.size<=9223372036854775807) (hn:l.length<=9223372036854775807) (hr: ∀r∈l,r.length<=9223372036854775807):
 R 7 [.d s.d,.d (.list (zdL l))] []=some ([.d (.bool true)],[]):=by
 have al:=zI2;have hg:=zs7 s hs.2.2.1;cases hg2:zpZ s with
 |true=>
  rw[hg2]at hg;obtain⟨sid,fs⟩:=s;simp only[Sch.d]at hg ⊢;refine rg b7 rfl ?_;intro T hT;simp -dsimp -implicitDefEqProofs (disch:=first|omega|assumption) [al,hg]
  simpa -dsimp -implicitDefEqProofs (disch:=first|omega|assumption) using hT
 |false=>
 rw[hg2]at hg;have h0:=zxO hs hg2;have hc:=zoe s h0.id.1 (λf hf=>by have:=(h0.fld f hf);omega) (by have:=h0.len;omega)
 by_cases hck:zj7 s=0
 case neg=>
  generalize zj7 s=e at*;obtain⟨sid,fs⟩:=s;simp only[Sch.d]at hg hc ⊢;refine rg b7 rfl ?_;intro T hT;simp -dsimp -implicitDefEqProofs (disch:=first|omega|assumption) [al,hg,hc,hck]
  simpa -dsimp -implicitDefEqProofs (disch:=first|omega|assumption) using hT
 rw[hck]at hc;have hsi:=ze8 hck;obtain⟨w1,w2,w3,w4,w5⟩:=zz9 hsi hl 20;have hf:R 17 [.d s.d,.d (.list (zdL l)),.d (.int .i64 20)] []=_:=zvS s h0.len l (λr hr c hc=>⟨(hl r hr c hc).1,(hl r hr c hc).2.2⟩) hn hr 20 (by omega)
 generalize zth s (zlW l) 20=W at*;have hv:=zvT (by omega) w5 w3
 have hw:R 12 [.d s.d,.d (.list (za6 W)),.d (.int .i64 4)] []=_:=zkl s W (4:Nat) h0 (by omega) (λr hr=>by have:=w3 r hr;omega) w4
 have hwf:=ztg h0 hck (by omega) w2 w4 (n:=4) (by omega) (by omega)
 rw[hwf]at hw;simp only[WrR]at hw;have hfl:=zl3 hsi h0 (by omega) w5 (n:=4) (by omega) (by omega)
 have ho:=ztd (zh4 s W 4) (by omega)
 rw[ztk h0 hck w5 (by omega) (by omega) (by omega) hwf]at ho
 generalize zh4 s W 4=b at*;have hrl: ∀r∈W,r.length<=1000000:=λr hr=>by have:=w3 r hr;omega
 have hsch:=λx st=>zoE s (by have:=hsi.len;omega) x (.int .i64 4) st
 have his:=zxT W (by omega) hrl
 have hsm:=ztm s (by have:=hsi.len;omega)
 have e0:zdL (W.map (·.map zah))=W.map ziK:=ya3
 rw[e0]at his;have e1:(W.map ziK).length=W.length:=yak _;have e2:(za6 W).length=W.length:=yak _;have e3:(s.fields.map Fld.d).length=s.fields.length:=yak _;have hf0:ziJ (.inr (s,W,4))=[.ptr 0 0,E 0]:=rfl;rw[hf0]at ho;have hfc:=ztp s.fields;have hUc:=zto W;have hSc:=zqb s.fields.length (cks 4 W.length W);have hone:=hsi.one;rcases W with _ | ⟨w0,W0⟩
 ·have hHH:zhk (.inr (s,[],4))=[.box [.d (.int .u32 s.id),.d (.list (s.fields.map Fld.d)),.nilS,.d (.int .i64 (4:Nat)),.nilS]]:=rfl
  rw[hHH]at ho;have hall:=λst=>zxZ (.int .u32 s.id) (.list (s.fields.map Fld.d)) (.int .i64 4) st
  clear hHH hl hr hck h0 w2 w4 hwf hf0 e0;obtain⟨sid,fs⟩:=s;simp only[Sch.d]at hg hc hf hw hsch hsm hall e3 ho hfc hone ⊢;generalize hflE:fs.map Fld.d=fl at*;generalize hnf:fs.length=nf at*;replace hv:R 13 [.d (.list [])] []=some ([.arr 0 0],[.arr 1 [] 0]):=hv;replace hw:R 12 [.d (.agg [.int .u32 sid,.list fl]),.d (.list []),.d (.int .i64 4)] []=_:=hw;replace his:R 23 [.d (.list []),.d (.list [])] []=some ([.d (.bool true)],[]):=his;refine rg b7 rfl ?_;intro T hT;simp -dsimp -implicitDefEqProofs (disch:=first|omega|assumption) [al,hg,hc,hf,hv,hw,ho,his,e3,hfc,E]
  generalize hz:zak _ _ _ _ _ _=z;revert z;refine zaa (σ:=Nat × List UInt8) (λz=>[(2,.ptr 0 0),(5,.d (.list [])),(7,.arr 1 b.length),(9,.ptr 2 0),(11,.d (.int .i64 z.1))]) (λz=>[.box [.d (.int .u32 sid),.d (.list fl)],.arr 1 (bytes z.2) 0,.box [.d (.int .u32 sid),.d (.list fl),.d (.list []),.d (.int .i64 4),.d (.list [])]]) (λz=>z.1<=b.length/\z.2.length=b.length) (λz=>b.length - z.1) (0,b) ?_ ?_ ?_
  ·exact⟨yaj _,rfl⟩
  ·simp -dsimp -implicitDefEqProofs (disch:=first|omega|assumption)
  intro T2 f2 hT2 ⟨j,bj⟩ ⟨hj,hbl⟩ ih2;simp only at hj hbl ih2
  by_cases h2:j<b.length
  ·have hjb:j<bj.length:=by omega
   have hset:(List.map zbT bj).set j (.int .u8 (((bj[j].toNat:Int)+1) % 256))=List.map zbT (bj.set j (bj[j]+1)):=by
    rw[ybY];congr 1
   simp -dsimp -implicitDefEqProofs (disch:=first|omega|assumption) [h2,hjb,hbl,hset,-List.map_set]
   exact ih2 (j+1,bj.set j (bj[j]+1)) _ _ ⟨h2,by rw[ycu];exact hbl⟩ (by simp only;omega) (by simp -dsimp -implicitDefEqProofs (disch:=first|omega|assumption) [-List.map_set])
  obtain rfl:j=b.length:=by omega
  subst hT2;clear ih2;simp -dsimp -implicitDefEqProofs (disch:=first|omega|assumption) [hall]
  generalize hz:zak _ _ _ _ _ _=z;revert z;refine zaa (σ:=Nat) (λ_=>[(2,.ptr 0 0),(5,.d (.list [])),(9,.ptr 1 0),(12,.arr 2 0),(13,.d (.int .i64 0))]) (λ_=>[.box [.d (.int .u32 sid),.d (.list fl)],.box [.d (.int .u32 sid),.d (.list fl),.d (.list []),.d (.int .i64 4),.d (.list [])],.arr 1 [] 0]) (λ_=>True) (λ_=>0) 0 ?_ ?_ ?_
  ·trivial
  ·simp -dsimp -implicitDefEqProofs (disch:=first|omega|assumption)
  intro T3 f3 hT3 i hi ih3;subst hT3;clear ih3;obtain⟨c0,c1,c2,c3,fl',rfl⟩: ∃c0 c1 c2 c3 fl',fl= .agg [c0,c1,c2,c3]::fl':=by
   rcases fs with _ | ⟨f0,fs⟩
   ·rw[yav]at hnf;omega
   ·exact⟨_,_,_,_,_,hflE.symm⟩
  simp only[yad]at e3;simp -dsimp -implicitDefEqProofs (disch:=first|omega|assumption) [hsch,hall,his,hsm,e3]
  exact hT
 have hHH:zhk (.inr (s,w0::W0,4))=[.box [.d (.int .u32 s.id),.d (.list (s.fields.map Fld.d)),.arr 1 (w0::W0).length,.d (.int .i64 (4:Nat)),.arr 2 ((cks 4 (w0::W0).length (w0::W0)).map (zdx s.fields.length)).length],.arr 1 (za6 (w0::W0)) (w0::W0).length,.arr 1 ((cks 4 (w0::W0).length (w0::W0)).map (zdx s.fields.length)) 0]:=by rw[yak];rfl
 rw[hHH]at ho;generalize hWe:w0::W0=W at*;have hall:=λst=>zAb (.int .u32 s.id) (.list (s.fields.map Fld.d)) (.int .i64 4) st W (by omega) hrl w0 W0 hWe.symm
 clear hHH hl hr hck h0 w2 w4 hwf hf0 e0;obtain⟨sid,fs⟩:=s;simp only[Sch.d]at hg hc hf hw hsch hsm hall e3 ho hfc hSc hone ⊢;generalize hflE:fs.map Fld.d=fl at*;generalize hnf:fs.length=nf at*;generalize (cks 4 W.length W).map (zdx nf)=ST at*;generalize hZ:W.map ziK=Z at*;generalize hU:za6 W=U at*;generalize hm:W.length=m at*;refine rg b7 rfl ?_;intro T hT;simp -dsimp -implicitDefEqProofs (disch:=first|omega|assumption) [al,hg,hc,hf,hv,hw,ho,his,e1,e2,e3,hfc,hUc,hSc,E]
 generalize hz:zak _ _ _ _ _ _=z;revert z;refine zaa (σ:=Nat × List UInt8) (λz=>[(2,.ptr 0 0),(5,.d (.list Z)),(7,.arr 1 b.length),(9,.ptr 2 0),(11,.d (.int .i64 z.1))]) (λz=>[.box [.d (.int .u32 sid),.d (.list fl)],.arr 1 (bytes z.2) 0,.box [.d (.int .u32 sid),.d (.list fl),.d (.list U),.d (.int .i64 4),.d (.list ST)]]) (λz=>z.1<=b.length/\z.2.length=b.length) (λz=>b.length - z.1) (0,b) ?_ ?_ ?_
 ·exact⟨yaj _,rfl⟩
 ·simp -dsimp -implicitDefEqProofs (disch:=first|omega|assumption)
 intro T2 f2 hT2 ⟨j,bj⟩ ⟨hj,hbl⟩ ih2;simp only at hj hbl ih2
 by_cases h2:j<b.length
 ·have hjb:j<bj.length:=by omega
  have hset:(List.map zbT bj).set j (.int .u8 (((bj[j].toNat:Int)+1) % 256))=List.map zbT (bj.set j (bj[j]+1)):=by
   rw[ybY];congr 1
  simp -dsimp -implicitDefEqProofs (disch:=first|omega|assumption) [h2,hjb,hbl,hset,-List.map_set]
  exact ih2 (j+1,bj.set j (bj[j]+1)) _ _ ⟨h2,by rw[ycu];exact hbl⟩ (by simp only;omega) (by simp -dsimp -implicitDefEqProofs (disch:=first|omega|assumption) [-List.map_set])
 obtain rfl:j=b.length:=by omega
 subst hT2;clear ih2;have hr1:V.ren (zd7 [2] 3) (zmV 1 W)=some (zmV 3 W):=zhn _ _ _ _ λj _=>by
  simp[zd7,yby 1 j]
 obtain⟨TH,hTH⟩: ∃TH,TH=zyN W::W.map zdl:=⟨_,rfl⟩;rw[<- hTH]at hall;have hTf: ∀o∈TH,zkQ o:=hTH ▸ zrA W;have hr2: ∀f:Nat->Option Nat,TH.mapM (Obj.ren f)=some TH:=λf=>zcO rfl λj a b ha hb=>by
  rw[ha]at hb;obtain rfl:=yaV hb;exact (hTf _ (yao ha)).2 _
 simp -dsimp -implicitDefEqProofs (disch:=first|omega|assumption) [hall,hr1,hr2,zh6]
 have hTl:TH.length=m+1:=by rw[hTH];simp[hm]
 have hT0:TH=zyN W::(W.map vs).map oO:=by rw[hTH,ya3];rfl
 have hCl:(tcs 3 W).length=m:=by rw[zaZ,hm]
 have hCg: ∀ (i:Nat) (h:i<W.length),(tcs 3 W)[i]? =some (.arr (i+3) W[i].length):=λi h=>by
  rw[zgf,yal h,yby 3 i];rfl
 have hwl: ∀ (i:Nat) (h:i<W.length),W[i].length=nf:=λi h=>by rw[(w5 _ (yar h)).1,<- hnf]
 have hk:zmV 2 W= .clo 1000000000 (.arr 2 m::tcs 3 W):=by rw[<- hm];rfl
 obtain⟨TO,hTO⟩: ∃TO,TO=zyN W:=⟨_,rfl⟩;have hTOf:zkQ TO:=hTO ▸ zd5 _ _ _;rw[<- hTO]at hT0;obtain⟨C,hC⟩: ∃C,C=tcs 3 W:=⟨_,rfl⟩;rw[<- hC]at hCl hCg hk;generalize hz:zak _ _ _ _ _ _=z;revert z;refine zaa (σ:=Nat × List (List D)) (λz=>[(2,.ptr 0 0),(5,.d (.list Z)),(9,.ptr 1 0),(12,.clo 1000000000 (.arr 2 m::C)),(13,.d (.int .i64 z.1))]) (λz=> .box [.d (.int .u32 sid),.d (.list fl)]:: .box [.d (.int .u32 sid),.d (.list fl),.d (.list U),.d (.int .i64 4),.d (.list ST)]::TO::z.2.map oO) (λz=>z.1<=m/\z.2.length=m/\ ∀l∈z.2,l.length=nf) (λz=>m - z.1) (0,W.map vs) ?_ ?_ ?_
 ·refine⟨yaj _,by rw[yak];exact hm,λl hl=> ?_⟩
  obtain⟨r,hr,rfl⟩:=List.mem_map.1 hl;rw[yak,(w5 r hr).1,<- hnf]
 ·rw[<- hk]
  simp only;rw[<- hT0];refine zrB (I:=0::2::List.range' 3 (m+1)) ?_ rfl ?_ ?_ ?_ ?_ ?_
  ·refine List.nodup_cons.2 ⟨by simp,List.nodup_cons.2 ⟨by simp,ycB⟩⟩
  ·show [0]++([]++([2]++((zmV 3 W).ids++([]++[]))))=_
   rw[zmS,hm];simp
  ·simp[hTl]
  ·intro k id hk
   rcases k with _ | _ | k
   ·cases hk;rfl
   ·cases hk;rfl
   ·simp only[yaP]at hk ⊢
    have hkl:=lt_of_getElem? hk;rw[List.length_range']at hkl;rw[List.getElem?_range' hkl,ycl]at hk;cases hk;rw[yby 3 k];rfl
  ·intro o ho
   rcases List.mem_cons.1 ho with rfl | ho
   ·exact zfb [.int .u32 sid,.list fl]
   rcases List.mem_cons.1 ho with rfl | ho
   ·exact zfb [.int .u32 sid,.list fl,.list U,.int .i64 4,.list ST]
   ·exact hTf o ho
  ·have hp: ∀j,j<W.length+1->zar (0::2::List.range' 3 (m+1)) (3+j)=some (2+j):=λj hj=>by
    refine zbX ?_ ?_
    ·exact List.nodup_cons.2 ⟨by simp,List.nodup_cons.2 ⟨by simp,ycB⟩⟩
    ·rw[yby 2 j,yaP,yaP,List.getElem?_range' (by omega),ycl]
   have hT:=zhn _ 3 2 W hp
   show zaw _ [(2,.ptr 0 0),(5,.d (.list Z)),(9,.ptr 2 0),(12,zmV 3 W),(13,.d (.int .i64 0))]=_
   unfold zaw;have hd: ∀ (f:Nat->Option Nat) (x:D),V.ren f (.d x)=some (.d x):=λ_ _=>rfl
   have hp1: ∀l:List Nat,V.ren (zar (0::2::l)) (.ptr 0 0)=some (.ptr 0 0):=λ_=>rfl
   have hp2: ∀l:List Nat,V.ren (zar (0::2::l)) (.ptr 2 0)=some (.ptr 1 0):=λ_=>rfl
   simp only[yaI,yck,hT,hd,hp1,hp2,yaF];rfl
 intro T3 f3 hT3 ⟨i,L⟩ ⟨hi,hLl,hLn⟩ ih3;simp only at hi hLl hLn ih3
 by_cases h3:i<m
 ·have hCi:=hCg i (by omega)
  rw[hwl i (by omega)]at hCi
  obtain⟨y,hy⟩: ∃y,L[i]? =some y:=⟨_,yal (by omega)⟩
  have hyl:=hLn y (yao hy);rcases y with _ | ⟨y0,y⟩
  ·simp at hyl;omega
  have hiC:i<C.length:=by omega
  have hiL:i<L.length:=by omega
  have hCi2:C[i]= .arr (i+3) nf:=by
   rw[yal hiC]at hCi;exact yaV hCi
  have hy2:L[i]=y0::y:=by
   rw[yal hiL]at hy;exact yaV hy
  simp -dsimp -implicitDefEqProofs (disch:=first|omega|assumption) [h3,hCl,hLl,hCi2,hy2,oO,hyl]
  refine ih3 (i+1,L.set i (.iface 9 (.str ⟨#[111,116,104,101,114]⟩)::y)) _ _ ⟨h3,by rw[ycu];exact hLl,λl hl=> ?_⟩ (by simp only;omega) ?_
  ·rcases ych hl with h | rfl
   ·exact hLn l h
   ·exact hyl
  ·have he:(L.map oO).set i (.arr 1 (.iface 9 (.str ⟨#[111,116,104,101,114]⟩)::y) 0)=(L.set i (.iface 9 (.str ⟨#[111,116,104,101,114]⟩)::y)).map oO:=by rw[ybY];rfl
   simp only;rw[he];refine zrB (I:=List.range (m+3)) ybT rfl ?_ ?_ ?_ ?_ ?_
   ·show [0]++([]++([1]++((V.clo 1000000000 (.arr 2 m::C)).ids++([]++[]))))=_
    rw[<- hk,zmS,hm];simp only[ybC,yaq,List.singleton_append];exact (yca (n:=m+3)).symm
   ·simp[hLl]
   ·intro k id hk
    have hkl:=lt_of_getElem? hk;rw[yb1]at hkl;rw[yaK hkl]at hk;cases hk;rfl
   ·intro o ho
    rcases List.mem_cons.1 ho with rfl | ho
    ·exact zfb [.int .u32 sid,.list fl]
    rcases List.mem_cons.1 ho with rfl | ho
    ·exact zfb [.int .u32 sid,.list fl,.list U,.int .i64 4,.list ST]
    rcases List.mem_cons.1 ho with rfl | ho
    ·exact hTOf
    obtain⟨x,_,rfl⟩:=List.mem_map.1 ho;exact zd5 _ _ _
   ·have hp: ∀j,j<W.length+1->zar (List.range (m+3)) (2+j)=some (2+j):=λj hj=>zbX ybT (yaK (by omega))
    have hT:=zhn _ 2 2 W hp;rw[hk]at hT;have hp1:V.ren (zar (List.range (m+3))) (.ptr 0 0)=some (.ptr 0 0):=by
     show (zar (List.range (m+3)) 0).map _=_
     rw[zbX ybT (yaK (show 0<m+3 by omega))];rfl
    have hp2:V.ren (zar (List.range (m+3))) (.ptr 1 0)=some (.ptr 1 0):=by
     show (zar (List.range (m+3)) 1).map _=_
     rw[zbX ybT (yaK (show 1<m+3 by omega))];rfl
    show zaw _ [(2,.ptr 0 0),(5,.d (.list Z)),(9,.ptr 1 0),(12,.clo 1000000000 (.arr 2 m::C)),(13,.d (.int .i64 ((i:Int)+1)))]=_
    unfold zaw;have hd: ∀ (f:Nat->Option Nat) (x:D),V.ren f (.d x)=some (.d x):=λ_ _=>rfl
    simp only[yaI,yck,hT,hd,hp1,hp2,yaF];rfl
 obtain rfl:i=m:=by omega
 subst hT3;clear ih3;obtain⟨TX,hTX⟩: ∃TX,TX=TO::L.map oO:=⟨_,rfl⟩;rw[<- hTX];have hTXb: ∀o∈TX, ∀cs,o≠ .box cs:=λo ho cs=>by
  rw[hTX,hTO]at ho;rcases List.mem_cons.1 ho with rfl | ho
  ·exact λe=>by cases e
  ·obtain⟨x,_,rfl⟩:=List.mem_map.1 ho
   exact λe=>by cases e
 have hkb: ∀H,zas TX H:=λH=>zc9 TX H hTXb
 have hkb2: ∀x H,zas (TX++[.arr 4 x 0]) H:=λx H=>zc9 _ H λo ho cs=>by
  rcases List.mem_append.1 ho with h | h
  ·exact hTXb o h cs
  ·rw[List.mem_singleton.1 h];exact λe=>by cases e
 have hgx: ∀o:Obj,(TX++[o])[TX.length]? =some o:=λo=>by simp
 have hsx: ∀o o':Obj,(TX++[o]).set TX.length o'=TX++[o']:=λo o'=>by simp
 obtain⟨c0,c1,c2,c3,fl',rfl⟩: ∃c0 c1 c2 c3 fl',fl= .agg [c0,c1,c2,c3]::fl':=by
  rcases fs with _ | ⟨f0,fs⟩
  ·rw[yav]at hnf;omega
  ·exact⟨_,_,_,_,_,hflE.symm⟩
 simp only[yad]at e3;have hr3: ∀n,V.ren (zd7 [1] n) (zmV 1 W)=some (zmV n W):=λn=>zhn _ _ _ _ λj _=>by
  simp[zd7,yby 1 j]
 obtain⟨TF,hTF⟩: ∃TF,TF=zyN W::W.map zta:=⟨_,rfl⟩;have hUl: ∀a b c,zfJ false (a::b::(TX++c::TH)) (zmV (TX.length+1+1+1) W)=some (.d (.list U),a::b::(TX++c::TF)):=λa b c=>by
  have:=zhf W [] (a::b::(TX++[c,zyN W]));rw[<- hU,hTH,hTF];simp only[yda,ybC,yae,yav,yad,ycN,yam,ya4]at this
  show Option.map _ (zaH _ (tcs (TX.length+1+1+1+1) W))=_
  rw[this];rfl
 have hTHb: ∀o∈TH, ∀cs,o≠ .box cs:=λo ho cs=>by
  rw[hTH]at ho;rcases List.mem_cons.1 ho with rfl | ho
  ·exact λe=>by cases e
  ·obtain⟨x,_,rfl⟩:=List.mem_map.1 ho
   exact λe=>by cases e
 have hTFb: ∀o∈TF, ∀cs,o≠ .box cs:=λo ho cs=>by
  rw[hTF]at ho;rcases List.mem_cons.1 ho with rfl | ho
  ·exact λe=>by cases e
  ·obtain⟨x,_,rfl⟩:=List.mem_map.1 ho
   exact λe=>by cases e
 have hkb3: ∀x H,zas (TX++ .arr 4 x 0::TH) H:=λx H=>zc9 _ H λo ho cs=>by
  rcases List.mem_append.1 ho with h | h
  ·exact hTXb o h cs
  ·rcases List.mem_cons.1 h with rfl | h
   ·exact λe=>by cases e
   ·exact hTHb o h cs
 have hkb4: ∀x H,zas (TX++ .arr 4 x 0::TF) H:=λx H=>zc9 _ H λo ho cs=>by
  rcases List.mem_append.1 ho with h | h
  ·exact hTXb o h cs
  ·rcases List.mem_cons.1 h with rfl | h
   ·exact λe=>by cases e
   ·exact hTFb o h cs
 have hg3: ∀o o2:Obj,(TX++o::(TF++[o2]))[TX.length+(TF.length+1)]? =some o2:=λo o2=>by
  rw[yah (ybM _ _),yaN,yaP,yah (yag _),ya7];rfl
 simp -dsimp -implicitDefEqProofs (disch:=first|omega|assumption) [hCl,hsch,hkb,hkb2,hgx,hsx,e3,hall,hr3,hr2,zh6,hUl,hkb3,hkb4,his,hsm,hg3]
 exact hT
end Go.Am.Ab
