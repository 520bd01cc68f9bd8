/- Files of rows, read: parts. -/
import Derived.Test.YtibdiacpdmhmnaaGreatDoorCellsA
import Derived.Test.YtibdiacpdmhmnaaGreatDoorReadA
import Derived.Test.YtibdiacpdmhmnaaGreatDoorSchemaA
import Derived.Test.YtibdiacpdmhmnaaGreatDoorSums
import Derived.Test.YtibdiacpdmhmnaaGreatDoorFileA
set_option linter.all false
namespace Go.Am.Ab
open Go.Proofs
set_option maxHeartbeats 4000000
set_option maxRecDepth 4000
def zcO {α β:Type} {f:α->Option β}: ∀ {l:List α} {r:List β},l.length=r.length->(∀ (j:Nat) (a:α) (b:β),l[j]? =some a->r[j]? =some b->f a=some b)->l.mapM f=some r
 |[],[],_,_=>rfl
 |[],_::_,h,_=>by simp at h
 |_::_,[],h,_=>by simp at h
 |a::l,b::r,h,hf=>by
  rw[yaI,hf 0 a b rfl rfl,zcO (l:=l) (r:=r) (by simpa using h) λj x y hx hy=>hf (j+1) x y (by simpa using hx) (by simpa using hy)]
  rfl
def zcP (h:List Obj): ∀ (fuel pos:Nat) (acc:List Nat),(∀ (j id:Nat),pos<=j->acc[j]? =some id->zb5 h id=[])->zfV h fuel pos acc=acc
 |0,_,_,_=>rfl
 |fuel+1,pos,acc,hf=>by
  unfold zfV;cases e:acc[pos]? with
  |none=>rfl
  |some i=>
   simp only;rw[hf pos i (yag _) e];exact zcP h fuel (pos+1) acc λj id hj h=>hf j id (by omega) h
def zcn {h:List Obj} {fuel pos i:Nat} {acc:List Nat} (e:acc[pos]? =some i):zfV h (fuel+1) pos acc=zfV h fuel (pos+1) (zal acc (zb5 h i)):=by
 show (match acc[pos]? with | none=>acc | some i=>zfV h fuel (pos+1) (zal acc (zb5 h i)))=_
 rw[e]
def zco: ∀ (l acc:List Nat),l.Nodup->(∀i∈l,i∉acc)->zal acc l=acc++l
 |[],acc,_,_=>by simp[zal]
 |i::r,acc,hn,hd=>by
  unfold zal;have h1:acc.contains i=false:=by simpa using hd i (by simp)
  rw[h1];simp only[yaD,ybg];rw[zco r (acc++[i]) (List.nodup_cons.1 hn).2 λj hj=> ?_]
  ·simp
  ·simp only[ycr,ydv,not_or]
   exact⟨hd j (by simp[hj]),λe=>(List.nodup_cons.1 hn).1 (e ▸ hj)⟩
def zdl (r:List Val):Obj:= .arr 1 (vs r) 0
def tcs:Nat->List (List Val)->List V
 |_,[]=>[]
 |n,r::T=> .arr n r.length::tcs (n+1) T
def zgf: ∀ (n:Nat) (T:List (List Val)) (j:Nat),(tcs n T)[j]? =(T[j]?).map λr=> .arr (n+j) r.length
 |_,[],_=>by simp[tcs]
 |n,r::T,0=>rfl
 |n,r::T,j+1=>by
  show (tcs (n+1) T)[j]? =_
  rw[zgf (n+1) T j,show n+1+j=n+(j+1) by omega]
  rfl
def zaZ: ∀ (n:Nat) (T:List (List Val)),(tcs n T).length=T.length
 |_,[]=>rfl
 |n,_::T=>by simp[tcs,zaZ (n+1) T]
def zvA: ∀ (n:Nat) (T U:List (List Val)),tcs n (T++U)=tcs n T++tcs (n+T.length) U
 |_,[],_=>rfl
 |n,r::T,U=>by
  show _::tcs (n+1) (T++U)=_::(tcs (n+1) T++_)
  rw[zvA (n+1) T U,yad,show n+1+T.length=n+(T.length+1) by omega]
def zcf (a0 a1 b0 b1 gg:D) (R:Option (List D × Nat)) (cs:List V):List Obj:=
 .box [.d a0,.d a1]:: .box [.d b0,.d b1]:: .box [.d a0,.d a1,(match R with | none=> .nilS | some (xs,_)=> .arr 4 xs.length),.d gg,.nilS]:: .box cs::(match R with | none=>[] | some (xs,wm)=>[.arr 1 xs wm])
def zaO (R:Option (List D × Nat)):Nat:=match R with | none=>4 | some _=>5
def ren_arr (f:Nat->Option Nat) (sz:Nat) (xs:List D) (wm:Nat):Obj.ren f (.arr sz xs wm)=some (.arr sz xs wm):=rfl
def zrp {a0 a1 b0 b1 gg:D} {R:Option (List D × Nat)} {k:Nat} (P:List (Nat × List Val)) {keep:List (Nat × Nat)} {s s1:Slots} {h zav:List Obj}
 (hh:h=zcf a0 a1 b0 b1 gg R ((P.map λp=> .arr p.1 p.2.length)++List.replicate k .nilS)++zav)
 (hn:(P.map (·.1)).Nodup) (hp: ∀p∈P,zaO R<=p.1/\h[p.1]? =some (zdl p.2))
 (hk:zad s h keep=(s1,h)) (h0:zal [] (s1.flatMap λq=>q.2.ids)=[0,1,2,3])
 (hs: ∀f:Nat->Option Nat,f 0=some 0->f 1=some 1->f 2=some 2->f 3=some 3->zaw f s1=some s1):
 zew 0 keep s h=some (s1,zcf a0 a1 b0 b1 gg R (tcs (zaO R) (P.map (·.2))++List.replicate k .nilS)++(P.map (·.2)).map zdl):=by
 obtain⟨ids,hids⟩: ∃ids,ids=List.range (zaO R)++P.map (·.1):=⟨_,rfl⟩
 have hb:(((P.map λ(p:Nat × List Val)=>V.arr p.1 p.2.length)++List.replicate k V.nilS).flatMap V.ids1)=P.map (·.1):=by
  rw[yds];have e1:(List.replicate k V.nilS).flatMap V.ids1=[]:=by
   rw[ycZ];intro x hx;rw[(List.mem_replicate.1 hx).2];rfl
  rw[e1,yaq];clear hids hp hn hh hk
  induction P with
  |nil=>rfl
  |cons p P ih=>rw[ya1,yaY,ih];rfl
 have hnd:ids.Nodup:=by
  rw[hids,ydK];refine⟨ybT,hn,λa ha b hb e=> ?_⟩
  obtain⟨p,hp1,rfl⟩:=List.mem_map.1 hb;have:=(hp p hp1).1;rw[ydE]at ha;omega
 have hlen:5<=h.length+1:=by rw[hh];simp[zcf]
 obtain⟨fu,hfu⟩: ∃fu,h.length+1=fu+4:=⟨h.length - 3,by omega⟩
 have g0:h[0]? =some (.box [.d a0,.d a1]):=by rw[hh];rfl
 have g1:h[1]? =some (.box [.d b0,.d b1]):=by rw[hh];rfl
 have g3:h[3]? =some (.box ((P.map λp=> .arr p.1 p.2.length)++List.replicate k .nilS)):=by rw[hh];rfl
 have hflat: ∀ (j id:Nat),4<=j->ids[j]? =some id->zb5 h id=[]:=by
  intro j id hj e;rw[hids]at e;rcases ybF j (zaO R) with hlt | hge
  ·rw[yan (by simpa using hlt),yaK hlt]at e
   obtain rfl:=yaV e;cases R with
   |none=>exact absurd hlt (by simp only[zaO];omega)
   |some q=>
    have:j=4:=by simp[zaO]at hlt;omega
    subst this;have:h[4]? =some (.arr 1 q.1 q.2):=by rw[hh];rfl
    simp only[zb5,this,Obj.ids]
  ·rw[yah (by simpa using hge)]at e
   obtain⟨p,hp1,rfl⟩:=List.mem_map.1 (yao e);simp only[zb5,(hp p hp1).2,zdl,Obj.ids]
 have hreach:za8 h [0,1,2,3]=ids:=by
  unfold za8;rw[hfu,zcn (i:=0) rfl,zcn (i:=1) (by rw[zb5,g0];rfl)]
  have i0:zb5 h 0=[]:=by rw[zb5,g0];rfl
  have i1:zb5 h 1=[]:=by rw[zb5,g1];rfl
  have i3:zb5 h 3=P.map (·.1):=by rw[zb5,g3];exact hb
  rw[i0,i1];simp only[zal];rw[zcn (i:=2) rfl];cases R with
  |none=>
   have i2:zb5 h 2=[]:=by rw[zb5,hh];rfl
   rw[i2];simp only[zal];rw[zcn (i:=3) rfl,i3,zco _ _ hn λi hi=> ?_]
   ·have:[0,1,2,3]++P.map (·.1)=ids:=by rw[hids];rfl
    rw[this];exact zcP h _ _ _ hflat
   ·obtain⟨p,hp1,rfl⟩:=List.mem_map.1 hi
    have:=(hp p hp1).1;simp only[zaO]at this;simp;omega
  |some q=>
   have i2:zb5 h 2=[4]:=by rw[zb5,hh];rfl
   rw[i2,show zal [0,1,2,3] [4]=[0,1,2,3,4] from rfl,zcn (i:=3) rfl,i3,zco _ _ hn λi hi=> ?_]
   ·have:[0,1,2,3,4]++P.map (·.1)=ids:=by rw[hids];rfl
    rw[this];exact zcP h _ _ _ hflat
   ·obtain⟨p,hp1,rfl⟩:=List.mem_map.1 hi
    have:=(hp p hp1).1;simp only[zaO]at this;simp;omega
 have hpl: ∀j,j<zaO R->zar ids j=some j:=λj hj=>zbX hnd (by rw[hids,yan (by simpa using hj),yaK hj])
 have hr4:4<=zaO R:=by cases R <;> simp[zaO]
 have hpr: ∀ (j:Nat) (p:Nat × List Val),P[j]? =some p->zar ids p.1=some (zaO R+j):=λj p hj=>zbX hnd (by
  rw[hids,yah (by simp),yb1,yaN,yax,hj];rfl)
 have hcs:((P.map λ(p:Nat × List Val)=>V.arr p.1 p.2.length)++List.replicate k V.nilS).mapM (V.ren1 (zar ids))=some (tcs (zaO R) (P.map (·.2))++List.replicate k .nilS):=by
  refine zcO (by simp[zaZ]) λj a b ha hb=> ?_
  rcases ybF j P.length with hlt | hge
  ·rw[yan (by simpa using hlt),yax]at ha
   rw[yan (by simpa[zaZ]using hlt),zgf,yax]at hb
   obtain⟨p,hp1,rfl⟩:=Option.map_eq_some_iff.1 ha;rw[hp1]at hb;simp only[yaF,yaa]at hb;subst hb;simp only[V.ren1,V.ren0,hpr j p hp1,yaF]
  ·rw[yah (by simpa using hge)]at ha
   rw[yah (by simpa[zaZ]using hge)]at hb
   rw[(List.mem_replicate.1 (yao ha)).2,(List.mem_replicate.1 (yao hb)).2];rfl
 have hrows:(P.map (·.1)).mapM (λi=>(h[i]?).bind (Obj.ren (zar ids)))=some ((P.map (·.2)).map zdl):=by
  refine zcO (by simp) λj a b ha hb=> ?_
  rw[yax]at ha;rw[yax,yax]at hb;obtain⟨p,hp1,rfl⟩:=Option.map_eq_some_iff.1 ha;rw[hp1]at hb;simp only[yaF,yaa]at hb;subst hb;rw[(hp p (yao hp1)).2];rfl
 have hbox: ∀ (l:List D) (f:Nat->Option Nat),Obj.ren f (.box (l.map .d))=some (.box (l.map .d)):=λl f=>by
  show (Option.map Obj.box ((l.map V.d).mapM (V.ren1 f)))=_
  rw[zcO (r:=l.map V.d) rfl λj a b ha hb=>by
   rw[ha]at hb;obtain rfl:=yaV hb;rw[yax]at ha;obtain⟨x,_,rfl⟩:=Option.map_eq_some_iff.1 ha;rfl]
  rfl
 have q0:Obj.ren (zar ids) (.box [.d a0,.d a1])=some (.box [.d a0,.d a1]):=hbox [a0,a1] _;have q1:Obj.ren (zar ids) (.box [.d b0,.d b1])=some (.box [.d b0,.d b1]):=hbox [b0,b1] _;have q3:Obj.ren (zar ids) (.box ((P.map λp=> .arr p.1 p.2.length)++List.replicate k .nilS))=some (.box (tcs (zaO R) (P.map (·.2))++List.replicate k .nilS)):=by
  show Option.map Obj.box (List.mapM _ _)=_
  rw[hcs];rfl
 have htake:zax h (zar ids) ids=some (zcf a0 a1 b0 b1 gg R (tcs (zaO R) (P.map (·.2))++List.replicate k .nilS)++(P.map (·.2)).map zdl):=by
  unfold zax;cases R with
  |none=>
   have g2:h[2]? =some (.box [.d a0,.d a1,.nilS,.d gg,.nilS]):=by rw[hh];rfl
   have e:ids=0::1::2::3::P.map (·.1):=by rw[hids];rfl
   rw[e]at hrows q0 q1 q3 ⊢;simp only[yaI,g0,g1,g2,g3,yde,q0,q1,q3,hrows];rfl
  |some q=>
   have g2:h[2]? =some (.box [.d a0,.d a1,.arr 4 q.1.length,.d gg,.nilS]):=by rw[hh];rfl
   have g4:h[4]? =some (.arr 1 q.1 q.2):=by rw[hh];rfl
   have e:ids=0::1::2::3::4::P.map (·.1):=by rw[hids];rfl
   have q2:Obj.ren (zar ids) (.box [.d a0,.d a1,.arr 4 q.1.length,.d gg,.nilS])=some (.box [.d a0,.d a1,.arr 4 q.1.length,.d gg,.nilS]):=by
    have:=hpl 4 (Nat.lt_succ_self 4)
    show Option.map Obj.box (List.mapM _ _)=_
    simp only[yaI,yck,V.ren1,V.ren0,this,yaF];rfl
   rw[e]at hrows q0 q1 q2 q3 ⊢;simp only[yaI,g0,g1,g2,g3,g4,yde,q0,q1,q2,q3,hrows,ren_arr];rfl
 unfold zew;rw[hk];simp only;rw[show List.range 0=[] from rfl,h0,hreach,hs (zar ids) (hpl 0 (by omega)) (hpl 1 (by omega)) (hpl 2 (by omega)) (hpl 3 (by omega)),htake]
def zp0: ∀ (n:Nat) (T:List (List Val)) (i:Nat) (r:List Val),tcs n (T.set i r)=(tcs n T).set i (.arr (n+i) r.length)
 |_,[],_,_=>rfl
 |n,_::T,0,r=>rfl
 |n,x::T,i+1,r=>by
  show _::tcs (n+1) (T.set i r)=_::(tcs (n+1) T).set i _
  rw[zp0 (n+1) T i r,show n+1+i=n+(i+1) by omega]
def pz:Nat->List (List Val)->List (Nat × List Val)
 |_,[]=>[]
 |n,r::T=>(n,r)::pz (n+1) T
def zvB: ∀ (n:Nat) (T:List (List Val)),((pz n T).map λp=>V.arr p.1 p.2.length)=tcs n T
 |_,[]=>rfl
 |n,r::T=>by show _::_=_::_;rw[zvB (n+1) T]
def zvC: ∀ (n:Nat) (T:List (List Val)),(pz n T).map (·.2)=T
 |_,[]=>rfl
 |n,r::T=>by show _::_=_;rw[zvC (n+1) T]
def zvD: ∀ (n:Nat) (T:List (List Val)),(pz n T).map (·.1)=List.range' n T.length
 |_,[]=>rfl
 |n,r::T=>by show _::_=_;rw[zvD (n+1) T];rfl
def zvE: ∀ {n:Nat} {T:List (List Val)} {p:Nat × List Val},p∈pz n T-> ∃j,p.1=n+j/\T[j]? =some p.2
 |_,[],_,h=>by simp[pz]at h
 |n,r::T,p,h=>by
  rcases List.mem_cons.1 h with rfl | h
  ·exact⟨0,rfl,rfl⟩
  ·obtain⟨j,h1,h2⟩:=zvE h
   exact⟨j+1,by omega,h2⟩
def zcp (a0 a1 b0 b1 gg:D) (R:Option (List D × Nat)) (cs:List V):(zcf a0 a1 b0 b1 gg R cs).length=zaO R:=by cases R <;> rfl
def zd3 {a0 a1 b0 b1 gg:D} (R:Option (List D × Nat)) (T:List (List Val)) (k:Nat) {keep:List (Nat × Nat)} {s s1:Slots} {h zav:List Obj}
 (hh:h=zcf a0 a1 b0 b1 gg R (tcs (zaO R) T++List.replicate k .nilS)++(T.map zdl++zav))
 (hk:zad s h keep=(s1,h)) (h0:zal [] (s1.flatMap λq=>q.2.ids)=[0,1,2,3])
 (hs: ∀f:Nat->Option Nat,f 0=some 0->f 1=some 1->f 2=some 2->f 3=some 3->zaw f s1=some s1):
 zew 0 keep s h=some (s1,zcf a0 a1 b0 b1 gg R (tcs (zaO R) T++List.replicate k .nilS)++T.map zdl):=by
 have e:=zrp (k:=k) (pz (zaO R) T) (by rw[zvB];exact hh) (by rw[zvD];exact ycB) (λp hp=> ?_) hk h0 hs
 ·rw[zvC]at e
  exact e
 ·obtain⟨j,h1,h2⟩:=zvE hp
  refine⟨by omega, ?_⟩
  have hj:j<T.length:=lt_of_getElem? h2;rw[hh,yah (by rw[zcp];omega),zcp,h1,yaN,yan (by simpa using hj),yax,h2]
  rfl
def zrq {a0 a1 b0 b1 gg:D} (R:Option (List D × Nat)) (T:List (List Val)) (r:List Val) (k:Nat) {keep:List (Nat × Nat)} {s s1:Slots} {h zav:List Obj} {o:Obj}
 (hh:h=zcf a0 a1 b0 b1 gg R (tcs (zaO R) T++ .arr (zaO R+T.length+1) r.length::List.replicate k .nilS)++(T.map zdl++o::zdl r::zav))
 (hk:zad s h keep=(s1,h)) (h0:zal [] (s1.flatMap λq=>q.2.ids)=[0,1,2,3])
 (hs: ∀f:Nat->Option Nat,f 0=some 0->f 1=some 1->f 2=some 2->f 3=some 3->zaw f s1=some s1):
 zew 0 keep s h=some (s1,zcf a0 a1 b0 b1 gg R (tcs (zaO R) (T++[r])++List.replicate k .nilS)++(T++[r]).map zdl):=by
 have e:=zrp (k:=k) (pz (zaO R) T++[(zaO R+T.length+1,r)]) (by rw[ybi,zvB,yam];exact hh) ?_ (λp hp=> ?_) hk h0 hs
 ·rw[ybi,zvC]at e
  exact e
 ·rw[ybi,zvD,ydK]
  refine⟨ycB,by simp,λa ha b hb e=> ?_⟩
  simp at hb;rw[List.mem_range'_1]at ha;omega
 ·rcases List.mem_append.1 hp with hp | hp
  ·obtain⟨j,h1,h2⟩:=zvE hp
   refine⟨by omega, ?_⟩
   have hj:j<T.length:=lt_of_getElem? h2;rw[hh,yah (by rw[zcp];omega),zcp,h1,yaN,yan (by simpa using hj),yax,h2]
   rfl
  ·obtain rfl:=List.mem_singleton.1 hp
   refine⟨by simp only;omega, ?_⟩
   rw[hh,yah (by rw[zcp];simp only;omega),zcp]
   simp only;rw[show zaO R+T.length+1 - zaO R=T.length+1 by omega,yah (by simp),yak,yaN]
   rfl
def zvF (m:Nat):(List.replicate m V.nilS).flatMap V.ids1=[]:=by
 rw[ycZ];intro x hx;rw[(List.mem_replicate.1 hx).2];rfl
def zvG (f:Nat->Option Nat) (m:Nat):(List.replicate m V.nilS).mapM (V.ren1 f)=some (List.replicate m V.nilS):=zcO rfl λj a b ha hb=>by
 rw[(List.mem_replicate.1 (yao ha)).2,(List.mem_replicate.1 (yao hb)).2];rfl
def zta (r:List Val):Obj:= .arr 1 (vs r) r.length
def zhf: ∀ (todo done:List (List Val)) (pre:List Obj),zaH (pre++(done.map zta++todo.map zdl)) (tcs (pre.length+done.length) todo)=some (za6 todo,pre++(done++todo).map zta)
 |[],done,pre=>by simp[tcs,zaH]
 |r::todo,done,pre=>by
  have h1:(pre++(done.map zta++(r::todo).map zdl))[pre.length+done.length]? =some (zdl r):=by
   rw[yah (ybM _ _),yaN,yah (by rw[yak];exact yag _),yak,ya7]
   rfl
  have h2:(pre++(done.map zta++(r::todo).map zdl)).set (pre.length+done.length) (zta r)=pre++((done++[r]).map zta++todo.map zdl):=by
   rw[ybl _ _ (ybM _ _),yaN,ybl _ _ (by rw[yak];exact yag _),yak,ya7]
   simp
  have h3:zaY (pre++(done.map zta++(r::todo).map zdl)) (.arr (pre.length+done.length) r.length)=some (.list (vs r),pre++((done++[r]).map zta++todo.map zdl)):=by
   unfold zaY;simp only;rw[h1];simp only[zdl];rw[yai (by rw[yak]),yak,<- h2]
   rfl
  have ih:=zhf todo (done++[r]) pre;rw[yae,ya2]at ih
  show (match zaY _ (.arr (pre.length+done.length) r.length) with | some (x,h1)=>_ | none=>_)=_
  rw[h3];simp only;rw[show pre.length+done.length+1=pre.length+(done.length+1) from rfl,ih]
  simp
def zoD (pre:List Obj) (T:List (List Val)) (zav:List Obj):(tcs pre.length T).mapM (ztw (pre++(T.map zta++zav)))=some (za6 T):=by
 refine zcO (by rw[zaZ,yak]) λj a b ha hb=> ?_
 rw[zgf]at ha;rw[yax]at hb;obtain⟨r,hr,rfl⟩:=Option.map_eq_some_iff.1 ha;rw[hr]at hb;obtain rfl:=yaV hb;have hj:j<T.length:=lt_of_getElem? hr;unfold ztw;simp only;rw[yah (ybM _ _),yaN,yan (by rw[yak];exact hj),yax,hr]
 simp[zta]
end Go.Am.Ab
namespace Go.Am.Ab
open Go.Proofs
set_option maxHeartbeats 4000000
set_option maxRecDepth 4000
abbrev Bo (b:Bool):V:= .d (.bool b)
def zev (most:Nat) (s:List UInt8 × Bool):Nat × List UInt8 × Bool:=
 if (get s.1).2.2≠0\/most<(get s.1).1\/s.2=true then (0,s.1,true) else ((get s.1).1,s.1.drop (get s.1).2.1,false)
def zdM (most:Nat) (s:List UInt8 × Bool):(zev most s).1<=most/\(zev most s).2.1.length<=s.1.length:=by
 unfold zev;split
 ·exact⟨yaj _,yag _⟩
 ·rename_i h;simp only[yay];omega
def zd4 (most:Nat) (hm:most<=1000000) (s:List UInt8 × Bool) (hb:s.1.length<1000000000):
 R 108 [.ptr 0 0,.d (.int .i64 most)] [.box [B s.1,Bo s.2]]=some ([.d (.int .i64 (zev most s).1)],[.box [B (zev most s).2.1,Bo (zev most s).2.2]]):=by
 obtain⟨b,bad⟩:=s;simp only at hb;have hg:=zfn b (by omega)
 have hu:=zft b;have hl:=zdr b;unfold zev;generalize get b=x at*;obtain⟨n,used,why⟩:=x;simp only at hg hu hl ⊢;obtain⟨r,hr⟩: ∃r,r=b.drop used:=⟨_,rfl⟩;have hr':List.drop used (bytes b)=bytes r:=by rw[hr];exact List.map_drop.symm
 have hw:IntKind.u64.wrap (most:Int)=most:=zan (by omega) (by omega)
 have hu':(used:Int)<=b.length:=by omega
 rw[<- hr];clear hr
 by_cases h1:why=0
 ·by_cases h2:most<n
  ·rw[yai (.inr (.inl h2))]
   have h2':(most:Int)<n:=by omega
   refine rg zEv rfl ?_;intro T hT;simp -dsimp -implicitDefEqProofs (disch:=first|omega|assumption) [hg,h1,h2',hw]
   simpa -dsimp -implicitDefEqProofs (disch:=first|omega|assumption) [B,Bo]using hT
  ·have h2': ¬ (most:Int)<n:=by omega
   have hw2:IntKind.i64.wrap (n:Int)=n:=wI (by omega) (by omega)
   cases bad with
   |true=>
    rw[yai (.inr (.inr rfl))];refine rg zEv rfl ?_;intro T hT;simp -dsimp -implicitDefEqProofs (disch:=first|omega|assumption) [hg,h1,h2',hw]
    simpa -dsimp -implicitDefEqProofs (disch:=first|omega|assumption) [B,Bo]using hT
   |false=>
    rw[yaf (by simp[h1,h2])]
    refine rg zEv rfl ?_;intro T hT;simp -dsimp -implicitDefEqProofs (disch:=first|omega|assumption) [hg,h1,h2',hw,hw2,hu',hr']
    simpa -dsimp -implicitDefEqProofs (disch:=first|omega|assumption) [B,Bo]using hT
 ·rw[yai (.inl h1)]
  refine rg zEv rfl ?_;intro T hT;simp -dsimp -implicitDefEqProofs (disch:=first|omega|assumption) [hg,h1,hw]
  simpa -dsimp -implicitDefEqProofs (disch:=first|omega|assumption) [B,Bo]using hT
def zfG (n:Nat) (s:List UInt8 × Bool):List UInt8 × Bool:=if s.2=true\/s.1.length<n then (s.1,true) else (s.1.drop n,false)
def zhg (n:Nat) (s:List UInt8 × Bool):(zfG n s).1.length<=s.1.length:=by
 unfold zfG;split
 ·exact yag _
 ·simp only[yay];omega
def zfA (n:Nat) (s:List UInt8 × Bool) (hb:s.1.length<1000000000):
 R 150 [.ptr 0 0,.d (.int .i64 n)] [.box [B s.1,Bo s.2]]=some ([],[.box [B (zfG n s).1,Bo (zfG n s).2]]):=by
 obtain⟨b,bad⟩:=s;simp only at hb;unfold zfG;simp only;obtain⟨r,hr⟩: ∃r,r=b.drop n:=⟨_,rfl⟩;have hr':List.drop n (bytes b)=bytes r:=by rw[hr];exact List.map_drop.symm
 rw[<- hr];clear hr;cases bad with
 |true=>
  rw[yai (.inl rfl)];refine rg zGC rfl ?_;intro T hT;simp -dsimp -implicitDefEqProofs (disch:=first|omega|assumption)
  simpa -dsimp -implicitDefEqProofs (disch:=first|omega|assumption) [B,Bo]using hT
 |false=>
  by_cases h:b.length<n
  ·rw[yai (.inr h)]
   have h':(b.length:Int)<n:=by omega
   refine rg zGC rfl ?_;intro T hT;simp -dsimp -implicitDefEqProofs (disch:=first|omega|assumption) [h']
   simpa -dsimp -implicitDefEqProofs (disch:=first|omega|assumption) [B,Bo]using hT
  ·rw[yaf (by simp[h])]
   have h': ¬ (b.length:Int)<n:=by omega
   have h2:(n:Int)<=b.length:=by omega
   refine rg zGC rfl ?_;intro T hT;simp -dsimp -implicitDefEqProofs (disch:=first|omega|assumption) [h',h2,hr']
   simpa -dsimp -implicitDefEqProofs (disch:=first|omega|assumption) [B,Bo]using hT
def zkn (k:Nat) (s:List UInt8 × Bool):List UInt8 × Bool:=
 if k=1 then zfG (get s.1).2.1 (s.1,s.2 || decide ((get s.1).2.2≠0)) else if k=2 then zfG 1 s else zfG (zev 64 s).1 (zev 64 s).2
def zrr (k:Nat) (s:List UInt8 × Bool):(zkn k s).1.length<=s.1.length:=by
 unfold zkn;split
 ·exact zhg _ _
 ·split
  ·exact zhg _ _
  ·exact ybc (zhg _ _) (zdM _ _).2
def ztb (k:Nat) (s:List UInt8 × Bool) (hb:s.1.length<1000000000):
 R 151 [.ptr 0 0,.d (.int .u8 k)] [.box [B s.1,Bo s.2]]=some ([],[.box [B (zkn k s).1,Bo (zkn k s).2]]):=by
 unfold zkn
 by_cases h1:k=1
 ·subst h1
  rw[yai rfl];have hg:=zjP s.1 (by omega)
  have hc:=zfA (get s.1).2.1 (s.1,s.2 || decide ((get s.1).2.2≠0)) hb;generalize zfG (get s.1).2.1 (s.1,s.2 || decide ((get s.1).2.2≠0))=y at*;generalize zag (get s.1).1=z at*;generalize get s.1=x at*;obtain⟨n,used,why⟩:=x;obtain⟨b,bad⟩:=s;simp only at hg hc
  by_cases h:why=0
  ·simp only[h,ydT,ybr,ydA,Bool.or_false]at hc
   cases bad
   all_goals
    refine rg zEx rfl ?_;intro T hT;simp -dsimp -implicitDefEqProofs (disch:=first|omega|assumption) [hg,hc,h]
    simpa -dsimp -implicitDefEqProofs (disch:=first|omega|assumption) [B,Bo]using hT
  ·have h': ¬ (why:Int)=0:=by omega
   simp only[h,ydT,yc5,yd3,Bool.or_true]at hc;cases bad
   all_goals
    refine rg zEx rfl ?_;intro T hT;simp -dsimp -implicitDefEqProofs (disch:=first|omega|assumption) [hg,hc,h,h']
    simpa -dsimp -implicitDefEqProofs (disch:=first|omega|assumption) [B,Bo]using hT
 rw[yaf h1];have h1': ¬ (k:Int)=1:=by omega
 by_cases h2:k=2
 ·rw[yai h2]
  have hc:=zfA 1 s hb;generalize zfG 1 s=y at*;obtain⟨b,bad⟩:=s;simp only[Int.natCast_one]at hc;refine rg zEx rfl ?_;intro T hT;simp -dsimp -implicitDefEqProofs (disch:=first|omega|assumption) [hc,h1,h1',h2]
  simpa -dsimp -implicitDefEqProofs (disch:=first|omega|assumption) [B,Bo]using hT
 ·rw[yaf h2]
  have h2': ¬ (k:Int)=2:=by omega
  have hn:R 108 [.ptr 0 0,.d (.int .i64 64)] [.box [B s.1,Bo s.2]]=_:=zd4 64 (by omega) s hb
  have hc:=zfA (zev 64 s).1 (zev 64 s).2 (by have:=(zdM 64 s).2;omega)
  generalize zfG (zev 64 s).1 (zev 64 s).2=y at*;generalize zev 64 s=x at*;obtain⟨n,b2,bad2⟩:=x;obtain⟨b,bad⟩:=s;simp only at hn hc;refine rg zEx rfl ?_;intro T hT;simp -dsimp -implicitDefEqProofs (disch:=first|omega|assumption) [hn,hc,h1,h1',h2,h2']
  simpa -dsimp -implicitDefEqProofs (disch:=first|omega|assumption) [B,Bo]using hT
def zhh (k:Nat):Nat->Nat->List UInt8 × Bool->List UInt8 × Bool
 |0,_,s=>s
 |f+1,fl,s=>if 0<fl/\s.2=false then zhh k f (fl / 2) (if fl % 2=1 then zkn k s else s) else s
def zp1 (b:List UInt8):Nat:=match b with | []=>0 | c::_=>c.toNat
def ziH (k:Nat) (s:List UInt8 × Bool):List UInt8 × Bool:=zhh k 8 (zp1 (zev 256 s).2.1) (zfG 1 (zev 256 s).2)
def zrs (k:Nat): ∀ (f fl:Nat) (s:List UInt8 × Bool),(zhh k f fl s).1.length<=s.1.length
 |0,_,_=>yag _
 |f+1,fl,s=>by
  unfold zhh;split
  ·refine ybc (zrs k f _ _) ?_
   split
   ·exact zrr k s
   ·exact yag _
  ·exact yag _
def zrt (k:Nat) (s:List UInt8 × Bool):(ziH k s).1.length<=s.1.length:=
 ybc (zrs k _ _ _) (ybc (zhg _ _) (zdM _ _).2)
def zko (k f fl:Nat) (s:List UInt8 × Bool) (h: ¬ (0<fl/\s.2=false)):zhh k f fl s=s:=by
 cases f with
 |zero=>rfl
 |succ f=>unfold zhh;rw[yaf h]
def zlX (k:Nat) (s:List UInt8 × Bool) (hb:s.1.length<1000000000):
 R 109 [.ptr 0 0,.d (.int .u8 k)] [.box [B s.1,Bo s.2]]=some ([],[.box [B (ziH k s).1,Bo (ziH k s).2]]):=by
 have hn:R 108 [.ptr 0 0,.d (.int .i64 256)] [.box [B s.1,Bo s.2]]=_:=zd4 256 (by omega) s hb
 have hle:=(zdM 256 s).2;unfold ziH;generalize zev 256 s=x at*;obtain⟨n,q⟩:=x;simp only at hn hle ⊢;have hc:R 150 [.ptr 0 0,.d (.int .i64 1)] [.box [B q.1,Bo q.2]]=_:=zfA 1 q (by omega)
 have hle2:=zhg 1 q;obtain⟨y,hy⟩: ∃y,y=zfG 1 q:=⟨_,rfl⟩;rw[<- hy]at hc hle2 ⊢;clear hy;obtain⟨b,bad⟩:=s;simp only at hn hb hle;obtain⟨qb,qbad⟩:=q;simp only at hn hc hle hle2 ⊢;have hh:zp1 qb<256:=by
  cases qb with
  |nil=>exact (by decide)
  |cons c r=>exact c.toNat_lt
 obtain⟨fl,hfl⟩: ∃fl,fl=zp1 qb:=⟨_,rfl⟩;rw[<- hfl]at hh ⊢;rcases qb with _ | ⟨c,r⟩
 all_goals
  simp only[zp1]at hfl;simp only[B,bytes,yda,ya1,zqA]at hc hn;refine rg zIf rfl ?_;intro T hT;simp -dsimp -implicitDefEqProofs (disch:=first|omega|assumption) [hn,hc]
  generalize hz:zak _ _ _ _ _ _=z;revert z;refine zaa (σ:=Nat × Nat × List UInt8 × Bool) (λx=>[(0,.ptr 0 0),(1,.d (.int .u8 k)),(4,.d (.int .u8 x.2.1))]) (λx=>[.box [B x.2.2.1,Bo x.2.2.2]]) (λx=>x.2.1<2 ^ x.1/\x.1<=8/\x.2.2.1.length<=y.1.length/\zhh k 8 fl y=zhh k x.1 x.2.1 x.2.2) (λx=>x.1) (8,fl,y) ?_ ?_ ?_
  ·exact⟨hh,yag _,yag _,rfl⟩
  ·simp -dsimp -implicitDefEqProofs (disch:=first|omega|assumption) [hfl]
  intro T' f hT' ⟨m,g,s⟩ ⟨g1,g2,g3,g4⟩ ih;simp only at g1 g2 g3 g4 ih;have g256:g<256:=ybn g1 (ybw (n:=2) (by decide) g2)
  by_cases h1:0<g
  ·cases m with
   |zero=>simp at g1;omega
   |succ m=>
    have g1':g / 2<2 ^ m:=by rw[ycP]at g1;omega
    by_cases h2:s.2=false
    ·rw[show zhh k (m+1) g s=zhh k m (g / 2) (if g % 2=1 then zkn k s else s) from yai ⟨h1,h2⟩]at g4
     by_cases h3:g % 2=1
     ·have hcc:=ztb k s (by simp only[yav,yad]at *;omega)
      have hcl:=zrr k s;rw[yai h3]at g4;rw[h2]at hcc;simp -dsimp -implicitDefEqProofs (disch:=first|omega|assumption) [h1,h2,h3,hcc]
      refine ih (m,g / 2,zkn k s) _ _ ⟨g1',by simp only;omega,by simp only;omega,g4⟩ (by simp only;omega) ?_
      simp -dsimp -implicitDefEqProofs (disch:=first|omega|assumption)
     ·rw[yaf h3]at g4
      have h3': ¬ (g:Int) % 2=1:=by omega
      simp -dsimp -implicitDefEqProofs (disch:=first|omega|assumption) [h1,h2,h3,h3']
      refine ih (m,g / 2,s) _ _ ⟨g1',by simp only;omega,g3,g4⟩ (by simp only;omega) ?_
      simp -dsimp -implicitDefEqProofs (disch:=first|omega|assumption) [h2]
    ·have h2':s.2=true:=by simpa using h2
     rw[zko k (m+1) g s (λh=>h2 h.2)]at g4
     subst hT';rw[g4]at hT;simp -dsimp -implicitDefEqProofs (disch:=first|omega|assumption) [h1,h2']
     simpa -dsimp -implicitDefEqProofs (disch:=first|omega|assumption) [h2']using hT
  ·rw[zko k m g s (λh=>h1 h.1)]at g4
   subst hT';rw[g4]at hT;simp -dsimp -implicitDefEqProofs (disch:=first|omega|assumption) [h1]
   simpa -dsimp -implicitDefEqProofs (disch:=first|omega|assumption) using hT
end Go.Am.Ab
namespace Go.Am.Ab
open Go.Proofs
set_option maxHeartbeats 8000000
set_option maxRecDepth 4000
def zdN (most:Nat) (s:List UInt8 × Nat):Nat × List UInt8 × Nat:=
 if s.2≠0 then (0,s) else if (get s.1).2.2≠0 then (0,s.1,(get s.1).2.2) else if most<(get s.1).1 then (0,s.1,40) else ((get s.1).1,s.1.drop (get s.1).2.1,0)
def zcQ (most:Nat) (s:List UInt8 × Nat):(zdN most s).1<=most/\(zdN most s).2.1.length<=s.1.length:=by
 unfold zdN;split
 ·exact⟨yaj _,yag _⟩
 ·split
  ·exact⟨yaj _,yag _⟩
  ·split
   ·exact⟨yaj _,yag _⟩
   ·simp only[yay];omega
def zca (most:Nat) (s:List UInt8 × Nat) (hb:s.1.length<1000000000):
 R 148 [.ptr 0 0,.d (.int .u64 most)] [.box [B s.1,E s.2]]=some ([.d (.int .u64 (zdN most s).1)],[.box [B (zdN most s).2.1,E (zdN most s).2.2]]):=by
 obtain⟨b,e⟩:=s;simp only at hb;have hg:=zfn b (by omega)
 have hu:=zft b;unfold zdN
 by_cases h0:e=0
 case neg=>
  rw[yai h0];refine rg zEw rfl ?_;intro T hT;simp -dsimp -implicitDefEqProofs (disch:=first|omega|assumption) [h0]
  simpa -dsimp -implicitDefEqProofs (disch:=first|omega|assumption) [B,E]using hT
 subst h0;rw[yaf (by simp)]
 simp only;generalize get b=x at*;obtain⟨n,used,why⟩:=x;simp only at hg hu ⊢;obtain⟨r,hr⟩: ∃r,r=b.drop used:=⟨_,rfl⟩;have hr':List.drop used (bytes b)=bytes r:=by rw[hr];exact List.map_drop.symm
 have hu':(used:Int)<=b.length:=by omega
 rw[<- hr];clear hr
 by_cases h1:why=0
 ·rw[yaf (ycg h1)]
  by_cases h2:most<n
  ·rw[yai h2]
   have h2':(most:Int)<n:=by omega
   refine rg zEw rfl ?_;intro T hT;simp -dsimp -implicitDefEqProofs (disch:=first|omega|assumption) [hg,h1,h2']
   simpa -dsimp -implicitDefEqProofs (disch:=first|omega|assumption) [B,E]using hT
  ·rw[yaf h2]
   have h2': ¬ (most:Int)<n:=by omega
   refine rg zEw rfl ?_;intro T hT;simp -dsimp -implicitDefEqProofs (disch:=first|omega|assumption) [hg,h1,h2',hu',hr']
   simpa -dsimp -implicitDefEqProofs (disch:=first|omega|assumption) [B,E]using hT
 ·rw[yai h1]
  refine rg zEw rfl ?_;intro T hT;simp -dsimp -implicitDefEqProofs (disch:=first|omega|assumption) [hg,h1]
  simpa -dsimp -implicitDefEqProofs (disch:=first|omega|assumption) [B,E]using hT
def zdw (n:Nat) (s:List UInt8 × Nat):ByteArray × List UInt8 × Nat:=
 if s.2≠0 then (noS,s) else if s.1.length<n then (noS,s.1,30) else (⟨(s.1.take n).toArray⟩,s.1.drop n,0)
def zfH (s:List UInt8 × Nat):Fld × List UInt8 × Nat:=
 let a:=zdN 4294967295 s
 let c:=zdN 16 a.2
 let e:=zdw c.1 c.2
 let k:=zdN 255 e.2
 let m:=zdN 1 k.2
 (⟨a.1,e.1,k.1,decide (m.1=1)⟩,m.2)
def zdj:Nat->List UInt8 × Nat->List Fld->List Fld × List UInt8 × Nat
 |0,s,acc=>(acc,s)
 |n+1,s,acc=>if s.2=0 then zdj n (zfH s).2 (acc++[(zfH s).1]) else (acc,s)
def zcH (b:List UInt8):Sch × List UInt8 × Int:=
 let a:=zdN 4294967295 (b,0)
 let c:=zdN 8 a.2
 let r:=zdj c.1 c.2 []
 let s:Sch:=⟨a.1,r.1⟩
 if r.2.2=0 then (if zj7 s=0 then (s,r.2.1,0) else (⟨0,[]⟩,[],zj7 s)) else (⟨0,[]⟩,[],r.2.2)
def zvH (n:Nat) (s:List UInt8 × Nat):(zdw n s).1.size<=n/\(zdw n s).2.1.length<=s.1.length:=by
 unfold zdw;split
 ·exact⟨yaj _,yag _⟩
 ·split
  ·exact⟨yaj _,yag _⟩
  ·simp only[yay]
   refine⟨?_,by omega⟩
   show (s.1.take n).toArray.size<=n
   simp;omega
def zru (s:List UInt8 × Nat):(zfH s).2.1.length<=s.1.length/\(0<=(zfH s).1.id/\(zfH s).1.id<=4294967295/\0<=(zfH s).1.kind/\(zfH s).1.kind<=255/\(zfH s).1.name.size<=16):=by
 unfold zfH;simp only;have h1:=zcQ 4294967295 s;have h2:=zcQ 16 (zdN 4294967295 s).2;have h3:=zvH (zdN 16 (zdN 4294967295 s).2).1 (zdN 16 (zdN 4294967295 s).2).2;have h4:=zcQ 255 (zdw (zdN 16 (zdN 4294967295 s).2).1 (zdN 16 (zdN 4294967295 s).2).2).2;have h5:=zcQ 1 (zdN 255 (zdw (zdN 16 (zdN 4294967295 s).2).1 (zdN 16 (zdN 4294967295 s).2).2).2).2;omega
def ztu (acc:List Fld):V:=match acc with | []=> .nilS | _=> .arr 3 acc.length
def ztv (acc:List Fld):List Obj:=match acc with | []=>[] | _=>[.arr 4 (acc.map Fld.d) 0]
def unV (x:Sch × List UInt8 × Int):List V:=
 match x.1.fields with
 |[]=>[.agg [.d (.int .u32 x.1.id),.nilS],.arr 0 x.2.1.length,.d (.int .i64 x.2.2)]
 |_::fs=>[.agg [.d (.int .u32 x.1.id),.arr 0 (fs.length+1)],.arr 1 x.2.1.length,.d (.int .i64 x.2.2)]
def unH (x:Sch × List UInt8 × Int):List Obj:=
 match x.1.fields with
 |[]=>[.arr 1 (bytes x.2.1) 0]
 |f::fs=>[.arr 4 (f.d::fs.map Fld.d) (fs.length+1),.arr 1 (bytes x.2.1) 0]
def zp2 (b:List UInt8) (hb:b.length<1000000):R 107 [B b] []=some (unV (zcH b),unH (zcH b)):=by
 unfold zcH;have h1:R 148 [.ptr 0 0,.d (.int .u64 4294967295)] [.box [B b,Z]]=_:=zca 4294967295 (b,0) (by simp only;omega)
 have l1:=zcQ 4294967295 (b,0);simp only;generalize zdN 4294967295 (b,0)=a at*;obtain⟨id,a⟩:=a;simp only at h1 l1 ⊢;have h2:R 148 [.ptr 0 0,.d (.int .u64 8)] [.box [B a.1,E a.2]]=_:=zca 8 a (by omega)
 have l2:=zcQ 8 a;generalize zdN 8 a=c at*;obtain⟨n,c⟩:=c;simp only at h2 l2 ⊢;have w1:IntKind.u32.wrap (id:Int)=id:=zqy (by omega) (by omega)
 refine rg zIe rfl ?_;intro T hT;simp -dsimp -implicitDefEqProofs (disch:=first|omega|assumption) [h1,h2,w1]
 generalize hz:zak _ _ _ _ _ _=z;revert z;refine zaa (σ:=Nat × List Fld × List UInt8 × Nat) (λx=>[(2,.ptr 0 0),(5,.ptr 1 0),(6,.ptr 2 0),(7,.d (.int .u64 x.1))]) (λx=>[.box [.d (.int .u32 0),.nilS],.box [B x.2.2.1,E x.2.2.2],.box [.d (.int .u32 id),ztu x.2.1]]++ztv x.2.1) (λx=>x.1<=8/\x.2.2.1.length<=b.length/\zdj n c []=zdj x.1 x.2.2 x.2.1/\x.2.1.length+x.1<=8/\ ∀f∈x.2.1,0<=f.id/\f.id<=4294967295/\0<=f.kind/\f.kind<=255/\f.name.size<=16) (λx=>x.1) (n,[],c) ?_ ?_ ?_
 ·exact⟨l2.1,by simp only;omega,rfl,by simp only[yav];omega,λf h=>by simp at h⟩
 ·simp -dsimp -implicitDefEqProofs (disch:=first|omega|assumption) [ztu,ztv]
 intro T' f hT' ⟨m,acc,q,e⟩ ⟨g1,g2,g3,g4,g5⟩ ih;simp only at g1 g2 g3 g4 g5 ih
 by_cases c1:0<m
 ·by_cases c2:e=0
  ·subst c2
   obtain⟨m,rfl⟩: ∃k,m=k+1:=⟨m - 1,by omega⟩
   rw[show zdj (m+1) (q,0) acc=zdj m (zfH (q,0)).2 (acc++[(zfH (q,0)).1]) from rfl]at g3
   have f1:R 148 [.ptr 0 0,.d (.int .u64 4294967295)] [.box [B q,Z]]=_:=zca 4294967295 (q,0) (by simp only;omega)
   have hfl:=zru (q,0);have k1:=zcQ 4294967295 (q,0);unfold zfH at g3 hfl;simp only at g3 hfl k1;generalize zdN 4294967295 (q,0)=y1 at*;obtain⟨fid,q1,e1⟩:=y1;simp only at f1 g3 hfl k1;have f2:R 148 [.ptr 0 0,.d (.int .u64 16)] [.box [B q1,E e1]]=_:=zca 16 (q1,e1) (by simp only;omega)
   have k2:=zcQ 16 (q1,e1);generalize zdN 16 (q1,e1)=y2 at*;obtain⟨sz,q2,e2⟩:=y2;simp only at f2 g3 hfl k2;have wl:IntKind.u64.wrap (q2.length:Int)=q2.length:=zan (by omega) (by omega)
   have wf:IntKind.u32.wrap (fid:Int)=fid:=zqy (by omega) (by omega)
   have wm:IntKind.u64.wrap (m:Int)=m:=zan (by omega) (by omega)
   by_cases c3:e2=0
   ·subst c3
    by_cases c4:q2.length<sz
    ·rw[show zdw sz (q2,0)=(noS,q2,30) from by unfold zdw;simp[c4]]at g3 hfl
     have c4':(q2.length:Int)<sz:=by omega
     have f3:R 148 [.ptr 0 0,.d (.int .u64 255)] [.box [B q2,.d (.int .i64 30)]]=_:=zca 255 (q2,30) (by simp only;omega)
     simp only at g3 hfl;have k3:=zcQ 255 (q2,30);generalize zdN 255 (q2,30)=y3 at*;obtain⟨kk,q3,e3⟩:=y3;simp only at f3 g3 hfl k3;have f4:R 148 [.ptr 0 0,.d (.int .u64 1)] [.box [B q3,E e3]]=_:=zca 1 (q3,e3) (by simp only;omega)
     generalize zdN 1 (q3,e3)=y4 at*;obtain⟨nd,q4,e4⟩:=y4;simp only at f4 g3 hfl;have wk:IntKind.u8.wrap (kk:Int)=kk:=zpp (by omega) (by omega)
     have wd:((nd:Int)=1)=(nd=1):=by simp only[eq_iff_iff];omega
     rcases acc with _ | ⟨f0,acc⟩
     all_goals
      simp only[yav,yad]at g4;simp -dsimp -implicitDefEqProofs (disch:=first|omega|assumption) [c1,f1,f2,f3,f4,wf,wk,wl,wm,wd,ztu,ztv,c4']
      refine ih (m,_,q4,e4) _ _ ⟨by simp only;omega,by simp only;omega,g3,by simp only[yae,yad,yav]at *;omega,λx hx=> ?_⟩ (by simp only;omega) ?_
      ·rcases List.mem_append.1 hx with h | h
       ·exact g5 x h
       ·obtain rfl:=List.mem_singleton.1 h;exact hfl.2
      ·simp -dsimp -implicitDefEqProofs (disch:=first|omega|assumption) [ztu,ztv]
    ·obtain⟨w,hw⟩: ∃w,w=q2.take sz:=⟨_,rfl⟩
     obtain⟨v,hv⟩: ∃v,v=q2.drop sz:=⟨_,rfl⟩;rw[show zdw sz (q2,0)=(⟨w.toArray⟩,v,0) from by unfold zdw;simp[c4,hw,hv]]at g3 hfl
     have c4': ¬ (q2.length:Int)<sz:=by omega
     have c5:(sz:Int)<=q2.length:=by omega
     have hw':List.take sz (bytes q2)=bytes w:=by rw[hw];exact List.map_take.symm
     have hv':List.drop sz (bytes q2)=bytes v:=by rw[hv];exact List.map_drop.symm
     have hvl:v.length<=q2.length:=by rw[hv,yay];omega
     have hM:=zfx w;clear hw hv;have f3:R 148 [.ptr 0 0,.d (.int .u64 255)] [.box [B v,Z]]=_:=zca 255 (v,0) (by simp only;omega)
     simp only at g3 hfl;have k3:=zcQ 255 (v,0);generalize zdN 255 (v,0)=y3 at*;obtain⟨kk,q3,e3⟩:=y3;simp only at f3 g3 hfl k3;have f4:R 148 [.ptr 0 0,.d (.int .u64 1)] [.box [B q3,E e3]]=_:=zca 1 (q3,e3) (by simp only;omega)
     generalize zdN 1 (q3,e3)=y4 at*;obtain⟨nd,q4,e4⟩:=y4;simp only at f4 g3 hfl;have wk:IntKind.u8.wrap (kk:Int)=kk:=zpp (by omega) (by omega)
     have wd:((nd:Int)=1)=(nd=1):=by simp only[eq_iff_iff];omega
     rcases acc with _ | ⟨f0,acc⟩
     all_goals
      simp only[yav,yad]at g4;simp -dsimp -implicitDefEqProofs (disch:=first|omega|assumption) [c1,f1,f2,f3,f4,wf,wk,wl,wm,wd,ztu,ztv,c4',c5,hw',hv',hM]
      refine ih (m,_,q4,e4) _ _ ⟨by simp only;omega,by simp only;omega,g3,by simp only[yae,yad,yav]at *;omega,λx hx=> ?_⟩ (by simp only;omega) ?_
      ·rcases List.mem_append.1 hx with h | h
       ·exact g5 x h
       ·obtain rfl:=List.mem_singleton.1 h;exact hfl.2
      ·simp -dsimp -implicitDefEqProofs (disch:=first|omega|assumption) [ztu,ztv]
   ·rw[show zdw sz (q2,e2)=(noS,q2,e2) from by unfold zdw;simp[c3]]at g3 hfl
    have c3': ¬ (e2:Int)=0:=by omega
    have f3:R 148 [.ptr 0 0,.d (.int .u64 255)] [.box [B q2,E e2]]=_:=zca 255 (q2,e2) (by simp only;omega)
    simp only at g3 hfl;have k3:=zcQ 255 (q2,e2);generalize zdN 255 (q2,e2)=y3 at*;obtain⟨kk,q3,e3⟩:=y3;simp only at f3 g3 hfl k3;have f4:R 148 [.ptr 0 0,.d (.int .u64 1)] [.box [B q3,E e3]]=_:=zca 1 (q3,e3) (by simp only;omega)
    generalize zdN 1 (q3,e3)=y4 at*;obtain⟨nd,q4,e4⟩:=y4;simp only at f4 g3 hfl;have wk:IntKind.u8.wrap (kk:Int)=kk:=zpp (by omega) (by omega)
    have wd:((nd:Int)=1)=(nd=1):=by simp only[eq_iff_iff];omega
    rcases acc with _ | ⟨f0,acc⟩
    all_goals
     simp only[yav,yad]at g4;simp -dsimp -implicitDefEqProofs (disch:=first|omega|assumption) [c1,f1,f2,f3,f4,wf,wk,wl,wm,wd,ztu,ztv,c3,c3']
     refine ih (m,_,q4,e4) _ _ ⟨by simp only;omega,by simp only;omega,g3,by simp only[yae,yad,yav]at *;omega,λx hx=> ?_⟩ (by simp only;omega) ?_
     ·rcases List.mem_append.1 hx with h | h
      ·exact g5 x h
      ·obtain rfl:=List.mem_singleton.1 h;exact hfl.2
     ·simp -dsimp -implicitDefEqProofs (disch:=first|omega|assumption) [ztu,ztv]
  ·have g6:zdj n c []=(acc,q,e):=by
    rw[g3];cases m with
    |zero=>rfl
    |succ m=>exact yaf c2
   rw[g6]at hT;subst hT';simp only[c2,ybg]at hT;rcases acc with _ | ⟨f0,acc⟩
   all_goals
    simp -dsimp -implicitDefEqProofs (disch:=first|omega|assumption) [c1,c2,ztu,ztv]
    simpa -dsimp -implicitDefEqProofs (disch:=first|omega|assumption) [unV,unH]using hT
 ·obtain rfl:m=0:=by omega
  have g6:zdj n c []=(acc,q,e):=g3;rw[g6]at hT;subst hT';simp only at hT
  by_cases c2:e=0
  ·subst c2
   rw[yai rfl]at hT;have hck:=zj8 ⟨id,acc⟩ (by simp only;omega) (λf hf=>by have:=g5 f hf;omega) (by simp only;omega)
   simp only[Sch.d]at hck;have hcl:=zge q (by omega)
   by_cases c3:zj7 ⟨id,acc⟩=0
   ·rw[yai c3]at hT
    rw[c3]at hck;rcases acc with _ | ⟨f0,acc⟩
    all_goals
     simp only[yda,ya1,Fld.d]at hck;simp -dsimp -implicitDefEqProofs (disch:=first|omega|assumption) [ztu,ztv,hck,hcl]
     simpa -dsimp -implicitDefEqProofs (disch:=first|omega|assumption) [unV,unH]using hT
   ·rw[yaf c3]at hT
    generalize zj7 ⟨id,acc⟩=ce at*;rcases acc with _ | ⟨f0,acc⟩
    all_goals
     simp only[yda,ya1,Fld.d]at hck;simp -dsimp -implicitDefEqProofs (disch:=first|omega|assumption) [ztu,ztv,hck,hcl,c3]
     simpa -dsimp -implicitDefEqProofs (disch:=first|omega|assumption) [unV,unH]using hT
  ·rw[yaf c2]at hT
   rcases acc with _ | ⟨f0,acc⟩
   all_goals
    simp -dsimp -implicitDefEqProofs (disch:=first|omega|assumption) [c2,ztu,ztv]
    simpa -dsimp -implicitDefEqProofs (disch:=first|omega|assumption) [unV,unH]using hT
end Go.Am.Ab
namespace Go.Am.Ab
open Go.Proofs
set_option maxHeartbeats 8000000
set_option maxRecDepth 4000
def zgg {k n:Nat} {b:List UInt8} (h:(zbQ k b n).2=0):zgj k (zbQ k b n).1/\(zbQ k b n).1.length=n/\n<=256/\1<=k/\k<=3:=by
 unfold zbQ at h ⊢
 by_cases hk:1<=k/\k<=3
 ·rw[yaf (λc=>c hk)]at h ⊢
  by_cases h1:(n:Int)<0\/256<(n:Int)
  ·rw[yai h1]at h;simp at h
  rw[yaf h1,yaz]at h ⊢
  by_cases h2:(ze4 k n b).2≠0
  ·rw[yai h2]at h;exact absurd h h2
  rw[yaf h2]at h ⊢;have hg:=zlS hk (n:=n) (b:=b) (by omega)
  by_cases h3:zeu k (ze4 k n b).1=b
  ·rw[yai h3]
   exact⟨hg.1,hg.2,by omega,hk⟩
  ·rw[yaf h3]at h;simp at h
 ·rw[yai hk]at h;simp at h
def zvI (a c k m:Nat) (hm:m=2 ^ k) (ha:a<m) (hc:a+c*m<9223372036854775808):zbq .or .i64 (a:Int) ((c:Int)*m)=some (.int .i64 ((a:Int)+c*m)):=by
 have e:(c:Int)*m=((c*m:Nat):Int):=by rw[ybt]
 have h1:a<2 ^ 64:=by omega
 have h2:c*m<2 ^ 64:=by omega
 have h3:a ||| c*m=a+c*m:=zf5 (i:=k) (by rw[hm];exact ydg _ _) (by rw[<- hm];exact ha)
 rw[e]
 show some (D.int .i64 (IntKind.i64.wrap (BitVec.ofInt 64 (a:Int) ||| BitVec.ofInt 64 ((c*m:Nat):Int)).toNat))=_
 rw[ydr,zaQ,zaQ,yaJ h1,yaJ h2,h3,wI (by omega) (by omega),Int.natCast_add]
def zlY {b:List UInt8} (h:(zcH b).2.2=0):zj7 (zcH b).1=0/\SchOk (zcH b).1/\(zcH b).2.1.length<=b.length:=by
 have hfs: ∀ (n:Nat) (s:List UInt8 × Nat) (acc:List Fld),(∀f∈acc,0<=f.id/\f.id<4294967296/\0<=f.kind/\f.kind<256/\f.name.size<5000)->(zdj n s acc).2.1.length<=s.1.length/\ ∀f∈(zdj n s acc).1,0<=f.id/\f.id<4294967296/\0<=f.kind/\f.kind<256/\f.name.size<5000:=by
  intro n
  induction n with
  |zero=>exact λs acc h=>⟨yag _,h⟩
  |succ n ih=>
   intro s acc h;unfold zdj;split
   ·have hl:=zru s
    obtain⟨h1,h2⟩:=ih (zfH s).2 (acc++[(zfH s).1]) λf hf=>by
     rcases List.mem_append.1 hf with hf | hf
     ·exact h f hf
     ·obtain rfl:=List.mem_singleton.1 hf;omega
    exact⟨by omega,h2⟩
   ·exact⟨yag _,h⟩
 have h1:=zcQ 4294967295 (b,0);have h2:=zcQ 8 (zdN 4294967295 (b,0)).2;unfold zcH at h ⊢;simp only at h h1 ⊢;generalize zdN 4294967295 (b,0)=a at*;generalize zdN 8 a.2=c at*;obtain⟨h3,h4⟩:=hfs c.1 c.2 [] λf hf=>by simp at hf
 generalize zdj c.1 c.2 []=r at*
 by_cases e:r.2.2=0
 ·rw[yai e]at h ⊢
  by_cases e2:zj7 ⟨a.1,r.1⟩=0
  ·rw[yai e2]
   have:=(ze8 e2).len;exact⟨e2,⟨by simp only;omega,by simp only at this ⊢;omega,h4⟩,by simp only;omega⟩
  ·rw[yaf e2]at h;exact absurd h e2
 ·rw[yaf e]at h;simp only at h;omega
def zz5 (b:List UInt8):Nat:=(b.getD 0 0).toNat+(b.getD 1 0).toNat*256+(b.getD 2 0).toNat*65536+(b.getD 3 0).toNat*16777216
def zp3 (T:List (List Val)) (l:List Val):List (List Val):=List.zipWith (λr v=>r++[v]) T l
def zgh (many:Nat):List Nat->List UInt8 × Bool->List UInt8->List (List Val)->Option ((List UInt8 × Bool) × List UInt8 × List (List Val))
 |[],r,e,T=>some (r,e,T)
 |k::ks,r,e,T=>
  if (ziH k (zev 65536 r).2).2=true\/e.length<(zev 65536 r).1 then none
  else if (zbQ k (e.take (zev 65536 r).1) many).2≠0 then none
  else zgh many ks (ziH k (zev 65536 r).2) (e.drop (zev 65536 r).1) (zp3 T (zbQ k (e.take (zev 65536 r).1) many).1)
def zfB (many k:Nat) (ks:List Nat) (r:List UInt8 × Bool) (e:List UInt8) (T:List (List Val)):zgh many (k::ks) r e T=
 if (ziH k (zev 65536 r).2).2=true\/e.length<(zev 65536 r).1 then none
 else if (zbQ k (e.take (zev 65536 r).1) many).2≠0 then none
 else zgh many ks (ziH k (zev 65536 r).2) (e.drop (zev 65536 r).1) (zp3 T (zbQ k (e.take (zev 65536 r).1) many).1):=rfl
def ziI (ks:List Nat) (g:Nat):Nat->Nat->List UInt8 × Bool->List UInt8->List (List Val)->Option (List (List Val))
 |0,_,_,_,_=>none
 |f+1,n,r,e,acc=>if n=0 then some acc else match zgh (min n g) ks r e (List.replicate (min n g) []) with
  |none=>none
  |some (r',e',T)=>ziI ks g f (n - min n g) r' e' (acc++T)
def zmP (b:List UInt8):Option (Sch × List (List Val) × Nat):=
 if b.length<4 then none else
 if (b.take (b.length - 4)).length<zz5 (b.drop (b.length - 4)) then none else
 let u:=b.take (b.length - 4)
 let m:=u.length - zz5 (b.drop (b.length - 4))
 let un:=zcH (u.drop m)
 if un.2.2≠0 then none else
 let n:=zev 256 (un.2.1,false)
 let g:=zev 64 n.2
 if g.2.2=true\/g.1<1 then none else
 match ziI (un.1.fields.map (·.kind.toNat)) g.1 257 n.1 g.2 (u.take m) [] with
 |none=>none
 |some X=>some (un.1,X,g.1)
def ziX {Z Z' P0:List (List Val)} {l:List Val} {a:Nat} {row:List Val} {v:Val} (hZ: ∀j:Nat,Z[j]? =if j<a then (zp3 P0 l)[j]? else P0[j]?) (hr:Z[a]? =some row) (hv:l[a]? =some v)
 (hZ': ∀j:Nat,Z'[j]? =if j=a then some (row++[v]) else Z[j]?): ∀j:Nat,Z'[j]? =if j<a+1 then (zp3 P0 l)[j]? else P0[j]? :=by
 intro j;rw[hZ' j]
 by_cases e:j=a
 ·subst e
  have h:=hZ j;rw[yaf (ybv j),hr]at h;rw[yai rfl,yai (Nat.lt_succ_self j)];unfold zp3;rw[List.getElem?_zipWith,<- h,hv]
 ·rw[yaf e,hZ j]
  by_cases e2:j<a
  ·rw[yai e2,yai (by omega)]
  ·rw[yaf e2,yaf (by omega)]
def zgi (T:List (List Val)) (l:List Val):(zp3 T l).length=min T.length l.length:=List.length_zipWith
def RA (X:List (List Val)):Option (List D × Nat):=match X with | []=>none | _=>some (za6 X,0)
def rd3 (a0 a1 b0 b1 gg:D) (R:Option (List D × Nat)):List Obj:=
 .box [.d a0,.d a1]:: .box [.d b0,.d b1]:: .box [.d a0,.d a1,(match R with | none=> .nilS | some (xs,_)=> .arr 3 xs.length),.d gg,.nilS]::(match R with | none=>[] | some (xs,wm)=>[.arr 1 xs wm])
def rdV:Option (Sch × List (List Val) × Nat)->List V
 |none=>[.d .nilP,.d (.bool false)]
 |some _=>[.ptr 0 0,.d (.bool true)]
def rdH:Option (Sch × List (List Val) × Nat)->List Obj
 |none=>[]
 |some (s,X,g)=> .box [.d (.int .u32 s.id),.d (.list (s.fields.map Fld.d)),(match X with | []=> .nilS | _::r=> .arr 1 (r.length+1)),.d (.int .i64 g),.nilS]::(match X with | []=>[] | _=>[.arr 1 (za6 X) 0])
end Go.Am.Ab
