/- Files of rows, read. -/
import Derived.Test.YtibdiacpdmhmnaaGreatDoorColD
import Derived.Test.YtibdiacpdmhmnaaGreatDoorOpenA
set_option linter.all false
namespace Go.Am.Ab
open Go.Proofs
set_option maxHeartbeats 16000000
set_option maxRecDepth 4000
def zrv {a0 a1 b0 b1 gg:D} {h:List Obj} {xs:List D} {wm L:Nat} {keep:List (Nat × Nat)} {s s1:Slots} (h0:h[0]? =some (.box [.d a0,.d a1])) (h1:h[1]? =some (.box [.d b0,.d b1]))
 (h2:h[2]? =some (.box [.d a0,.d a1,.arr L xs.length,.d gg,.nilS])) (hL:h[L]? =some (.arr 1 xs wm)) (hL3:3<=L)
 (hk:zad s h keep=(s1,h)) (hr:zal [] (s1.flatMap λq=>q.2.ids)=[0,1,2]) (hs: ∀f:Nat->Option Nat,f 0=some 0->f 1=some 1->f 2=some 2->zaw f s1=some s1):
 zew 0 keep s h=some (s1,rd3 a0 a1 b0 b1 gg (some (xs,wm))):=by
 have hl:3<h.length:=ybP hL3 (lt_of_getElem? hL);obtain⟨fu,hfu⟩: ∃fu,h.length+1=fu+3:=⟨h.length - 2,by omega⟩
 have i0:zb5 h 0=[]:=by rw[zb5,h0];rfl
 have i1:zb5 h 1=[]:=by rw[zb5,h1];rfl
 have i2:zb5 h 2=[L]:=by rw[zb5,h2];rfl
 have iL:zb5 h L=[]:=by rw[zb5,hL];rfl
 have hreach:za8 h [0,1,2]=[0,1,2,L]:=by
  unfold za8;rw[hfu,zcn (i:=0) rfl,i0,show zal [0,1,2] []=[0,1,2] from rfl,zcn (i:=1) rfl,i1,show zal [0,1,2] []=[0,1,2] from rfl,zcn (i:=2) rfl,i2,
   zco [L] [0,1,2] (by simp) (λi hi=>by simp at hi ⊢;omega)]
  refine zcP h _ _ _ λj id hj e=> ?_
  have:j=3:=by
   have:=lt_of_getElem? e;simp at this;omega
  subst this;obtain rfl:=yaV e;exact iL
 have p0:zar [0,1,2,L] 0=some 0:=rfl;have p1:zar [0,1,2,L] 1=some 1:=rfl;have p2:zar [0,1,2,L] 2=some 2:=rfl;have p3:zar [0,1,2,L] L=some 3:=zbX (by simp;omega) rfl
 have ht:zax h (zar [0,1,2,L]) [0,1,2,L]=some (rd3 a0 a1 b0 b1 gg (some (xs,wm))):=by
  unfold zax;simp only[yaI,yck,h0,h1,h2,hL,yde,ren_arr,Obj.ren,V.ren1,V.ren0,p3,yaF];rfl
 unfold zew;rw[hk];simp only;rw[show List.range 0=[] from rfl,hr,hreach,hs _ p0 p1 p2,ht]
def zvJ (h:List Obj) (m:Nat) (hm:m<2147483648):zdP Tryz.prog h 34 (.d (.int .i64 m)) (.d (.int .i64 m))=some (.mp h.length,h++[.box (List.replicate m .nilS)]):=by
 have e:(Tryz.prog.info? 71).map (λi=>(i.bytes,i.size,i.zero.map (·.cells.toList.map zaE)))=some (24,1,some [.nilS]):=by kernel_rfl
 obtain⟨i,hi,e⟩:=Option.map_eq_some_iff.1 e;simp only[yab]at e;obtain⟨e1,e2,e3⟩:=e;unfold zdP;rw[Tryz.underlying34];simp only[hi,e1,e2,e3];rw[yai (by simp;omega),yaz]
def ztc (b:List UInt8) (hb:b.length<1000000):R 60 [B b] []=some (rdV (zmP b),rdH (zmP b)):=by
 unfold zmP
 by_cases h1:b.length<4
 ·rw[yai h1]
  have h1':(b.length:Int)<4:=by omega
  refine rg b60 rfl ?_;intro T hT;simp -dsimp -implicitDefEqProofs (disch:=first|omega|assumption) [h1']
  simpa -dsimp -implicitDefEqProofs (disch:=first|omega|assumption) [rdV,rdH]using hT
 rw[yaf h1];have h1': ¬ (b.length:Int)<4:=by omega
 obtain⟨t,ht⟩: ∃t,t=b.drop (b.length - 4):=⟨_,rfl⟩;obtain⟨u,hu⟩: ∃u,u=b.take (b.length - 4):=⟨_,rfl⟩;have x1:((b.length:Int) - 4).toNat=b.length - 4:=by omega
 have x2:(4:Int)<=b.length:=by omega
 have ht':List.drop (b.length - 4) (bytes b)=bytes t:=by rw[ht];exact List.map_drop.symm
 have hu':List.take (b.length - 4) (bytes b)=bytes u:=by rw[hu];exact List.map_take.symm
 have htl:t.length=4:=by rw[ht,yay];omega
 have hul:u.length=b.length - 4:=by rw[hu,yat];omega
 rw[<- ht,<- hu];clear ht hu;obtain⟨sz,hsz⟩: ∃sz,sz=zz5 t:=⟨_,rfl⟩;rw[<- hsz];obtain⟨c0,c1,c2,c3,rfl⟩: ∃c0 c1 c2 c3,t=[c0,c1,c2,c3]:=by
  match t,htl with
  |[a,b,c,d],_=>exact⟨a,b,c,d,rfl⟩
 have g0:=c0.toNat_lt;have g1:=c1.toNat_lt;have g2:=c2.toNat_lt;have g3:=c3.toNat_lt;have hsz':sz=c0.toNat+c1.toNat*256+c2.toNat*65536+c3.toNat*16777216:=hsz;have w0:IntKind.i64.wrap (c0.toNat:Int)=c0.toNat:=wI (by omega) (by omega)
 have w1:IntKind.i64.wrap (c1.toNat:Int)=c1.toNat:=wI (by omega) (by omega)
 have w2:IntKind.i64.wrap (c2.toNat:Int)=c2.toNat:=wI (by omega) (by omega)
 have w3:IntKind.i64.wrap (c3.toNat:Int)=c3.toNat:=wI (by omega) (by omega)
 have v1:IntKind.i64.wrap ((c1.toNat:Int)*256)=c1.toNat*256:=wI (by omega) (by omega)
 have v2:IntKind.i64.wrap ((c2.toNat:Int)*65536)=c2.toNat*65536:=wI (by omega) (by omega)
 have v3:IntKind.i64.wrap ((c3.toNat:Int)*16777216)=c3.toNat*16777216:=wI (by omega) (by omega)
 have o1:=zvI c0.toNat c1.toNat 8 256 rfl (by omega) (by omega)
 have o2:=zvI (c0.toNat+c1.toNat*256) c2.toNat 16 65536 rfl (by omega) (by omega)
 have o3:=zvI (c0.toNat+c1.toNat*256+c2.toNat*65536) c3.toNat 24 16777216 rfl (by omega) (by omega)
 simp only[Int.natCast_add,ybt,yb7]at o1 o2 o3;have hs1:(c0.toNat:Int)+c1.toNat*256+c2.toNat*65536+c3.toNat*16777216=sz:=by omega
 rw[hs1]at o3
 by_cases h2:u.length<sz
 ·rw[yai h2]
  have h2':((b.length:Int) - 4)<sz:=by omega
  have h2'':(u.length:Int)<sz:=by omega
  refine rg b60 rfl ?_;intro T hT;simp -dsimp -implicitDefEqProofs (disch:=first|omega|assumption) [h1',x1,x2,ht',hu',w0,w1,w2,w3,v1,v2,v3,o1,o2,o3,h2',h2'']
  simpa -dsimp -implicitDefEqProofs (disch:=first|omega|assumption) [rdV,rdH]using hT
 rw[yaf h2];simp only;have h2': ¬ (u.length:Int)<sz:=by omega
 obtain⟨d,hd⟩: ∃d,d=u.drop (u.length - sz):=⟨_,rfl⟩;obtain⟨e,he⟩: ∃e,e=u.take (u.length - sz):=⟨_,rfl⟩;have y1:((u.length:Int) - sz).toNat=u.length - sz:=by omega
 have y2:(sz:Int)<=u.length:=by omega
 have hd':List.drop (u.length - sz) (bytes u)=bytes d:=by rw[hd];exact List.map_drop.symm
 have he':List.take (u.length - sz) (bytes u)=bytes e:=by rw[he];exact List.map_take.symm
 have hdl:d.length<=u.length:=by rw[hd,yay];omega
 have hel:e.length<=u.length:=by rw[he,yat];omega
 rw[<- hd,<- he];clear hd he;have hun:=zp2 d (by omega)
 have hok:=zlY (b:=d);generalize zcH d=un at*;obtain⟨⟨sid,fs⟩,left,why⟩:=un;simp only at hok ⊢
 by_cases h3:why=0
 case neg=>
  rw[yai h3];rcases fs with _ | ⟨f0,fs⟩
  all_goals
   simp only[unV,unH]at hun;refine rg b60 rfl ?_;intro T hT;simp -dsimp -implicitDefEqProofs (disch:=first|omega|assumption) [h1',x1,x2,ht',hu',w0,w1,w2,w3,v1,v2,v3,o1,o2,o3,h2',y1,y2,hd',he',hun,h3]
   simpa -dsimp -implicitDefEqProofs (disch:=first|omega|assumption) [rdV,rdH]using hT
 rw[yaf (ycg h3)];obtain⟨hck,hso,hll⟩:=hok h3;subst h3;have hsi:=ze8 hck;rcases fs with _ | ⟨f0,fs⟩
 ·exact absurd hsi.one (by simp)
 simp only[unV,unH]at hun;obtain⟨ks,hks⟩: ∃ks,ks=(f0::fs).map (·.kind.toNat):=⟨_,rfl⟩
 rw[<- hks];obtain⟨nf,hnf⟩: ∃n,n=fs.length+1:=⟨_,rfl⟩;obtain⟨fl,hfl⟩: ∃l,l=(f0::fs).map Fld.d:=⟨_,rfl⟩;have hfln:nf=fl.length:=by rw[hfl,hnf];simp
 rw[<- hnf,show f0.d::fs.map Fld.d=fl from hfl.symm]at hun
 have hn1:R 108 [.ptr 0 0,.d (.int .i64 256)] [.box [B left,.d (.bool false)]]=_:=zd4 256 (by omega) (left,false) (by simp only;omega)
 have hn1l:=zdM 256 (left,false);generalize zev 256 (left,false)=n1 at*;obtain⟨n,r1⟩:=n1;simp only at hn1 hn1l ⊢;have hn2:R 108 [.ptr 0 0,.d (.int .i64 64)] [.box [B r1.1,Bo r1.2]]=_:=zd4 64 (by omega) r1 (by omega)
 have hn2l:=zdM 64 r1;generalize zev 64 r1=n2 at*;obtain⟨g,r,bad⟩:=n2;simp only at hn2 hn2l ⊢
 by_cases h4:bad=true
 ·subst h4
  rw[yai (.inl rfl)];refine rg b60 rfl ?_;intro T hT;simp -dsimp -implicitDefEqProofs (disch:=first|omega|assumption) [h1',x1,x2,ht',hu',w0,w1,w2,w3,v1,v2,v3,o1,o2,o3,h2',y1,y2,hd',he',hun,hn1,hn2,hfln]
  simpa -dsimp -implicitDefEqProofs (disch:=first|omega|assumption) [rdV,rdH]using hT
 obtain rfl:bad=false:=by simpa using h4
 by_cases h5:g<1
 ·have h5':(g:Int)<1:=by omega
  rw[yai (.inr h5)];refine rg b60 rfl ?_;intro T hT;simp -dsimp -implicitDefEqProofs (disch:=first|omega|assumption) [h1',x1,x2,ht',hu',w0,w1,w2,w3,v1,v2,v3,o1,o2,o3,h2',y1,y2,hd',he',hun,hn1,hn2,h5',hfln]
  simpa -dsimp -implicitDefEqProofs (disch:=first|omega|assumption) [rdV,rdH]using hT
 have h5': ¬ (g:Int)<1:=by omega
 rw[yaf (by simp[h5])]
 refine rg b60 rfl ?_;intro T hT;simp -dsimp -implicitDefEqProofs (disch:=first|omega|assumption) [h1',x1,x2,ht',hu',w0,w1,w2,w3,v1,v2,v3,o1,o2,o3,h2',y1,y2,hd',he',hun,hn1,hn2,h5',hfln]
 have hRd: ∀X:List (List Val),rdH (some (⟨sid,f0::fs⟩,X,g))= .box [.d (.int .u32 sid),.d (.list fl),(match X with | []=> .nilS | _::r=> .arr 1 (r.length+1)),.d (.int .i64 g),.nilS]::(match X with | []=>[] | _=>[.arr 1 (za6 X) 0]):=λX=>by rw[hfl];rfl
 generalize hz:zak _ _ _ _ _ _=z;revert z;refine zaa (σ:=Nat × (List UInt8 × Bool) × List UInt8 × List (List Val)) (λx=>[(0,B x.2.2.1),(6,.ptr 0 0),(9,.ptr 1 0),(10,.ptr 2 0),(11,.d (.int .i64 x.1))]) (λx=>rd3 (.int .u32 sid) (.list fl) (.list (bytes x.2.1.1)) (.bool x.2.1.2) (.int .i64 g) (RA x.2.2.2)) (λx=>x.2.1.2=false/\x.2.1.1.length<=b.length/\x.2.2.1.length<=b.length/\x.2.2.2.length+x.1<=256/\ ∃f,x.1<f/\ziI ks g 257 n (r,false) e []=ziI ks g f x.1 x.2.1 x.2.2.1 x.2.2.2) (λx=>x.1) (n,(r,false),e,[]) ?_ ?_ ?_
 ·exact⟨rfl,by simp only;omega,by simp only;omega,by simp only[yav];omega,257,by simp only;omega,rfl⟩
 ·simp -dsimp -implicitDefEqProofs (disch:=first|omega|assumption) [rd3,RA]
 intro T' f hT' ⟨n,⟨r,bad⟩,e,acc⟩ ⟨g1,g2,g3,g4,fu,g5,g6⟩ ih;simp only at g1 g2 g3 g4 g5 g6 ih;subst g1;rw[g6]at hT
 by_cases h6:0<n
 case neg=>
  obtain rfl:n=0:=by omega
  obtain⟨fu,rfl⟩: ∃k,fu=k+1:=⟨fu - 1,by omega⟩
  rw[show ziI ks g (fu+1) 0 (r,false) e acc=some acc from rfl]at hT
  simp only[rdV,hRd]at hT;subst hT';rcases acc with _ | ⟨x,acc⟩
  all_goals
   simp -dsimp -implicitDefEqProofs (disch:=first|omega|assumption) [rd3,RA]
   simpa -dsimp -implicitDefEqProofs (disch:=first|omega|assumption) using hT
 obtain⟨fu,rfl⟩: ∃k,fu=k+1:=⟨fu - 1,by omega⟩
 obtain⟨m,hm⟩: ∃m,m=min n g:=⟨_,rfl⟩;obtain⟨d,hd⟩: ∃d,d=n - m:=⟨_,rfl⟩;have hgr:ziI ks g (fu+1) n (r,false) e acc=match zgh m ks (r,false) e (List.replicate m []) with
  |none=>none
  |some (r',e',T)=>ziI ks g fu d r' e' (acc++T):=by
  rw[hd,hm];exact yaf (by omega)
 rw[hgr]at hT g6;have hmv:(if g<n then (g:Int) else n)=m:=by split <;> omega
 have hmk:=λh=>zvJ h m (by omega)
 have hdv:(n:Int) - m=d:=by omega
 have hm0:0<m:=by omega
 have h6':(0:Int)<n:=by omega
 have hksl:ks.length=nf:=by rw[hks,hnf];simp
 have hRA:RA acc=none/\acc=[]\/ ∃xs,RA acc=some (xs,0)/\xs=za6 acc/\xs.length=acc.length/\0<acc.length:=by
  cases acc with
  |nil=>exact .inl ⟨rfl,rfl⟩
  |cons x l=>exact .inr ⟨_,rfl,rfl,by simp,by simp⟩
 rcases hRA with ⟨hR,hacc⟩ | ⟨xs,hR,hxs,hxl,hac⟩
 ·simp -dsimp -implicitDefEqProofs (disch:=first|omega|assumption) [hR,rd3,h6,h6',hmv,hdv,hfln,hmk]
  generalize hz:zak _ _ _ _ _ _=z;revert z;refine zaa (σ:=Nat × (List UInt8 × Bool) × List UInt8 × List (List Val) × Nat) (λx=>[(0,B x.2.2.1),(6,.ptr 0 0),(9,.ptr 1 0),(10,.ptr 2 0),(11,.d (.int .i64 d)),(12,.d (.int .i64 m)),(13,.mp 3),(117,.d (.list fl)),(118,.d (.int .i64 nf)),(119,.d (.int .i64 x.1))]) (λx=>zcf (.int .u32 sid) (.list fl) (.list (bytes x.2.1.1)) (.bool x.2.1.2) (.int .i64 g) none (tcs (zaO none) x.2.2.2.1++List.replicate x.2.2.2.2 .nilS)++x.2.2.2.1.map zdl) (λx=>x.1<=nf/\x.2.1.2=false/\x.2.1.1.length<=b.length/\x.2.2.1.length<=b.length/\x.2.2.2.1.length+x.2.2.2.2=m/\(x.1=0/\x.2.2.2.1=[]\/x.2.2.2.2=0)/\(∀q∈x.2.2.2.1,q.length<=x.1)/\zgh m ks (r,false) e (List.replicate m [])=zgh m (ks.drop x.1) x.2.1 x.2.2.1 (x.2.2.2.1++List.replicate x.2.2.2.2 [])) (λx=>nf - x.1) (0,(r,false),e,[],m) ?_ ?_ ?_
  ·exact⟨yaj _,rfl,g2,g3,by simp,.inl ⟨rfl,rfl⟩,λq hq=>by simp at hq,rfl⟩
  ·simp -dsimp -implicitDefEqProofs (disch:=first|omega|assumption) [zcf,zaO,tcs,zvF,zvG,hfln]
  intro T2 f2 hT2 ⟨i,⟨r,bad⟩,e,T1,k⟩ ⟨j1,j2,j3,j4,j5,j6,j8,j7⟩ ih2;simp only at j1 j2 j3 j4 j5 j6 j7 j8 ih2;subst j2;obtain⟨L,hL⟩: ∃L,L=T1.length:=⟨_,rfl⟩;obtain⟨O,hO⟩: ∃O,O=T1.map zdl:=⟨_,rfl⟩;have hOl:O.length=L:=by rw[hO,yak,hL]
  have hO0: ∀X:List Obj,(O++X)[L]? =X[0]? :=λX=>by rw[<- hOl,yah (yag _),ya7]
  have hOk: ∀ (X:List Obj) (k:Nat),(O++X)[L+k]? =X[k]? :=λX k=>by rw[<- hOl,yah (ybM _ _),yaN]
  have hS0: ∀ (X:List Obj) (v:Obj),(O++X).set L v=O++X.set 0 v:=λX v=>by rw[<- hOl,ybl _ _ (yag _),ya7]
  have hSk: ∀ (X:List Obj) (k:Nat) (v:Obj),(O++X).set (L+k) v=O++X.set k v:=λX k v=>by rw[<- hOl,ybl _ _ (ybM _ _),yaN]
  simp only[<- hO]
  by_cases hi:i<nf
  ·have hif:i<(f0::fs).length:=by simp only[yad];omega
   have hifl:i<fl.length:=by omega
   obtain⟨x,hx⟩: ∃x,(f0::fs)[i]=x:=⟨_,rfl⟩;have hfi:fl[i]=x.d:=by simp only[hfl,ybE,hx]
   have hxk:=(hsi.fld x (hx ▸ yar hif)).2;obtain⟨xi,xn,xk,xd⟩:=x;simp only at hxk;obtain⟨kk,rfl⟩: ∃kk:Nat,xk=kk:=⟨xk.toNat,by omega⟩
   have hkd:ks.drop i=kk::ks.drop (i+1):=by
    rw[yaG (by omega)]
    congr 1;simp only[hks,ybE,hx,yaz]
   rw[hkd,zfB]at j7;have p1:R 108 [.ptr 0 0,.d (.int .i64 65536)] [.box [B r,.d (.bool false)]]=_:=zd4 65536 (by omega) (r,false) (by simp only;omega)
   have p1l:=zdM 65536 (r,false);generalize zev 65536 (r,false)=y1 at*;obtain⟨c,r1⟩:=y1;simp only at p1 p1l j7;have p2:=zlX kk r1 (by omega)
   have p2l:=zrt kk r1;generalize ziH kk r1=r2 at*;obtain⟨r2,bad⟩:=r2;simp only at p2 p2l j7
   by_cases q1:bad=true
   ·subst q1
    rw[yai (.inl rfl)]at j7;rw[j7]at hT;subst hT2;subst hT';simp only[rdV,rdH]at hT;simp -dsimp -implicitDefEqProofs (disch:=first|omega|assumption) [hi,hifl,hfi,p1,p2,zcf,zaO,hOl,hO0,hOk,hS0,hSk]
    simpa -dsimp -implicitDefEqProofs (disch:=first|omega|assumption) using hT
   obtain rfl:bad=false:=by simpa using q1
   by_cases q2:e.length<c
   ·rw[yai (.inr q2)]at j7
    rw[j7]at hT;have q2':(e.length:Int)<c:=by omega
    subst hT2;subst hT';simp only[rdV,rdH]at hT;simp -dsimp -implicitDefEqProofs (disch:=first|omega|assumption) [hi,hifl,hfi,p1,p2,zcf,zaO,hOl,hO0,hOk,hS0,hSk,q2']
    simpa -dsimp -implicitDefEqProofs (disch:=first|omega|assumption) using hT
   rw[yaf (by simp[q2])]at j7
   have q2': ¬ (e.length:Int)<c:=by omega
   have q2'':(c:Int)<=e.length:=by omega
   obtain⟨ec,hec⟩: ∃ec,ec=e.take c:=⟨_,rfl⟩;obtain⟨ed,hed⟩: ∃ed,ed=e.drop c:=⟨_,rfl⟩;have hec':List.take c (bytes e)=bytes ec:=by rw[hec];exact List.map_take.symm
   have hed':List.drop c (bytes e)=bytes ed:=by rw[hed];exact List.map_drop.symm
   have hecl:ec.length<=e.length:=by rw[hec,yat];omega
   have hedl:ed.length<=e.length:=by rw[hed,yay];omega
   rw[<- hec,<- hed]at j7;clear hec hed;have p3:=zhd kk (by omega) ec m ⟨by omega,by omega⟩ (by omega)
   have hgood:=zgg (k:=kk) (n:=m) (b:=ec);generalize zbQ kk ec m=y3 at*;obtain⟨l,why⟩:=y3;simp only at p3 hgood j7
   by_cases q3:why=0
   case neg=>
    rw[yai q3]at j7;rw[j7]at hT;have q3': ¬ (why:Int)=0:=by omega
    subst hT2;subst hT';simp only[rdV,rdH]at hT;simp -dsimp -implicitDefEqProofs (disch:=first|omega|assumption) [hi,hifl,hfi,p1,p2,zcf,zaO,hOl,hO0,hOk,hS0,hSk,q2',q2'',hec',hed',p3,q3,q3']
    simpa -dsimp -implicitDefEqProofs (disch:=first|omega|assumption) using hT
   rw[yaf (ycg q3)]at j7;subst q3;obtain⟨hgd,hlm,_⟩:=hgood rfl;simp -dsimp -implicitDefEqProofs (disch:=first|omega|assumption) [hi,hifl,hfi,p1,p2,zcf,zaO,hOl,hO0,hOk,hS0,hSk,q2',q2'',hec',hed',p3,hlm]
   generalize hz:zak _ _ _ _ _ _=z;revert z;refine zaa (σ:=Nat × List (List Val) × Nat) (λx=>[(0,B ed),(6,.ptr 0 0),(9,.ptr 1 0),(10,.ptr 2 0),(11,.d (.int .i64 d)),(12,.d (.int .i64 m)),(13,.mp 3),(117,.d (.list fl)),(118,.d (.int .i64 nf)),(119,.d (.int .i64 i)),(154,.d (.list (vs l))),(155,.d (.int .i64 m)),(156,.d (.int .i64 x.1))]) (λx=>zcf (.int .u32 sid) (.list fl) (.list (bytes r2)) (.bool false) (.int .i64 g) none (tcs (zaO none) x.2.1++List.replicate x.2.2 .nilS)++x.2.1.map zdl) (λx=>x.1<=m/\x.2.1.length+x.2.2=m/\(x.2.1.length=x.1\/x.2.2=0)/\(∀q∈x.2.1,q.length<=i+1)/\ ∀j:Nat,(x.2.1++List.replicate x.2.2 [])[j]? =if j<x.1 then (zp3 (T1++List.replicate k []) l)[j]? else (T1++List.replicate k [])[j]?) (λx=>m - x.1) (0,T1,k) ?_ ?_ ?_
   ·refine⟨yaj _,j5, ?_,λq hq=>Nat.le_succ_of_le (j8 q hq),λj=>by rw[yaf (Nat.not_lt_zero j)]⟩
    rcases j6 with ⟨_,h⟩ | h
    ·exact .inl (by rw[h];rfl)
    ·exact .inr h
   ·refine zd3 none T1 k (by rw[hO];rfl) rfl rfl λf z0 z1 z2 z3=> ?_
    simp[zaw,z0,z1,z2,z3]
   intro T4 f4 hT4 ⟨a,T,k2⟩ ⟨m1,m2,m3,m5,m4⟩ ih4;simp only at m1 m2 m3 m4 m5 ih4;clear hO0 hOk hS0 hSk hOl hO;obtain⟨O,hO⟩: ∃O,O=T.map zdl:=⟨_,rfl⟩;have hOl:O.length=T.length:=by rw[hO,yak]
   simp only[<- hO]
   by_cases ha:a<m
   ·have hal:a<l.length:=by omega
    obtain⟨v,hv⟩: ∃v,l[a]=v:=⟨_,rfl⟩;have hv':(vs l)[a]'(by rw[yak];exact hal)=v.d:=by rw[ybE,hv]
    cases k2 with
    |zero=>
     have haT:a<T.length:=by omega
     obtain⟨row,hrow⟩: ∃row,T[a]=row:=⟨_,rfl⟩;have hT0:T[a]? =some row:=by rw[yal haT,hrow]
     have hP0:=m4 a;rw[yaf (ybv a),show T++List.replicate 0 []=T from yaq T,hT0]at hP0
     have hri:row.length<=i:=by
      rcases List.mem_append.1 (yao hP0.symm) with h | h
      ·exact j8 row h
      ·rw[(List.mem_replicate.1 h).2];exact yaj _
     have hrl:row.length<=9:=by
      have:=hsi.len;simp only[yad]at this;omega
     have hcg:(tcs 4 T)[a]? =some (.arr (a+4) row.length):=by rw[zgf,hT0,yaF,yby]
     have haO:a<O.length:=by omega
     have hOg: ∀X:List Obj,(O++X)[a]? =some (.arr 1 (vs row) 0):=λX=>by rw[yan haO,hO,yax,hT0];rfl
     have hOs: ∀ (X:List Obj) (o:Obj),(O++X).set a o=O.set a o++X:=λX o=>List.set_append_left _ _ haO
     have hOg0:O[a]? =some (.arr 1 (vs row) 0):=by have:=hOg [];rwa [yaq]at this
     have htl:=zaZ 4 T;have hcg':(tcs 4 T)[a]'(by omega)= .arr (a+4) row.length:=yaV ((yal (by omega)).symm.trans hcg)
     have hO1: ∀X:List Obj,(O++X)[T.length]? =X[0]? :=λX=>by rw[yah (by omega),hOl,ya7]
     simp -dsimp -implicitDefEqProofs (disch:=first|omega|assumption) [ha,hal,hv,hcg',hO1,hOg,hOs,hOg0,haT,zcf,zaO,htl,hOl]
     refine ih4 (a+1,T.set a (row++[v]),0) _ _ ⟨ha,by simpa using m2,.inr rfl,λq hq=> ?_,λj=> ?_⟩ (by simp only;omega) ?_
     ·rcases ych hq with h | rfl
      ·exact m5 q h
      ·simp only[yae,yad,yav];omega
     ·refine ziX m4 (row:=row) (v:=v) (by rw[show T++List.replicate 0 []=T from yaq T];exact hT0) (by rw[yal hal,hv]) (λj=> ?_) j
      rw[show T++List.replicate 0 []=T from yaq T,show T.set a (row++[v])++List.replicate 0 []=T.set a (row++[v]) from yaq _,yb2]
      by_cases e:j=a
      ·subst e;rw[yai rfl,yai rfl,yai haT]
      ·rw[yaf (λh=>e h.symm),yaf e]
     ·have c1:List.take a (tcs 4 T)++V.arr (a+4) (row.length+1)::List.drop (a+1) (tcs 4 T)=tcs (zaO none) (T.set a (row++[v]))++List.replicate 0 .nilS:=by
       rw[show zaO none=4 from rfl,zp0,yc0,yai (by omega),yae,yby 4 a]
       exact (yaq _).symm
      have c2:O.set a (.arr 1 (vs row++[v.d]) 0)=(T.set a (row++[v])).map zdl:=by
       rw[ybY,hO];congr 1
       show _=Obj.arr 1 ((row++[v]).map Val.d) 0
       rw[ybi];rfl
      rw[c1,c2];refine zd3 none (T.set a (row++[v])) 0 (zav:=[.arr 1 [v.d] 0]) rfl rfl rfl λf z0 z1 z2 z3=> ?_
      simp[zaw,z0,z1,z2,z3]
    |succ k2=>
     have haT:T.length=a:=by omega
     have htl:=zaZ 4 T;have hcg: ∀X:List V,(tcs 4 T++X)[a]? =X[0]? :=λX=>by rw[yah (by omega),htl,haT,ya7]
     have hcs: ∀ (X:List V) (v:V),(tcs 4 T++X).set a v=tcs 4 T++X.set 0 v:=λX v=>by rw[ybl _ _ (by omega),htl,haT,ya7]
     rw[haT]at hOl;have hO1: ∀X:List Obj,(O++X)[a]? =X[0]? :=λX=>by rw[yah (by omega),hOl,ya7]
     simp -dsimp -implicitDefEqProofs (disch:=first|omega|assumption) [ha,hal,hv,hcg,hcs,hO1,zcf,zaO,htl,hOl,haT]
     refine ih4 (a+1,T++[[v]],k2) _ _ ⟨ha,by simp only[yae,yad,yav];omega,.inl (by simp only[yae,yad,yav];omega),λq hq=> ?_,λj=> ?_⟩ (by simp only;omega) ?_
     ·rcases List.mem_append.1 hq with h | h
      ·exact m5 q h
      ·rw[List.mem_singleton.1 h];simp
     ·refine ziX m4 (row:=[]) (v:=v) (by rw[yah (by omega),haT,ya7];rfl) (by rw[yal hal,hv]) (λj=> ?_) j
      rcases ycw j a with e | e | e
      ·rw[yaf (by omega),yam,yan (by omega),yan (by omega)]
      ·subst e
       rw[yai rfl,yam,yah (by omega),haT,ya7];rfl
      ·obtain⟨x,hx⟩: ∃x,j - T.length=x+1:=⟨j - T.length - 1,by omega⟩
       have e1:(T++([[v]]++List.replicate k2 []))[j]? =(List.replicate k2 ([]:List Val))[x]? :=by rw[yah (by omega),hx];rfl
       have e2:(T++List.replicate (k2+1) [])[j]? =(List.replicate k2 ([]:List Val))[x]? :=by rw[yah (by omega),hx,yaS];rfl
       rw[yaf (by omega),yam,e1,e2]
     ·have c1:List.drop (a+1) (tcs 4 T++List.replicate (k2+1) V.nilS)=List.replicate k2 .nilS:=by
       rw[ydi,ybI (by omega),htl,haT,yaN,yaS];rfl
      have c2:a+1+1+1+1+1=zaO none+T.length+1:=by simp only[zaO];omega
      rw[c1,c2,hO];refine zrq none T [v] k2 (o:= .arr 1 [v.d] 0) (zav:=[]) rfl rfl rfl λf z0 z1 z2 z3=> ?_
      simp[zaw,z0,z1,z2,z3]
   ·obtain rfl:a=m:=by omega
    have hk2:k2=0:=by omega
    subst hk2;have hTm:T.length=a:=by omega
    have hPl:(T1++List.replicate k []).length=a:=by rw[yae,ya6];exact j5
    have hTz:zp3 (T1++List.replicate k []) l=T:=by
     apply ybW;intro j;have:=m4 j;rw[show T++List.replicate 0 []=T from yaq T]at this
     by_cases e:j<a
     ·rw[this,yai e]
     ·rw[yaM (by rw[zgi];omega),yaM (by omega)]
    rw[hTz]at j7;have hwi:IntKind.i64.wrap ((i:Int)+1)=(i:Int)+1:=wI (by have:=hsi.len;simp only[yad]at this;omega) (by have:=hsi.len;simp only[yad]at this;omega)
    subst hT4;simp -dsimp -implicitDefEqProofs (disch:=first|omega|assumption) [ha,zcf,zaO,hwi]
    refine ih2 (i+1,(r2,false),ed,T,0) _ _ ⟨hi,rfl,by simp only;omega,by simp only;omega,by simp only;omega,.inr rfl,m5,by rw[show T++List.replicate 0 []=T from yaq T];exact j7⟩ (by simp only;omega) ?_
    rw[hO];refine zd3 none T 0 (zav:=[]) (by rw[show tcs (zaO none) T++List.replicate 0 V.nilS=tcs 4 T from yaq _,yaq];rfl) rfl rfl λf z0 z1 z2 z3=> ?_
    simp[zaw,z0,z1,z2,z3]
  ·obtain rfl:i=nf:=by omega
   have hk0:k=0:=by omega
   subst hk0;have hT1:T1.length=m:=by omega
   rw[ybI (by omega),show T1++List.replicate 0 []=T1 from yaq T1]at j7
   rw[show zgh m [] (r,false) e T1=some ((r,false),e,T1) from rfl]at j7
   rw[j7]at g6;simp only at g6;subst hT2;obtain⟨F,hF⟩: ∃F,F=T1.map zta:=⟨_,rfl⟩;have hFl:F.length=m:=by rw[hF,yak,hT1]
   have hpl: ∀b0 b1 b2 b3:Obj,zaH (b0::b1::b2::b3::O) (tcs 4 T1)=some (za6 T1,b0::b1::b2::b3::F):=λb0 b1 b2 b3=>by rw[hO,hF];exact zhf T1 [] [b0,b1,b2,b3]
   have hcl: ∀b0 b1 b2 b3:Obj,(tcs 4 T1).mapM (ztw (b0::b1::b2::b3::F))=some (za6 T1):=λb0 b1 b2 b3=>by
    have:=zoD [b0,b1,b2,b3] T1 [];rw[yaq,<- hF]at this;exact this
   obtain⟨X1,hX1⟩: ∃X1,X1=za6 T1:=⟨_,rfl⟩;have hX1l:X1.length=m:=by rw[hX1,yak,hT1]
   have hX1s:zao 1 X1=true:=by rw[hX1];exact zes T1
   rw[<- hX1]at hpl hcl;clear hO0 hOk hS0 hSk;simp -dsimp -implicitDefEqProofs (disch:=first|omega|assumption) [hi,zcf,zaO,hOl,hpl,hcl,hFl,hX1l,hX1s]
   have hRT:RA (acc++T1)=some (X1,0):=by
    rw[hacc,hX1];cases T1 with
    |nil=>simp at hT1;omega
    |cons x l=>rfl
   refine ih (d,(r,false),e,acc++T1) _ _ ⟨rfl,j3,j4,by simp only[yae,hT1];omega,fu,by simp only;omega,g6⟩ (by simp only;omega) ?_
   simp only[hRT];refine zrv (L:=m+1+1+1+1) rfl rfl (by rw[hX1l];rfl) ?_ (by omega) rfl rfl λf z0 z1 z2=> ?_
   ·show (F++[Obj.arr 1 X1 0])[m]? =_
    rw[yah (by omega),hFl,ya7];rfl
   ·simp[zaw,z0,z1,z2]
 ·simp -dsimp -implicitDefEqProofs (disch:=first|omega|assumption) [hR,rd3,h6,h6',hmv,hdv,hfln,hmk]
  generalize hz:zak _ _ _ _ _ _=z;revert z;refine zaa (σ:=Nat × (List UInt8 × Bool) × List UInt8 × List (List Val) × Nat) (λx=>[(0,B x.2.2.1),(6,.ptr 0 0),(9,.ptr 1 0),(10,.ptr 2 0),(11,.d (.int .i64 d)),(12,.d (.int .i64 m)),(13,.mp 3),(117,.d (.list fl)),(118,.d (.int .i64 nf)),(119,.d (.int .i64 x.1))]) (λx=>zcf (.int .u32 sid) (.list fl) (.list (bytes x.2.1.1)) (.bool x.2.1.2) (.int .i64 g) (some (xs,0)) (tcs (zaO (some (xs,0))) x.2.2.2.1++List.replicate x.2.2.2.2 .nilS)++x.2.2.2.1.map zdl) (λx=>x.1<=nf/\x.2.1.2=false/\x.2.1.1.length<=b.length/\x.2.2.1.length<=b.length/\x.2.2.2.1.length+x.2.2.2.2=m/\(x.1=0/\x.2.2.2.1=[]\/x.2.2.2.2=0)/\(∀q∈x.2.2.2.1,q.length<=x.1)/\zgh m ks (r,false) e (List.replicate m [])=zgh m (ks.drop x.1) x.2.1 x.2.2.1 (x.2.2.2.1++List.replicate x.2.2.2.2 [])) (λx=>nf - x.1) (0,(r,false),e,[],m) ?_ ?_ ?_
  ·exact⟨yaj _,rfl,g2,g3,by simp,.inl ⟨rfl,rfl⟩,λq hq=>by simp at hq,rfl⟩
  ·simp -dsimp -implicitDefEqProofs (disch:=first|omega|assumption) [zcf,zaO,tcs,zvF,zvG,hfln]
  intro T2 f2 hT2 ⟨i,⟨r,bad⟩,e,T1,k⟩ ⟨j1,j2,j3,j4,j5,j6,j8,j7⟩ ih2;simp only at j1 j2 j3 j4 j5 j6 j7 j8 ih2;subst j2;obtain⟨L,hL⟩: ∃L,L=T1.length:=⟨_,rfl⟩;obtain⟨O,hO⟩: ∃O,O=T1.map zdl:=⟨_,rfl⟩;have hOl:O.length=L:=by rw[hO,yak,hL]
  have hO0: ∀X:List Obj,(O++X)[L]? =X[0]? :=λX=>by rw[<- hOl,yah (yag _),ya7]
  have hOk: ∀ (X:List Obj) (k:Nat),(O++X)[L+k]? =X[k]? :=λX k=>by rw[<- hOl,yah (ybM _ _),yaN]
  have hS0: ∀ (X:List Obj) (v:Obj),(O++X).set L v=O++X.set 0 v:=λX v=>by rw[<- hOl,ybl _ _ (yag _),ya7]
  have hSk: ∀ (X:List Obj) (k:Nat) (v:Obj),(O++X).set (L+k) v=O++X.set k v:=λX k v=>by rw[<- hOl,ybl _ _ (ybM _ _),yaN]
  simp only[<- hO]
  by_cases hi:i<nf
  ·have hif:i<(f0::fs).length:=by simp only[yad];omega
   have hifl:i<fl.length:=by omega
   obtain⟨x,hx⟩: ∃x,(f0::fs)[i]=x:=⟨_,rfl⟩;have hfi:fl[i]=x.d:=by simp only[hfl,ybE,hx]
   have hxk:=(hsi.fld x (hx ▸ yar hif)).2;obtain⟨xi,xn,xk,xd⟩:=x;simp only at hxk;obtain⟨kk,rfl⟩: ∃kk:Nat,xk=kk:=⟨xk.toNat,by omega⟩
   have hkd:ks.drop i=kk::ks.drop (i+1):=by
    rw[yaG (by omega)]
    congr 1;simp only[hks,ybE,hx,yaz]
   rw[hkd,zfB]at j7;have p1:R 108 [.ptr 0 0,.d (.int .i64 65536)] [.box [B r,.d (.bool false)]]=_:=zd4 65536 (by omega) (r,false) (by simp only;omega)
   have p1l:=zdM 65536 (r,false);generalize zev 65536 (r,false)=y1 at*;obtain⟨c,r1⟩:=y1;simp only at p1 p1l j7;have p2:=zlX kk r1 (by omega)
   have p2l:=zrt kk r1;generalize ziH kk r1=r2 at*;obtain⟨r2,bad⟩:=r2;simp only at p2 p2l j7
   by_cases q1:bad=true
   ·subst q1
    rw[yai (.inl rfl)]at j7;rw[j7]at hT;subst hT2;subst hT';simp only[rdV,rdH]at hT;simp -dsimp -implicitDefEqProofs (disch:=first|omega|assumption) [hi,hifl,hfi,p1,p2,zcf,zaO,hOl,hO0,hOk,hS0,hSk]
    simpa -dsimp -implicitDefEqProofs (disch:=first|omega|assumption) using hT
   obtain rfl:bad=false:=by simpa using q1
   by_cases q2:e.length<c
   ·rw[yai (.inr q2)]at j7
    rw[j7]at hT;have q2':(e.length:Int)<c:=by omega
    subst hT2;subst hT';simp only[rdV,rdH]at hT;simp -dsimp -implicitDefEqProofs (disch:=first|omega|assumption) [hi,hifl,hfi,p1,p2,zcf,zaO,hOl,hO0,hOk,hS0,hSk,q2']
    simpa -dsimp -implicitDefEqProofs (disch:=first|omega|assumption) using hT
   rw[yaf (by simp[q2])]at j7
   have q2': ¬ (e.length:Int)<c:=by omega
   have q2'':(c:Int)<=e.length:=by omega
   obtain⟨ec,hec⟩: ∃ec,ec=e.take c:=⟨_,rfl⟩;obtain⟨ed,hed⟩: ∃ed,ed=e.drop c:=⟨_,rfl⟩;have hec':List.take c (bytes e)=bytes ec:=by rw[hec];exact List.map_take.symm
   have hed':List.drop c (bytes e)=bytes ed:=by rw[hed];exact List.map_drop.symm
   have hecl:ec.length<=e.length:=by rw[hec,yat];omega
   have hedl:ed.length<=e.length:=by rw[hed,yay];omega
   rw[<- hec,<- hed]at j7;clear hec hed;have p3:=zhd kk (by omega) ec m ⟨by omega,by omega⟩ (by omega)
   have hgood:=zgg (k:=kk) (n:=m) (b:=ec);generalize zbQ kk ec m=y3 at*;obtain⟨l,why⟩:=y3;simp only at p3 hgood j7
   by_cases q3:why=0
   case neg=>
    rw[yai q3]at j7;rw[j7]at hT;have q3': ¬ (why:Int)=0:=by omega
    subst hT2;subst hT';simp only[rdV,rdH]at hT;simp -dsimp -implicitDefEqProofs (disch:=first|omega|assumption) [hi,hifl,hfi,p1,p2,zcf,zaO,hOl,hO0,hOk,hS0,hSk,q2',q2'',hec',hed',p3,q3,q3']
    simpa -dsimp -implicitDefEqProofs (disch:=first|omega|assumption) using hT
   rw[yaf (ycg q3)]at j7;subst q3;obtain⟨hgd,hlm,_⟩:=hgood rfl;simp -dsimp -implicitDefEqProofs (disch:=first|omega|assumption) [hi,hifl,hfi,p1,p2,zcf,zaO,hOl,hO0,hOk,hS0,hSk,q2',q2'',hec',hed',p3,hlm]
   generalize hz:zak _ _ _ _ _ _=z;revert z;refine zaa (σ:=Nat × List (List Val) × Nat) (λx=>[(0,B ed),(6,.ptr 0 0),(9,.ptr 1 0),(10,.ptr 2 0),(11,.d (.int .i64 d)),(12,.d (.int .i64 m)),(13,.mp 3),(117,.d (.list fl)),(118,.d (.int .i64 nf)),(119,.d (.int .i64 i)),(154,.d (.list (vs l))),(155,.d (.int .i64 m)),(156,.d (.int .i64 x.1))]) (λx=>zcf (.int .u32 sid) (.list fl) (.list (bytes r2)) (.bool false) (.int .i64 g) (some (xs,0)) (tcs (zaO (some (xs,0))) x.2.1++List.replicate x.2.2 .nilS)++x.2.1.map zdl) (λx=>x.1<=m/\x.2.1.length+x.2.2=m/\(x.2.1.length=x.1\/x.2.2=0)/\(∀q∈x.2.1,q.length<=i+1)/\ ∀j:Nat,(x.2.1++List.replicate x.2.2 [])[j]? =if j<x.1 then (zp3 (T1++List.replicate k []) l)[j]? else (T1++List.replicate k [])[j]?) (λx=>m - x.1) (0,T1,k) ?_ ?_ ?_
   ·refine⟨yaj _,j5, ?_,λq hq=>Nat.le_succ_of_le (j8 q hq),λj=>by rw[yaf (Nat.not_lt_zero j)]⟩
    rcases j6 with ⟨_,h⟩ | h
    ·exact .inl (by rw[h];rfl)
    ·exact .inr h
   ·refine zd3 (some (xs,0)) T1 k (by rw[hO];rfl) rfl rfl λf z0 z1 z2 z3=> ?_
    simp[zaw,z0,z1,z2,z3]
   intro T4 f4 hT4 ⟨a,T,k2⟩ ⟨m1,m2,m3,m5,m4⟩ ih4;simp only at m1 m2 m3 m4 m5 ih4;clear hO0 hOk hS0 hSk hOl hO;obtain⟨O,hO⟩: ∃O,O=T.map zdl:=⟨_,rfl⟩;have hOl:O.length=T.length:=by rw[hO,yak]
   simp only[<- hO]
   by_cases ha:a<m
   ·have hal:a<l.length:=by omega
    obtain⟨v,hv⟩: ∃v,l[a]=v:=⟨_,rfl⟩;have hv':(vs l)[a]'(by rw[yak];exact hal)=v.d:=by rw[ybE,hv]
    cases k2 with
    |zero=>
     have haT:a<T.length:=by omega
     obtain⟨row,hrow⟩: ∃row,T[a]=row:=⟨_,rfl⟩;have hT0:T[a]? =some row:=by rw[yal haT,hrow]
     have hP0:=m4 a;rw[yaf (ybv a),show T++List.replicate 0 []=T from yaq T,hT0]at hP0
     have hri:row.length<=i:=by
      rcases List.mem_append.1 (yao hP0.symm) with h | h
      ·exact j8 row h
      ·rw[(List.mem_replicate.1 h).2];exact yaj _
     have hrl:row.length<=9:=by
      have:=hsi.len;simp only[yad]at this;omega
     have hcg:(tcs 5 T)[a]? =some (.arr (a+5) row.length):=by rw[zgf,hT0,yaF,yby]
     have haO:a<O.length:=by omega
     have hOg: ∀X:List Obj,(O++X)[a]? =some (.arr 1 (vs row) 0):=λX=>by rw[yan haO,hO,yax,hT0];rfl
     have hOs: ∀ (X:List Obj) (o:Obj),(O++X).set a o=O.set a o++X:=λX o=>List.set_append_left _ _ haO
     have hOg0:O[a]? =some (.arr 1 (vs row) 0):=by have:=hOg [];rwa [yaq]at this
     have htl:=zaZ 5 T;have hcg':(tcs 5 T)[a]'(by omega)= .arr (a+5) row.length:=yaV ((yal (by omega)).symm.trans hcg)
     have hO1: ∀X:List Obj,(O++X)[T.length]? =X[0]? :=λX=>by rw[yah (by omega),hOl,ya7]
     simp -dsimp -implicitDefEqProofs (disch:=first|omega|assumption) [ha,hal,hv,hcg',hO1,hOg,hOs,hOg0,haT,zcf,zaO,htl,hOl]
     refine ih4 (a+1,T.set a (row++[v]),0) _ _ ⟨ha,by simpa using m2,.inr rfl,λq hq=> ?_,λj=> ?_⟩ (by simp only;omega) ?_
     ·rcases ych hq with h | rfl
      ·exact m5 q h
      ·simp only[yae,yad,yav];omega
     ·refine ziX m4 (row:=row) (v:=v) (by rw[show T++List.replicate 0 []=T from yaq T];exact hT0) (by rw[yal hal,hv]) (λj=> ?_) j
      rw[show T++List.replicate 0 []=T from yaq T,show T.set a (row++[v])++List.replicate 0 []=T.set a (row++[v]) from yaq _,yb2]
      by_cases e:j=a
      ·subst e;rw[yai rfl,yai rfl,yai haT]
      ·rw[yaf (λh=>e h.symm),yaf e]
     ·have c1:List.take a (tcs 5 T)++V.arr (a+5) (row.length+1)::List.drop (a+1) (tcs 5 T)=tcs (zaO (some (xs,0))) (T.set a (row++[v]))++List.replicate 0 .nilS:=by
       rw[show zaO (some (xs,0))=5 from rfl,zp0,yc0,yai (by omega),yae,yby 5 a]
       exact (yaq _).symm
      have c2:O.set a (.arr 1 (vs row++[v.d]) 0)=(T.set a (row++[v])).map zdl:=by
       rw[ybY,hO];congr 1
       show _=Obj.arr 1 ((row++[v]).map Val.d) 0
       rw[ybi];rfl
      rw[c1,c2];refine zd3 (some (xs,0)) (T.set a (row++[v])) 0 (zav:=[.arr 1 [v.d] 0]) rfl rfl rfl λf z0 z1 z2 z3=> ?_
      simp[zaw,z0,z1,z2,z3]
    |succ k2=>
     have haT:T.length=a:=by omega
     have htl:=zaZ 5 T;have hcg: ∀X:List V,(tcs 5 T++X)[a]? =X[0]? :=λX=>by rw[yah (by omega),htl,haT,ya7]
     have hcs: ∀ (X:List V) (v:V),(tcs 5 T++X).set a v=tcs 5 T++X.set 0 v:=λX v=>by rw[ybl _ _ (by omega),htl,haT,ya7]
     rw[haT]at hOl;have hO1: ∀X:List Obj,(O++X)[a]? =X[0]? :=λX=>by rw[yah (by omega),hOl,ya7]
     simp -dsimp -implicitDefEqProofs (disch:=first|omega|assumption) [ha,hal,hv,hcg,hcs,hO1,zcf,zaO,htl,hOl,haT]
     refine ih4 (a+1,T++[[v]],k2) _ _ ⟨ha,by simp only[yae,yad,yav];omega,.inl (by simp only[yae,yad,yav];omega),λq hq=> ?_,λj=> ?_⟩ (by simp only;omega) ?_
     ·rcases List.mem_append.1 hq with h | h
      ·exact m5 q h
      ·rw[List.mem_singleton.1 h];simp
     ·refine ziX m4 (row:=[]) (v:=v) (by rw[yah (by omega),haT,ya7];rfl) (by rw[yal hal,hv]) (λj=> ?_) j
      rcases ycw j a with e | e | e
      ·rw[yaf (by omega),yam,yan (by omega),yan (by omega)]
      ·subst e
       rw[yai rfl,yam,yah (by omega),haT,ya7];rfl
      ·obtain⟨x,hx⟩: ∃x,j - T.length=x+1:=⟨j - T.length - 1,by omega⟩
       have e1:(T++([[v]]++List.replicate k2 []))[j]? =(List.replicate k2 ([]:List Val))[x]? :=by rw[yah (by omega),hx];rfl
       have e2:(T++List.replicate (k2+1) [])[j]? =(List.replicate k2 ([]:List Val))[x]? :=by rw[yah (by omega),hx,yaS];rfl
       rw[yaf (by omega),yam,e1,e2]
     ·have c1:List.drop (a+1) (tcs 5 T++List.replicate (k2+1) V.nilS)=List.replicate k2 .nilS:=by
       rw[ydi,ybI (by omega),htl,haT,yaN,yaS];rfl
      have c2:a+1+1+1+1+1+1=zaO (some (xs,0))+T.length+1:=by simp only[zaO];omega
      rw[c1,c2,hO];refine zrq (some (xs,0)) T [v] k2 (o:= .arr 1 [v.d] 0) (zav:=[]) rfl rfl rfl λf z0 z1 z2 z3=> ?_
      simp[zaw,z0,z1,z2,z3]
   ·obtain rfl:a=m:=by omega
    have hk2:k2=0:=by omega
    subst hk2;have hTm:T.length=a:=by omega
    have hPl:(T1++List.replicate k []).length=a:=by rw[yae,ya6];exact j5
    have hTz:zp3 (T1++List.replicate k []) l=T:=by
     apply ybW;intro j;have:=m4 j;rw[show T++List.replicate 0 []=T from yaq T]at this
     by_cases e:j<a
     ·rw[this,yai e]
     ·rw[yaM (by rw[zgi];omega),yaM (by omega)]
    rw[hTz]at j7;have hwi:IntKind.i64.wrap ((i:Int)+1)=(i:Int)+1:=wI (by have:=hsi.len;simp only[yad]at this;omega) (by have:=hsi.len;simp only[yad]at this;omega)
    subst hT4;simp -dsimp -implicitDefEqProofs (disch:=first|omega|assumption) [ha,zcf,zaO,hwi]
    refine ih2 (i+1,(r2,false),ed,T,0) _ _ ⟨hi,rfl,by simp only;omega,by simp only;omega,by simp only;omega,.inr rfl,m5,by rw[show T++List.replicate 0 []=T from yaq T];exact j7⟩ (by simp only;omega) ?_
    rw[hO];refine zd3 (some (xs,0)) T 0 (zav:=[]) (by rw[show tcs (zaO (some (xs,0))) T++List.replicate 0 V.nilS=tcs 5 T from yaq _,yaq];rfl) rfl rfl λf z0 z1 z2 z3=> ?_
    simp[zaw,z0,z1,z2,z3]
  ·obtain rfl:i=nf:=by omega
   have hk0:k=0:=by omega
   subst hk0;have hT1:T1.length=m:=by omega
   rw[ybI (by omega),show T1++List.replicate 0 []=T1 from yaq T1]at j7
   rw[show zgh m [] (r,false) e T1=some ((r,false),e,T1) from rfl]at j7
   rw[j7]at g6;simp only at g6;subst hT2;obtain⟨F,hF⟩: ∃F,F=T1.map zta:=⟨_,rfl⟩;have hFl:F.length=m:=by rw[hF,yak,hT1]
   have hpl: ∀b0 b1 b2 b3 b4:Obj,zaH (b0::b1::b2::b3::b4::O) (tcs 5 T1)=some (za6 T1,b0::b1::b2::b3::b4::F):=λb0 b1 b2 b3 b4=>by rw[hO,hF];exact zhf T1 [] [b0,b1,b2,b3,b4]
   have hcl: ∀b0 b1 b2 b3 b4:Obj,(tcs 5 T1).mapM (ztw (b0::b1::b2::b3::b4::F))=some (za6 T1):=λb0 b1 b2 b3 b4=>by
    have:=zoD [b0,b1,b2,b3,b4] T1 [];rw[yaq,<- hF]at this;exact this
   obtain⟨X1,hX1⟩: ∃X1,X1=za6 T1:=⟨_,rfl⟩;have hX1l:X1.length=m:=by rw[hX1,yak,hT1]
   have hX1s:zao 1 X1=true:=by rw[hX1];exact zes T1
   rw[<- hX1]at hpl hcl;clear hO0 hOk hS0 hSk;simp -dsimp -implicitDefEqProofs (disch:=first|omega|assumption) [hi,zcf,zaO,hOl,hpl,hcl,hFl,hX1l,hX1s]
   have hRT:RA (acc++T1)=some (xs++X1,0):=by
    rw[hxs,hX1,<- ybi];cases acc with
    |nil=>simp at hac
    |cons x l=>rfl
   refine ih (d,(r,false),e,acc++T1) _ _ ⟨rfl,j3,j4,by simp only[yae,hT1];omega,fu,by simp only;omega,g6⟩ (by simp only;omega) ?_
   simp only[hRT];refine zrv (L:=4) rfl rfl (by rw[yae,hX1l];rfl) rfl (by omega) rfl rfl λf z0 z1 z2=> ?_
   simp[zaw,z0,z1,z2]
end Go.Am.Ab
