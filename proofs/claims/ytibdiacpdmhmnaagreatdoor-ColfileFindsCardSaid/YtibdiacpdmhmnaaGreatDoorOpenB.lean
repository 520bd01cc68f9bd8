/- Files of rows, read. -/
import Derived.Test.YtibdiacpdmhmnaaGreatDoorColD
import Derived.Test.YtibdiacpdmhmnaaGreatDoorOpenA
set_option linter.all false
namespace Go.Am.Ab
open Go.Proofs
set_option maxHeartbeats 16000000
set_option maxRecDepth 4000
def zr6 {a0 a1 b0 b1 gg:D} {h:List Obj} {xs:List D} {wm L:Nat} {keep:List (Nat × Nat)} {s s1:Slots} (h0:h[0]? =some (.box [.d a0,.d a1])) (h1:h[1]? =some (.box [.d b0,.d b1]))
 (h2:h[2]? =some (.box [.d a0,.d a1,.arr L xs.length,.d gg,.nilS])) (hL:h[L]? =some (.arr 1 xs wm)) (hL3:3<=L)
 (hk:zad s h keep=(s1,h)) (hr:zaj [] (s1.flatMap λq=>q.2.ids)=[0,1,2]) (hs: ∀f:Nat->Option Nat,f 0=some 0->f 1=some 1->f 2=some 2->zaH f s1=some s1):
 zfO 0 keep s h=some (s1,rd3 a0 a1 b0 b1 gg (some (xs,wm))):=by
 have hl:3<h.length:=ybR hL3 (lt_of_getElem? hL);obtain⟨fu,hfu⟩: ∃fu,h.length+1=fu+3:=⟨h.length - 2,by omega⟩
 have i0:zcu h 0=[]:=by rw[zcu,h0];rfl
 have i1:zcu h 1=[]:=by rw[zcu,h1];rfl
 have i2:zcu h 2=[L]:=by rw[zcu,h2];rfl
 have iL:zcu h L=[]:=by rw[zcu,hL];rfl
 have hreach:zbi h [0,1,2]=[0,1,2,L]:=by
  unfold zbi;rw[hfu,zcm (i:=0) rfl,i0,show zaj [0,1,2] []=[0,1,2] from rfl,zcm (i:=1) rfl,i1,show zaj [0,1,2] []=[0,1,2] from rfl,zcm (i:=2) rfl,i2,
   zfH [L] [0,1,2] (by simp) (λi hi=>by simp at hi ⊢;omega)]
  refine zfG h _ _ _ λj id hj e=> ?_
  have:j=3:=by
   have:=lt_of_getElem? e;simp at this;omega
  subst this;obtain rfl:=yaN e;exact iL
 have p0:zas [0,1,2,L] 0=some 0:=rfl;have p1:zas [0,1,2,L] 1=some 1:=rfl;have p2:zas [0,1,2,L] 2=some 2:=rfl;have p3:zas [0,1,2,L] L=some 3:=zeg (by simp;omega) rfl
 have ht:zaG h (zas [0,1,2,L]) [0,1,2,L]=some (rd3 a0 a1 b0 b1 gg (some (xs,wm))):=by
  unfold zaG;simp only[ya2,List.mapM_nil,h0,h1,h2,hL,yde,ren_arr,Obj.ren,V.ren1,V.ren0,p3,yaM];rfl
 unfold zfO;rw[hk];simp only;rw[show List.range 0=[] from rfl,hr,hreach,hs _ p0 p1 p2,ht]
def zwu (h:List Obj) (m:Nat) (hm:m<2147483648):zdO Tryz.prog h 34 (.d (.int .i64 m)) (.d (.int .i64 m))=some (.mp h.length,h++[.box (List.replicate m .nilS)]):=by
 have e:(Tryz.prog.info? 71).map (λi=>(i.bytes,i.size,i.zero.map (·.cells.toList.map zaD)))=some (24,1,some [.nilS]):=by kernel_rfl
 obtain⟨i,hi,e⟩:=Option.map_eq_some_iff.1 e;simp only[yad]at e;obtain⟨e1,e2,e3⟩:=e;unfold zdO;rw[Tryz.underlying34];simp only[hi,e1,e2,e3];rw[yag (by simp;omega),yat]
def ztV (b:List UInt8) (hb:b.length<1000000):R 60 [B b] []=some (rdV (zne b),rdH (zne b)):=by
 unfold zne
 by_cases h1:b.length<4
 ·rw[yag h1]
  have h1':(b.length:Int)<4:=by omega
  refine rg b60 rfl ?_;intro T hT;simp -dsimp -implicitDefEqProofs (disch:=omega) [h1']
  simpa -dsimp -implicitDefEqProofs (disch:=omega) [rdV,rdH]using hT
 rw[yac h1];have h1': ¬ (b.length:Int)<4:=by omega
 obtain⟨t,ht⟩: ∃t,t=b.drop (b.length - 4):=⟨_,rfl⟩;obtain⟨u,hu⟩: ∃u,u=b.take (b.length - 4):=⟨_,rfl⟩;have x1:((b.length:Int) - 4).toNat=b.length - 4:=by omega
 have x2:(4:Int)<=b.length:=by omega
 have ht':List.drop (b.length - 4) (bytes b)=bytes t:=by rw[ht];exact List.map_drop.symm
 have hu':List.take (b.length - 4) (bytes b)=bytes u:=by rw[hu];exact List.map_take.symm
 have htl:t.length=4:=by rw[ht,yax];omega
 have hul:u.length=b.length - 4:=by rw[hu,yaq];omega
 rw[<- ht,<- hu];clear ht hu;obtain⟨sz,hsz⟩: ∃sz,sz=zAS t:=⟨_,rfl⟩;rw[<- hsz];obtain⟨c0,c1,c2,c3,rfl⟩: ∃c0 c1 c2 c3,t=[c0,c1,c2,c3]:=by
  match t,htl with
  |[a,b,c,d],_=>exact⟨a,b,c,d,rfl⟩
 have g0:=c0.toNat_lt;have g1:=c1.toNat_lt;have g2:=c2.toNat_lt;have g3:=c3.toNat_lt;have hsz':sz=c0.toNat+c1.toNat*256+c2.toNat*65536+c3.toNat*16777216:=hsz;have w0:IntKind.i64.wrap (c0.toNat:Int)=c0.toNat:=wI (by omega) (by omega)
 have w1:IntKind.i64.wrap (c1.toNat:Int)=c1.toNat:=wI (by omega) (by omega)
 have w2:IntKind.i64.wrap (c2.toNat:Int)=c2.toNat:=wI (by omega) (by omega)
 have w3:IntKind.i64.wrap (c3.toNat:Int)=c3.toNat:=wI (by omega) (by omega)
 have v1:IntKind.i64.wrap ((c1.toNat:Int)*256)=c1.toNat*256:=wI (by omega) (by omega)
 have v2:IntKind.i64.wrap ((c2.toNat:Int)*65536)=c2.toNat*65536:=wI (by omega) (by omega)
 have v3:IntKind.i64.wrap ((c3.toNat:Int)*16777216)=c3.toNat*16777216:=wI (by omega) (by omega)
 have o1:=zwi c0.toNat c1.toNat 8 256 rfl (by omega) (by omega)
 have o2:=zwi (c0.toNat+c1.toNat*256) c2.toNat 16 65536 rfl (by omega) (by omega)
 have o3:=zwi (c0.toNat+c1.toNat*256+c2.toNat*65536) c3.toNat 24 16777216 rfl (by omega) (by omega)
 simp only[Int.natCast_add,ybt,yb8]at o1 o2 o3;have hs1:(c0.toNat:Int)+c1.toNat*256+c2.toNat*65536+c3.toNat*16777216=sz:=by omega
 rw[hs1]at o3
 by_cases h2:u.length<sz
 ·rw[yag h2]
  have h2':((b.length:Int) - 4)<sz:=by omega
  have h2'':(u.length:Int)<sz:=by omega
  refine rg b60 rfl ?_;intro T hT;simp -dsimp -implicitDefEqProofs (disch:=omega) [h1',x1,x2,ht',hu',w0,w1,w2,w3,v1,v2,v3,o1,o2,o3,h2',h2'']
  simpa -dsimp -implicitDefEqProofs (disch:=omega) [rdV,rdH]using hT
 rw[yac h2];simp only;have h2': ¬ (u.length:Int)<sz:=by omega
 obtain⟨d,hd⟩: ∃d,d=u.drop (u.length - sz):=⟨_,rfl⟩;obtain⟨e,he⟩: ∃e,e=u.take (u.length - sz):=⟨_,rfl⟩;have y1:((u.length:Int) - sz).toNat=u.length - sz:=by omega
 have y2:(sz:Int)<=u.length:=by omega
 have hd':List.drop (u.length - sz) (bytes u)=bytes d:=by rw[hd];exact List.map_drop.symm
 have he':List.take (u.length - sz) (bytes u)=bytes e:=by rw[he];exact List.map_take.symm
 have hdl:d.length<=u.length:=by rw[hd,yax];omega
 have hel:e.length<=u.length:=by rw[he,yaq];omega
 rw[<- hd,<- he];clear hd he;have hun:=zqE d (by omega)
 have hok:=zmd (b:=d);generalize zcI d=un at*;obtain⟨⟨sid,fs⟩,left,why⟩:=un;simp only at hok ⊢
 by_cases h3:why=0
 case neg=>
  rw[yag h3];rcases fs with _ | ⟨f0,fs⟩
  all_goals
   simp only[unV,unH]at hun;refine rg b60 rfl ?_;intro T hT;simp -dsimp -implicitDefEqProofs (disch:=omega) [h1',x1,x2,ht',hu',w0,w1,w2,w3,v1,v2,v3,o1,o2,o3,h2',y1,y2,hd',he',hun,h3]
   simpa -dsimp -implicitDefEqProofs (disch:=omega) [rdV,rdH]using hT
 rw[yac (ycl h3)];obtain⟨hck,hso,hll⟩:=hok h3;subst h3;have hsi:=zfd hck;rcases fs with _ | ⟨f0,fs⟩
 ·exact absurd hsi.one (by simp)
 simp only[unV,unH]at hun;obtain⟨ks,hks⟩: ∃ks,ks=(f0::fs).map (·.kind.toNat):=⟨_,rfl⟩
 rw[<- hks];obtain⟨nf,hnf⟩: ∃n,n=fs.length+1:=⟨_,rfl⟩;obtain⟨fl,hfl⟩: ∃l,l=(f0::fs).map Fld.d:=⟨_,rfl⟩;have hfln:nf=fl.length:=by rw[hfl,hnf];simp
 rw[<- hnf,show f0.d::fs.map Fld.d=fl from hfl.symm]at hun
 have hn1:R 108 [.ptr 0 0,.d (.int .i64 256)] [.box [B left,.d (.bool false)]]=_:=zd6 256 (by omega) (left,false) (by simp only;omega)
 have hn1l:=zdM 256 (left,false);generalize zeB 256 (left,false)=n1 at*;obtain⟨n,r1⟩:=n1;simp only at hn1 hn1l ⊢;have hn2:R 108 [.ptr 0 0,.d (.int .i64 64)] [.box [B r1.1,Bo r1.2]]=_:=zd6 64 (by omega) r1 (by omega)
 have hn2l:=zdM 64 r1;generalize zeB 64 r1=n2 at*;obtain⟨g,r,bad⟩:=n2;simp only at hn2 hn2l ⊢
 by_cases h4:bad=true
 ·subst h4
  rw[yag (.inl rfl)];refine rg b60 rfl ?_;intro T hT;simp -dsimp -implicitDefEqProofs (disch:=omega) [h1',x1,x2,ht',hu',w0,w1,w2,w3,v1,v2,v3,o1,o2,o3,h2',y1,y2,hd',he',hun,hn1,hn2,hfln]
  simpa -dsimp -implicitDefEqProofs (disch:=omega) [rdV,rdH]using hT
 obtain rfl:bad=false:=by simpa using h4
 by_cases h5:g<1
 ·have h5':(g:Int)<1:=by omega
  rw[yag (.inr h5)];refine rg b60 rfl ?_;intro T hT;simp -dsimp -implicitDefEqProofs (disch:=omega) [h1',x1,x2,ht',hu',w0,w1,w2,w3,v1,v2,v3,o1,o2,o3,h2',y1,y2,hd',he',hun,hn1,hn2,h5',hfln]
  simpa -dsimp -implicitDefEqProofs (disch:=omega) [rdV,rdH]using hT
 have h5': ¬ (g:Int)<1:=by omega
 rw[yac (by simp[h5])]
 refine rg b60 rfl ?_;intro T hT;simp -dsimp -implicitDefEqProofs (disch:=omega) [h1',x1,x2,ht',hu',w0,w1,w2,w3,v1,v2,v3,o1,o2,o3,h2',y1,y2,hd',he',hun,hn1,hn2,h5',hfln]
 have hRd: ∀X:List (List Val),rdH (some (⟨sid,f0::fs⟩,X,g))= .box [.d (.int .u32 sid),.d (.list fl),(match X with | []=> .nilS | _::r=> .arr 1 (r.length+1)),.d (.int .i64 g),.nilS]::(match X with | []=>[] | _=>[.arr 1 (zaK X) 0]):=λX=>by rw[hfl];rfl
 generalize hz:zaf _ _ _ _ _ _=z;revert z;refine zaa (σ:=Nat × (List UInt8 × Bool) × List UInt8 × List (List Val)) (λx=>[(0,B x.2.2.1),(6,.ptr 0 0),(9,.ptr 1 0),(10,.ptr 2 0),(11,.d (.int .i64 x.1))]) (λx=>rd3 (.int .u32 sid) (.list fl) (.list (bytes x.2.1.1)) (.bool x.2.1.2) (.int .i64 g) (RA x.2.2.2)) (λx=>x.2.1.2=false/\x.2.1.1.length<=b.length/\x.2.2.1.length<=b.length/\x.2.2.2.length+x.1<=256/\ ∃f,x.1<f/\ziY ks g 257 n (r,false) e []=ziY ks g f x.1 x.2.1 x.2.2.1 x.2.2.2) (λx=>x.1) (n,(r,false),e,[]) ?_ ?_ ?_
 ·exact⟨rfl,by simp only;omega,by simp only;omega,by simp only[yaz];omega,257,by simp only;omega,rfl⟩
 ·simp -dsimp -implicitDefEqProofs (disch:=omega) [rd3,RA]
 intro T' f hT' ⟨n,⟨r,bad⟩,e,acc⟩ ⟨g1,g2,g3,g4,fu,g5,g6⟩ ih;simp only at g1 g2 g3 g4 g5 g6 ih;subst g1;rw[g6]at hT
 by_cases h6:0<n
 case neg=>
  obtain rfl:n=0:=by omega
  obtain⟨fu,rfl⟩: ∃k,fu=k+1:=⟨fu - 1,by omega⟩
  rw[show ziY ks g (fu+1) 0 (r,false) e acc=some acc from rfl]at hT
  simp only[rdV,hRd]at hT;subst hT';rcases acc with _ | ⟨x,acc⟩
  all_goals
   simp -dsimp -implicitDefEqProofs (disch:=omega) [rd3,RA]
   simpa -dsimp -implicitDefEqProofs (disch:=omega) using hT
 obtain⟨fu,rfl⟩: ∃k,fu=k+1:=⟨fu - 1,by omega⟩
 obtain⟨m,hm⟩: ∃m,m=min n g:=⟨_,rfl⟩;obtain⟨d,hd⟩: ∃d,d=n - m:=⟨_,rfl⟩;have hgr:ziY ks g (fu+1) n (r,false) e acc=match zgs m ks (r,false) e (List.replicate m []) with
  |none=>none
  |some (r',e',T)=>ziY ks g fu d r' e' (acc++T):=by
  rw[hd,hm];exact yac (by omega)
 rw[hgr]at hT g6;have hmv:(if g<n then (g:Int) else n)=m:=by split <;> omega
 have hmk:=λh=>zwu h m (by omega)
 have hdv:(n:Int) - m=d:=by omega
 have hm0:0<m:=by omega
 have h6':(0:Int)<n:=by omega
 have hksl:ks.length=nf:=by rw[hks,hnf];simp
 have hRA:RA acc=none/\acc=[]\/ ∃xs,RA acc=some (xs,0)/\xs=zaK acc/\xs.length=acc.length/\0<acc.length:=by
  cases acc with
  |nil=>exact .inl ⟨rfl,rfl⟩
  |cons x l=>exact .inr ⟨_,rfl,rfl,by simp,by simp⟩
 rcases hRA with ⟨hR,hacc⟩ | ⟨xs,hR,hxs,hxl,hac⟩
 ·simp -dsimp -implicitDefEqProofs (disch:=omega) [hR,rd3,h6,h6',hmv,hdv,hfln,hmk]
  generalize hz:zaf _ _ _ _ _ _=z;revert z;refine zaa (σ:=Nat × (List UInt8 × Bool) × List UInt8 × List (List Val) × Nat) (λx=>[(0,B x.2.2.1),(6,.ptr 0 0),(9,.ptr 1 0),(10,.ptr 2 0),(11,.d (.int .i64 d)),(12,.d (.int .i64 m)),(13,.mp 3),(117,.d (.list fl)),(118,.d (.int .i64 nf)),(119,.d (.int .i64 x.1))]) (λx=>zcd (.int .u32 sid) (.list fl) (.list (bytes x.2.1.1)) (.bool x.2.1.2) (.int .i64 g) none (tcs (zaR none) x.2.2.2.1++List.replicate x.2.2.2.2 .nilS)++x.2.2.2.1.map zhu) (λx=>x.1<=nf/\x.2.1.2=false/\x.2.1.1.length<=b.length/\x.2.2.1.length<=b.length/\x.2.2.2.1.length+x.2.2.2.2=m/\(x.1=0/\x.2.2.2.1=[]\/x.2.2.2.2=0)/\(∀q∈x.2.2.2.1,q.length<=x.1)/\zgs m ks (r,false) e (List.replicate m [])=zgs m (ks.drop x.1) x.2.1 x.2.2.1 (x.2.2.2.1++List.replicate x.2.2.2.2 [])) (λx=>nf - x.1) (0,(r,false),e,[],m) ?_ ?_ ?_
  ·exact⟨yai _,rfl,g2,g3,by simp,.inl ⟨rfl,rfl⟩,λq hq=>by simp at hq,rfl⟩
  ·simp -dsimp -implicitDefEqProofs (disch:=omega) [zcd,zaR,tcs,zwn,zwo,hfln]
  intro T2 f2 hT2 ⟨i,⟨r,bad⟩,e,T1,k⟩ ⟨j1,j2,j3,j4,j5,j6,j8,j7⟩ ih2;simp only at j1 j2 j3 j4 j5 j6 j7 j8 ih2;subst j2;obtain⟨L,hL⟩: ∃L,L=T1.length:=⟨_,rfl⟩;obtain⟨O,hO⟩: ∃O,O=T1.map zhu:=⟨_,rfl⟩;have hOl:O.length=L:=by rw[hO,yah,hL]
  have hO0: ∀X:List Obj,(O++X)[L]? =X[0]? :=λX=>by rw[<- hOl,yal (yaj _),yba]
  have hOk: ∀ (X:List Obj) (k:Nat),(O++X)[L+k]? =X[k]? :=λX k=>by rw[<- hOl,yal (yb0 _ _),yaP]
  have hS0: ∀ (X:List Obj) (v:Obj),(O++X).set L v=O++X.set 0 v:=λX v=>by rw[<- hOl,ybl _ _ (yaj _),yba]
  have hSk: ∀ (X:List Obj) (k:Nat) (v:Obj),(O++X).set (L+k) v=O++X.set k v:=λX k v=>by rw[<- hOl,ybl _ _ (yb0 _ _),yaP]
  simp only[<- hO]
  by_cases hi:i<nf
  ·have hif:i<(f0::fs).length:=by simp only[yaf];omega
   have hifl:i<fl.length:=by omega
   obtain⟨x,hx⟩: ∃x,(f0::fs)[i]=x:=⟨_,rfl⟩;have hfi:fl[i]=x.d:=by simp only[hfl,ybP,hx]
   have hxk:=(hsi.fld x (hx ▸ yam hif)).2;obtain⟨xi,xn,xk,xd⟩:=x;simp only at hxk;obtain⟨kk,rfl⟩: ∃kk:Nat,xk=kk:=⟨xk.toNat,by omega⟩
   have hkd:ks.drop i=kk::ks.drop (i+1):=by
    rw[yao (by omega)]
    congr 1;simp only[hks,ybP,hx,yat]
   rw[hkd,zfF]at j7;have p1:R 108 [.ptr 0 0,.d (.int .i64 65536)] [.box [B r,.d (.bool false)]]=_:=zd6 65536 (by omega) (r,false) (by simp only;omega)
   have p1l:=zdM 65536 (r,false);generalize zeB 65536 (r,false)=y1 at*;obtain⟨c,r1⟩:=y1;simp only at p1 p1l j7;have p2:=zmc kk r1 (by omega)
   have p2l:=zr2 kk r1;generalize ziX kk r1=r2 at*;obtain⟨r2,bad⟩:=r2;simp only at p2 p2l j7
   by_cases q1:bad=true
   ·subst q1
    rw[yag (.inl rfl)]at j7;rw[j7]at hT;subst hT2;subst hT';simp only[rdV,rdH]at hT;simp -dsimp -implicitDefEqProofs (disch:=omega) [hi,hifl,hfi,p1,p2,zcd,zaR,hOl,hO0,hOk,hS0,hSk]
    simpa -dsimp -implicitDefEqProofs (disch:=omega) using hT
   obtain rfl:bad=false:=by simpa using q1
   by_cases q2:e.length<c
   ·rw[yag (.inr q2)]at j7
    rw[j7]at hT;have q2':(e.length:Int)<c:=by omega
    subst hT2;subst hT';simp only[rdV,rdH]at hT;simp -dsimp -implicitDefEqProofs (disch:=omega) [hi,hifl,hfi,p1,p2,zcd,zaR,hOl,hO0,hOk,hS0,hSk,q2']
    simpa -dsimp -implicitDefEqProofs (disch:=omega) using hT
   rw[yac (by simp[q2])]at j7
   have q2': ¬ (e.length:Int)<c:=by omega
   have q2'':(c:Int)<=e.length:=by omega
   obtain⟨ec,hec⟩: ∃ec,ec=e.take c:=⟨_,rfl⟩;obtain⟨ed,hed⟩: ∃ed,ed=e.drop c:=⟨_,rfl⟩;have hec':List.take c (bytes e)=bytes ec:=by rw[hec];exact List.map_take.symm
   have hed':List.drop c (bytes e)=bytes ed:=by rw[hed];exact List.map_drop.symm
   have hecl:ec.length<=e.length:=by rw[hec,yaq];omega
   have hedl:ed.length<=e.length:=by rw[hed,yax];omega
   rw[<- hec,<- hed]at j7;clear hec hed;have p3:=zhl kk (by omega) ec m ⟨by omega,by omega⟩ (by omega)
   have hgood:=zgr (k:=kk) (n:=m) (b:=ec);generalize zbQ kk ec m=y3 at*;obtain⟨l,why⟩:=y3;simp only at p3 hgood j7
   by_cases q3:why=0
   case neg=>
    rw[yag q3]at j7;rw[j7]at hT;have q3': ¬ (why:Int)=0:=by omega
    subst hT2;subst hT';simp only[rdV,rdH]at hT;simp -dsimp -implicitDefEqProofs (disch:=omega) [hi,hifl,hfi,p1,p2,zcd,zaR,hOl,hO0,hOk,hS0,hSk,q2',q2'',hec',hed',p3,q3,q3']
    simpa -dsimp -implicitDefEqProofs (disch:=omega) using hT
   rw[yac (ycl q3)]at j7;subst q3;obtain⟨hgd,hlm,_⟩:=hgood rfl;simp -dsimp -implicitDefEqProofs (disch:=omega) [hi,hifl,hfi,p1,p2,zcd,zaR,hOl,hO0,hOk,hS0,hSk,q2',q2'',hec',hed',p3,hlm]
   generalize hz:zaf _ _ _ _ _ _=z;revert z;refine zaa (σ:=Nat × List (List Val) × Nat) (λx=>[(0,B ed),(6,.ptr 0 0),(9,.ptr 1 0),(10,.ptr 2 0),(11,.d (.int .i64 d)),(12,.d (.int .i64 m)),(13,.mp 3),(117,.d (.list fl)),(118,.d (.int .i64 nf)),(119,.d (.int .i64 i)),(154,.d (.list (vs l))),(155,.d (.int .i64 m)),(156,.d (.int .i64 x.1))]) (λx=>zcd (.int .u32 sid) (.list fl) (.list (bytes r2)) (.bool false) (.int .i64 g) none (tcs (zaR none) x.2.1++List.replicate x.2.2 .nilS)++x.2.1.map zhu) (λx=>x.1<=m/\x.2.1.length+x.2.2=m/\(x.2.1.length=x.1\/x.2.2=0)/\(∀q∈x.2.1,q.length<=i+1)/\ ∀j:Nat,(x.2.1++List.replicate x.2.2 [])[j]? =if j<x.1 then (zqF (T1++List.replicate k []) l)[j]? else (T1++List.replicate k [])[j]?) (λx=>m - x.1) (0,T1,k) ?_ ?_ ?_
   ·refine⟨yai _,j5, ?_,λq hq=>Nat.le_succ_of_le (j8 q hq),λj=>by rw[yac (Nat.not_lt_zero j)]⟩
    rcases j6 with ⟨_,h⟩ | h
    ·exact .inl (by rw[h];rfl)
    ·exact .inr h
   ·refine zd7 none T1 k (by rw[hO];rfl) rfl rfl λf z0 z1 z2 z3=> ?_
    simp[zaH,z0,z1,z2,z3]
   intro T4 f4 hT4 ⟨a,T,k2⟩ ⟨m1,m2,m3,m5,m4⟩ ih4;simp only at m1 m2 m3 m4 m5 ih4;clear hO0 hOk hS0 hSk hOl hO;obtain⟨O,hO⟩: ∃O,O=T.map zhu:=⟨_,rfl⟩;have hOl:O.length=T.length:=by rw[hO,yah]
   simp only[<- hO]
   by_cases ha:a<m
   ·have hal:a<l.length:=by omega
    obtain⟨v,hv⟩: ∃v,l[a]=v:=⟨_,rfl⟩;have hv':(vs l)[a]'(by rw[yah];exact hal)=v.d:=by rw[ybP,hv]
    cases k2 with
    |zero=>
     have haT:a<T.length:=by omega
     obtain⟨row,hrow⟩: ∃row,T[a]=row:=⟨_,rfl⟩;have hT0:T[a]? =some row:=by rw[yak haT,hrow]
     have hP0:=m4 a;rw[yac (ybx a),show T++List.replicate 0 []=T from yap T,hT0]at hP0
     have hri:row.length<=i:=by
      rcases List.mem_append.1 (yay hP0.symm) with h | h
      ·exact j8 row h
      ·rw[(List.mem_replicate.1 h).2];exact yai _
     have hrl:row.length<=9:=by
      have:=hsi.len;simp only[yaf]at this;omega
     have hcg:(tcs 4 T)[a]? =some (.arr (a+4) row.length):=by rw[zkD,hT0,yaM,yb4]
     have haO:a<O.length:=by omega
     have hOg: ∀X:List Obj,(O++X)[a]? =some (.arr 1 (vs row) 0):=λX=>by rw[yar haO,hO,yau,hT0];rfl
     have hOs: ∀ (X:List Obj) (o:Obj),(O++X).set a o=O.set a o++X:=λX o=>List.set_append_left _ _ haO
     have hOg0:O[a]? =some (.arr 1 (vs row) 0):=by have:=hOg [];rwa [yap]at this
     have htl:=zbZ 4 T;have hcg':(tcs 4 T)[a]'(by omega)= .arr (a+4) row.length:=yaN ((yak (by omega)).symm.trans hcg)
     have hO1: ∀X:List Obj,(O++X)[T.length]? =X[0]? :=λX=>by rw[yal (by omega),hOl,yba]
     simp -dsimp -implicitDefEqProofs (disch:=omega) [ha,hal,hv,hcg',hO1,hOg,hOs,hOg0,haT,zcd,zaR,htl,hOl]
     refine ih4 (a+1,T.set a (row++[v]),0) _ _ ⟨ha,by simpa using m2,.inr rfl,λq hq=> ?_,λj=> ?_⟩ (by simp only;omega) ?_
     ·rcases ycH hq with h | rfl
      ·exact m5 q h
      ·simp only[yae,yaf,yaz];omega
     ·refine zjg m4 (row:=row) (v:=v) (by rw[show T++List.replicate 0 []=T from yap T];exact hT0) (by rw[yak hal,hv]) (λj=> ?_) j
      rw[show T++List.replicate 0 []=T from yap T,show T.set a (row++[v])++List.replicate 0 []=T.set a (row++[v]) from yap _,yb2]
      by_cases e:j=a
      ·subst e;rw[yag rfl,yag rfl,yag haT]
      ·rw[yac (λh=>e h.symm),yac e]
     ·have c1:List.take a (tcs 4 T)++V.arr (a+4) (row.length+1)::List.drop (a+1) (tcs 4 T)=tcs (zaR none) (T.set a (row++[v]))++List.replicate 0 .nilS:=by
       rw[show zaR none=4 from rfl,zqG,yc1,yag (by omega),yae,yb4 4 a]
       exact (yap _).symm
      have c2:O.set a (.arr 1 (vs row++[v.d]) 0)=(T.set a (row++[v])).map zhu:=by
       rw[yce,hO];congr 1
       show _=Obj.arr 1 ((row++[v]).map Val.d) 0
       rw[ya7];rfl
      rw[c1,c2];refine zd7 none (T.set a (row++[v])) 0 (zay:=[.arr 1 [v.d] 0]) rfl rfl rfl λf z0 z1 z2 z3=> ?_
      simp[zaH,z0,z1,z2,z3]
    |succ k2=>
     have haT:T.length=a:=by omega
     have htl:=zbZ 4 T;have hcg: ∀X:List V,(tcs 4 T++X)[a]? =X[0]? :=λX=>by rw[yal (by omega),htl,haT,yba]
     have hcs: ∀ (X:List V) (v:V),(tcs 4 T++X).set a v=tcs 4 T++X.set 0 v:=λX v=>by rw[ybl _ _ (by omega),htl,haT,yba]
     rw[haT]at hOl;have hO1: ∀X:List Obj,(O++X)[a]? =X[0]? :=λX=>by rw[yal (by omega),hOl,yba]
     simp -dsimp -implicitDefEqProofs (disch:=omega) [ha,hal,hv,hcg,hcs,hO1,zcd,zaR,htl,hOl,haT]
     refine ih4 (a+1,T++[[v]],k2) _ _ ⟨ha,by simp only[yae,yaf,yaz];omega,.inl (by simp only[yae,yaf,yaz];omega),λq hq=> ?_,λj=> ?_⟩ (by simp only;omega) ?_
     ·rcases List.mem_append.1 hq with h | h
      ·exact m5 q h
      ·rw[List.mem_singleton.1 h];simp
     ·refine zjg m4 (row:=[]) (v:=v) (by rw[yal (by omega),haT,yba];rfl) (by rw[yak hal,hv]) (λj=> ?_) j
      rcases ycA j a with e | e | e
      ·rw[yac (by omega),yan,yar (by omega),yar (by omega)]
      ·subst e
       rw[yag rfl,yan,yal (by omega),haT,yba];rfl
      ·obtain⟨x,hx⟩: ∃x,j - T.length=x+1:=⟨j - T.length - 1,by omega⟩
       have e1:(T++([[v]]++List.replicate k2 []))[j]? =(List.replicate k2 ([]:List Val))[x]? :=by rw[yal (by omega),hx];rfl
       have e2:(T++List.replicate (k2+1) [])[j]? =(List.replicate k2 ([]:List Val))[x]? :=by rw[yal (by omega),hx,yaR];rfl
       rw[yac (by omega),yan,e1,e2]
     ·have c1:List.drop (a+1) (tcs 4 T++List.replicate (k2+1) V.nilS)=List.replicate k2 .nilS:=by
       rw[ydj,ybv (by omega),htl,haT,yaP,yaR];rfl
      have c2:a+1+1+1+1+1=zaR none+T.length+1:=by simp only[zaR];omega
      rw[c1,c2,hO];refine zr5 none T [v] k2 (o:= .arr 1 [v.d] 0) (zay:=[]) rfl rfl rfl λf z0 z1 z2 z3=> ?_
      simp[zaH,z0,z1,z2,z3]
   ·obtain rfl:a=m:=by omega
    have hk2:k2=0:=by omega
    subst hk2;have hTm:T.length=a:=by omega
    have hPl:(T1++List.replicate k []).length=a:=by rw[yae,ya6];exact j5
    have hTz:zqF (T1++List.replicate k []) l=T:=by
     apply ybV;intro j;have:=m4 j;rw[show T++List.replicate 0 []=T from yap T]at this
     by_cases e:j<a
     ·rw[this,yag e]
     ·rw[yaL (by rw[zgt];omega),yaL (by omega)]
    rw[hTz]at j7;have hwi:IntKind.i64.wrap ((i:Int)+1)=(i:Int)+1:=wI (by have:=hsi.len;simp only[yaf]at this;omega) (by have:=hsi.len;simp only[yaf]at this;omega)
    subst hT4;simp -dsimp -implicitDefEqProofs (disch:=omega) [ha,zcd,zaR,hwi]
    refine ih2 (i+1,(r2,false),ed,T,0) _ _ ⟨hi,rfl,by simp only;omega,by simp only;omega,by simp only;omega,.inr rfl,m5,by rw[show T++List.replicate 0 []=T from yap T];exact j7⟩ (by simp only;omega) ?_
    rw[hO];refine zd7 none T 0 (zay:=[]) (by rw[show tcs (zaR none) T++List.replicate 0 V.nilS=tcs 4 T from yap _,yap];rfl) rfl rfl λf z0 z1 z2 z3=> ?_
    simp[zaH,z0,z1,z2,z3]
  ·obtain rfl:i=nf:=by omega
   have hk0:k=0:=by omega
   subst hk0;have hT1:T1.length=m:=by omega
   rw[ybv (by omega),show T1++List.replicate 0 []=T1 from yap T1]at j7
   rw[show zgs m [] (r,false) e T1=some ((r,false),e,T1) from rfl]at j7
   rw[j7]at g6;simp only at g6;subst hT2;obtain⟨F,hF⟩: ∃F,F=T1.map zui:=⟨_,rfl⟩;have hFl:F.length=m:=by rw[hF,yah,hT1]
   have hpl: ∀b0 b1 b2 b3:Obj,za4 (b0::b1::b2::b3::O) (tcs 4 T1)=some (zaK T1,b0::b1::b2::b3::F):=λb0 b1 b2 b3=>by rw[hO,hF];exact zkE T1 [] [b0,b1,b2,b3]
   have hcl: ∀b0 b1 b2 b3:Obj,(tcs 4 T1).mapM (zuj (b0::b1::b2::b3::F))=some (zaK T1):=λb0 b1 b2 b3=>by
    have:=zo7 [b0,b1,b2,b3] T1 [];rw[yap,<- hF]at this;exact this
   obtain⟨X1,hX1⟩: ∃X1,X1=zaK T1:=⟨_,rfl⟩;have hX1l:X1.length=m:=by rw[hX1,yah,hT1]
   have hX1s:zam 1 X1=true:=by rw[hX1];exact zda T1
   rw[<- hX1]at hpl hcl;clear hO0 hOk hS0 hSk;simp -dsimp -implicitDefEqProofs (disch:=omega) [hi,zcd,zaR,hOl,hpl,hcl,hFl,hX1l,hX1s]
   have hRT:RA (acc++T1)=some (X1,0):=by
    rw[hacc,hX1];cases T1 with
    |nil=>simp at hT1;omega
    |cons x l=>rfl
   refine ih (d,(r,false),e,acc++T1) _ _ ⟨rfl,j3,j4,by simp only[yae,hT1];omega,fu,by simp only;omega,g6⟩ (by simp only;omega) ?_
   simp only[hRT];refine zr6 (L:=m+1+1+1+1) rfl rfl (by rw[hX1l];rfl) ?_ (by omega) rfl rfl λf z0 z1 z2=> ?_
   ·show (F++[Obj.arr 1 X1 0])[m]? =_
    rw[yal (by omega),hFl,yba];rfl
   ·simp[zaH,z0,z1,z2]
 ·simp -dsimp -implicitDefEqProofs (disch:=omega) [hR,rd3,h6,h6',hmv,hdv,hfln,hmk]
  generalize hz:zaf _ _ _ _ _ _=z;revert z;refine zaa (σ:=Nat × (List UInt8 × Bool) × List UInt8 × List (List Val) × Nat) (λx=>[(0,B x.2.2.1),(6,.ptr 0 0),(9,.ptr 1 0),(10,.ptr 2 0),(11,.d (.int .i64 d)),(12,.d (.int .i64 m)),(13,.mp 3),(117,.d (.list fl)),(118,.d (.int .i64 nf)),(119,.d (.int .i64 x.1))]) (λx=>zcd (.int .u32 sid) (.list fl) (.list (bytes x.2.1.1)) (.bool x.2.1.2) (.int .i64 g) (some (xs,0)) (tcs (zaR (some (xs,0))) x.2.2.2.1++List.replicate x.2.2.2.2 .nilS)++x.2.2.2.1.map zhu) (λx=>x.1<=nf/\x.2.1.2=false/\x.2.1.1.length<=b.length/\x.2.2.1.length<=b.length/\x.2.2.2.1.length+x.2.2.2.2=m/\(x.1=0/\x.2.2.2.1=[]\/x.2.2.2.2=0)/\(∀q∈x.2.2.2.1,q.length<=x.1)/\zgs m ks (r,false) e (List.replicate m [])=zgs m (ks.drop x.1) x.2.1 x.2.2.1 (x.2.2.2.1++List.replicate x.2.2.2.2 [])) (λx=>nf - x.1) (0,(r,false),e,[],m) ?_ ?_ ?_
  ·exact⟨yai _,rfl,g2,g3,by simp,.inl ⟨rfl,rfl⟩,λq hq=>by simp at hq,rfl⟩
  ·simp -dsimp -implicitDefEqProofs (disch:=omega) [zcd,zaR,tcs,zwn,zwo,hfln]
  intro T2 f2 hT2 ⟨i,⟨r,bad⟩,e,T1,k⟩ ⟨j1,j2,j3,j4,j5,j6,j8,j7⟩ ih2;simp only at j1 j2 j3 j4 j5 j6 j7 j8 ih2;subst j2;obtain⟨L,hL⟩: ∃L,L=T1.length:=⟨_,rfl⟩;obtain⟨O,hO⟩: ∃O,O=T1.map zhu:=⟨_,rfl⟩;have hOl:O.length=L:=by rw[hO,yah,hL]
  have hO0: ∀X:List Obj,(O++X)[L]? =X[0]? :=λX=>by rw[<- hOl,yal (yaj _),yba]
  have hOk: ∀ (X:List Obj) (k:Nat),(O++X)[L+k]? =X[k]? :=λX k=>by rw[<- hOl,yal (yb0 _ _),yaP]
  have hS0: ∀ (X:List Obj) (v:Obj),(O++X).set L v=O++X.set 0 v:=λX v=>by rw[<- hOl,ybl _ _ (yaj _),yba]
  have hSk: ∀ (X:List Obj) (k:Nat) (v:Obj),(O++X).set (L+k) v=O++X.set k v:=λX k v=>by rw[<- hOl,ybl _ _ (yb0 _ _),yaP]
  simp only[<- hO]
  by_cases hi:i<nf
  ·have hif:i<(f0::fs).length:=by simp only[yaf];omega
   have hifl:i<fl.length:=by omega
   obtain⟨x,hx⟩: ∃x,(f0::fs)[i]=x:=⟨_,rfl⟩;have hfi:fl[i]=x.d:=by simp only[hfl,ybP,hx]
   have hxk:=(hsi.fld x (hx ▸ yam hif)).2;obtain⟨xi,xn,xk,xd⟩:=x;simp only at hxk;obtain⟨kk,rfl⟩: ∃kk:Nat,xk=kk:=⟨xk.toNat,by omega⟩
   have hkd:ks.drop i=kk::ks.drop (i+1):=by
    rw[yao (by omega)]
    congr 1;simp only[hks,ybP,hx,yat]
   rw[hkd,zfF]at j7;have p1:R 108 [.ptr 0 0,.d (.int .i64 65536)] [.box [B r,.d (.bool false)]]=_:=zd6 65536 (by omega) (r,false) (by simp only;omega)
   have p1l:=zdM 65536 (r,false);generalize zeB 65536 (r,false)=y1 at*;obtain⟨c,r1⟩:=y1;simp only at p1 p1l j7;have p2:=zmc kk r1 (by omega)
   have p2l:=zr2 kk r1;generalize ziX kk r1=r2 at*;obtain⟨r2,bad⟩:=r2;simp only at p2 p2l j7
   by_cases q1:bad=true
   ·subst q1
    rw[yag (.inl rfl)]at j7;rw[j7]at hT;subst hT2;subst hT';simp only[rdV,rdH]at hT;simp -dsimp -implicitDefEqProofs (disch:=omega) [hi,hifl,hfi,p1,p2,zcd,zaR,hOl,hO0,hOk,hS0,hSk]
    simpa -dsimp -implicitDefEqProofs (disch:=omega) using hT
   obtain rfl:bad=false:=by simpa using q1
   by_cases q2:e.length<c
   ·rw[yag (.inr q2)]at j7
    rw[j7]at hT;have q2':(e.length:Int)<c:=by omega
    subst hT2;subst hT';simp only[rdV,rdH]at hT;simp -dsimp -implicitDefEqProofs (disch:=omega) [hi,hifl,hfi,p1,p2,zcd,zaR,hOl,hO0,hOk,hS0,hSk,q2']
    simpa -dsimp -implicitDefEqProofs (disch:=omega) using hT
   rw[yac (by simp[q2])]at j7
   have q2': ¬ (e.length:Int)<c:=by omega
   have q2'':(c:Int)<=e.length:=by omega
   obtain⟨ec,hec⟩: ∃ec,ec=e.take c:=⟨_,rfl⟩;obtain⟨ed,hed⟩: ∃ed,ed=e.drop c:=⟨_,rfl⟩;have hec':List.take c (bytes e)=bytes ec:=by rw[hec];exact List.map_take.symm
   have hed':List.drop c (bytes e)=bytes ed:=by rw[hed];exact List.map_drop.symm
   have hecl:ec.length<=e.length:=by rw[hec,yaq];omega
   have hedl:ed.length<=e.length:=by rw[hed,yax];omega
   rw[<- hec,<- hed]at j7;clear hec hed;have p3:=zhl kk (by omega) ec m ⟨by omega,by omega⟩ (by omega)
   have hgood:=zgr (k:=kk) (n:=m) (b:=ec);generalize zbQ kk ec m=y3 at*;obtain⟨l,why⟩:=y3;simp only at p3 hgood j7
   by_cases q3:why=0
   case neg=>
    rw[yag q3]at j7;rw[j7]at hT;have q3': ¬ (why:Int)=0:=by omega
    subst hT2;subst hT';simp only[rdV,rdH]at hT;simp -dsimp -implicitDefEqProofs (disch:=omega) [hi,hifl,hfi,p1,p2,zcd,zaR,hOl,hO0,hOk,hS0,hSk,q2',q2'',hec',hed',p3,q3,q3']
    simpa -dsimp -implicitDefEqProofs (disch:=omega) using hT
   rw[yac (ycl q3)]at j7;subst q3;obtain⟨hgd,hlm,_⟩:=hgood rfl;simp -dsimp -implicitDefEqProofs (disch:=omega) [hi,hifl,hfi,p1,p2,zcd,zaR,hOl,hO0,hOk,hS0,hSk,q2',q2'',hec',hed',p3,hlm]
   generalize hz:zaf _ _ _ _ _ _=z;revert z;refine zaa (σ:=Nat × List (List Val) × Nat) (λx=>[(0,B ed),(6,.ptr 0 0),(9,.ptr 1 0),(10,.ptr 2 0),(11,.d (.int .i64 d)),(12,.d (.int .i64 m)),(13,.mp 3),(117,.d (.list fl)),(118,.d (.int .i64 nf)),(119,.d (.int .i64 i)),(154,.d (.list (vs l))),(155,.d (.int .i64 m)),(156,.d (.int .i64 x.1))]) (λx=>zcd (.int .u32 sid) (.list fl) (.list (bytes r2)) (.bool false) (.int .i64 g) (some (xs,0)) (tcs (zaR (some (xs,0))) x.2.1++List.replicate x.2.2 .nilS)++x.2.1.map zhu) (λx=>x.1<=m/\x.2.1.length+x.2.2=m/\(x.2.1.length=x.1\/x.2.2=0)/\(∀q∈x.2.1,q.length<=i+1)/\ ∀j:Nat,(x.2.1++List.replicate x.2.2 [])[j]? =if j<x.1 then (zqF (T1++List.replicate k []) l)[j]? else (T1++List.replicate k [])[j]?) (λx=>m - x.1) (0,T1,k) ?_ ?_ ?_
   ·refine⟨yai _,j5, ?_,λq hq=>Nat.le_succ_of_le (j8 q hq),λj=>by rw[yac (Nat.not_lt_zero j)]⟩
    rcases j6 with ⟨_,h⟩ | h
    ·exact .inl (by rw[h];rfl)
    ·exact .inr h
   ·refine zd7 (some (xs,0)) T1 k (by rw[hO];rfl) rfl rfl λf z0 z1 z2 z3=> ?_
    simp[zaH,z0,z1,z2,z3]
   intro T4 f4 hT4 ⟨a,T,k2⟩ ⟨m1,m2,m3,m5,m4⟩ ih4;simp only at m1 m2 m3 m4 m5 ih4;clear hO0 hOk hS0 hSk hOl hO;obtain⟨O,hO⟩: ∃O,O=T.map zhu:=⟨_,rfl⟩;have hOl:O.length=T.length:=by rw[hO,yah]
   simp only[<- hO]
   by_cases ha:a<m
   ·have hal:a<l.length:=by omega
    obtain⟨v,hv⟩: ∃v,l[a]=v:=⟨_,rfl⟩;have hv':(vs l)[a]'(by rw[yah];exact hal)=v.d:=by rw[ybP,hv]
    cases k2 with
    |zero=>
     have haT:a<T.length:=by omega
     obtain⟨row,hrow⟩: ∃row,T[a]=row:=⟨_,rfl⟩;have hT0:T[a]? =some row:=by rw[yak haT,hrow]
     have hP0:=m4 a;rw[yac (ybx a),show T++List.replicate 0 []=T from yap T,hT0]at hP0
     have hri:row.length<=i:=by
      rcases List.mem_append.1 (yay hP0.symm) with h | h
      ·exact j8 row h
      ·rw[(List.mem_replicate.1 h).2];exact yai _
     have hrl:row.length<=9:=by
      have:=hsi.len;simp only[yaf]at this;omega
     have hcg:(tcs 5 T)[a]? =some (.arr (a+5) row.length):=by rw[zkD,hT0,yaM,yb4]
     have haO:a<O.length:=by omega
     have hOg: ∀X:List Obj,(O++X)[a]? =some (.arr 1 (vs row) 0):=λX=>by rw[yar haO,hO,yau,hT0];rfl
     have hOs: ∀ (X:List Obj) (o:Obj),(O++X).set a o=O.set a o++X:=λX o=>List.set_append_left _ _ haO
     have hOg0:O[a]? =some (.arr 1 (vs row) 0):=by have:=hOg [];rwa [yap]at this
     have htl:=zbZ 5 T;have hcg':(tcs 5 T)[a]'(by omega)= .arr (a+5) row.length:=yaN ((yak (by omega)).symm.trans hcg)
     have hO1: ∀X:List Obj,(O++X)[T.length]? =X[0]? :=λX=>by rw[yal (by omega),hOl,yba]
     simp -dsimp -implicitDefEqProofs (disch:=omega) [ha,hal,hv,hcg',hO1,hOg,hOs,hOg0,haT,zcd,zaR,htl,hOl]
     refine ih4 (a+1,T.set a (row++[v]),0) _ _ ⟨ha,by simpa using m2,.inr rfl,λq hq=> ?_,λj=> ?_⟩ (by simp only;omega) ?_
     ·rcases ycH hq with h | rfl
      ·exact m5 q h
      ·simp only[yae,yaf,yaz];omega
     ·refine zjg m4 (row:=row) (v:=v) (by rw[show T++List.replicate 0 []=T from yap T];exact hT0) (by rw[yak hal,hv]) (λj=> ?_) j
      rw[show T++List.replicate 0 []=T from yap T,show T.set a (row++[v])++List.replicate 0 []=T.set a (row++[v]) from yap _,yb2]
      by_cases e:j=a
      ·subst e;rw[yag rfl,yag rfl,yag haT]
      ·rw[yac (λh=>e h.symm),yac e]
     ·have c1:List.take a (tcs 5 T)++V.arr (a+5) (row.length+1)::List.drop (a+1) (tcs 5 T)=tcs (zaR (some (xs,0))) (T.set a (row++[v]))++List.replicate 0 .nilS:=by
       rw[show zaR (some (xs,0))=5 from rfl,zqG,yc1,yag (by omega),yae,yb4 5 a]
       exact (yap _).symm
      have c2:O.set a (.arr 1 (vs row++[v.d]) 0)=(T.set a (row++[v])).map zhu:=by
       rw[yce,hO];congr 1
       show _=Obj.arr 1 ((row++[v]).map Val.d) 0
       rw[ya7];rfl
      rw[c1,c2];refine zd7 (some (xs,0)) (T.set a (row++[v])) 0 (zay:=[.arr 1 [v.d] 0]) rfl rfl rfl λf z0 z1 z2 z3=> ?_
      simp[zaH,z0,z1,z2,z3]
    |succ k2=>
     have haT:T.length=a:=by omega
     have htl:=zbZ 5 T;have hcg: ∀X:List V,(tcs 5 T++X)[a]? =X[0]? :=λX=>by rw[yal (by omega),htl,haT,yba]
     have hcs: ∀ (X:List V) (v:V),(tcs 5 T++X).set a v=tcs 5 T++X.set 0 v:=λX v=>by rw[ybl _ _ (by omega),htl,haT,yba]
     rw[haT]at hOl;have hO1: ∀X:List Obj,(O++X)[a]? =X[0]? :=λX=>by rw[yal (by omega),hOl,yba]
     simp -dsimp -implicitDefEqProofs (disch:=omega) [ha,hal,hv,hcg,hcs,hO1,zcd,zaR,htl,hOl,haT]
     refine ih4 (a+1,T++[[v]],k2) _ _ ⟨ha,by simp only[yae,yaf,yaz];omega,.inl (by simp only[yae,yaf,yaz];omega),λq hq=> ?_,λj=> ?_⟩ (by simp only;omega) ?_
     ·rcases List.mem_append.1 hq with h | h
      ·exact m5 q h
      ·rw[List.mem_singleton.1 h];simp
     ·refine zjg m4 (row:=[]) (v:=v) (by rw[yal (by omega),haT,yba];rfl) (by rw[yak hal,hv]) (λj=> ?_) j
      rcases ycA j a with e | e | e
      ·rw[yac (by omega),yan,yar (by omega),yar (by omega)]
      ·subst e
       rw[yag rfl,yan,yal (by omega),haT,yba];rfl
      ·obtain⟨x,hx⟩: ∃x,j - T.length=x+1:=⟨j - T.length - 1,by omega⟩
       have e1:(T++([[v]]++List.replicate k2 []))[j]? =(List.replicate k2 ([]:List Val))[x]? :=by rw[yal (by omega),hx];rfl
       have e2:(T++List.replicate (k2+1) [])[j]? =(List.replicate k2 ([]:List Val))[x]? :=by rw[yal (by omega),hx,yaR];rfl
       rw[yac (by omega),yan,e1,e2]
     ·have c1:List.drop (a+1) (tcs 5 T++List.replicate (k2+1) V.nilS)=List.replicate k2 .nilS:=by
       rw[ydj,ybv (by omega),htl,haT,yaP,yaR];rfl
      have c2:a+1+1+1+1+1+1=zaR (some (xs,0))+T.length+1:=by simp only[zaR];omega
      rw[c1,c2,hO];refine zr5 (some (xs,0)) T [v] k2 (o:= .arr 1 [v.d] 0) (zay:=[]) rfl rfl rfl λf z0 z1 z2 z3=> ?_
      simp[zaH,z0,z1,z2,z3]
   ·obtain rfl:a=m:=by omega
    have hk2:k2=0:=by omega
    subst hk2;have hTm:T.length=a:=by omega
    have hPl:(T1++List.replicate k []).length=a:=by rw[yae,ya6];exact j5
    have hTz:zqF (T1++List.replicate k []) l=T:=by
     apply ybV;intro j;have:=m4 j;rw[show T++List.replicate 0 []=T from yap T]at this
     by_cases e:j<a
     ·rw[this,yag e]
     ·rw[yaL (by rw[zgt];omega),yaL (by omega)]
    rw[hTz]at j7;have hwi:IntKind.i64.wrap ((i:Int)+1)=(i:Int)+1:=wI (by have:=hsi.len;simp only[yaf]at this;omega) (by have:=hsi.len;simp only[yaf]at this;omega)
    subst hT4;simp -dsimp -implicitDefEqProofs (disch:=omega) [ha,zcd,zaR,hwi]
    refine ih2 (i+1,(r2,false),ed,T,0) _ _ ⟨hi,rfl,by simp only;omega,by simp only;omega,by simp only;omega,.inr rfl,m5,by rw[show T++List.replicate 0 []=T from yap T];exact j7⟩ (by simp only;omega) ?_
    rw[hO];refine zd7 (some (xs,0)) T 0 (zay:=[]) (by rw[show tcs (zaR (some (xs,0))) T++List.replicate 0 V.nilS=tcs 5 T from yap _,yap];rfl) rfl rfl λf z0 z1 z2 z3=> ?_
    simp[zaH,z0,z1,z2,z3]
  ·obtain rfl:i=nf:=by omega
   have hk0:k=0:=by omega
   subst hk0;have hT1:T1.length=m:=by omega
   rw[ybv (by omega),show T1++List.replicate 0 []=T1 from yap T1]at j7
   rw[show zgs m [] (r,false) e T1=some ((r,false),e,T1) from rfl]at j7
   rw[j7]at g6;simp only at g6;subst hT2;obtain⟨F,hF⟩: ∃F,F=T1.map zui:=⟨_,rfl⟩;have hFl:F.length=m:=by rw[hF,yah,hT1]
   have hpl: ∀b0 b1 b2 b3 b4:Obj,za4 (b0::b1::b2::b3::b4::O) (tcs 5 T1)=some (zaK T1,b0::b1::b2::b3::b4::F):=λb0 b1 b2 b3 b4=>by rw[hO,hF];exact zkE T1 [] [b0,b1,b2,b3,b4]
   have hcl: ∀b0 b1 b2 b3 b4:Obj,(tcs 5 T1).mapM (zuj (b0::b1::b2::b3::b4::F))=some (zaK T1):=λb0 b1 b2 b3 b4=>by
    have:=zo7 [b0,b1,b2,b3,b4] T1 [];rw[yap,<- hF]at this;exact this
   obtain⟨X1,hX1⟩: ∃X1,X1=zaK T1:=⟨_,rfl⟩;have hX1l:X1.length=m:=by rw[hX1,yah,hT1]
   have hX1s:zam 1 X1=true:=by rw[hX1];exact zda T1
   rw[<- hX1]at hpl hcl;clear hO0 hOk hS0 hSk;simp -dsimp -implicitDefEqProofs (disch:=omega) [hi,zcd,zaR,hOl,hpl,hcl,hFl,hX1l,hX1s]
   have hRT:RA (acc++T1)=some (xs++X1,0):=by
    rw[hxs,hX1,<- ya7];cases acc with
    |nil=>simp at hac
    |cons x l=>rfl
   refine ih (d,(r,false),e,acc++T1) _ _ ⟨rfl,j3,j4,by simp only[yae,hT1];omega,fu,by simp only;omega,g6⟩ (by simp only;omega) ?_
   simp only[hRT];refine zr6 (L:=4) rfl rfl (by rw[yae,hX1l];rfl) rfl (by omega) rfl rfl λf z0 z1 z2=> ?_
   simp[zaH,z0,z1,z2]
end Go.Am.Ab
