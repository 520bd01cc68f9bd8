/- Files of rows, written. -/
import Derived.Test.YtibdiacpdmhmnaaGreatDoorSums
import Derived.Test.YtibdiacpdmhmnaaGreatDoorFileA
import Derived.Test.YtibdiacpdmhmnaaGreatDoorRColB
import Derived.Test.YtibdiacpdmhmnaaGreatDoorColE
set_option linter.all false
namespace Go.Am.Ab
open Go.Proofs
set_option maxHeartbeats 8000000
set_option maxRecDepth 4000
def zrE {k:Nat} {l:List Val} (g:zj1 k l) (hl:l.length<=1000) (b:List UInt8) (hb:b.length<=90000000):
 R 46 [.arr 0 b.length,.d (zb2 l).d] [.arr 1 (bytes b) 0]=some ([.arr 0 (b++stB (zb2 l)).length],[.arr 1 (bytes (b++stB (zb2 l))) 0]):=by
 obtain⟨v,w,h1,h2,h3,h4,h5⟩:=zlM (zhn g);rw[<- ztK h1 h2];exact zrC b _ v w h1 h2 h3 h4 (by omega) (zqb l) hb
def zkZ (X:List (List Val)) (N:Nat) (h:1<=N):R 43 [.d (.list (zbe X)),.d (.int .i64 N)] []=some ([.clo 87 [.ptr 0 0,.ptr 1 0]],[.box [.d (.list (zbe X))],.box [.d (.int .i64 N)]]):=by
 have h': ¬ (N:Int)<1:=by omega
 refine rg b43 rfl ?_;intro T hT;simp -dsimp -implicitDefEqProofs (disch:=first|omega|assumption) [h']
 simpa -dsimp -implicitDefEqProofs (disch:=first|omega|assumption) using hT
def WrR (b:List UInt8) (e:Int):Option (List V × List Obj):=some ([.arr 0 b.length,.d (.int .i64 e)],[.arr 1 (bytes b) 0])
def zo1 (s:Sch) (X:List (List Val)) (n:Int) (h0:SchOk s) (hX:X.length<=1000) (hr: ∀r∈X,r.length<=1000) (hi: ∀r∈X, ∀n,Val.whole n∈r->zal n):
 R 12 [.d s.d,.d (.list (zbe X)),.d (.int .i64 n)] []=WrR (zcP s X n).1 (zcP s X n).2:=by
 have hc:=zi9 s h0.id.1 (λf hf=>by have:=(h0.fld f hf).2.2.2.2;omega) (by have:=h0.len;omega)
 unfold zcP;obtain⟨sid,fs⟩:=s;simp only[Sch.d]at hc
 by_cases h1:zly ⟨sid,fs⟩=0
 case neg=>
  rw[yah h1];unfold WrR;generalize zly ⟨sid,fs⟩=e at*;refine rg b12 rfl ?_;intro T hT;simp -dsimp -implicitDefEqProofs (disch:=first|omega|assumption) [hc,h1]
  simpa -dsimp -implicitDefEqProofs (disch:=first|omega|assumption) using hT
 rw[yae (yct h1)];have hs:=zjB h1;rw[h1]at hc
 by_cases h2:n<1
 ·rw[yah (.inl h2)]
  unfold WrR;refine rg b12 rfl ?_;intro T hT;simp -dsimp -implicitDefEqProofs (disch:=first|omega|assumption) [hc,h2]
  simpa -dsimp -implicitDefEqProofs (disch:=first|omega|assumption) using hT
 by_cases h3:64<n
 ·rw[yah (.inr h3)]
  unfold WrR;refine rg b12 rfl ?_;intro T hT;simp -dsimp -implicitDefEqProofs (disch:=first|omega|assumption) [hc,h2,h3]
  simpa -dsimp -implicitDefEqProofs (disch:=first|omega|assumption) using hT
 rw[yae (by omega)]
 obtain⟨N,rfl⟩: ∃N:Nat,n=N:=⟨n.toNat,by omega⟩
 by_cases h4:256<X.length
 ·rw[yah h4]
  unfold WrR;have h4':(256:Int)<X.length:=by omega
  refine rg b12 rfl ?_;intro T hT;simp -dsimp -implicitDefEqProofs (disch:=first|omega|assumption) [hc,h2,h3,h4']
  simpa -dsimp -implicitDefEqProofs (disch:=first|omega|assumption) using hT
 rw[yae h4];have h4': ¬ (256:Int)<X.length:=by omega
 rw[yaB];have hfit: ∀r∈X,R 40 [.d (.agg [.int .u32 sid,.list (fs.map Fld.d)]),.d (.list (vs r))] []=some ([.d (.int .i64 (fit ⟨sid,fs⟩ r))],[]):=λr hr'=>zvf ⟨sid,fs⟩ r (by have:=h0.len;simp only at this ⊢;omega) (by have:=hr r hr';omega)
 refine rg b12 rfl ?_;intro T hT;simp -dsimp -implicitDefEqProofs (disch:=first|omega|assumption) [hc,h2,h3,h4']
 generalize hz:zad _ _ _ _ _ _=z;revert z;refine zaa (σ:=Nat) (λk=>[(1,.d (.list (zbe X))),(2,.d (.int .i64 N)),(3,.ptr 0 0),(6,.ptr 1 0),(7,.ptr 2 0),(35,.d (.list (zbe X))),(36,.d (.int .i64 X.length)),(37,.d (.int .i64 k))]) (λ_=>[.box [.d (.int .u32 sid),.d (.list (fs.map Fld.d))],.box [.nilS],.box [.d (.int .i64 0)]]) (λk=>k<=X.length/\zoQ ⟨sid,fs⟩ X=zoQ ⟨sid,fs⟩ (X.drop k)) (λk=>X.length - k) 0 ?_ ?_ ?_
 ·exact⟨yai _,rfl⟩
 ·simp -dsimp -implicitDefEqProofs (disch:=first|omega|assumption)
 intro T' f hT' k ⟨g1,g2⟩ ih
 by_cases hk:k<X.length
 ·obtain⟨r,hr2⟩: ∃r,X[k]=r:=⟨_,rfl⟩
  have hf:=hfit r (hr2 ▸ yal hk);rw[zns hk hr2]at g2
  by_cases h5:fit ⟨sid,fs⟩ r=0
  ·rw[yah h5]at g2
   rw[h5]at hf;simp -dsimp -implicitDefEqProofs (disch:=first|omega|assumption) [hk,hr2,hf]
   refine ih (k+1) _ _ ⟨hk,g2⟩ (by omega) ?_
   simp -dsimp -implicitDefEqProofs (disch:=first|omega|assumption)
  ·rw[yae h5]at g2
   subst hT';rw[g2,yah h5]at hT;simp -dsimp -implicitDefEqProofs (disch:=first|omega|assumption) [hk,hr2,hf,h5]
   simpa -dsimp -implicitDefEqProofs (disch:=first|omega|assumption) using hT
 have hk2:X.drop k=[]:=ybD (by omega)
 rw[hk2]at g2;have g3:zoQ ⟨sid,fs⟩ X=0:=g2;rw[g3,yae (by decide)]at hT
 clear ih g2 hk2;have hfa:=zlO hs g3 hi;have hp:=zri ⟨sid,fs⟩ h0;have hu1:=zaY X.length (by omega)
 have hu2:=zaY N (by omega)
 have b1:(X.length:Int)<=18446744073709551615:=by omega
 have b2:(N:Int)<=18446744073709551615:=by omega
 simp only[Sch.d]at hp;have hhl:=zif hs h0 X (by omega) (n:=N) (by omega)
 simp only[zhY,yaf]at hhl;have hla:(zjY ⟨sid,fs⟩).length<=41000:=by omega
 have hlb:(put X.length).length<=41000:=by omega
 have hlc:(put N).length<=41000:=by omega
 subst hT';have hch:=zkZ X N (by omega)
 simp -dsimp -implicitDefEqProofs (disch:=first|omega|assumption) [hk,hp,hu1,hu2,zai,b1,b2,hch]
 have hfl:fs.length<=8:=hs.len;have hG:=zlQ hfa (n:=N) (by omega)
 have hGl:=zdS (n:=N) X.length X;obtain⟨H,hH⟩: ∃H,H=zhY ⟨sid,fs⟩ X N:=⟨_,rfl⟩;have hHl:H.length<=41000:=by rw[hH];exact zif hs h0 X (by omega) (by omega)
 generalize hz:zeD _ _ _ _ _ _ _=z;revert z;refine ziR (σ:=List UInt8 × List UInt8) (λ_=>[(3,.ptr 0 0),(6,.ptr 1 0),(7,.ptr 2 0),(12,.ptr 3 0),(13,.ptr 4 0)]) (λx=>[.box [.d (.int .u32 sid),.d (.list (fs.map Fld.d))],.box [.nilS],.box [.d (.int .i64 0)],.box [.arr 5 x.1.length],.box [.arr 6 x.2.length],.arr 1 (bytes x.1) 0,.arr 1 (bytes x.2) 0]) (λl x=> ∃P Q,cks N X.length X=P++Q/\l=Q.map zbe/\x.1=67::70::49::ztL ⟨sid,fs⟩ P/\x.2=H++zoS ⟨sid,fs⟩ P) ([67,70,49],H) ?_ ?_ ?_ ?_
 ·exact⟨[],_,rfl,by simp[zhm],rfl,by simp[zoS]⟩
 ·simp -dsimp -implicitDefEqProofs (disch:=first|omega|assumption) [hH,zhY,yaC]
 ·intro T' f hT' z l ⟨A,F⟩ ⟨P,Q,q1,q2,q3,q4⟩ ih
  simp only at q3 q4 ih;cases Q with
  |nil=>simp at q2
  |cons g Q=>
  simp only[yaW,ycz]at q2;obtain⟨rfl,rfl⟩:=q2;obtain⟨gl,gf⟩:=hG g (by rw[q1];simp)
  obtain⟨pl1,pl2⟩:=zlP hs (P:=P) λg' h'=>hG g' (by rw[q1];simp[h'])
  have pl3:P.length<=256:=by rw[q1,yaf]at hGl;omega
  have r7:List.range 7=[0,1,2,3,4,5,6]:=rfl;have cl:=λi hi=>zie hs gf gl i hi
  simp only at cl;simp -dsimp -implicitDefEqProofs (disch:=first|omega|assumption)
  generalize hz:zad _ _ _ _ _ _=z;revert z;refine zaa (σ:=Nat × List UInt8 × List UInt8) (λx=>[(3,.ptr 0 0),(6,.ptr 1 0),(7,.ptr 2 0),(12,.ptr 3 0),(13,.ptr 4 0),(14,.d (.list (zbe g))),(67,.d (.list (fs.map Fld.d))),(68,.d (.int .i64 fs.length)),(69,.d (.int .i64 x.1))]) (λx=>[.box [.d (.int .u32 sid),.d (.list (fs.map Fld.d))],.box [.nilS],.box [.d (.int .i64 0)],.box [.arr 5 x.2.1.length],.box [.arr 6 x.2.2.length],.arr 1 (bytes x.2.1) 0,.arr 1 (bytes x.2.2) 0]) (λx=>x.1<=fs.length/\x.2.1=A++zjC ⟨sid,fs⟩ g x.1/\x.2.2=F++zjD ⟨sid,fs⟩ g x.1) (λx=>fs.length - x.1) (0,A,F) ?_ ?_ ?_
  ·exact⟨yai _,by simp[zjC],by simp[zjD]⟩
  ·simp -dsimp -implicitDefEqProofs (disch:=first|omega|assumption) [r7]
  intro T'' f2 hT'' ⟨i,A',F'⟩ ⟨g1,g2,g3⟩ ih2;simp only at g1 g2 g3 ih2;have cli:=cl i g1;have hA:A'.length<=1600000*256+200000*8+3:=by
   have:=congrArg List.length q3;simp only[yag]at this;rw[g2,yaf];omega
  have hF:F'.length<=5000000:=by
   have:=congrArg List.length q4;simp only[yaf]at this;rw[g3,yaf];omega
  by_cases hk:i<fs.length
  ·obtain⟨x,hx⟩: ∃x,fs[i]=x:=⟨_,rfl⟩
   have hki:=zxi hs hk;have gd:=zgG gf hk;have e1:=zho ⟨sid,fs⟩ g i;have e2:=zhp ⟨sid,fs⟩ g i;rw[hx]at hki;have hcv:=zeV g i (λr hr'=>by have:=(gf r hr').1;simp only at this;omega) (by omega) (by omega)
   have hcl:(col g i).length=g.length:=by simp[col]
   have hcw:=zp5 _ ⟨hki.1,hki.2.1⟩ _ gd (by omega)
   have hcB:=zid ⟨hki.1,hki.2.1⟩ gd (by omega)
   have hps:=zfV (col g i) (by omega) (λs hs'=>by
    rcases gd _ hs' with h | ⟨_,_,h⟩
    ·cases h
    ·have:=h s rfl;omega)
   have hst:=zoR gd (by omega)
   have hpp: ∀b:List UInt8,b.length<=90000000->_:=λb hb=>zrE gd (by omega) b hb
   generalize zeT (kd ⟨sid,fs⟩ i) (col g i)=c at*;generalize stB (zb2 (col g i))=sb at*;generalize (zb2 (col g i)).d=sd at*;generalize kd ⟨sid,fs⟩ i=kk at*;generalize col g i=cg at*;have hu:=zaY c.length (by omega)
   have hul:=zan (n:=c.length) (by omega)
   have b1:(c.length:Int)<=18446744073709551615:=by omega
   have hp1:=hpp (F'++put c.length) (by rw[yaf];omega)
   have hbb:bytes (F'++put c.length)=bytes F'++bytes (put c.length):=by simp
   rw[yaf,hbb]at hp1;obtain⟨xi,xn,xk,xd⟩:=x;simp only at hki;obtain⟨_,_,rfl⟩:=hki;simp -dsimp -implicitDefEqProofs (disch:=first|omega|assumption) [r7,hk,hx,hcv,hcw,hps,hu,hp1,zai,b1,hcl]
   refine ih2 (i+1,A'++c,F'++(put c.length++sb)) _ _ ⟨hk,by simp only[e1,g2,yaq],by simp only[e2,g3,yaq]⟩ (by simp only;omega) ?_
   simp -dsimp -implicitDefEqProofs (disch:=first|omega|assumption) [r7]
  ·obtain rfl:i=fs.length:=by omega
   have e1:=znt ⟨sid,fs⟩ P g;have e2:=znu ⟨sid,fs⟩ P g;subst hT'';simp -dsimp -implicitDefEqProofs (disch:=first|omega|assumption) [r7]
   refine ih (A',F') _ ⟨P++[g],Q,by simp[q1],rfl,by simp only[e1,g2,q3,ybm],by simp only[e2,g3,q4,yaq]⟩ ?_
   simp -dsimp -implicitDefEqProofs (disch:=first|omega|assumption) [r7]
 ·intro ⟨A,F⟩ ⟨P,Q,q1,q2,q3,q4⟩
  simp only at q3 q4;have hQ:Q=[]:=by
   cases Q with
   |nil=>rfl
   |cons _ _=>simp at q2
  subst hQ;rw[yau]at q1;subst q1;have hfo:zoT ⟨sid,fs⟩ X N=F:=by rw[q4,hH];rfl
  have htx:zoU ⟨sid,fs⟩ X N=A++(F++le4 F.length):=by
   unfold zoU;rw[hfo,q3];rfl
  obtain⟨tl1,tl2⟩:=zqc hs h0 (by omega) hfa (n:=N) (by omega)
  unfold zvy at hT;rw[hfo]at tl1;rw[htx]at tl2 hT;have hse:=zni _ tl2;have hsl:=zbR (A++(F++le4 F.length));have hb:bytes (A++(F++le4 F.length))=bytes A++(bytes F++bytes (le4 F.length)):=by simp
  have hl:(A++(F++le4 F.length)).length=A.length+F.length+4:=by simp[le4,yaC]
  rw[hl]at tl2 hsl;unfold B at hse;rw[hb,ztM]at hse;generalize zdk (A++(F++le4 F.length))=S at*;clear q3 q4 hfo htx hb hl
  by_cases h5:65536<S.length
  ·have h5':(65536:Int)<S.length:=by omega
   rw[yah h5]at hT;simp -dsimp -implicitDefEqProofs (disch:=first|omega|assumption) [hse,h5']
   exact hT
  ·have h5': ¬ (65536:Int)<S.length:=by omega
   rw[yae h5]at hT;simp -dsimp -implicitDefEqProofs (disch:=first|omega|assumption) [hse,h5']
   exact hT
end Go.Am.Ab
namespace Go.Am.Ab
open Go.Proofs
set_option maxHeartbeats 8000000
set_option maxRecDepth 4000
def zo2 {k:Nat} {l:List Val} (g:zj1 k l) (hl:l.length<=1000):
 R 55 [.d (zb2 l).d] []=some ([.arr 0 (stB (zb2 l)).length],[.arr 1 (bytes (stB (zb2 l))) 0]):=by
 obtain⟨v,w,h1,h2,h3,h4,h5⟩:=zlM (zhn g);rw[<- ztK h1 h2];exact zoN _ v w h1 h2 h3 h4 (by omega) (zqb l)
def zgJ {k:Nat} {v:Val} (g:zvt k v):chk (zaf v)=0/\zay (zaf v)=v/\zal (zaf v).n/\((zaf v).kind=0\/(zaf v).kind=k):=by
 have z:zal 0:=by unfold zal;omega
 have o:zal 1:=by unfold zal;omega
 rcases g with rfl | ⟨hk,h1,h⟩
 ·exact⟨rfl,rfl,z,.inl rfl⟩
 ·cases v with
  |null=>exact⟨rfl,rfl,z,.inl rfl⟩
  |whole n=>exact⟨rfl,rfl,h1 n rfl,.inr hk⟩
  |truth b=>cases b <;> exact⟨rfl,rfl,by assumption,.inr hk⟩
  |text s=>
   have hs:=h s rfl;have hc:chk ⟨3,0,s⟩=0:=by
    unfold chk;rw[yae (by simp),yae (by simp),yae (by simp only;omega)]
   exact⟨hc,zh9 hc rfl,z,.inr hk⟩
def ztV (k:Nat) (hk:1<=k/\k<=3) (l:List Val) (g:zj1 k l) (hn:l.length<=256):
 R 54 [.d (.int .i64 k),.d (.list (ce (l.map zaf)))] []=some ([.arr 0 (zeT k l).length,E 0],[.arr 1 (bytes (zeT k l)) 0]):=by
 have hvl: ∀c∈l.map zaf,chk c=0:=λc hc=>by
  obtain⟨v,hv,rfl⟩:=List.mem_map.1 hc;exact (zgJ (g v hv)).1
 have hi: ∀c∈l.map zaf,zal c.n:=λc hc=>by
  obtain⟨v,hv,rfl⟩:=List.mem_map.1 hc;exact (zgJ (g v hv)).2.2.1
 have hX:(l.map zaf).map zay=l:=by
  rw[ya0]
  conv=>rhs;rw[<- List.map_id l]
  exact ybF λv hv=>(zgJ (g v hv)).2.1
 have h2:(l.map zaf).any (zty k)=false:=by
  rw[yc4];intro c hc;obtain⟨v,hv,rfl⟩:=List.mem_map.1 hc;rcases (zgJ (g v hv)).2.2.2 with e | e <;> simp[zty,e]
 have hl:(l.map zaf).length<=256:=by rw[yam];exact hn
 have hc:k=1\/k=2\/k=3:=by omega
 rcases hc with e | e | e
 ·have h:=zoX k e _ hvl hi hl h2
  rwa [hX]at h
 ·have h:=zoY k e _ hvl hi hl h2
  rwa [hX]at h
 ·have h:=zo0 k e _ hvl hl h2
  rwa [hX]at h
def znz (s:Sch) (X:List (List Val)) (n:Int) (h0:SchOk s) (hX:X.length<=1000) (hr: ∀r∈X,r.length<=1000) (hi: ∀r∈X, ∀n,Val.whole n∈r->zal n):
 R 14 [.d s.d,.d (.list (zdB (X.map (·.map zaf)))),.d (.int .i64 n)] []=WrR (zcP s X n).1 (zcP s X n).2:=by
 have hc:=zmY s h0.id.1 (λf hf=>by have:=(h0.fld f hf);omega) (by have:=h0.len;omega)
 unfold zcP;obtain⟨sid,fs⟩:=s;simp only[Sch.d]at hc;obtain⟨Y,hY⟩: ∃Y,Y=X.map (·.map zaf):=⟨_,rfl⟩
 have hYl:Y.length=X.length:=by rw[hY,yam]
 rw[<- hY]
 by_cases h1:zly ⟨sid,fs⟩=0
 case neg=>
  rw[yah h1];unfold WrR;generalize zly ⟨sid,fs⟩=e at*;refine rg b14 rfl ?_;intro T hT;simp -dsimp -implicitDefEqProofs (disch:=first|omega|assumption) [hc,h1]
  simpa -dsimp -implicitDefEqProofs (disch:=first|omega|assumption) using hT
 rw[yae (yct h1)];have hs:=zjB h1;rw[h1]at hc
 by_cases h2:n<1
 ·rw[yah (.inl h2)]
  unfold WrR;refine rg b14 rfl ?_;intro T hT;simp -dsimp -implicitDefEqProofs (disch:=first|omega|assumption) [hc,h2]
  simpa -dsimp -implicitDefEqProofs (disch:=first|omega|assumption) using hT
 by_cases h3:64<n
 ·rw[yah (.inr h3)]
  unfold WrR;refine rg b14 rfl ?_;intro T hT;simp -dsimp -implicitDefEqProofs (disch:=first|omega|assumption) [hc,h2,h3]
  simpa -dsimp -implicitDefEqProofs (disch:=first|omega|assumption) using hT
 rw[yae (by omega)]
 obtain⟨N,rfl⟩: ∃N:Nat,n=N:=⟨n.toNat,by omega⟩
 by_cases h4:256<X.length
 ·rw[yah h4]
  unfold WrR;have h4':(256:Int)<X.length:=by omega
  refine rg b14 rfl ?_;intro T hT;simp -dsimp -implicitDefEqProofs (disch:=first|omega|assumption) [hc,h2,h3,h4',hYl]
  simpa -dsimp -implicitDefEqProofs (disch:=first|omega|assumption) using hT
 rw[yae h4];have h4': ¬ (256:Int)<X.length:=by omega
 rw[yaB];have hfit: ∀r∈X,R 50 [.d (.agg [.int .u32 sid,.list (fs.map Fld.d)]),.d (.list (ce (r.map zaf)))] []=some ([.d (.int .i64 (fit ⟨sid,fs⟩ r))],[]):=λr hr'=>zs2 ⟨sid,fs⟩ r (by have:=h0.len;simp only at this ⊢;omega) (by have:=hr r hr';omega)
 refine rg b14 rfl ?_;intro T hT;simp -dsimp -implicitDefEqProofs (disch:=first|omega|assumption) [hc,h2,h3,h4',hYl]
 generalize hz:zad _ _ _ _ _ _=z;revert z;refine zaa (σ:=Nat) (λk=>[(1,.d (.list (zdB Y))),(2,.d (.int .i64 N)),(3,.ptr 0 0),(9,.d (.int .i64 k))]) (λ_=>[.box [.d (.int .u32 sid),.d (.list (fs.map Fld.d))]]) (λk=>k<=X.length/\zoQ ⟨sid,fs⟩ X=zoQ ⟨sid,fs⟩ (X.drop k)) (λk=>X.length - k) 0 ?_ ?_ ?_
 ·exact⟨yai _,rfl⟩
 ·simp -dsimp -implicitDefEqProofs (disch:=first|omega|assumption)
 intro T' f hT' k ⟨g1,g2⟩ ih
 by_cases hk:k<X.length
 ·obtain⟨r,hr2⟩: ∃r,X[k]=r:=⟨_,rfl⟩
  obtain⟨w,hw⟩: ∃w,w=r.map zaf:=⟨_,rfl⟩;have hkY:k<Y.length:=by omega
  have hYk:Y[k]=w:=by simp only[hY,ybJ,hr2,hw]
  have hf:=hfit r (hr2 ▸ yal hk);rw[<- hw]at hf;rw[zns hk hr2]at g2
  by_cases h5:fit ⟨sid,fs⟩ r=0
  ·rw[yah h5]at g2
   rw[h5]at hf;simp -dsimp -implicitDefEqProofs (disch:=first|omega|assumption) [hk,hkY,hYk,hYl,hf]
   refine ih (k+1) _ _ ⟨hk,g2⟩ (by omega) ?_
   simp -dsimp -implicitDefEqProofs (disch:=first|omega|assumption)
  ·rw[yae h5]at g2
   subst hT';rw[g2,yah h5]at hT;simp -dsimp -implicitDefEqProofs (disch:=first|omega|assumption) [hk,hkY,hYk,hYl,hf,h5]
   simpa -dsimp -implicitDefEqProofs (disch:=first|omega|assumption) using hT
 have hk2:X.drop k=[]:=ybD (by omega)
 rw[hk2]at g2;have g3:zoQ ⟨sid,fs⟩ X=0:=g2;rw[g3,yae (by decide)]at hT
 clear ih g2 hk2;have hfa:=zlO hs g3 hi;have hp:=zoA ⟨sid,fs⟩ h0;have hu1:=zaV X.length (by omega)
 have hu2:=zaV N (by omega)
 have b1:(X.length:Int)<=18446744073709551615:=by omega
 have b2:(N:Int)<=18446744073709551615:=by omega
 simp only[Sch.d]at hp;have hhl:=zif hs h0 X (by omega) (n:=N) (by omega)
 have hhl2:=hhl;simp only[zhY,yaf]at hhl;have hla:(zjY ⟨sid,fs⟩).length<=41000:=by omega
 have hlb:(put X.length).length<=41000:=by omega
 have hlc:(put N).length<=41000:=by omega
 have hgr:=zoP Y N (by omega) (by omega) (by omega)
 rw[hYl]at hgr;have hfl:fs.length<=8:=hs.len;have hG:=zlQ hfa (n:=N) (by omega)
 have hGl:=zdS (n:=N) X.length X;have hGy:cks N X.length Y=(cks N X.length X).map (·.map (·.map zaf)):=by rw[hY];exact ztG _ _ _ _
 have hGyl:(cks N X.length Y).length=(cks N X.length X).length:=by rw[hGy,yam]
 have hfile:zvy ⟨sid,fs⟩ X N=zdk (zoU ⟨sid,fs⟩ X N):=rfl;have htext:zoU ⟨sid,fs⟩ X N=67::70::49::(ztL ⟨sid,fs⟩ (cks N X.length X)++((zhY ⟨sid,fs⟩ X N++zoS ⟨sid,fs⟩ (cks N X.length X))++le4 (zhY ⟨sid,fs⟩ X N++zoS ⟨sid,fs⟩ (cks N X.length X)).length)):=rfl;obtain⟨tl1,tl2⟩:=zqc hs h0 (by omega) hfa (n:=N) (by omega)
 have hfo:zoT ⟨sid,fs⟩ X N=zhY ⟨sid,fs⟩ X N++zoS ⟨sid,fs⟩ (cks N X.length X):=rfl;rw[hfo]at tl1;rw[htext]at tl2;rw[hfile,htext]at hT;clear hfo hfile htext;generalize cks N X.length X=G at*;generalize cks N X.length Y=GY at*;obtain⟨H,hH⟩: ∃H,H=zhY ⟨sid,fs⟩ X N:=⟨_,rfl⟩;rw[<- hH]at hT tl1 tl2 hhl2;subst hT';simp -dsimp -implicitDefEqProofs (disch:=first|omega|assumption) [hk,hp,hu1,hu2,zai,b1,b2,hgr,hYl]
 generalize hz:zad _ _ _ _ _ _=z;revert z;refine zaa (σ:=Nat × List UInt8 × List UInt8) (λx=>[(3,.ptr 0 0),(10,.arr 1 x.2.1.length),(11,.arr 2 x.2.2.length),(12,.arr 3 GY.length),(13,.d (.int .i64 x.1))]) (λx=>[.box [.d (.int .u32 sid),.d (.list (fs.map Fld.d))],.arr 1 (bytes x.2.1) 0,.arr 1 (bytes x.2.2) 0,.arr 1 (GY.map λg=> .list (zdB g)) 0]) (λx=>x.1<=G.length/\x.2.1=67::70::49::ztL ⟨sid,fs⟩ (G.take x.1)/\x.2.2=H++zoS ⟨sid,fs⟩ (G.take x.1)) (λx=>G.length - x.1) (0,[67,70,49],H) ?_ ?_ ?_
 ·exact⟨yai _,by simp[ztL],by simp[zoS]⟩
 ·simp -dsimp -implicitDefEqProofs (disch:=first|omega|assumption) [hH,zhY,yaC]
 intro T' f hT' ⟨j,A,F⟩ ⟨g1,q3,q4⟩ ih;simp only at g1 q3 q4 ih;obtain⟨pl1,pl2⟩:=zlP hs (P:=G.take j) λg' h'=>hG g' (yaH h')
 have pl3:(G.take j).length<=256:=by rw[yao];omega
 by_cases hj:j<G.length
 ·obtain⟨g,hg⟩: ∃g,G[j]=g:=⟨_,rfl⟩
  obtain⟨gy,hgy⟩: ∃gy,gy=g.map (·.map zaf):=⟨_,rfl⟩
  have hjY:j<GY.length:=by omega
  have hGYj:GY[j]=gy:=by simp only[hGy,ybJ,hg,hgy]
  obtain⟨gl,gf⟩:=hG g (hg ▸ yal hj);have cl:=λi hi=>zie hs gf gl i hi
  simp only at cl;have htk:G.take (j+1)=G.take j++[g]:=by rw[ybe hj,hg]
  simp -dsimp -implicitDefEqProofs (disch:=first|omega|assumption) [hj,hjY,hGYj]
  generalize hz:zad _ _ _ _ _ _=z;revert z;refine zaa (σ:=Nat × List UInt8 × List UInt8) (λx=>[(3,.ptr 0 0),(10,.arr 1 x.2.1.length),(11,.arr 2 x.2.2.length),(12,.arr 3 GY.length),(13,.d (.int .i64 j)),(14,.d (.int .i64 x.1))]) (λx=>[.box [.d (.int .u32 sid),.d (.list (fs.map Fld.d))],.arr 1 (bytes x.2.1) 0,.arr 1 (bytes x.2.2) 0,.arr 1 (GY.map λg=> .list (zdB g)) 0]) (λx=>x.1<=fs.length/\x.2.1=A++zjC ⟨sid,fs⟩ g x.1/\x.2.2=F++zjD ⟨sid,fs⟩ g x.1) (λx=>fs.length - x.1) (0,A,F) ?_ ?_ ?_
  ·exact⟨yai _,by simp[zjC],by simp[zjD]⟩
  ·simp -dsimp -implicitDefEqProofs (disch:=first|omega|assumption)
  intro T'' f2 hT'' ⟨i,A',F'⟩ ⟨g1,g2,g3⟩ ih2;simp only at g1 g2 g3 ih2;have cli:=cl i g1;have hA:A'.length<=1600000*256+200000*8+3:=by
   have:=congrArg List.length q3;simp only[yag]at this;rw[g2,yaf];omega
  have hF:F'.length<=5000000:=by
   have:=congrArg List.length q4;simp only[yaf]at this;rw[g3,yaf];omega
  by_cases hk:i<fs.length
  ·obtain⟨x,hx⟩: ∃x,fs[i]=x:=⟨_,rfl⟩
   have hki:=zxi hs hk;have gd:=zgG gf hk;have e1:=zho ⟨sid,fs⟩ g i;have e2:=zhp ⟨sid,fs⟩ g i;rw[hx]at hki;have hcv:=zlN g i (λr hr'=>by have:=(gf r hr').1;simp only at this;omega) (by omega) (by omega)
   rw[<- hgy]at hcv;have hcl:(col g i).length=g.length:=by simp[col]
   have hcw:=ztV _ ⟨hki.1,hki.2.1⟩ _ gd (by omega)
   have hcB:=zid ⟨hki.1,hki.2.1⟩ gd (by omega)
   have hps:=zoK (col g i) (by omega) (λs hs'=>by
    rcases gd _ hs' with h | ⟨_,_,h⟩
    ·cases h
    ·have:=h s rfl;omega)
   have hst:=zoR gd (by omega)
   have hpp:=zo2 gd (by omega)
   generalize zeT (kd ⟨sid,fs⟩ i) (col g i)=c at*;generalize stB (zb2 (col g i))=sb at*;generalize (zb2 (col g i)).d=sd at*;generalize kd ⟨sid,fs⟩ i=kk at*;obtain⟨cc,hcc⟩: ∃cc,cc=(col g i).map zaf:=⟨_,rfl⟩;have hccl:cc.length=g.length:=by rw[hcc,yam,hcl]
   rw[<- hcc]at hcv hcw hps;have hu:=zaV c.length (by omega)
   have hul:=zan (n:=c.length) (by omega)
   have b1:(c.length:Int)<=18446744073709551615:=by omega
   obtain⟨xi,xn,xk,xd⟩:=x;simp only at hki;obtain⟨hk1,hk3,rfl⟩:=hki;have hkw:IntKind.i64.wrap (kk:Int)=kk:=wI (by omega) (by omega)
   simp -dsimp -implicitDefEqProofs (disch:=first|omega|assumption) [hk,hx,hjY,hGYj,hcv,hcw,hps,hu,hpp,zai,b1,hccl,hkw]
   refine ih2 (i+1,A'++c,F'++(put c.length++sb)) _ _ ⟨hk,by simp only[e1,g2,yaq],by simp only[e2,g3,yaq]⟩ (by simp only;omega) ?_
   simp -dsimp -implicitDefEqProofs (disch:=first|omega|assumption) [yaC]
  ·obtain rfl:i=fs.length:=by omega
   have e1:=znt ⟨sid,fs⟩ (G.take j) g;have e2:=znu ⟨sid,fs⟩ (G.take j) g;subst hT'';simp -dsimp -implicitDefEqProofs (disch:=first|omega|assumption) [hk]
   refine ih (j+1,A',F') _ _ ⟨hj,by simp only[htk,e1,g2,q3,ybm],by simp only[htk,e2,g3,q4,yaq]⟩ (by simp only;omega) ?_
   simp -dsimp -implicitDefEqProofs (disch:=first|omega|assumption)
 obtain rfl:j=G.length:=by omega
 rw[yaR]at q3 q4 pl1 pl2;have htx:67::70::49::(ztL ⟨sid,fs⟩ G++((H++zoS ⟨sid,fs⟩ G)++le4 (H++zoS ⟨sid,fs⟩ G).length))=A++(F++le4 F.length):=by rw[q3,<- q4];rfl
 rw[htx]at hT tl2;rw[<- q4]at tl1;clear ih q3 q4 htx hu1 hu2 hp hgr;have hse:=zhj _ tl2;have hsl:=zbR (A++(F++le4 F.length));have hl:(A++(F++le4 F.length)).length=A.length+F.length+4:=by simp[le4,yaC]
 rw[hl]at tl2 hsl;subst hT';have hjY: ¬ G.length<GY.length:=by omega
 simp -dsimp -implicitDefEqProofs (disch:=first|omega|assumption) [hj,hjY]
 obtain⟨m,hm⟩: ∃m,m=F.length:=⟨_,rfl⟩;generalize hz:zad _ _ _ _ _ _=z;revert z;refine zaa (σ:=Nat) (λi=>[(10,.arr 0 (A.length+F.length+i)),(18,.d (.int .i64 ((m / 256 ^ i:Nat):Int))),(19,.d (.int .i64 i))]) (λi=>[.arr 1 (bytes (A++(F++(le4 m).take i))) 0]) (λi=>i<=4) (λi=>4 - i) 0 ?_ ?_ ?_
 ·exact yai _
 ·simp -dsimp -implicitDefEqProofs (disch:=first|omega|assumption) [hm]
 intro T' f hT' i hi ih;have hln:((le4 m).take i).length=i:=by rw[yao];simp[le4];omega
 by_cases h1:i<4
 ·have h1':(i:Int)<4:=by omega
  obtain⟨s,hs'⟩: ∃s,s=m / 256 ^ i:=⟨_,rfl⟩;have hs32:s<4294967296:=by rw[hs'];exact ybx (ycY _ _) (by omega)
  have hs2:m / 256 ^ (i+1)=s / 256:=by rw[hs',yb6,ybi]
  have hs3:(s:Int).tdiv 256=((s / 256:Nat):Int):=rfl;have htk:(le4 m).take (i+1)=(le4 m).take i++[UInt8.ofNat s]:=by
   have:i=0\/i=1\/i=2\/i=3:=by omega
   rw[hs'];rcases this with rfl | rfl | rfl | rfl <;> simp[le4]
  rw[<- hs'];have hmn:min i (le4 m).length=i:=by rw[show (le4 m).length=4 from rfl];omega
  simp -dsimp -implicitDefEqProofs (disch:=first|omega|assumption) [h1',hln,hs3,hmn]
  refine ih (i+1) _ _ h1 (by omega) ?_
  rw[htk,hs2];simp -dsimp -implicitDefEqProofs (disch:=first|omega|assumption) [hs3,hln,yaC]
 ·obtain rfl:i=4:=by omega
  have h1': ¬ ((4:Nat):Int)<4:=by omega
  have hf:(le4 m).take 4=le4 m:=rfl;rw[hf,hm];obtain⟨S,hS⟩: ∃S,S=zdk (A++(F++le4 F.length)):=⟨_,rfl⟩;obtain⟨W,hW⟩: ∃W,W=A++(F++le4 F.length):=⟨_,rfl⟩;rw[<- hS]at hse hsl hT;rw[<- hW]at hse hl ⊢;have hWl:A.length+F.length+4=W.length:=hl.symm;subst hT'
  by_cases h5:65536<S.length
  ·have h5':(65536:Int)<S.length:=by omega
   rw[yah h5]at hT;simp -dsimp -implicitDefEqProofs (disch:=first|omega|assumption) [h1',hse,h5',hWl]
   exact hT
  ·have h5': ¬ (65536:Int)<S.length:=by omega
   rw[yae h5]at hT;simp -dsimp -implicitDefEqProofs (disch:=first|omega|assumption) [h1',hse,h5',hWl]
   exact hT
end Go.Am.Ab
