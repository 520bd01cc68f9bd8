/- Files of rows, written. -/
import Derived.Test.YtibdiacpdmhmnaaGreatDoorColE
import Derived.Test.YtibdiacpdmhmnaaGreatDoorSums
import Derived.Test.YtibdiacpdmhmnaaGreatDoorFileA
import Derived.Test.YtibdiacpdmhmnaaGreatDoorRColB
set_option linter.all false
namespace Go.Am.Ab
open Go.Proofs
set_option maxHeartbeats 8000000
set_option maxRecDepth 4000
def ztJ {k:Nat} {l:List Val} (g:zfL k l) (hl:l.length<=1000) (b:List UInt8) (hb:b.length<=90000000):
 R 46 [.arr 0 b.length,.d (zaW l).d] [.arr 1 (bytes b) 0]=some ([.arr 0 (b++stB (zaW l)).length],[.arr 1 (bytes (b++stB (zaW l))) 0]):=by
 obtain⟨v,w,h1,h2,h3,h4,h5⟩:=zrR (zl9 g);rw[<- zv9 h1 h2];exact ztI b _ v w h1 h2 h3 h4 (by omega) (zrW l) hb
def zih (X:List (List Val)) (N:Nat) (h:1<=N):R 43 [.d (.list (zaK X)),.d (.int .i64 N)] []=some ([.clo 87 [.ptr 0 0,.ptr 1 0]],[.box [.d (.list (zaK X))],.box [.d (.int .i64 N)]]):=by
 have h': ¬ (N:Int)<1:=by omega
 refine rg b43 rfl ?_;intro T hT;simp -dsimp -implicitDefEqProofs (disch:=omega) [h']
 simpa -dsimp -implicitDefEqProofs (disch:=omega) using hT
def WrR (b:List UInt8) (e:Int):Option (List V × List Obj):=some ([.arr 0 b.length,.d (.int .i64 e)],[.arr 1 (bytes b) 0])
def zkA (s:Sch) (X:List (List Val)) (n:Int) (h0:SchOk s) (hX:X.length<=1000) (hr: ∀r∈X,r.length<=1000) (hi: ∀r∈X, ∀n,Val.whole n∈r->zah n):
 R 12 [.d s.d,.d (.list (zaK X)),.d (.int .i64 n)] []=WrR (zd4 s X n).1 (zd4 s X n).2:=by
 have hc:=zj7 s h0.id.1 (λf hf=>by have:=(h0.fld f hf).2.2.2.2;omega) (by have:=h0.len;omega)
 unfold zd4;obtain⟨sid,fs⟩:=s;simp only[Sch.d]at hc
 by_cases h1:zj6 ⟨sid,fs⟩=0
 case neg=>
  rw[yag h1];unfold WrR;generalize zj6 ⟨sid,fs⟩=e at*;refine rg b12 rfl ?_;intro T hT;simp -dsimp -implicitDefEqProofs (disch:=omega) [hc,h1]
  simpa -dsimp -implicitDefEqProofs (disch:=omega) using hT
 rw[yac (ycl h1)];have hs:=zfd h1;rw[h1]at hc
 by_cases h2:n<1
 ·rw[yag (.inl h2)]
  unfold WrR;refine rg b12 rfl ?_;intro T hT;simp -dsimp -implicitDefEqProofs (disch:=omega) [hc,h2]
  simpa -dsimp -implicitDefEqProofs (disch:=omega) using hT
 by_cases h3:64<n
 ·rw[yag (.inr h3)]
  unfold WrR;refine rg b12 rfl ?_;intro T hT;simp -dsimp -implicitDefEqProofs (disch:=omega) [hc,h2,h3]
  simpa -dsimp -implicitDefEqProofs (disch:=omega) using hT
 rw[yac (by omega)]
 obtain⟨N,rfl⟩: ∃N:Nat,n=N:=⟨n.toNat,by omega⟩
 by_cases h4:256<X.length
 ·rw[yag h4]
  unfold WrR;have h4':(256:Int)<X.length:=by omega
  refine rg b12 rfl ?_;intro T hT;simp -dsimp -implicitDefEqProofs (disch:=omega) [hc,h2,h3,h4']
  simpa -dsimp -implicitDefEqProofs (disch:=omega) using hT
 rw[yac h4];have h4': ¬ (256:Int)<X.length:=by omega
 rw[yat];have hfit: ∀r∈X,R 40 [.d (.agg [.int .u32 sid,.list (fs.map Fld.d)]),.d (.list (vs r))] []=some ([.d (.int .i64 (fit ⟨sid,fs⟩ r))],[]):=λr hr'=>zx9 ⟨sid,fs⟩ r (by have:=h0.len;simp only at this ⊢;omega) (by have:=hr r hr';omega)
 refine rg b12 rfl ?_;intro T hT;simp -dsimp -implicitDefEqProofs (disch:=omega) [hc,h2,h3,h4']
 generalize hz:zaf _ _ _ _ _ _=z;revert z;refine zaa (σ:=Nat) (λk=>[(1,.d (.list (zaK X))),(2,.d (.int .i64 N)),(3,.ptr 0 0),(6,.ptr 1 0),(7,.ptr 2 0),(35,.d (.list (zaK X))),(36,.d (.int .i64 X.length)),(37,.d (.int .i64 k))]) (λ_=>[.box [.d (.int .u32 sid),.d (.list (fs.map Fld.d))],.box [.nilS],.box [.d (.int .i64 0)]]) (λk=>k<=X.length/\zpo ⟨sid,fs⟩ X=zpo ⟨sid,fs⟩ (X.drop k)) (λk=>X.length - k) 0 ?_ ?_ ?_
 ·exact⟨yai _,rfl⟩
 ·simp -dsimp -implicitDefEqProofs (disch:=omega)
 intro T' f hT' k ⟨g1,g2⟩ ih
 by_cases hk:k<X.length
 ·obtain⟨r,hr2⟩: ∃r,X[k]=r:=⟨_,rfl⟩
  have hf:=hfit r (hr2 ▸ yam hk);rw[zv8 hk hr2]at g2
  by_cases h5:fit ⟨sid,fs⟩ r=0
  ·rw[yag h5]at g2
   rw[h5]at hf;simp -dsimp -implicitDefEqProofs (disch:=omega) [hk,hr2,hf]
   refine ih (k+1) _ _ ⟨hk,g2⟩ (by omega) ?_
   simp -dsimp -implicitDefEqProofs (disch:=omega)
  ·rw[yac h5]at g2
   subst hT';rw[g2,yag h5]at hT;simp -dsimp -implicitDefEqProofs (disch:=omega) [hk,hr2,hf,h5]
   simpa -dsimp -implicitDefEqProofs (disch:=omega) using hT
 have hk2:X.drop k=[]:=ybv (by omega)
 rw[hk2]at g2;have g3:zpo ⟨sid,fs⟩ X=0:=g2;rw[g3,yac (by decide)]at hT
 clear ih g2 hk2;have hfa:=zm9 hs g3 hi;have hp:=zs7 ⟨sid,fs⟩ h0;have hu1:=zaZ X.length (by omega)
 have hu2:=zaZ N (by omega)
 have b1:(X.length:Int)<=18446744073709551615:=by omega
 have b2:(N:Int)<=18446744073709551615:=by omega
 simp only[Sch.d]at hp;have hhl:=znb hs h0 X (by omega) (n:=N) (by omega)
 simp only[zo1,yae]at hhl;have hla:(zmK ⟨sid,fs⟩).length<=41000:=by omega
 have hlb:(put X.length).length<=41000:=by omega
 have hlc:(put N).length<=41000:=by omega
 subst hT';have hch:=zih X N (by omega)
 simp -dsimp -implicitDefEqProofs (disch:=omega) [hk,hp,hu1,hu2,zal,b1,b2,hch]
 have hfl:fs.length<=8:=hs.len;have hG:=zqy hfa (n:=N) (by omega)
 have hGl:=zdh (n:=N) X.length X;obtain⟨H,hH⟩: ∃H,H=zo1 ⟨sid,fs⟩ X N:=⟨_,rfl⟩;have hHl:H.length<=41000:=by rw[hH];exact znb hs h0 X (by omega) (by omega)
 generalize hz:zex _ _ _ _ _ _ _=z;revert z;refine zgW (σ:=List UInt8 × List UInt8) (λ_=>[(3,.ptr 0 0),(6,.ptr 1 0),(7,.ptr 2 0),(12,.ptr 3 0),(13,.ptr 4 0)]) (λx=>[.box [.d (.int .u32 sid),.d (.list (fs.map Fld.d))],.box [.nilS],.box [.d (.int .i64 0)],.box [.arr 5 x.1.length],.box [.arr 6 x.2.length],.arr 1 (bytes x.1) 0,.arr 1 (bytes x.2) 0]) (λl x=> ∃P Q,cks N X.length X=P++Q/\l=Q.map zaK/\x.1=67::70::49::zk7 ⟨sid,fs⟩ P/\x.2=H++zo0 ⟨sid,fs⟩ P) ([67,70,49],H) ?_ ?_ ?_ ?_
 ·exact⟨[],_,rfl,by simp[zfD],rfl,by simp[zo0]⟩
 ·simp -dsimp -implicitDefEqProofs (disch:=omega) [hH,zo1,yaY]
 ·intro T' f hT' z l ⟨A,F⟩ ⟨P,Q,q1,q2,q3,q4⟩ ih
  simp only at q3 q4 ih;cases Q with
  |nil=>simp at q2
  |cons g Q=>
  simp only[yaV,ycp]at q2;obtain⟨rfl,rfl⟩:=q2;obtain⟨gl,gf⟩:=hG g (by rw[q1];simp)
  obtain⟨pl1,pl2⟩:=zqx hs (P:=P) λg' h'=>hG g' (by rw[q1];simp[h'])
  have pl3:P.length<=256:=by rw[q1,yae]at hGl;omega
  have r7:List.range 7=[0,1,2,3,4,5,6]:=rfl;have cl:=λi hi=>zna hs gf gl i hi
  simp only at cl;simp -dsimp -implicitDefEqProofs (disch:=omega)
  generalize hz:zaf _ _ _ _ _ _=z;revert z;refine zaa (σ:=Nat × List UInt8 × List UInt8) (λx=>[(3,.ptr 0 0),(6,.ptr 1 0),(7,.ptr 2 0),(12,.ptr 3 0),(13,.ptr 4 0),(14,.d (.list (zaK g))),(67,.d (.list (fs.map Fld.d))),(68,.d (.int .i64 fs.length)),(69,.d (.int .i64 x.1))]) (λx=>[.box [.d (.int .u32 sid),.d (.list (fs.map Fld.d))],.box [.nilS],.box [.d (.int .i64 0)],.box [.arr 5 x.2.1.length],.box [.arr 6 x.2.2.length],.arr 1 (bytes x.2.1) 0,.arr 1 (bytes x.2.2) 0]) (λx=>x.1<=fs.length/\x.2.1=A++zff ⟨sid,fs⟩ g x.1/\x.2.2=F++zib ⟨sid,fs⟩ g x.1) (λx=>fs.length - x.1) (0,A,F) ?_ ?_ ?_
  ·exact⟨yai _,by simp[zff],by simp[zib]⟩
  ·simp -dsimp -implicitDefEqProofs (disch:=omega) [r7]
  intro T'' f2 hT'' ⟨i,A',F'⟩ ⟨g1,g2,g3⟩ ih2;simp only at g1 g2 g3 ih2;have cli:=cl i g1;have hA:A'.length<=1600000*256+200000*8+3:=by
   have:=congrArg List.length q3;simp only[yaf]at this;rw[g2,yae];omega
  have hF:F'.length<=5000000:=by
   have:=congrArg List.length q4;simp only[yae]at this;rw[g3,yae];omega
  by_cases hk:i<fs.length
  ·obtain⟨x,hx⟩: ∃x,fs[i]=x:=⟨_,rfl⟩
   have hki:=zyy hs hk;have gd:=zdb gf hk;have e1:=zic ⟨sid,fs⟩ g i;have e2:=zid ⟨sid,fs⟩ g i;rw[hx]at hki;have hcv:=zfc g i (λr hr'=>by have:=(gf r hr').1;simp only at this;omega) (by omega) (by omega)
   have hcl:(col g i).length=g.length:=by simp[col]
   have hcw:=zrQ _ ⟨hki.1,hki.2.1⟩ _ gd (by omega)
   have hcB:=zm1 ⟨hki.1,hki.2.1⟩ gd (by omega)
   have hps:=zgm (col g i) (by omega) (λs hs'=>by
    rcases gd _ hs' with h | ⟨_,_,h⟩
    ·cases h
    ·have:=h s rfl;omega)
   have hst:=zwa gd (by omega)
   have hpp: ∀b:List UInt8,b.length<=90000000->_:=λb hb=>ztJ gd (by omega) b hb
   generalize zez (kd ⟨sid,fs⟩ i) (col g i)=c at*;generalize stB (zaW (col g i))=sb at*;generalize (zaW (col g i)).d=sd at*;generalize kd ⟨sid,fs⟩ i=kk at*;generalize col g i=cg at*;have hu:=zaZ c.length (by omega)
   have hul:=zaq (n:=c.length) (by omega)
   have b1:(c.length:Int)<=18446744073709551615:=by omega
   have hp1:=hpp (F'++put c.length) (by rw[yae];omega)
   have hbb:bytes (F'++put c.length)=bytes F'++bytes (put c.length):=by simp
   rw[yae,hbb]at hp1;obtain⟨xi,xn,xk,xd⟩:=x;simp only at hki;obtain⟨_,_,rfl⟩:=hki;simp -dsimp -implicitDefEqProofs (disch:=omega) [r7,hk,hx,hcv,hcw,hps,hu,hp1,zal,b1,hcl]
   refine ih2 (i+1,A'++c,F'++(put c.length++sb)) _ _ ⟨hk,by simp only[e1,g2,yan],by simp only[e2,g3,yan]⟩ (by simp only;omega) ?_
   simp -dsimp -implicitDefEqProofs (disch:=omega) [r7]
  ·obtain rfl:i=fs.length:=by omega
   have e1:=zwb ⟨sid,fs⟩ P g;have e2:=zwc ⟨sid,fs⟩ P g;subst hT'';simp -dsimp -implicitDefEqProofs (disch:=omega) [r7]
   refine ih (A',F') _ ⟨P++[g],Q,by simp[q1],rfl,by simp only[e1,g2,q3,ya9],by simp only[e2,g3,q4,yan]⟩ ?_
   simp -dsimp -implicitDefEqProofs (disch:=omega) [r7]
 ·intro ⟨A,F⟩ ⟨P,Q,q1,q2,q3,q4⟩
  simp only at q3 q4;have hQ:Q=[]:=by
   cases Q with
   |nil=>rfl
   |cons _ _=>simp at q2
  subst hQ;rw[yap]at q1;subst q1;have hfo:ziW ⟨sid,fs⟩ X N=F:=by rw[q4,hH];rfl
  have htx:zie ⟨sid,fs⟩ X N=A++(F++le4 F.length):=by
   unfold zie;rw[hfo,q3];rfl
  obtain⟨tl1,tl2⟩:=zyz hs h0 (by omega) hfa (n:=N) (by omega)
  unfold zif at hT;rw[hfo]at tl1;rw[htx]at tl2 hT;have hse:=zoY _ tl2;have hsl:=zbR (A++(F++le4 F.length));have hb:bytes (A++(F++le4 F.length))=bytes A++(bytes F++bytes (le4 F.length)):=by simp
  have hl:(A++(F++le4 F.length)).length=A.length+F.length+4:=by simp[le4,yaY]
  rw[hl]at tl2 hsl;unfold B at hse;rw[hb,zwd]at hse;generalize zgp (A++(F++le4 F.length))=S at*;clear q3 q4 hfo htx hb hl
  by_cases h5:65536<S.length
  ·have h5':(65536:Int)<S.length:=by omega
   rw[yag h5]at hT;simp -dsimp -implicitDefEqProofs (disch:=omega) [hse,h5']
   exact hT
  ·have h5': ¬ (65536:Int)<S.length:=by omega
   rw[yac h5]at hT;simp -dsimp -implicitDefEqProofs (disch:=omega) [hse,h5']
   exact hT
end Go.Am.Ab
namespace Go.Am.Ab
open Go.Proofs
set_option maxHeartbeats 8000000
set_option maxRecDepth 4000
def zo2 {k:Nat} {v:Val} (g:zoS k v):chk (cellOf v)=0/\zaA (cellOf v)=v/\zah (cellOf v).n/\((cellOf v).kind=0\/(cellOf v).kind=k):=by
 have z:zah 0:=by unfold zah;omega
 have o:zah 1:=by unfold zah;omega
 rcases g with rfl | ⟨hk,h1,h⟩
 ·exact⟨rfl,rfl,z,.inl rfl⟩
 ·cases v with
  |null=>exact⟨rfl,rfl,z,.inl rfl⟩
  |whole n=>exact⟨rfl,rfl,h1 n rfl,.inr hk⟩
  |truth b=>cases b <;> exact⟨rfl,rfl,by assumption,.inr hk⟩
  |text s=>
   have hs:=h s rfl;have hc:chk ⟨3,0,s⟩=0:=by
    unfold chk;rw[yac (by simp),yac (by simp),yac (by simp only;omega)]
   exact⟨hc,zrB hc rfl,z,.inr hk⟩
end Go.Am.Ab
