/- Files of rows, written. -/
import Derived.Test.YtibdiacpdmhmnaaGreatDoorSums
import Derived.Test.YtibdiacpdmhmnaaGreatDoorFileA
import Derived.Test.YtibdiacpdmhmnaaGreatDoorRColB
import Derived.Test.YtibdiacpdmhmnaaGreatDoorColE
set_option linter.all false
namespace Go.Am.Ab
open Go.Proofs
set_option maxHeartbeats 8000000
set_option maxRecDepth 4000
def zs5 {k:Nat} {l:List Val} (g:zgj k l) (hl:l.length<=1000) (b:List UInt8) (hb:b.length<=90000000):
 R 46 [.arr 0 b.length,.d (za3 l).d] [.arr 1 (bytes b) 0]=some ([.arr 0 (b++stB (za3 l)).length],[.arr 1 (bytes (b++stB (za3 l))) 0]):=by
 obtain⟨v,w,h1,h2,h3,h4,h5⟩:=zri (zlU g);rw[<- zvr h1 h2];exact zs4 b _ v w h1 h2 h3 h4 (by omega) (zro l) hb
def zlV (X:List (List Val)) (N:Nat) (h:1<=N):R 43 [.d (.list (za6 X)),.d (.int .i64 N)] []=some ([.clo 87 [.ptr 0 0,.ptr 1 0]],[.box [.d (.list (za6 X))],.box [.d (.int .i64 N)]]):=by
 have h': ¬ (N:Int)<1:=by omega
 refine rg b43 rfl ?_;intro T hT;simp -dsimp -implicitDefEqProofs (disch:=first|omega|assumption) [h']
 simpa -dsimp -implicitDefEqProofs (disch:=first|omega|assumption) using hT
def WrR (b:List UInt8) (e:Int):Option (List V × List Obj):=some ([.arr 0 b.length,.d (.int .i64 e)],[.arr 1 (bytes b) 0])
def zkl (s:Sch) (X:List (List Val)) (n:Int) (h0:SchOk s) (hX:X.length<=1000) (hr: ∀r∈X,r.length<=1000) (hi: ∀r∈X, ∀n,Val.whole n∈r->zaf n):
 R 12 [.d s.d,.d (.list (za6 X)),.d (.int .i64 n)] []=WrR (zd2 s X n).1 (zd2 s X n).2:=by
 have hc:=zj8 s h0.id.1 (λf hf=>by have:=(h0.fld f hf).2.2.2.2;omega) (by have:=h0.len;omega)
 unfold zd2;obtain⟨sid,fs⟩:=s;simp only[Sch.d]at hc
 by_cases h1:zj7 ⟨sid,fs⟩=0
 case neg=>
  rw[yai h1];unfold WrR;generalize zj7 ⟨sid,fs⟩=e at*;refine rg b12 rfl ?_;intro T hT;simp -dsimp -implicitDefEqProofs (disch:=first|omega|assumption) [hc,h1]
  simpa -dsimp -implicitDefEqProofs (disch:=first|omega|assumption) using hT
 rw[yaf (ycg h1)];have hs:=ze8 h1;rw[h1]at hc
 by_cases h2:n<1
 ·rw[yai (.inl h2)]
  unfold WrR;refine rg b12 rfl ?_;intro T hT;simp -dsimp -implicitDefEqProofs (disch:=first|omega|assumption) [hc,h2]
  simpa -dsimp -implicitDefEqProofs (disch:=first|omega|assumption) using hT
 by_cases h3:64<n
 ·rw[yai (.inr h3)]
  unfold WrR;refine rg b12 rfl ?_;intro T hT;simp -dsimp -implicitDefEqProofs (disch:=first|omega|assumption) [hc,h2,h3]
  simpa -dsimp -implicitDefEqProofs (disch:=first|omega|assumption) using hT
 rw[yaf (by omega)]
 obtain⟨N,rfl⟩: ∃N:Nat,n=N:=⟨n.toNat,by omega⟩
 by_cases h4:256<X.length
 ·rw[yai h4]
  unfold WrR;have h4':(256:Int)<X.length:=by omega
  refine rg b12 rfl ?_;intro T hT;simp -dsimp -implicitDefEqProofs (disch:=first|omega|assumption) [hc,h2,h3,h4']
  simpa -dsimp -implicitDefEqProofs (disch:=first|omega|assumption) using hT
 rw[yaf h4];have h4': ¬ (256:Int)<X.length:=by omega
 rw[yaz];have hfit: ∀r∈X,R 40 [.d (.agg [.int .u32 sid,.list (fs.map Fld.d)]),.d (.list (vs r))] []=some ([.d (.int .i64 (fit ⟨sid,fs⟩ r))],[]):=λr hr'=>zxw ⟨sid,fs⟩ r (by have:=h0.len;simp only at this ⊢;omega) (by have:=hr r hr';omega)
 refine rg b12 rfl ?_;intro T hT;simp -dsimp -implicitDefEqProofs (disch:=first|omega|assumption) [hc,h2,h3,h4']
 generalize hz:zak _ _ _ _ _ _=z;revert z;refine zaa (σ:=Nat) (λk=>[(1,.d (.list (za6 X))),(2,.d (.int .i64 N)),(3,.ptr 0 0),(6,.ptr 1 0),(7,.ptr 2 0),(35,.d (.list (za6 X))),(36,.d (.int .i64 X.length)),(37,.d (.int .i64 k))]) (λ_=>[.box [.d (.int .u32 sid),.d (.list (fs.map Fld.d))],.box [.nilS],.box [.d (.int .i64 0)]]) (λk=>k<=X.length/\zoT ⟨sid,fs⟩ X=zoT ⟨sid,fs⟩ (X.drop k)) (λk=>X.length - k) 0 ?_ ?_ ?_
 ·exact⟨yaj _,rfl⟩
 ·simp -dsimp -implicitDefEqProofs (disch:=first|omega|assumption)
 intro T' f hT' k ⟨g1,g2⟩ ih
 by_cases hk:k<X.length
 ·obtain⟨r,hr2⟩: ∃r,X[k]=r:=⟨_,rfl⟩
  have hf:=hfit r (hr2 ▸ yar hk);rw[zvq hk hr2]at g2
  by_cases h5:fit ⟨sid,fs⟩ r=0
  ·rw[yai h5]at g2
   rw[h5]at hf;simp -dsimp -implicitDefEqProofs (disch:=first|omega|assumption) [hk,hr2,hf]
   refine ih (k+1) _ _ ⟨hk,g2⟩ (by omega) ?_
   simp -dsimp -implicitDefEqProofs (disch:=first|omega|assumption)
  ·rw[yaf h5]at g2
   subst hT';rw[g2,yai h5]at hT;simp -dsimp -implicitDefEqProofs (disch:=first|omega|assumption) [hk,hr2,hf,h5]
   simpa -dsimp -implicitDefEqProofs (disch:=first|omega|assumption) using hT
 have hk2:X.drop k=[]:=ybI (by omega)
 rw[hk2]at g2;have g3:zoT ⟨sid,fs⟩ X=0:=g2;rw[g3,yaf (by decide)]at hT
 clear ih g2 hk2;have hfa:=zmL hs g3 hi;have hp:=zsS ⟨sid,fs⟩ h0;have hu1:=zaW X.length (by omega)
 have hu2:=zaW N (by omega)
 have b1:(X.length:Int)<=18446744073709551615:=by omega
 have b2:(N:Int)<=18446744073709551615:=by omega
 simp only[Sch.d]at hp;have hhl:=zmN hs h0 X (by omega) (n:=N) (by omega)
 simp only[zoz,yae]at hhl;have hla:(zmB ⟨sid,fs⟩).length<=41000:=by omega
 have hlb:(put X.length).length<=41000:=by omega
 have hlc:(put N).length<=41000:=by omega
 subst hT';have hch:=zlV X N (by omega)
 simp -dsimp -implicitDefEqProofs (disch:=first|omega|assumption) [hk,hp,hu1,hu2,zan,b1,b2,hch]
 have hfl:fs.length<=8:=hs.len;have hG:=zpW hfa (n:=N) (by omega)
 have hGl:=zfy (n:=N) X.length X;obtain⟨H,hH⟩: ∃H,H=zoz ⟨sid,fs⟩ X N:=⟨_,rfl⟩;have hHl:H.length<=41000:=by rw[hH];exact zmN hs h0 X (by omega) (by omega)
 generalize hz:zeL _ _ _ _ _ _ _=z;revert z;refine zjG (σ:=List UInt8 × List UInt8) (λ_=>[(3,.ptr 0 0),(6,.ptr 1 0),(7,.ptr 2 0),(12,.ptr 3 0),(13,.ptr 4 0)]) (λx=>[.box [.d (.int .u32 sid),.d (.list (fs.map Fld.d))],.box [.nilS],.box [.d (.int .i64 0)],.box [.arr 5 x.1.length],.box [.arr 6 x.2.length],.arr 1 (bytes x.1) 0,.arr 1 (bytes x.2) 0]) (λl x=> ∃P Q,cks N X.length X=P++Q/\l=Q.map za6/\x.1=67::70::49::zkP ⟨sid,fs⟩ P/\x.2=H++zoy ⟨sid,fs⟩ P) ([67,70,49],H) ?_ ?_ ?_ ?_
 ·exact⟨[],_,rfl,by simp[zhZ],rfl,by simp[zoy]⟩
 ·simp -dsimp -implicitDefEqProofs (disch:=first|omega|assumption) [hH,zoz,ya0]
 ·intro T' f hT' z l ⟨A,F⟩ ⟨P,Q,q1,q2,q3,q4⟩ ih
  simp only at q3 q4 ih;cases Q with
  |nil=>simp at q2
  |cons g Q=>
  simp only[ya1,yct]at q2;obtain⟨rfl,rfl⟩:=q2;obtain⟨gl,gf⟩:=hG g (by rw[q1];simp)
  obtain⟨pl1,pl2⟩:=zpV hs (P:=P) λg' h'=>hG g' (by rw[q1];simp[h'])
  have pl3:P.length<=256:=by rw[q1,yae]at hGl;omega
  have r7:List.range 7=[0,1,2,3,4,5,6]:=rfl;have cl:=λi hi=>zmM hs gf gl i hi
  simp only at cl;simp -dsimp -implicitDefEqProofs (disch:=first|omega|assumption)
  generalize hz:zak _ _ _ _ _ _=z;revert z;refine zaa (σ:=Nat × List UInt8 × List UInt8) (λx=>[(3,.ptr 0 0),(6,.ptr 1 0),(7,.ptr 2 0),(12,.ptr 3 0),(13,.ptr 4 0),(14,.d (.list (za6 g))),(67,.d (.list (fs.map Fld.d))),(68,.d (.int .i64 fs.length)),(69,.d (.int .i64 x.1))]) (λx=>[.box [.d (.int .u32 sid),.d (.list (fs.map Fld.d))],.box [.nilS],.box [.d (.int .i64 0)],.box [.arr 5 x.2.1.length],.box [.arr 6 x.2.2.length],.arr 1 (bytes x.2.1) 0,.arr 1 (bytes x.2.2) 0]) (λx=>x.1<=fs.length/\x.2.1=A++ze9 ⟨sid,fs⟩ g x.1/\x.2.2=F++zh0 ⟨sid,fs⟩ g x.1) (λx=>fs.length - x.1) (0,A,F) ?_ ?_ ?_
  ·exact⟨yaj _,by simp[ze9],by simp[zh0]⟩
  ·simp -dsimp -implicitDefEqProofs (disch:=first|omega|assumption) [r7]
  intro T'' f2 hT'' ⟨i,A',F'⟩ ⟨g1,g2,g3⟩ ih2;simp only at g1 g2 g3 ih2;have cli:=cl i g1;have hA:A'.length<=1600000*256+200000*8+3:=by
   have:=congrArg List.length q3;simp only[yad]at this;rw[g2,yae];omega
  have hF:F'.length<=5000000:=by
   have:=congrArg List.length q4;simp only[yae]at this;rw[g3,yae];omega
  by_cases hk:i<fs.length
  ·obtain⟨x,hx⟩: ∃x,fs[i]=x:=⟨_,rfl⟩
   have hki:=zxJ hs hk;have gd:=zfz gf hk;have e1:=zh1 ⟨sid,fs⟩ g i;have e2:=zh2 ⟨sid,fs⟩ g i;rw[hx]at hki;have hcv:=ze7 g i (λr hr'=>by have:=(gf r hr').1;simp only at this;omega) (by omega) (by omega)
   have hcl:(col g i).length=g.length:=by simp[col]
   have hcw:=zrh _ ⟨hki.1,hki.2.1⟩ _ gd (by omega)
   have hcB:=zmF ⟨hki.1,hki.2.1⟩ gd (by omega)
   have hps:=zgc (col g i) (by omega) (λs hs'=>by
    rcases gd _ hs' with h | ⟨_,_,h⟩
    ·cases h
    ·have:=h s rfl;omega)
   have hst:=zvs gd (by omega)
   have hpp: ∀b:List UInt8,b.length<=90000000->_:=λb hb=>zs5 gd (by omega) b hb
   generalize zeu (kd ⟨sid,fs⟩ i) (col g i)=c at*;generalize stB (za3 (col g i))=sb at*;generalize (za3 (col g i)).d=sd at*;generalize kd ⟨sid,fs⟩ i=kk at*;generalize col g i=cg at*;have hu:=zaW c.length (by omega)
   have hul:=zau (n:=c.length) (by omega)
   have b1:(c.length:Int)<=18446744073709551615:=by omega
   have hp1:=hpp (F'++put c.length) (by rw[yae];omega)
   have hbb:bytes (F'++put c.length)=bytes F'++bytes (put c.length):=by simp
   rw[yae,hbb]at hp1;obtain⟨xi,xn,xk,xd⟩:=x;simp only at hki;obtain⟨_,_,rfl⟩:=hki;simp -dsimp -implicitDefEqProofs (disch:=first|omega|assumption) [r7,hk,hx,hcv,hcw,hps,hu,hp1,zan,b1,hcl]
   refine ih2 (i+1,A'++c,F'++(put c.length++sb)) _ _ ⟨hk,by simp only[e1,g2,yam],by simp only[e2,g3,yam]⟩ (by simp only;omega) ?_
   simp -dsimp -implicitDefEqProofs (disch:=first|omega|assumption) [r7]
  ·obtain rfl:i=fs.length:=by omega
   have e1:=zvt ⟨sid,fs⟩ P g;have e2:=zvu ⟨sid,fs⟩ P g;subst hT'';simp -dsimp -implicitDefEqProofs (disch:=first|omega|assumption) [r7]
   refine ih (A',F') _ ⟨P++[g],Q,by simp[q1],rfl,by simp only[e1,g2,q3,ya4],by simp only[e2,g3,q4,yam]⟩ ?_
   simp -dsimp -implicitDefEqProofs (disch:=first|omega|assumption) [r7]
 ·intro ⟨A,F⟩ ⟨P,Q,q1,q2,q3,q4⟩
  simp only at q3 q4;have hQ:Q=[]:=by
   cases Q with
   |nil=>rfl
   |cons _ _=>simp at q2
  subst hQ;rw[yaq]at q1;subst q1;have hfo:ziG ⟨sid,fs⟩ X N=F:=by rw[q4,hH];rfl
  have htx:zh3 ⟨sid,fs⟩ X N=A++(F++le4 F.length):=by
   unfold zh3;rw[hfo,q3];rfl
  obtain⟨tl1,tl2⟩:=zxK hs h0 (by omega) hfa (n:=N) (by omega)
  unfold zh4 at hT;rw[hfo]at tl1;rw[htx]at tl2 hT;have hse:=zow _ tl2;have hsl:=zbR (A++(F++le4 F.length));have hb:bytes (A++(F++le4 F.length))=bytes A++(bytes F++bytes (le4 F.length)):=by simp
  have hl:(A++(F++le4 F.length)).length=A.length+F.length+4:=by simp[le4,ya0]
  rw[hl]at tl2 hsl;unfold B at hse;rw[hb,zvv]at hse;generalize zgd (A++(F++le4 F.length))=S at*;clear q3 q4 hfo htx hb hl
  by_cases h5:65536<S.length
  ·have h5':(65536:Int)<S.length:=by omega
   rw[yai h5]at hT;simp -dsimp -implicitDefEqProofs (disch:=first|omega|assumption) [hse,h5']
   exact hT
  ·have h5': ¬ (65536:Int)<S.length:=by omega
   rw[yaf h5]at hT;simp -dsimp -implicitDefEqProofs (disch:=first|omega|assumption) [hse,h5']
   exact hT
end Go.Am.Ab
namespace Go.Am.Ab
open Go.Proofs
set_option maxHeartbeats 8000000
set_option maxRecDepth 4000
def zoA {k:Nat} {v:Val} (g:zpP k v):chk (zah v)=0/\zcB (zah v)=v/\zaf (zah v).n/\((zah v).kind=0\/(zah v).kind=k):=by
 have z:zaf 0:=by unfold zaf;omega
 have o:zaf 1:=by unfold zaf;omega
 rcases g with rfl | ⟨hk,h1,h⟩
 ·exact⟨rfl,rfl,z,.inl rfl⟩
 ·cases v with
  |null=>exact⟨rfl,rfl,z,.inl rfl⟩
  |whole n=>exact⟨rfl,rfl,h1 n rfl,.inr hk⟩
  |truth b=>cases b <;> exact⟨rfl,rfl,by assumption,.inr hk⟩
  |text s=>
   have hs:=h s rfl;have hc:chk ⟨3,0,s⟩=0:=by
    unfold chk;rw[yaf (by simp),yaf (by simp),yaf (by simp only;omega)]
   exact⟨hc,zq0 hc rfl,z,.inr hk⟩
end Go.Am.Ab
