/- Files of rows, written. -/
import Derived.Test.YtibdiacpdmhmnaaGreatDoorSums
import Derived.Test.YtibdiacpdmhmnaaGreatDoorFileA
import Derived.Test.YtibdiacpdmhmnaaGreatDoorRColB
import Derived.Test.YtibdiacpdmhmnaaGreatDoorColE
set_option linter.all false
namespace Go.Am.Ab
open Go.Proofs
set_option maxHeartbeats 8000000
set_option maxRecDepth 4000
def zul {k:Nat} {l:List Val} (g:zgh k l) (hl:l.length<=1000) (b:List UInt8) (hb:b.length<=90000000):
 R 46 [.arr 0 b.length,.d (zaW l).d] [.arr 1 (bytes b) 0]=some ([.arr 0 (b++stB (zaW l)).length],[.arr 1 (bytes (b++stB (zaW l))) 0]):=by
 obtain⟨v,w,h1,h2,h3,h4,h5⟩:=znK (ziq g);rw[<- zsC h1 h2];exact zuj b _ v w h1 h2 h3 h4 (by omega) (znN l) hb
def zmO (X:List (List Val)) (N:Nat) (h:1<=N):R 43 [.d (.list (zaU X)),.d (.int .i64 N)] []=some ([.clo 87 [.ptr 0 0,.ptr 1 0]],[.box [.d (.list (zaU X))],.box [.d (.int .i64 N)]]):=by
 have h': ¬ (N:Int)<1:=by omega
 refine rg b43 rfl ?_;intro T hT;simp -dsimp -implicitDefEqProofs (disch:=first|omega|assumption) [h']
 simpa -dsimp -implicitDefEqProofs (disch:=first|omega|assumption) using hT
def WrR (b:List UInt8) (e:Int):Option (List V × List Obj):=some ([.arr 0 b.length,.d (.int .i64 e)],[.arr 1 (bytes b) 0])
def zgL (s:Sch) (X:List (List Val)) (n:Int) (h0:SchOk s) (hX:X.length<=1000) (hr: ∀r∈X,r.length<=1000) (hi: ∀r∈X, ∀n,Val.whole n∈r->zai n):
 R 12 [.d s.d,.d (.list (zaU X)),.d (.int .i64 n)] []=WrR (zcz s X n).1 (zcz s X n).2:=by
 have hc:=zkx s h0.id.1 (λf hf=>by have:=(h0.fld f hf).2.2.2.2;omega) (by have:=h0.len;omega)
 unfold zcz;obtain⟨sid,fs⟩:=s;simp only[Sch.d]at hc
 by_cases h1:zib ⟨sid,fs⟩=0
 case neg=>
  rw[yaj h1];unfold WrR;generalize zib ⟨sid,fs⟩=e at*;refine rg b12 rfl ?_;intro T hT;simp -dsimp -implicitDefEqProofs (disch:=first|omega|assumption) [hc,h1]
  simpa -dsimp -implicitDefEqProofs (disch:=first|omega|assumption) using hT
 rw[yag (yce h1)];have hs:=zdU h1;rw[h1]at hc
 by_cases h2:n<1
 ·rw[yaj (.inl h2)]
  unfold WrR;refine rg b12 rfl ?_;intro T hT;simp -dsimp -implicitDefEqProofs (disch:=first|omega|assumption) [hc,h2]
  simpa -dsimp -implicitDefEqProofs (disch:=first|omega|assumption) using hT
 by_cases h3:64<n
 ·rw[yaj (.inr h3)]
  unfold WrR;refine rg b12 rfl ?_;intro T hT;simp -dsimp -implicitDefEqProofs (disch:=first|omega|assumption) [hc,h2,h3]
  simpa -dsimp -implicitDefEqProofs (disch:=first|omega|assumption) using hT
 rw[yag (by omega)]
 obtain⟨N,rfl⟩: ∃N:Nat,n=N:=⟨n.toNat,by omega⟩
 by_cases h4:256<X.length
 ·rw[yaj h4]
  unfold WrR;have h4':(256:Int)<X.length:=by omega
  refine rg b12 rfl ?_;intro T hT;simp -dsimp -implicitDefEqProofs (disch:=first|omega|assumption) [hc,h2,h3,h4']
  simpa -dsimp -implicitDefEqProofs (disch:=first|omega|assumption) using hT
 rw[yag h4];have h4': ¬ (256:Int)<X.length:=by omega
 rw[yaB];have hfit: ∀r∈X,R 40 [.d (.agg [.int .u32 sid,.list (fs.map Fld.d)]),.d (.list (vs r))] []=some ([.d (.int .i64 (fit ⟨sid,fs⟩ r))],[]):=λr hr'=>zx9 ⟨sid,fs⟩ r (by have:=h0.len;simp only at this ⊢;omega) (by have:=hr r hr';omega)
 refine rg b12 rfl ?_;intro T hT;simp -dsimp -implicitDefEqProofs (disch:=first|omega|assumption) [hc,h2,h3,h4']
 generalize hz:zaj _ _ _ _ _ _=z;revert z;refine zaa (σ:=Nat) (λk=>[(1,.d (.list (zaU X))),(2,.d (.int .i64 N)),(3,.ptr 0 0),(6,.ptr 1 0),(7,.ptr 2 0),(35,.d (.list (zaU X))),(36,.d (.int .i64 X.length)),(37,.d (.int .i64 k))]) (λ_=>[.box [.d (.int .u32 sid),.d (.list (fs.map Fld.d))],.box [.nilS],.box [.d (.int .i64 0)]]) (λk=>k<=X.length/\znM ⟨sid,fs⟩ X=znM ⟨sid,fs⟩ (X.drop k)) (λk=>X.length - k) 0 ?_ ?_ ?_
 ·exact⟨yai _,rfl⟩
 ·simp -dsimp -implicitDefEqProofs (disch:=first|omega|assumption)
 intro T' f hT' k ⟨g1,g2⟩ ih
 by_cases hk:k<X.length
 ·obtain⟨r,hr2⟩: ∃r,X[k]=r:=⟨_,rfl⟩
  have hf:=hfit r (hr2 ▸ yam hk);rw[zpD hk hr2]at g2
  by_cases h5:fit ⟨sid,fs⟩ r=0
  ·rw[yaj h5]at g2
   rw[h5]at hf;simp -dsimp -implicitDefEqProofs (disch:=first|omega|assumption) [hk,hr2,hf]
   refine ih (k+1) _ _ ⟨hk,g2⟩ (by omega) ?_
   simp -dsimp -implicitDefEqProofs (disch:=first|omega|assumption)
  ·rw[yag h5]at g2
   subst hT';rw[g2,yaj h5]at hT;simp -dsimp -implicitDefEqProofs (disch:=first|omega|assumption) [hk,hr2,hf,h5]
   simpa -dsimp -implicitDefEqProofs (disch:=first|omega|assumption) using hT
 have hk2:X.drop k=[]:=ybq (by omega)
 rw[hk2]at g2;have g3:znM ⟨sid,fs⟩ X=0:=g2;rw[g3,yag (by decide)]at hT
 clear ih g2 hk2;have hfa:=zjw hs g3 hi;have hp:=ztZ ⟨sid,fs⟩ h0;have hu1:=za7 X.length (by omega)
 have hu2:=za7 N (by omega)
 have b1:(X.length:Int)<=18446744073709551615:=by omega
 have b2:(N:Int)<=18446744073709551615:=by omega
 simp only[Sch.d]at hp;have hhl:=zjz hs h0 X (by omega) (n:=N) (by omega)
 simp only[zhv,yab]at hhl;have hla:(zic ⟨sid,fs⟩).length<=41000:=by omega
 have hlb:(put X.length).length<=41000:=by omega
 have hlc:(put N).length<=41000:=by omega
 subst hT';have hch:=zmO X N (by omega)
 simp -dsimp -implicitDefEqProofs (disch:=first|omega|assumption) [hk,hp,hu1,hu2,zak,b1,b2,hch]
 have hfl:fs.length<=8:=hs.len;have hG:=znP hfa (n:=N) (by omega)
 have hGl:=zee (n:=N) X.length X;obtain⟨H,hH⟩: ∃H,H=zhv ⟨sid,fs⟩ X N:=⟨_,rfl⟩;have hHl:H.length<=41000:=by rw[hH];exact zjz hs h0 X (by omega) (by omega)
 generalize hz:ze2 _ _ _ _ _ _ _=z;revert z;refine zkc (σ:=List UInt8 × List UInt8) (λ_=>[(3,.ptr 0 0),(6,.ptr 1 0),(7,.ptr 2 0),(12,.ptr 3 0),(13,.ptr 4 0)]) (λx=>[.box [.d (.int .u32 sid),.d (.list (fs.map Fld.d))],.box [.nilS],.box [.d (.int .i64 0)],.box [.arr 5 x.1.length],.box [.arr 6 x.2.length],.arr 1 (bytes x.1) 0,.arr 1 (bytes x.2) 0]) (λl x=> ∃P Q,cks N X.length X=P++Q/\l=Q.map zaU/\x.1=67::70::49::zja ⟨sid,fs⟩ P/\x.2=H++zjy ⟨sid,fs⟩ P) ([67,70,49],H) ?_ ?_ ?_ ?_
 ·exact⟨[],_,rfl,by simp[zio],rfl,by simp[zjy]⟩
 ·simp -dsimp -implicitDefEqProofs (disch:=first|omega|assumption) [hH,zhv,yaH]
 ·intro T' f hT' z l ⟨A,F⟩ ⟨P,Q,q1,q2,q3,q4⟩ ih
  simp only at q3 q4 ih;cases Q with
  |nil=>simp at q2
  |cons g Q=>
  simp only[yaO,ycz]at q2;obtain⟨rfl,rfl⟩:=q2;obtain⟨gl,gf⟩:=hG g (by rw[q1];simp)
  obtain⟨pl1,pl2⟩:=znO hs (P:=P) λg' h'=>hG g' (by rw[q1];simp[h'])
  have pl3:P.length<=256:=by rw[q1,yab]at hGl;omega
  have r7:List.range 7=[0,1,2,3,4,5,6]:=rfl;have cl:=λi hi=>zjx hs gf gl i hi
  simp only at cl;simp -dsimp -implicitDefEqProofs (disch:=first|omega|assumption)
  generalize hz:zaj _ _ _ _ _ _=z;revert z;refine zaa (σ:=Nat × List UInt8 × List UInt8) (λx=>[(3,.ptr 0 0),(6,.ptr 1 0),(7,.ptr 2 0),(12,.ptr 3 0),(13,.ptr 4 0),(14,.d (.list (zaU g))),(67,.d (.list (fs.map Fld.d))),(68,.d (.int .i64 fs.length)),(69,.d (.int .i64 x.1))]) (λx=>[.box [.d (.int .u32 sid),.d (.list (fs.map Fld.d))],.box [.nilS],.box [.d (.int .i64 0)],.box [.arr 5 x.2.1.length],.box [.arr 6 x.2.2.length],.arr 1 (bytes x.2.1) 0,.arr 1 (bytes x.2.2) 0]) (λx=>x.1<=fs.length/\x.2.1=A++zeI ⟨sid,fs⟩ g x.1/\x.2.2=F++zgH ⟨sid,fs⟩ g x.1) (λx=>fs.length - x.1) (0,A,F) ?_ ?_ ?_
  ·exact⟨yai _,by simp[zeI],by simp[zgH]⟩
  ·simp -dsimp -implicitDefEqProofs (disch:=first|omega|assumption) [r7]
  intro T'' f2 hT'' ⟨i,A',F'⟩ ⟨g1,g2,g3⟩ ih2;simp only at g1 g2 g3 ih2;have cli:=cl i g1;have hA:A'.length<=1600000*256+200000*8+3:=by
   have:=congrArg List.length q3;simp only[yad]at this;rw[g2,yab];omega
  have hF:F'.length<=5000000:=by
   have:=congrArg List.length q4;simp only[yab]at this;rw[g3,yab];omega
  by_cases hk:i<fs.length
  ·obtain⟨x,hx⟩: ∃x,fs[i]=x:=⟨_,rfl⟩
   have hki:=zwp hs hk;have gd:=zdn gf hk;have e1:=zfR ⟨sid,fs⟩ g i;have e2:=zfS ⟨sid,fs⟩ g i;rw[hx]at hki;have hcv:=zdH g i (λr hr'=>by have:=(gf r hr').1;simp only at this;omega) (by omega) (by omega)
   have hcl:(col g i).length=g.length:=by simp[col]
   have hcw:=zsx _ ⟨hki.1,hki.2.1⟩ _ gd (by omega)
   have hcB:=zjv ⟨hki.1,hki.2.1⟩ gd (by omega)
   have hps:=zeG (col g i) (by omega) (λs hs'=>by
    rcases gd _ hs' with h | ⟨_,_,h⟩
    ·cases h
    ·have:=h s rfl;omega)
   have hst:=zq9 gd (by omega)
   have hpp: ∀b:List UInt8,b.length<=90000000->_:=λb hb=>zul gd (by omega) b hb
   generalize zdh (kd ⟨sid,fs⟩ i) (col g i)=c at*;generalize stB (zaW (col g i))=sb at*;generalize (zaW (col g i)).d=sd at*;generalize kd ⟨sid,fs⟩ i=kk at*;generalize col g i=cg at*;have hu:=za7 c.length (by omega)
   have hul:=zam (n:=c.length) (by omega)
   have b1:(c.length:Int)<=18446744073709551615:=by omega
   have hp1:=hpp (F'++put c.length) (by rw[yab];omega)
   have hbb:bytes (F'++put c.length)=bytes F'++bytes (put c.length):=by simp
   rw[yab,hbb]at hp1;obtain⟨xi,xn,xk,xd⟩:=x;simp only at hki;obtain⟨_,_,rfl⟩:=hki;simp -dsimp -implicitDefEqProofs (disch:=first|omega|assumption) [r7,hk,hx,hcv,hcw,hps,hu,hp1,zak,b1,hcl]
   refine ih2 (i+1,A'++c,F'++(put c.length++sb)) _ _ ⟨hk,by simp only[e1,g2,yal],by simp only[e2,g3,yal]⟩ (by simp only;omega) ?_
   simp -dsimp -implicitDefEqProofs (disch:=first|omega|assumption) [r7]
  ·obtain rfl:i=fs.length:=by omega
   have e1:=zpE ⟨sid,fs⟩ P g;have e2:=zpF ⟨sid,fs⟩ P g;subst hT'';simp -dsimp -implicitDefEqProofs (disch:=first|omega|assumption) [r7]
   refine ih (A',F') _ ⟨P++[g],Q,by simp[q1],rfl,by simp only[e1,g2,q3,yaV],by simp only[e2,g3,q4,yal]⟩ ?_
   simp -dsimp -implicitDefEqProofs (disch:=first|omega|assumption) [r7]
 ·intro ⟨A,F⟩ ⟨P,Q,q1,q2,q3,q4⟩
  simp only at q3 q4;have hQ:Q=[]:=by
   cases Q with
   |nil=>rfl
   |cons _ _=>simp at q2
  subst hQ;rw[yaq]at q1;subst q1;have hfo:zir ⟨sid,fs⟩ X N=F:=by rw[q4,hH];rfl
  have htx:zeP ⟨sid,fs⟩ X N=A++(F++le4 F.length):=by
   unfold zeP;rw[hfo,q3];rfl
  obtain⟨tl1,tl2⟩:=zsD hs h0 (by omega) hfa (n:=N) (by omega)
  unfold zfn at hT;rw[hfo]at tl1;rw[htx]at tl2 hT;have hse:=zps _ tl2;have hsl:=za4 (A++(F++le4 F.length));have hb:bytes (A++(F++le4 F.length))=bytes A++(bytes F++bytes (le4 F.length)):=by simp
  have hl:(A++(F++le4 F.length)).length=A.length+F.length+4:=by simp[le4,yaH]
  rw[hl]at tl2 hsl;unfold B at hse;rw[hb,zwr]at hse;generalize zdc (A++(F++le4 F.length))=S at*;clear q3 q4 hfo htx hb hl
  by_cases h5:65536<S.length
  ·have h5':(65536:Int)<S.length:=by omega
   rw[yaj h5]at hT;simp -dsimp -implicitDefEqProofs (disch:=first|omega|assumption) [hse,h5']
   exact hT
  ·have h5': ¬ (65536:Int)<S.length:=by omega
   rw[yag h5]at hT;simp -dsimp -implicitDefEqProofs (disch:=first|omega|assumption) [hse,h5']
   exact hT
end Go.Am.Ab
namespace Go.Am.Ab
open Go.Proofs
set_option maxHeartbeats 8000000
set_option maxRecDepth 4000
def zrj {k:Nat} {l:List Val} (g:zgh k l) (hl:l.length<=1000):
 R 55 [.d (zaW l).d] []=some ([.arr 0 (stB (zaW l)).length],[.arr 1 (bytes (stB (zaW l))) 0]):=by
 obtain⟨v,w,h1,h2,h3,h4,h5⟩:=znK (ziq g);rw[<- zsC h1 h2];exact zq6 _ v w h1 h2 h3 h4 (by omega) (znN l)
def zei {k:Nat} {v:Val} (g:zq3 k v):chk (zac v)=0/\zat (zac v)=v/\zai (zac v).n/\((zac v).kind=0\/(zac v).kind=k):=by
 have z:zai 0:=by unfold zai;omega
 have o:zai 1:=by unfold zai;omega
 rcases g with rfl | ⟨hk,h1,h⟩
 ·exact⟨rfl,rfl,z,.inl rfl⟩
 ·cases v with
  |null=>exact⟨rfl,rfl,z,.inl rfl⟩
  |whole n=>exact⟨rfl,rfl,h1 n rfl,.inr hk⟩
  |truth b=>cases b <;> exact⟨rfl,rfl,by assumption,.inr hk⟩
  |text s=>
   have hs:=h s rfl;have hc:chk ⟨3,0,s⟩=0:=by
    unfold chk;rw[yag (by simp),yag (by simp),yag (by simp only;omega)]
   exact⟨hc,zjs hc rfl,z,.inr hk⟩
def zwB (k:Nat) (hk:1<=k/\k<=3) (l:List Val) (g:zgh k l) (hn:l.length<=256):
 R 54 [.d (.int .i64 k),.d (.list (ce (l.map zac)))] []=some ([.arr 0 (zdh k l).length,E 0],[.arr 1 (bytes (zdh k l)) 0]):=by
 have hvl: ∀c∈l.map zac,chk c=0:=λc hc=>by
  obtain⟨v,hv,rfl⟩:=List.mem_map.1 hc;exact (zei (g v hv)).1
 have hi: ∀c∈l.map zac,zai c.n:=λc hc=>by
  obtain⟨v,hv,rfl⟩:=List.mem_map.1 hc;exact (zei (g v hv)).2.2.1
 have hX:(l.map zac).map zat=l:=by
  rw[yaL]
  conv=>rhs;rw[<- ycR l]
  exact yaX λv hv=>(zei (g v hv)).2.1
 have h2:(l.map zac).any (zwb k)=false:=by
  rw[ydb];intro c hc;obtain⟨v,hv,rfl⟩:=List.mem_map.1 hc;rcases (zei (g v hv)).2.2.2 with e | e <;> simp[zwb,e]
 have hl:(l.map zac).length<=256:=by rw[yah];exact hn
 have hc:k=1\/k=2\/k=3:=by omega
 rcases hc with e | e | e
 ·have h:=zrf k e _ hvl hi hl h2
  rwa [hX]at h
 ·have h:=zrg k e _ hvl hi hl h2
  rwa [hX]at h
 ·have h:=zri k e _ hvl hl h2
  rwa [hX]at h
def zpH (s:Sch) (X:List (List Val)) (n:Int) (h0:SchOk s) (hX:X.length<=1000) (hr: ∀r∈X,r.length<=1000) (hi: ∀r∈X, ∀n,Val.whole n∈r->zai n):
 R 14 [.d s.d,.d (.list (zbr (X.map (·.map zac)))),.d (.int .i64 n)] []=WrR (zcz s X n).1 (zcz s X n).2:=by
 have hc:=zfa s h0.id.1 (λf hf=>by have:=(h0.fld f hf);omega) (by have:=h0.len;omega)
 unfold zcz;obtain⟨sid,fs⟩:=s;simp only[Sch.d]at hc;obtain⟨Y,hY⟩: ∃Y,Y=X.map (·.map zac):=⟨_,rfl⟩
 have hYl:Y.length=X.length:=by rw[hY,yah]
 rw[<- hY]
 by_cases h1:zib ⟨sid,fs⟩=0
 case neg=>
  rw[yaj h1];unfold WrR;generalize zib ⟨sid,fs⟩=e at*;refine rg b14 rfl ?_;intro T hT;simp -dsimp -implicitDefEqProofs (disch:=first|omega|assumption) [hc,h1]
  simpa -dsimp -implicitDefEqProofs (disch:=first|omega|assumption) using hT
 rw[yag (yce h1)];have hs:=zdU h1;rw[h1]at hc
 by_cases h2:n<1
 ·rw[yaj (.inl h2)]
  unfold WrR;refine rg b14 rfl ?_;intro T hT;simp -dsimp -implicitDefEqProofs (disch:=first|omega|assumption) [hc,h2]
  simpa -dsimp -implicitDefEqProofs (disch:=first|omega|assumption) using hT
 by_cases h3:64<n
 ·rw[yaj (.inr h3)]
  unfold WrR;refine rg b14 rfl ?_;intro T hT;simp -dsimp -implicitDefEqProofs (disch:=first|omega|assumption) [hc,h2,h3]
  simpa -dsimp -implicitDefEqProofs (disch:=first|omega|assumption) using hT
 rw[yag (by omega)]
 obtain⟨N,rfl⟩: ∃N:Nat,n=N:=⟨n.toNat,by omega⟩
 by_cases h4:256<X.length
 ·rw[yaj h4]
  unfold WrR;have h4':(256:Int)<X.length:=by omega
  refine rg b14 rfl ?_;intro T hT;simp -dsimp -implicitDefEqProofs (disch:=first|omega|assumption) [hc,h2,h3,h4',hYl]
  simpa -dsimp -implicitDefEqProofs (disch:=first|omega|assumption) using hT
 rw[yag h4];have h4': ¬ (256:Int)<X.length:=by omega
 rw[yaB];have hfit: ∀r∈X,R 50 [.d (.agg [.int .u32 sid,.list (fs.map Fld.d)]),.d (.list (ce (r.map zac)))] []=some ([.d (.int .i64 (fit ⟨sid,fs⟩ r))],[]):=λr hr'=>zo9 ⟨sid,fs⟩ r (by have:=h0.len;simp only at this ⊢;omega) (by have:=hr r hr';omega)
 refine rg b14 rfl ?_;intro T hT;simp -dsimp -implicitDefEqProofs (disch:=first|omega|assumption) [hc,h2,h3,h4',hYl]
 generalize hz:zaj _ _ _ _ _ _=z;revert z;refine zaa (σ:=Nat) (λk=>[(1,.d (.list (zbr Y))),(2,.d (.int .i64 N)),(3,.ptr 0 0),(9,.d (.int .i64 k))]) (λ_=>[.box [.d (.int .u32 sid),.d (.list (fs.map Fld.d))]]) (λk=>k<=X.length/\znM ⟨sid,fs⟩ X=znM ⟨sid,fs⟩ (X.drop k)) (λk=>X.length - k) 0 ?_ ?_ ?_
 ·exact⟨yai _,rfl⟩
 ·simp -dsimp -implicitDefEqProofs (disch:=first|omega|assumption)
 intro T' f hT' k ⟨g1,g2⟩ ih
 by_cases hk:k<X.length
 ·obtain⟨r,hr2⟩: ∃r,X[k]=r:=⟨_,rfl⟩
  obtain⟨w,hw⟩: ∃w,w=r.map zac:=⟨_,rfl⟩;have hkY:k<Y.length:=by omega
  have hYk:Y[k]=w:=by simp only[hY,ybo,hr2,hw]
  have hf:=hfit r (hr2 ▸ yam hk);rw[<- hw]at hf;rw[zpD hk hr2]at g2
  by_cases h5:fit ⟨sid,fs⟩ r=0
  ·rw[yaj h5]at g2
   rw[h5]at hf;simp -dsimp -implicitDefEqProofs (disch:=first|omega|assumption) [hk,hkY,hYk,hYl,hf]
   refine ih (k+1) _ _ ⟨hk,g2⟩ (by omega) ?_
   simp -dsimp -implicitDefEqProofs (disch:=first|omega|assumption)
  ·rw[yag h5]at g2
   subst hT';rw[g2,yaj h5]at hT;simp -dsimp -implicitDefEqProofs (disch:=first|omega|assumption) [hk,hkY,hYk,hYl,hf,h5]
   simpa -dsimp -implicitDefEqProofs (disch:=first|omega|assumption) using hT
 have hk2:X.drop k=[]:=ybq (by omega)
 rw[hk2]at g2;have g3:znM ⟨sid,fs⟩ X=0:=g2;rw[g3,yag (by decide)]at hT
 clear ih g2 hk2;have hfa:=zjw hs g3 hi;have hp:=zqS ⟨sid,fs⟩ h0;have hu1:=za3 X.length (by omega)
 have hu2:=za3 N (by omega)
 have b1:(X.length:Int)<=18446744073709551615:=by omega
 have b2:(N:Int)<=18446744073709551615:=by omega
 simp only[Sch.d]at hp;have hhl:=zjz hs h0 X (by omega) (n:=N) (by omega)
 have hhl2:=hhl;simp only[zhv,yab]at hhl;have hla:(zic ⟨sid,fs⟩).length<=41000:=by omega
 have hlb:(put X.length).length<=41000:=by omega
 have hlc:(put N).length<=41000:=by omega
 have hgr:=zq7 Y N (by omega) (by omega) (by omega)
 rw[hYl]at hgr;have hfl:fs.length<=8:=hs.len;have hG:=znP hfa (n:=N) (by omega)
 have hGl:=zee (n:=N) X.length X;have hGy:cks N X.length Y=(cks N X.length X).map (·.map (·.map zac)):=by rw[hY];exact zwm _ _ _ _
 have hGyl:(cks N X.length Y).length=(cks N X.length X).length:=by rw[hGy,yah]
 have hfile:zfn ⟨sid,fs⟩ X N=zdc (zeP ⟨sid,fs⟩ X N):=rfl;have htext:zeP ⟨sid,fs⟩ X N=67::70::49::(zja ⟨sid,fs⟩ (cks N X.length X)++((zhv ⟨sid,fs⟩ X N++zjy ⟨sid,fs⟩ (cks N X.length X))++le4 (zhv ⟨sid,fs⟩ X N++zjy ⟨sid,fs⟩ (cks N X.length X)).length)):=rfl;obtain⟨tl1,tl2⟩:=zsD hs h0 (by omega) hfa (n:=N) (by omega)
 have hfo:zir ⟨sid,fs⟩ X N=zhv ⟨sid,fs⟩ X N++zjy ⟨sid,fs⟩ (cks N X.length X):=rfl;rw[hfo]at tl1;rw[htext]at tl2;rw[hfile,htext]at hT;clear hfo hfile htext;generalize cks N X.length X=G at*;generalize cks N X.length Y=GY at*;obtain⟨H,hH⟩: ∃H,H=zhv ⟨sid,fs⟩ X N:=⟨_,rfl⟩;rw[<- hH]at hT tl1 tl2 hhl2;subst hT';simp -dsimp -implicitDefEqProofs (disch:=first|omega|assumption) [hk,hp,hu1,hu2,zak,b1,b2,hgr,hYl]
 generalize hz:zaj _ _ _ _ _ _=z;revert z;refine zaa (σ:=Nat × List UInt8 × List UInt8) (λx=>[(3,.ptr 0 0),(10,.arr 1 x.2.1.length),(11,.arr 2 x.2.2.length),(12,.arr 3 GY.length),(13,.d (.int .i64 x.1))]) (λx=>[.box [.d (.int .u32 sid),.d (.list (fs.map Fld.d))],.arr 1 (bytes x.2.1) 0,.arr 1 (bytes x.2.2) 0,.arr 1 (GY.map λg=> .list (zbr g)) 0]) (λx=>x.1<=G.length/\x.2.1=67::70::49::zja ⟨sid,fs⟩ (G.take x.1)/\x.2.2=H++zjy ⟨sid,fs⟩ (G.take x.1)) (λx=>G.length - x.1) (0,[67,70,49],H) ?_ ?_ ?_
 ·exact⟨yai _,by simp[zja],by simp[zjy]⟩
 ·simp -dsimp -implicitDefEqProofs (disch:=first|omega|assumption) [hH,zhv,yaH]
 intro T' f hT' ⟨j,A,F⟩ ⟨g1,q3,q4⟩ ih;simp only at g1 q3 q4 ih;obtain⟨pl1,pl2⟩:=znO hs (P:=G.take j) λg' h'=>hG g' (yaD h')
 have pl3:(G.take j).length<=256:=by rw[yan];omega
 by_cases hj:j<G.length
 ·obtain⟨g,hg⟩: ∃g,G[j]=g:=⟨_,rfl⟩
  obtain⟨gy,hgy⟩: ∃gy,gy=g.map (·.map zac):=⟨_,rfl⟩
  have hjY:j<GY.length:=by omega
  have hGYj:GY[j]=gy:=by simp only[hGy,ybo,hg,hgy]
  obtain⟨gl,gf⟩:=hG g (hg ▸ yam hj);have cl:=λi hi=>zjx hs gf gl i hi
  simp only at cl;have htk:G.take (j+1)=G.take j++[g]:=by rw[ybc hj,hg]
  simp -dsimp -implicitDefEqProofs (disch:=first|omega|assumption) [hj,hjY,hGYj]
  generalize hz:zaj _ _ _ _ _ _=z;revert z;refine zaa (σ:=Nat × List UInt8 × List UInt8) (λx=>[(3,.ptr 0 0),(10,.arr 1 x.2.1.length),(11,.arr 2 x.2.2.length),(12,.arr 3 GY.length),(13,.d (.int .i64 j)),(14,.d (.int .i64 x.1))]) (λx=>[.box [.d (.int .u32 sid),.d (.list (fs.map Fld.d))],.arr 1 (bytes x.2.1) 0,.arr 1 (bytes x.2.2) 0,.arr 1 (GY.map λg=> .list (zbr g)) 0]) (λx=>x.1<=fs.length/\x.2.1=A++zeI ⟨sid,fs⟩ g x.1/\x.2.2=F++zgH ⟨sid,fs⟩ g x.1) (λx=>fs.length - x.1) (0,A,F) ?_ ?_ ?_
  ·exact⟨yai _,by simp[zeI],by simp[zgH]⟩
  ·simp -dsimp -implicitDefEqProofs (disch:=first|omega|assumption)
  intro T'' f2 hT'' ⟨i,A',F'⟩ ⟨g1,g2,g3⟩ ih2;simp only at g1 g2 g3 ih2;have cli:=cl i g1;have hA:A'.length<=1600000*256+200000*8+3:=by
   have:=congrArg List.length q3;simp only[yad]at this;rw[g2,yab];omega
  have hF:F'.length<=5000000:=by
   have:=congrArg List.length q4;simp only[yab]at this;rw[g3,yab];omega
  by_cases hk:i<fs.length
  ·obtain⟨x,hx⟩: ∃x,fs[i]=x:=⟨_,rfl⟩
   have hki:=zwp hs hk;have gd:=zdn gf hk;have e1:=zfR ⟨sid,fs⟩ g i;have e2:=zfS ⟨sid,fs⟩ g i;rw[hx]at hki;have hcv:=zhu g i (λr hr'=>by have:=(gf r hr').1;simp only at this;omega) (by omega) (by omega)
   rw[<- hgy]at hcv;have hcl:(col g i).length=g.length:=by simp[col]
   have hcw:=zwB _ ⟨hki.1,hki.2.1⟩ _ gd (by omega)
   have hcB:=zjv ⟨hki.1,hki.2.1⟩ gd (by omega)
   have hps:=zkP (col g i) (by omega) (λs hs'=>by
    rcases gd _ hs' with h | ⟨_,_,h⟩
    ·cases h
    ·have:=h s rfl;omega)
   have hst:=zq9 gd (by omega)
   have hpp:=zrj gd (by omega)
   generalize zdh (kd ⟨sid,fs⟩ i) (col g i)=c at*;generalize stB (zaW (col g i))=sb at*;generalize (zaW (col g i)).d=sd at*;generalize kd ⟨sid,fs⟩ i=kk at*;obtain⟨cc,hcc⟩: ∃cc,cc=(col g i).map zac:=⟨_,rfl⟩;have hccl:cc.length=g.length:=by rw[hcc,yah,hcl]
   rw[<- hcc]at hcv hcw hps;have hu:=za3 c.length (by omega)
   have hul:=zam (n:=c.length) (by omega)
   have b1:(c.length:Int)<=18446744073709551615:=by omega
   obtain⟨xi,xn,xk,xd⟩:=x;simp only at hki;obtain⟨hk1,hk3,rfl⟩:=hki;have hkw:IntKind.i64.wrap (kk:Int)=kk:=wI (by omega) (by omega)
   simp -dsimp -implicitDefEqProofs (disch:=first|omega|assumption) [hk,hx,hjY,hGYj,hcv,hcw,hps,hu,hpp,zak,b1,hccl,hkw]
   refine ih2 (i+1,A'++c,F'++(put c.length++sb)) _ _ ⟨hk,by simp only[e1,g2,yal],by simp only[e2,g3,yal]⟩ (by simp only;omega) ?_
   simp -dsimp -implicitDefEqProofs (disch:=first|omega|assumption) [yaH]
  ·obtain rfl:i=fs.length:=by omega
   have e1:=zpE ⟨sid,fs⟩ (G.take j) g;have e2:=zpF ⟨sid,fs⟩ (G.take j) g;subst hT'';simp -dsimp -implicitDefEqProofs (disch:=first|omega|assumption) [hk]
   refine ih (j+1,A',F') _ _ ⟨hj,by simp only[htk,e1,g2,q3,yaV],by simp only[htk,e2,g3,q4,yal]⟩ (by simp only;omega) ?_
   simp -dsimp -implicitDefEqProofs (disch:=first|omega|assumption)
 obtain rfl:j=G.length:=by omega
 rw[yaQ]at q3 q4 pl1 pl2;have htx:67::70::49::(zja ⟨sid,fs⟩ G++((H++zjy ⟨sid,fs⟩ G)++le4 (H++zjy ⟨sid,fs⟩ G).length))=A++(F++le4 F.length):=by rw[q3,<- q4];rfl
 rw[htx]at hT tl2;rw[<- q4]at tl1;clear ih q3 q4 htx hu1 hu2 hp hgr;have hse:=zil _ tl2;have hsl:=za4 (A++(F++le4 F.length));have hl:(A++(F++le4 F.length)).length=A.length+F.length+4:=by simp[le4,yaH]
 rw[hl]at tl2 hsl;subst hT';have hjY: ¬ G.length<GY.length:=by omega
 simp -dsimp -implicitDefEqProofs (disch:=first|omega|assumption) [hj,hjY]
 obtain⟨m,hm⟩: ∃m,m=F.length:=⟨_,rfl⟩;generalize hz:zaj _ _ _ _ _ _=z;revert z;refine zaa (σ:=Nat) (λi=>[(10,.arr 0 (A.length+F.length+i)),(18,.d (.int .i64 ((m / 256 ^ i:Nat):Int))),(19,.d (.int .i64 i))]) (λi=>[.arr 1 (bytes (A++(F++(le4 m).take i))) 0]) (λi=>i<=4) (λi=>4 - i) 0 ?_ ?_ ?_
 ·exact yai _
 ·simp -dsimp -implicitDefEqProofs (disch:=first|omega|assumption) [hm]
 intro T' f hT' i hi ih;have hln:((le4 m).take i).length=i:=by rw[yan];simp[le4];omega
 by_cases h1:i<4
 ·have h1':(i:Int)<4:=by omega
  obtain⟨s,hs'⟩: ∃s,s=m / 256 ^ i:=⟨_,rfl⟩;have hs32:s<4294967296:=by rw[hs'];exact ybE (yc1 _ _) (by omega)
  have hs2:m / 256 ^ (i+1)=s / 256:=by rw[hs',ycr,ybi]
  have hs3:(s:Int).tdiv 256=((s / 256:Nat):Int):=rfl;have htk:(le4 m).take (i+1)=(le4 m).take i++[UInt8.ofNat s]:=by
   have:i=0\/i=1\/i=2\/i=3:=by omega
   rw[hs'];rcases this with rfl | rfl | rfl | rfl <;> simp[le4]
  rw[<- hs'];have hmn:min i (le4 m).length=i:=by rw[show (le4 m).length=4 from rfl];omega
  simp -dsimp -implicitDefEqProofs (disch:=first|omega|assumption) [h1',hln,hs3,hmn]
  refine ih (i+1) _ _ h1 (by omega) ?_
  rw[htk,hs2];simp -dsimp -implicitDefEqProofs (disch:=first|omega|assumption) [hs3,hln,yaH]
 ·obtain rfl:i=4:=by omega
  have h1': ¬ ((4:Nat):Int)<4:=by omega
  have hf:(le4 m).take 4=le4 m:=rfl;rw[hf,hm];obtain⟨S,hS⟩: ∃S,S=zdc (A++(F++le4 F.length)):=⟨_,rfl⟩;obtain⟨W,hW⟩: ∃W,W=A++(F++le4 F.length):=⟨_,rfl⟩;rw[<- hS]at hse hsl hT;rw[<- hW]at hse hl ⊢;have hWl:A.length+F.length+4=W.length:=hl.symm;subst hT'
  by_cases h5:65536<S.length
  ·have h5':(65536:Int)<S.length:=by omega
   rw[yaj h5]at hT;simp -dsimp -implicitDefEqProofs (disch:=first|omega|assumption) [h1',hse,h5',hWl]
   exact hT
  ·have h5': ¬ (65536:Int)<S.length:=by omega
   rw[yag h5]at hT;simp -dsimp -implicitDefEqProofs (disch:=first|omega|assumption) [h1',hse,h5',hWl]
   exact hT
end Go.Am.Ab
