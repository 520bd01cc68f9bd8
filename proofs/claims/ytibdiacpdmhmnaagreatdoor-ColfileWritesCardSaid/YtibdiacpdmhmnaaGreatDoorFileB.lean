/- Files of rows, written. -/
import Derived.Test.YtibdiacpdmhmnaaGreatDoorSums
import Derived.Test.YtibdiacpdmhmnaaGreatDoorFileA
import Derived.Test.YtibdiacpdmhmnaaGreatDoorRColB
import Derived.Test.YtibdiacpdmhmnaaGreatDoorColE
set_option linter.all false
namespace Go.Am.Ab
open Go.Proofs
set_option maxHeartbeats 8000000
set_option maxRecDepth 4000
def zom {k:Nat} {l:List Val} (g:zkR k l) (hl:l.length<=1000) (b:List UInt8) (hb:b.length<=90000000):
 R 46 [.arr 0 b.length,.d (zcp l).d] [.arr 1 (bytes b) 0]=some ([.arr 0 (b++stB (zcp l)).length],[.arr 1 (bytes (b++stB (zcp l))) 0]):=by
 obtain⟨v,w,h1,h2,h3,h4,h5⟩:=zjx (zfY g);rw[<- zp9 h1 h2];exact zol b _ v w h1 h2 h3 h4 (by omega) (zng l) hb
def zon (X:List (List Val)) (N:Nat) (h:1<=N):R 43 [.d (.list (zfl X)),.d (.int .i64 N)] []=some ([.clo 87 [.ptr 0 0,.ptr 1 0]],[.box [.d (.list (zfl X))],.box [.d (.int .i64 N)]]):=by
 have h': ¬ (N:Int)<1:=by omega
 refine rg b43 rfl ?_;intro T hT;simp -dsimp -implicitDefEqProofs (disch:=first|omega|assumption) [h']
 simpa -dsimp -implicitDefEqProofs (disch:=first|omega|assumption) using hT
def WrR (b:List UInt8) (e:Int):Option (List V × List Obj):=some ([.arr 0 b.length,.d (.int .i64 e)],[.arr 1 (bytes b) 0])
def zmn (s:Sch) (X:List (List Val)) (n:Int) (h0:SchOk s) (hX:X.length<=1000) (hr: ∀r∈X,r.length<=1000) (hi: ∀r∈X, ∀n,Val.whole n∈r->zat n):
 R 12 [.d s.d,.d (.list (zfl X)),.d (.int .i64 n)] []=WrR (zhQ s X n).1 (zhQ s X n).2:=by
 have hc:=zl3 s h0.id.1 (λf hf=>by have:=(h0.fld f hf).2.2.2.2;omega) (by have:=h0.len;omega)
 unfold zhQ;obtain⟨sid,fs⟩:=s;simp only[Sch.d]at hc
 by_cases h1:zow ⟨sid,fs⟩=0
 case neg=>
  rw[if_pos h1];unfold WrR;generalize zow ⟨sid,fs⟩=e at*;refine rg b12 rfl ?_;intro T hT;simp -dsimp -implicitDefEqProofs (disch:=first|omega|assumption) [hc,h1]
  simpa -dsimp -implicitDefEqProofs (disch:=first|omega|assumption) using hT
 rw[if_neg (not_not_intro h1)];have hs:=zp6 h1;rw[h1]at hc
 by_cases h2:n<1
 ·rw[if_pos (.inl h2)]
  unfold WrR;refine rg b12 rfl ?_;intro T hT;simp -dsimp -implicitDefEqProofs (disch:=first|omega|assumption) [hc,h2]
  simpa -dsimp -implicitDefEqProofs (disch:=first|omega|assumption) using hT
 by_cases h3:64<n
 ·rw[if_pos (.inr h3)]
  unfold WrR;refine rg b12 rfl ?_;intro T hT;simp -dsimp -implicitDefEqProofs (disch:=first|omega|assumption) [hc,h2,h3]
  simpa -dsimp -implicitDefEqProofs (disch:=first|omega|assumption) using hT
 rw[if_neg (by omega)]
 obtain⟨N,rfl⟩: ∃N:Nat,n=N:=⟨n.toNat,by omega⟩
 by_cases h4:256<X.length
 ·rw[if_pos h4]
  unfold WrR;have h4':(256:Int)<X.length:=by omega
  refine rg b12 rfl ?_;intro T hT;simp -dsimp -implicitDefEqProofs (disch:=first|omega|assumption) [hc,h2,h3,h4']
  simpa -dsimp -implicitDefEqProofs (disch:=first|omega|assumption) using hT
 rw[if_neg h4];have h4': ¬ (256:Int)<X.length:=by omega
 rw[Int.toNat_natCast];have hfit: ∀r∈X,R 40 [.d (.agg [.int .u32 sid,.list (fs.map Fld.d)]),.d (.list (vs r))] []=some ([.d (.int .i64 (fit ⟨sid,fs⟩ r))],[]):=λr hr'=>zrC ⟨sid,fs⟩ r (by have:=h0.len;simp only at this ⊢;omega) (by have:=hr r hr';omega)
 refine rg b12 rfl ?_;intro T hT;simp -dsimp -implicitDefEqProofs (disch:=first|omega|assumption) [hc,h2,h3,h4']
 generalize hz:zaf _ _ _ _ _ _=z;revert z;refine zaa (σ:=Nat) (λk=>[(1,.d (.list (zfl X))),(2,.d (.int .i64 N)),(3,.ptr 0 0),(6,.ptr 1 0),(7,.ptr 2 0),(35,.d (.list (zfl X))),(36,.d (.int .i64 X.length)),(37,.d (.int .i64 k))]) (λ_=>[.box [.d (.int .u32 sid),.d (.list (fs.map Fld.d))],.box [.nilS],.box [.d (.int .i64 0)]]) (λk=>k<=X.length/\znd ⟨sid,fs⟩ X=znd ⟨sid,fs⟩ (X.drop k)) (λk=>X.length - k) 0 ?_ ?_ ?_
 ·exact⟨Nat.zero_le _,rfl⟩
 ·simp -dsimp -implicitDefEqProofs (disch:=first|omega|assumption)
 intro T' f hT' k ⟨g1,g2⟩ ih
 by_cases hk:k<X.length
 ·obtain⟨r,hr2⟩: ∃r,X[k]=r:=⟨_,rfl⟩
  have hf:=hfit r (hr2 ▸ List.getElem_mem hk);rw[zkW hk hr2]at g2
  by_cases h5:fit ⟨sid,fs⟩ r=0
  ·rw[if_pos h5]at g2
   rw[h5]at hf;simp -dsimp -implicitDefEqProofs (disch:=first|omega|assumption) [hk,hr2,hf]
   refine ih (k+1) _ _ ⟨hk,g2⟩ (by omega) ?_
   simp -dsimp -implicitDefEqProofs (disch:=first|omega|assumption)
  ·rw[if_neg h5]at g2
   subst hT';rw[g2,if_pos h5]at hT;simp -dsimp -implicitDefEqProofs (disch:=first|omega|assumption) [hk,hr2,hf,h5]
   simpa -dsimp -implicitDefEqProofs (disch:=first|omega|assumption) using hT
 have hk2:X.drop k=[]:=List.drop_eq_nil_of_le (by omega)
 rw[hk2]at g2;have g3:znd ⟨sid,fs⟩ X=0:=g2;rw[g3,if_neg (by decide)]at hT
 clear ih g2 hk2;have hfa:=znf hs g3 hi;have hp:=zog ⟨sid,fs⟩ h0;have hu1:=zaS X.length (by omega)
 have hu2:=zaS N (by omega)
 have b1:(X.length:Int)<=18446744073709551615:=by omega
 have b2:(N:Int)<=18446744073709551615:=by omega
 simp only[Sch.d]at hp;have hhl:=zgG hs h0 X (by omega) (n:=N) (by omega)
 simp only[zgr,List.length_append]at hhl;have hla:(zia ⟨sid,fs⟩).length<=41000:=by omega
 have hlb:(put X.length).length<=41000:=by omega
 have hlc:(put N).length<=41000:=by omega
 subst hT';have hch:=zon X N (by omega)
 simp -dsimp -implicitDefEqProofs (disch:=first|omega|assumption) [hk,hp,hu1,hu2,zaj,b1,b2,hch]
 have hfl:fs.length<=8:=hs.len;have hG:=zmh hfa (n:=N) (by omega)
 have hGl:=zef (n:=N) X.length X;obtain⟨H,hH⟩: ∃H,H=zgr ⟨sid,fs⟩ X N:=⟨_,rfl⟩;have hHl:H.length<=41000:=by rw[hH];exact zgG hs h0 X (by omega) (by omega)
 generalize hz:ze6 _ _ _ _ _ _ _=z;revert z;refine zoZ (σ:=List UInt8 × List UInt8) (λ_=>[(3,.ptr 0 0),(6,.ptr 1 0),(7,.ptr 2 0),(12,.ptr 3 0),(13,.ptr 4 0)]) (λx=>[.box [.d (.int .u32 sid),.d (.list (fs.map Fld.d))],.box [.nilS],.box [.d (.int .i64 0)],.box [.arr 5 x.1.length],.box [.arr 6 x.2.length],.arr 1 (bytes x.1) 0,.arr 1 (bytes x.2) 0]) (λl x=> ∃P Q,cks N X.length X=P++Q/\l=Q.map zfl/\x.1=67::70::49::zqa ⟨sid,fs⟩ P/\x.2=H++zme ⟨sid,fs⟩ P) ([67,70,49],H) ?_ ?_ ?_ ?_
 ·exact⟨[],_,rfl,by simp[ziT],rfl,by simp[zme]⟩
 ·simp -dsimp -implicitDefEqProofs (disch:=first|omega|assumption) [hH,zgr,Nat.add_assoc]
 ·intro T' f hT' z l ⟨A,F⟩ ⟨P,Q,q1,q2,q3,q4⟩ ih
  simp only at q3 q4 ih;cases Q with
  |nil=>simp at q2
  |cons g Q=>
  simp only[List.map_cons,List.cons.injEq]at q2;obtain⟨rfl,rfl⟩:=q2;obtain⟨gl,gf⟩:=hG g (by rw[q1];simp)
  obtain⟨pl1,pl2⟩:=zjA hs (P:=P) λg' h'=>hG g' (by rw[q1];simp[h'])
  have pl3:P.length<=256:=by rw[q1,List.length_append]at hGl;omega
  have r7:List.range 7=[0,1,2,3,4,5,6]:=rfl;have cl:=λi hi=>zgF hs gf gl i hi
  simp only at cl;simp -dsimp -implicitDefEqProofs (disch:=first|omega|assumption)
  generalize hz:zaf _ _ _ _ _ _=z;revert z;refine zaa (σ:=Nat × List UInt8 × List UInt8) (λx=>[(3,.ptr 0 0),(6,.ptr 1 0),(7,.ptr 2 0),(12,.ptr 3 0),(13,.ptr 4 0),(14,.d (.list (zfl g))),(67,.d (.list (fs.map Fld.d))),(68,.d (.int .i64 fs.length)),(69,.d (.int .i64 x.1))]) (λx=>[.box [.d (.int .u32 sid),.d (.list (fs.map Fld.d))],.box [.nilS],.box [.d (.int .i64 0)],.box [.arr 5 x.2.1.length],.box [.arr 6 x.2.2.length],.arr 1 (bytes x.2.1) 0,.arr 1 (bytes x.2.2) 0]) (λx=>x.1<=fs.length/\x.2.1=A++zhO ⟨sid,fs⟩ g x.1/\x.2.2=F++zhP ⟨sid,fs⟩ g x.1) (λx=>fs.length - x.1) (0,A,F) ?_ ?_ ?_
  ·exact⟨Nat.zero_le _,by simp[zhO],by simp[zhP]⟩
  ·simp -dsimp -implicitDefEqProofs (disch:=first|omega|assumption) [r7]
  intro T'' f2 hT'' ⟨i,A',F'⟩ ⟨g1,g2,g3⟩ ih2;simp only at g1 g2 g3 ih2;have cli:=cl i g1;have hA:A'.length<=1600000*256+200000*8+3:=by
   have:=congrArg List.length q3;simp only[List.length_cons]at this;rw[g2,List.length_append];omega
  have hF:F'.length<=5000000:=by
   have:=congrArg List.length q4;simp only[List.length_append]at this;rw[g3,List.length_append];omega
  by_cases hk:i<fs.length
  ·obtain⟨x,hx⟩: ∃x,fs[i]=x:=⟨_,rfl⟩
   have hki:=ztx hs hk;have gd:=zjz gf hk;have e1:=zfZ ⟨sid,fs⟩ g i;have e2:=zf0 ⟨sid,fs⟩ g i;rw[hx]at hki;have hcv:=zkV g i (λr hr'=>by have:=(gf r hr').1;simp only at this;omega) (by omega) (by omega)
   have hcl:(col g i).length=g.length:=by simp[col]
   have hcw:=zrG _ ⟨hki.1,hki.2.1⟩ _ gd (by omega)
   have hcB:=zjt ⟨hki.1,hki.2.1⟩ gd (by omega)
   have hps:=zlX (col g i) (by omega) (λs hs'=>by
    rcases gd _ hs' with h | ⟨_,_,h⟩
    ·cases h
    ·have:=h s rfl;omega)
   have hst:=zmd gd (by omega)
   have hpp: ∀b:List UInt8,b.length<=90000000->_:=λb hb=>zom gd (by omega) b hb
   generalize zeH (kd ⟨sid,fs⟩ i) (col g i)=c at*;generalize stB (zcp (col g i))=sb at*;generalize (zcp (col g i)).d=sd at*;generalize kd ⟨sid,fs⟩ i=kk at*;generalize col g i=cg at*;have hu:=zaS c.length (by omega)
   have hul:=zak (n:=c.length) (by omega)
   have b1:(c.length:Int)<=18446744073709551615:=by omega
   have hp1:=hpp (F'++put c.length) (by rw[List.length_append];omega)
   have hbb:bytes (F'++put c.length)=bytes F'++bytes (put c.length):=by simp
   rw[List.length_append,hbb]at hp1;obtain⟨xi,xn,xk,xd⟩:=x;simp only at hki;obtain⟨_,_,rfl⟩:=hki;simp -dsimp -implicitDefEqProofs (disch:=first|omega|assumption) [r7,hk,hx,hcv,hcw,hps,hu,hp1,zaj,b1,hcl]
   refine ih2 (i+1,A'++c,F'++(put c.length++sb)) _ _ ⟨hk,by simp only[e1,g2,List.append_assoc],by simp only[e2,g3,List.append_assoc]⟩ (by simp only;omega) ?_
   simp -dsimp -implicitDefEqProofs (disch:=first|omega|assumption) [r7]
  ·obtain rfl:i=fs.length:=by omega
   have e1:=zkX ⟨sid,fs⟩ P g;have e2:=zkY ⟨sid,fs⟩ P g;subst hT'';simp -dsimp -implicitDefEqProofs (disch:=first|omega|assumption) [r7]
   refine ih (A',F') _ ⟨P++[g],Q,by simp[q1],rfl,by simp only[e1,g2,q3,List.cons_append],by simp only[e2,g3,q4,List.append_assoc]⟩ ?_
   simp -dsimp -implicitDefEqProofs (disch:=first|omega|assumption) [r7]
 ·intro ⟨A,F⟩ ⟨P,Q,q1,q2,q3,q4⟩
  simp only at q3 q4;have hQ:Q=[]:=by
   cases Q with
   |nil=>rfl
   |cons _ _=>simp at q2
  subst hQ;rw[List.append_nil]at q1;subst q1;have hfo:zmf ⟨sid,fs⟩ X N=F:=by rw[q4,hH];rfl
  have htx:zmg ⟨sid,fs⟩ X N=A++(F++le4 F.length):=by
   unfold zmg;rw[hfo,q3];rfl
  obtain⟨tl1,tl2⟩:=znh hs h0 (by omega) hfa (n:=N) (by omega)
  unfold zrO at hT;rw[hfo]at tl1;rw[htx]at tl2 hT;have hse:=zp3 _ tl2;have hsl:=zd1 (A++(F++le4 F.length));have hb:bytes (A++(F++le4 F.length))=bytes A++(bytes F++bytes (le4 F.length)):=by simp
  have hl:(A++(F++le4 F.length)).length=A.length+F.length+4:=by simp[le4,Nat.add_assoc]
  rw[hl]at tl2 hsl;unfold B at hse;rw[hb,zqb]at hse;generalize zfW (A++(F++le4 F.length))=S at*;clear q3 q4 hfo htx hb hl
  by_cases h5:65536<S.length
  ·have h5':(65536:Int)<S.length:=by omega
   rw[if_pos h5]at hT;simp -dsimp -implicitDefEqProofs (disch:=first|omega|assumption) [hse,h5']
   exact hT
  ·have h5': ¬ (65536:Int)<S.length:=by omega
   rw[if_neg h5]at hT;simp -dsimp -implicitDefEqProofs (disch:=first|omega|assumption) [hse,h5']
   exact hT
end Go.Am.Ab
namespace Go.Am.Ab
open Go.Proofs
set_option maxHeartbeats 8000000
set_option maxRecDepth 4000
def zmo {k:Nat} {l:List Val} (g:zkR k l) (hl:l.length<=1000):
 R 55 [.d (zcp l).d] []=some ([.arr 0 (stB (zcp l)).length],[.arr 1 (bytes (stB (zcp l))) 0]):=by
 obtain⟨v,w,h1,h2,h3,h4,h5⟩:=zjx (zfY g);rw[<- zp9 h1 h2];exact zma _ v w h1 h2 h3 h4 (by omega) (zng l)
def zfm {k:Nat} {v:Val} (g:zrF k v):chk (zag v)=0/\zan (zag v)=v/\zat (zag v).n/\((zag v).kind=0\/(zag v).kind=k):=by
 have z:zat 0:=by unfold zat;omega
 have o:zat 1:=by unfold zat;omega
 rcases g with rfl | ⟨hk,h1,h⟩
 ·exact⟨rfl,rfl,z,.inl rfl⟩
 ·cases v with
  |null=>exact⟨rfl,rfl,z,.inl rfl⟩
  |whole n=>exact⟨rfl,rfl,h1 n rfl,.inr hk⟩
  |truth b=>cases b <;> exact⟨rfl,rfl,by assumption,.inr hk⟩
  |text s=>
   have hs:=h s rfl;have hc:chk ⟨3,0,s⟩=0:=by
    unfold chk;rw[if_neg (by simp),if_neg (by simp),if_neg (by simp only;omega)]
   exact⟨hc,zgB hc rfl,z,.inr hk⟩
def zqd (k:Nat) (hk:1<=k/\k<=3) (l:List Val) (g:zkR k l) (hn:l.length<=256):
 R 54 [.d (.int .i64 k),.d (.list (ce (l.map zag)))] []=some ([.arr 0 (zeH k l).length,E 0],[.arr 1 (bytes (zeH k l)) 0]):=by
 have hvl: ∀c∈l.map zag,chk c=0:=λc hc=>by
  obtain⟨v,hv,rfl⟩:=List.mem_map.1 hc;exact (zfm (g v hv)).1
 have hi: ∀c∈l.map zag,zat c.n:=λc hc=>by
  obtain⟨v,hv,rfl⟩:=List.mem_map.1 hc;exact (zfm (g v hv)).2.2.1
 have hX:(l.map zag).map zan=l:=by
  rw[List.map_map]
  conv=>rhs;rw[<- List.map_id l]
  exact List.map_congr_left λv hv=>(zfm (g v hv)).2.1
 have h2:(l.map zag).any (zpK k)=false:=by
  rw[List.any_eq_false];intro c hc;obtain⟨v,hv,rfl⟩:=List.mem_map.1 hc;rcases (zfm (g v hv)).2.2.2 with e | e <;> simp[zpK,e]
 have hl:(l.map zag).length<=256:=by rw[List.length_map];exact hn
 have hc:k=1\/k=2\/k=3:=by omega
 rcases hc with e | e | e
 ·have h:=zmj k e _ hvl hi hl h2
  rwa [hX]at h
 ·have h:=zmk k e _ hvl hi hl h2
  rwa [hX]at h
 ·have h:=zmm k e _ hvl hl h2
  rwa [hX]at h
def zkZ (s:Sch) (X:List (List Val)) (n:Int) (h0:SchOk s) (hX:X.length<=1000) (hr: ∀r∈X,r.length<=1000) (hi: ∀r∈X, ∀n,Val.whole n∈r->zat n):
 R 14 [.d s.d,.d (.list (zcx (X.map (·.map zag)))),.d (.int .i64 n)] []=WrR (zhQ s X n).1 (zhQ s X n).2:=by
 have hc:=zkM s h0.id.1 (λf hf=>by have:=(h0.fld f hf);omega) (by have:=h0.len;omega)
 unfold zhQ;obtain⟨sid,fs⟩:=s;simp only[Sch.d]at hc;obtain⟨Y,hY⟩: ∃Y,Y=X.map (·.map zag):=⟨_,rfl⟩
 have hYl:Y.length=X.length:=by rw[hY,List.length_map]
 rw[<- hY]
 by_cases h1:zow ⟨sid,fs⟩=0
 case neg=>
  rw[if_pos h1];unfold WrR;generalize zow ⟨sid,fs⟩=e at*;refine rg b14 rfl ?_;intro T hT;simp -dsimp -implicitDefEqProofs (disch:=first|omega|assumption) [hc,h1]
  simpa -dsimp -implicitDefEqProofs (disch:=first|omega|assumption) using hT
 rw[if_neg (not_not_intro h1)];have hs:=zp6 h1;rw[h1]at hc
 by_cases h2:n<1
 ·rw[if_pos (.inl h2)]
  unfold WrR;refine rg b14 rfl ?_;intro T hT;simp -dsimp -implicitDefEqProofs (disch:=first|omega|assumption) [hc,h2]
  simpa -dsimp -implicitDefEqProofs (disch:=first|omega|assumption) using hT
 by_cases h3:64<n
 ·rw[if_pos (.inr h3)]
  unfold WrR;refine rg b14 rfl ?_;intro T hT;simp -dsimp -implicitDefEqProofs (disch:=first|omega|assumption) [hc,h2,h3]
  simpa -dsimp -implicitDefEqProofs (disch:=first|omega|assumption) using hT
 rw[if_neg (by omega)]
 obtain⟨N,rfl⟩: ∃N:Nat,n=N:=⟨n.toNat,by omega⟩
 by_cases h4:256<X.length
 ·rw[if_pos h4]
  unfold WrR;have h4':(256:Int)<X.length:=by omega
  refine rg b14 rfl ?_;intro T hT;simp -dsimp -implicitDefEqProofs (disch:=first|omega|assumption) [hc,h2,h3,h4',hYl]
  simpa -dsimp -implicitDefEqProofs (disch:=first|omega|assumption) using hT
 rw[if_neg h4];have h4': ¬ (256:Int)<X.length:=by omega
 rw[Int.toNat_natCast];have hfit: ∀r∈X,R 50 [.d (.agg [.int .u32 sid,.list (fs.map Fld.d)]),.d (.list (ce (r.map zag)))] []=some ([.d (.int .i64 (fit ⟨sid,fs⟩ r))],[]):=λr hr'=>zpT ⟨sid,fs⟩ r (by have:=h0.len;simp only at this ⊢;omega) (by have:=hr r hr';omega)
 refine rg b14 rfl ?_;intro T hT;simp -dsimp -implicitDefEqProofs (disch:=first|omega|assumption) [hc,h2,h3,h4',hYl]
 generalize hz:zaf _ _ _ _ _ _=z;revert z;refine zaa (σ:=Nat) (λk=>[(1,.d (.list (zcx Y))),(2,.d (.int .i64 N)),(3,.ptr 0 0),(9,.d (.int .i64 k))]) (λ_=>[.box [.d (.int .u32 sid),.d (.list (fs.map Fld.d))]]) (λk=>k<=X.length/\znd ⟨sid,fs⟩ X=znd ⟨sid,fs⟩ (X.drop k)) (λk=>X.length - k) 0 ?_ ?_ ?_
 ·exact⟨Nat.zero_le _,rfl⟩
 ·simp -dsimp -implicitDefEqProofs (disch:=first|omega|assumption)
 intro T' f hT' k ⟨g1,g2⟩ ih
 by_cases hk:k<X.length
 ·obtain⟨r,hr2⟩: ∃r,X[k]=r:=⟨_,rfl⟩
  obtain⟨w,hw⟩: ∃w,w=r.map zag:=⟨_,rfl⟩;have hkY:k<Y.length:=by omega
  have hYk:Y[k]=w:=by simp only[hY,List.getElem_map,hr2,hw]
  have hf:=hfit r (hr2 ▸ List.getElem_mem hk);rw[<- hw]at hf;rw[zkW hk hr2]at g2
  by_cases h5:fit ⟨sid,fs⟩ r=0
  ·rw[if_pos h5]at g2
   rw[h5]at hf;simp -dsimp -implicitDefEqProofs (disch:=first|omega|assumption) [hk,hkY,hYk,hYl,hf]
   refine ih (k+1) _ _ ⟨hk,g2⟩ (by omega) ?_
   simp -dsimp -implicitDefEqProofs (disch:=first|omega|assumption)
  ·rw[if_neg h5]at g2
   subst hT';rw[g2,if_pos h5]at hT;simp -dsimp -implicitDefEqProofs (disch:=first|omega|assumption) [hk,hkY,hYk,hYl,hf,h5]
   simpa -dsimp -implicitDefEqProofs (disch:=first|omega|assumption) using hT
 have hk2:X.drop k=[]:=List.drop_eq_nil_of_le (by omega)
 rw[hk2]at g2;have g3:znd ⟨sid,fs⟩ X=0:=g2;rw[g3,if_neg (by decide)]at hT
 clear ih g2 hk2;have hfa:=znf hs g3 hi;have hp:=zl4 ⟨sid,fs⟩ h0;have hu1:=zaP X.length (by omega)
 have hu2:=zaP N (by omega)
 have b1:(X.length:Int)<=18446744073709551615:=by omega
 have b2:(N:Int)<=18446744073709551615:=by omega
 simp only[Sch.d]at hp;have hhl:=zgG hs h0 X (by omega) (n:=N) (by omega)
 have hhl2:=hhl;simp only[zgr,List.length_append]at hhl;have hla:(zia ⟨sid,fs⟩).length<=41000:=by omega
 have hlb:(put X.length).length<=41000:=by omega
 have hlc:(put N).length<=41000:=by omega
 have hgr:=zmc Y N (by omega) (by omega) (by omega)
 rw[hYl]at hgr;have hfl:fs.length<=8:=hs.len;have hG:=zmh hfa (n:=N) (by omega)
 have hGl:=zef (n:=N) X.length X;have hGy:cks N X.length Y=(cks N X.length X).map (·.map (·.map zag)):=by rw[hY];exact zp4 _ _ _ _
 have hGyl:(cks N X.length Y).length=(cks N X.length X).length:=by rw[hGy,List.length_map]
 have hfile:zrO ⟨sid,fs⟩ X N=zfW (zmg ⟨sid,fs⟩ X N):=rfl;have htext:zmg ⟨sid,fs⟩ X N=67::70::49::(zqa ⟨sid,fs⟩ (cks N X.length X)++((zgr ⟨sid,fs⟩ X N++zme ⟨sid,fs⟩ (cks N X.length X))++le4 (zgr ⟨sid,fs⟩ X N++zme ⟨sid,fs⟩ (cks N X.length X)).length)):=rfl;obtain⟨tl1,tl2⟩:=znh hs h0 (by omega) hfa (n:=N) (by omega)
 have hfo:zmf ⟨sid,fs⟩ X N=zgr ⟨sid,fs⟩ X N++zme ⟨sid,fs⟩ (cks N X.length X):=rfl;rw[hfo]at tl1;rw[htext]at tl2;rw[hfile,htext]at hT;clear hfo hfile htext;generalize cks N X.length X=G at*;generalize cks N X.length Y=GY at*;obtain⟨H,hH⟩: ∃H,H=zgr ⟨sid,fs⟩ X N:=⟨_,rfl⟩;rw[<- hH]at hT tl1 tl2 hhl2;subst hT';simp -dsimp -implicitDefEqProofs (disch:=first|omega|assumption) [hk,hp,hu1,hu2,zaj,b1,b2,hgr,hYl]
 generalize hz:zaf _ _ _ _ _ _=z;revert z;refine zaa (σ:=Nat × List UInt8 × List UInt8) (λx=>[(3,.ptr 0 0),(10,.arr 1 x.2.1.length),(11,.arr 2 x.2.2.length),(12,.arr 3 GY.length),(13,.d (.int .i64 x.1))]) (λx=>[.box [.d (.int .u32 sid),.d (.list (fs.map Fld.d))],.arr 1 (bytes x.2.1) 0,.arr 1 (bytes x.2.2) 0,.arr 1 (GY.map λg=> .list (zcx g)) 0]) (λx=>x.1<=G.length/\x.2.1=67::70::49::zqa ⟨sid,fs⟩ (G.take x.1)/\x.2.2=H++zme ⟨sid,fs⟩ (G.take x.1)) (λx=>G.length - x.1) (0,[67,70,49],H) ?_ ?_ ?_
 ·exact⟨Nat.zero_le _,by simp[zqa],by simp[zme]⟩
 ·simp -dsimp -implicitDefEqProofs (disch:=first|omega|assumption) [hH,zgr,Nat.add_assoc]
 intro T' f hT' ⟨j,A,F⟩ ⟨g1,q3,q4⟩ ih;simp only at g1 q3 q4 ih;obtain⟨pl1,pl2⟩:=zjA hs (P:=G.take j) λg' h'=>hG g' (List.mem_of_mem_take h')
 have pl3:(G.take j).length<=256:=by rw[List.length_take];omega
 by_cases hj:j<G.length
 ·obtain⟨g,hg⟩: ∃g,G[j]=g:=⟨_,rfl⟩
  obtain⟨gy,hgy⟩: ∃gy,gy=g.map (·.map zag):=⟨_,rfl⟩
  have hjY:j<GY.length:=by omega
  have hGYj:GY[j]=gy:=by simp only[hGy,List.getElem_map,hg,hgy]
  obtain⟨gl,gf⟩:=hG g (hg ▸ List.getElem_mem hj);have cl:=λi hi=>zgF hs gf gl i hi
  simp only at cl;have htk:G.take (j+1)=G.take j++[g]:=by rw[List.take_succ_eq_append_getElem hj,hg]
  simp -dsimp -implicitDefEqProofs (disch:=first|omega|assumption) [hj,hjY,hGYj]
  generalize hz:zaf _ _ _ _ _ _=z;revert z;refine zaa (σ:=Nat × List UInt8 × List UInt8) (λx=>[(3,.ptr 0 0),(10,.arr 1 x.2.1.length),(11,.arr 2 x.2.2.length),(12,.arr 3 GY.length),(13,.d (.int .i64 j)),(14,.d (.int .i64 x.1))]) (λx=>[.box [.d (.int .u32 sid),.d (.list (fs.map Fld.d))],.arr 1 (bytes x.2.1) 0,.arr 1 (bytes x.2.2) 0,.arr 1 (GY.map λg=> .list (zcx g)) 0]) (λx=>x.1<=fs.length/\x.2.1=A++zhO ⟨sid,fs⟩ g x.1/\x.2.2=F++zhP ⟨sid,fs⟩ g x.1) (λx=>fs.length - x.1) (0,A,F) ?_ ?_ ?_
  ·exact⟨Nat.zero_le _,by simp[zhO],by simp[zhP]⟩
  ·simp -dsimp -implicitDefEqProofs (disch:=first|omega|assumption)
  intro T'' f2 hT'' ⟨i,A',F'⟩ ⟨g1,g2,g3⟩ ih2;simp only at g1 g2 g3 ih2;have cli:=cl i g1;have hA:A'.length<=1600000*256+200000*8+3:=by
   have:=congrArg List.length q3;simp only[List.length_cons]at this;rw[g2,List.length_append];omega
  have hF:F'.length<=5000000:=by
   have:=congrArg List.length q4;simp only[List.length_append]at this;rw[g3,List.length_append];omega
  by_cases hk:i<fs.length
  ·obtain⟨x,hx⟩: ∃x,fs[i]=x:=⟨_,rfl⟩
   have hki:=ztx hs hk;have gd:=zjz gf hk;have e1:=zfZ ⟨sid,fs⟩ g i;have e2:=zf0 ⟨sid,fs⟩ g i;rw[hx]at hki;have hcv:=zjy g i (λr hr'=>by have:=(gf r hr').1;simp only at this;omega) (by omega) (by omega)
   rw[<- hgy]at hcv;have hcl:(col g i).length=g.length:=by simp[col]
   have hcw:=zqd _ ⟨hki.1,hki.2.1⟩ _ gd (by omega)
   have hcB:=zjt ⟨hki.1,hki.2.1⟩ gd (by omega)
   have hps:=zlY (col g i) (by omega) (λs hs'=>by
    rcases gd _ hs' with h | ⟨_,_,h⟩
    ·cases h
    ·have:=h s rfl;omega)
   have hst:=zmd gd (by omega)
   have hpp:=zmo gd (by omega)
   generalize zeH (kd ⟨sid,fs⟩ i) (col g i)=c at*;generalize stB (zcp (col g i))=sb at*;generalize (zcp (col g i)).d=sd at*;generalize kd ⟨sid,fs⟩ i=kk at*;obtain⟨cc,hcc⟩: ∃cc,cc=(col g i).map zag:=⟨_,rfl⟩;have hccl:cc.length=g.length:=by rw[hcc,List.length_map,hcl]
   rw[<- hcc]at hcv hcw hps;have hu:=zaP c.length (by omega)
   have hul:=zak (n:=c.length) (by omega)
   have b1:(c.length:Int)<=18446744073709551615:=by omega
   obtain⟨xi,xn,xk,xd⟩:=x;simp only at hki;obtain⟨hk1,hk3,rfl⟩:=hki;have hkw:IntKind.i64.wrap (kk:Int)=kk:=wI (by omega) (by omega)
   simp -dsimp -implicitDefEqProofs (disch:=first|omega|assumption) [hk,hx,hjY,hGYj,hcv,hcw,hps,hu,hpp,zaj,b1,hccl,hkw]
   refine ih2 (i+1,A'++c,F'++(put c.length++sb)) _ _ ⟨hk,by simp only[e1,g2,List.append_assoc],by simp only[e2,g3,List.append_assoc]⟩ (by simp only;omega) ?_
   simp -dsimp -implicitDefEqProofs (disch:=first|omega|assumption) [Nat.add_assoc]
  ·obtain rfl:i=fs.length:=by omega
   have e1:=zkX ⟨sid,fs⟩ (G.take j) g;have e2:=zkY ⟨sid,fs⟩ (G.take j) g;subst hT'';simp -dsimp -implicitDefEqProofs (disch:=first|omega|assumption) [hk]
   refine ih (j+1,A',F') _ _ ⟨hj,by simp only[htk,e1,g2,q3,List.cons_append],by simp only[htk,e2,g3,q4,List.append_assoc]⟩ (by simp only;omega) ?_
   simp -dsimp -implicitDefEqProofs (disch:=first|omega|assumption)
 obtain rfl:j=G.length:=by omega
 rw[List.take_length]at q3 q4 pl1 pl2;have htx:67::70::49::(zqa ⟨sid,fs⟩ G++((H++zme ⟨sid,fs⟩ G)++le4 (H++zme ⟨sid,fs⟩ G).length))=A++(F++le4 F.length):=by rw[q3,<- q4];rfl
 rw[htx]at hT tl2;rw[<- q4]at tl1;clear ih q3 q4 htx hu1 hu2 hp hgr;have hse:=zok _ tl2;have hsl:=zd1 (A++(F++le4 F.length));have hl:(A++(F++le4 F.length)).length=A.length+F.length+4:=by simp[le4,Nat.add_assoc]
 rw[hl]at tl2 hsl;subst hT';have hjY: ¬ G.length<GY.length:=by omega
 simp -dsimp -implicitDefEqProofs (disch:=first|omega|assumption) [hj,hjY]
 obtain⟨m,hm⟩: ∃m,m=F.length:=⟨_,rfl⟩;generalize hz:zaf _ _ _ _ _ _=z;revert z;refine zaa (σ:=Nat) (λi=>[(10,.arr 0 (A.length+F.length+i)),(18,.d (.int .i64 ((m / 256 ^ i:Nat):Int))),(19,.d (.int .i64 i))]) (λi=>[.arr 1 (bytes (A++(F++(le4 m).take i))) 0]) (λi=>i<=4) (λi=>4 - i) 0 ?_ ?_ ?_
 ·exact Nat.zero_le _
 ·simp -dsimp -implicitDefEqProofs (disch:=first|omega|assumption) [hm]
 intro T' f hT' i hi ih;have hln:((le4 m).take i).length=i:=by rw[List.length_take];simp[le4];omega
 by_cases h1:i<4
 ·have h1':(i:Int)<4:=by omega
  obtain⟨s,hs'⟩: ∃s,s=m / 256 ^ i:=⟨_,rfl⟩;have hs32:s<4294967296:=by rw[hs'];exact Nat.lt_of_le_of_lt (Nat.div_le_self _ _) (by omega)
  have hs2:m / 256 ^ (i+1)=s / 256:=by rw[hs',Nat.pow_succ,Nat.div_div_eq_div_mul]
  have hs3:(s:Int).tdiv 256=((s / 256:Nat):Int):=rfl;have htk:(le4 m).take (i+1)=(le4 m).take i++[UInt8.ofNat s]:=by
   have:i=0\/i=1\/i=2\/i=3:=by omega
   rw[hs'];rcases this with rfl | rfl | rfl | rfl <;> simp[le4]
  rw[<- hs'];have hmn:min i (le4 m).length=i:=by rw[show (le4 m).length=4 from rfl];omega
  simp -dsimp -implicitDefEqProofs (disch:=first|omega|assumption) [h1',hln,hs3,hmn]
  refine ih (i+1) _ _ h1 (by omega) ?_
  rw[htk,hs2];simp -dsimp -implicitDefEqProofs (disch:=first|omega|assumption) [hs3,hln,Nat.add_assoc]
 ·obtain rfl:i=4:=by omega
  have h1': ¬ ((4:Nat):Int)<4:=by omega
  have hf:(le4 m).take 4=le4 m:=rfl;rw[hf,hm];obtain⟨S,hS⟩: ∃S,S=zfW (A++(F++le4 F.length)):=⟨_,rfl⟩;obtain⟨W,hW⟩: ∃W,W=A++(F++le4 F.length):=⟨_,rfl⟩;rw[<- hS]at hse hsl hT;rw[<- hW]at hse hl ⊢;have hWl:A.length+F.length+4=W.length:=hl.symm;subst hT'
  by_cases h5:65536<S.length
  ·have h5':(65536:Int)<S.length:=by omega
   rw[if_pos h5]at hT;simp -dsimp -implicitDefEqProofs (disch:=first|omega|assumption) [h1',hse,h5',hWl]
   exact hT
  ·have h5': ¬ (65536:Int)<S.length:=by omega
   rw[if_neg h5]at hT;simp -dsimp -implicitDefEqProofs (disch:=first|omega|assumption) [h1',hse,h5',hWl]
   exact hT
end Go.Am.Ab
