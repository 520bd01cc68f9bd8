/- The signs of texts: the document. -/
import Derived.Test.YtibdiacpdmhmnaaGreatDoorBase
set_option linter.all false
namespace Go.Am.Ab
open Go.Proofs
set_option maxHeartbeats 4000000
set_option maxRecDepth 4000
def bt (s:ByteArray) (k:Nat):Nat:=(s[k]?.getD 0).toNat
def zcr (s:ByteArray) (k:Nat):bt s k<256:=(s[k]?.getD 0).toNat_lt
def zcZ {s:ByteArray} {k:Nat} (h:k<s.size):(s[k]).toNat=bt s k:=by
 unfold bt;rw[getElem?_pos s k h];rfl
def sgv (s:ByteArray) (c:Nat):Nat->Nat
 |0=>c
 |j+1=>sgv s c j*64+bt s (j+1) - 128
def sgk (s:ByteArray):Nat->Bool
 |0=>true
 |j+1=>sgk s j && (decide (128<=bt s (j+1)) && decide (bt s (j+1)<192))
def sgf (s:ByteArray) (n low c:Nat):Nat × Nat × Bool:=
 if s.size<n\/sgk s (n - 1)=false then (65533,1,false) else
 if sgv s c (n - 1)<low\/1114111<sgv s c (n - 1)\/(55296<=sgv s c (n - 1)/\sgv s c (n - 1)<57344) then (65533,1,false) else (sgv s c (n - 1),n,true)
def sig (s:ByteArray):Nat × Nat × Bool:=
 if bt s 0<128 then (bt s 0,1,true) else
 if 194<=bt s 0/\bt s 0<224 then sgf s 2 128 (bt s 0 - 192) else
 if 224<=bt s 0/\bt s 0<240 then sgf s 3 2048 (bt s 0 - 224) else
 if 240<=bt s 0/\bt s 0<245 then sgf s 4 65536 (bt s 0 - 240) else (65533,1,false)
abbrev sgD (x:Nat × Nat × Bool):List V:=[.d (.int .i64 x.1),.d (.int .i64 x.2.1),.d (.bool x.2.2)]
def sgB:Nat->Nat
 |0=>32
 |j+1=>sgB j*64
def zuM {j:Nat} (h:j<=3):sgB j<=8388608:=by
 have:j=0\/j=1\/j=2\/j=3:=by omega
 rcases this with rfl | rfl | rfl | rfl <;> exact ycx rfl
def zra (s:ByteArray) {c:Nat} (hc:c<32): ∀j,sgk s j=true->sgv s c j<sgB j
 |0,_=>hc
 |j+1,h=>by
  simp only[sgk,yaw,yaB]at h;have h1:=zra s hc j h.1;simp only[sgv,sgB];omega
def zjR {s:ByteArray}: ∀ {i j:Nat},i<=j->sgk s j=true->sgk s i=true
 |i,0,h,hk=>by
  have:i=0:=by omega
  subst this;exact hk
 |i,j+1,h,hk=>by
  by_cases e:i=j+1
  ·subst e;exact hk
  ·simp only[sgk,yaw]at hk
   exact zjR (by omega) hk.1
def zsO (s:ByteArray) (hs:0<s.size) (h0:bt s 0<128):R 122 [.d (.str s)] []=some (sgD (sig s),[]):=by
 have g0:=zcZ hs;have hb0:=zcr s 0;have e:sig s=(bt s 0,1,true):=by unfold sig;rw[yag h0]
 have h0':(bt s 0:Int)<128:=by omega
 rw[e];generalize bt s 0=b0 at*;refine rg zxZ rfl ?_;intro T hT;simp -dsimp -implicitDefEqProofs (disch:=omega) [g0,h0']
 simpa -dsimp -implicitDefEqProofs (disch:=omega) [sgD]using hT
def zoa (s:ByteArray) (hs:0<s.size) (h0: ¬ bt s 0<128) (h1:bt s 0<194\/245<=bt s 0):R 122 [.d (.str s)] []=some (sgD (sig s),[]):=by
 have g0:=zcZ hs;have hb0:=zcr s 0;have e:sig s=(65533,1,false):=by unfold sig;rw[yac h0,yac (by omega),yac (by omega),yac (by omega)]
 rw[e];generalize bt s 0=b0 at*;have c1: ¬ (b0:Int)<128:=by omega
 rcases h1 with h1 | h1
 ·have c2: ¬ (194:Int)<=b0:=by omega
  have c3: ¬ (224:Int)<=b0:=by omega
  have c4: ¬ (240:Int)<=b0:=by omega
  refine rg zxZ rfl ?_;intro T hT;simp -dsimp -implicitDefEqProofs (disch:=omega) [g0,c1,c2,c3,c4]
  simpa -dsimp -implicitDefEqProofs (disch:=omega) [sgD]using hT
 ·have c2:(194:Int)<=b0:=by omega
  have c3:(224:Int)<=b0:=by omega
  have c4:(240:Int)<=b0:=by omega
  have c5: ¬ (b0:Int)<224:=by omega
  have c6: ¬ (b0:Int)<240:=by omega
  have c7: ¬ (b0:Int)<245:=by omega
  refine rg zxZ rfl ?_;intro T hT;simp -dsimp -implicitDefEqProofs (disch:=omega) [g0,c1,c2,c3,c4,c5,c6,c7]
  simpa -dsimp -implicitDefEqProofs (disch:=omega) [sgD]using hT
def zEg (s:ByteArray) (hm:s.size<1000000000) (h1:194<=bt s 0) (h2:bt s 0<224) (hs:0<s.size):R 122 [.d (.str s)] []=some (sgD (sig s),[]):=by
 have g0:=zcZ hs;have hb0:=zcr s 0;have e:sig s=sgf s 2 128 (bt s 0 - 192):=by unfold sig;rw[yac (by omega),yag (by omega)]
 rw[e];obtain⟨c,hc⟩: ∃c,c=bt s 0 - 192:=⟨_,rfl⟩;have hc32:c<32:=by omega
 have hci:((bt s 0:Nat):Int) - 192=c:=by omega
 rw[<- hc];clear e hc;generalize bt s 0=b0 at*;have c1: ¬ (b0:Int)<128:=by omega
 have k0:(194:Int)<=b0:=by omega
 have k1: ¬ (224:Int)<=b0:=by omega
 have k2: ¬ (240:Int)<=b0:=by omega
 have m0:(b0:Int)<224:=by omega
 have m1:(b0:Int)<240:=by omega
 have m2:(b0:Int)<245:=by omega
 unfold sgf
 by_cases hz:s.size<2
 ·have hz':(s.size:Int)<2:=by omega
  rw[yag (.inl hz)];refine rg zxZ rfl ?_;intro T hT;simp -dsimp -implicitDefEqProofs (disch:=omega) [g0,c1,hci,hz',k0,k1,k2,m0,m1,m2]
  simpa -dsimp -implicitDefEqProofs (disch:=omega) [sgD]using hT
 ·have hz': ¬ (s.size:Int)<2:=by omega
  refine rg zxZ rfl ?_;intro T hT;simp -dsimp -implicitDefEqProofs (disch:=omega) [g0,c1,hci,hz',k0,k1,k2,m0,m1,m2]
  generalize hz:zaf _ _ _ _ _ _=z;revert z;refine zaa (σ:=Nat) (λj=>[(0,.d (.str s)),(6,.d (.int .i64 2)),(7,.d (.int .i64 128)),(8,.d (.int .i64 (sgv s c j))),(9,.d (.int .i64 ((j:Int)+1)))]) (λ_=>[]) (λj=>j<=2 - 1/\sgk s j=true) (λj=>2 - j) 0 ?_ ?_ ?_
  ·exact⟨yai _,rfl⟩
  ·simp -dsimp -implicitDefEqProofs (disch:=omega) [sgv]
  intro T' f hT' j ⟨hj,hk⟩ ih;have hv:=zra s hc32 j hk;have hv2:=zuM (show j<=3 by omega)
  by_cases h3:j=2 - 1
  ·subst h3
   subst hT';rw[yac (by rw[hk];simp;omega)]at hT
   generalize sgv s c (2 - 1)=v at*
   by_cases q1:v<128
   ·have q1':(v:Int)<128:=by omega
    rw[yag (.inl q1)]at hT;simp -dsimp -implicitDefEqProofs (disch:=omega) [q1']
    simpa -dsimp -implicitDefEqProofs (disch:=omega) [sgD]using hT
   ·have q1': ¬ (v:Int)<128:=by omega
    by_cases q2:1114111<v
    ·have q2':(1114111:Int)<v:=by omega
     rw[yag (.inr (.inl q2))]at hT;simp -dsimp -implicitDefEqProofs (disch:=omega) [q1',q2']
     simpa -dsimp -implicitDefEqProofs (disch:=omega) [sgD]using hT
    ·have q2': ¬ (1114111:Int)<v:=by omega
     by_cases q3:55296<=v
     ·have q3':(55296:Int)<=v:=by omega
      by_cases q4:v<57344
      ·have q4':(v:Int)<57344:=by omega
       rw[yag (.inr (.inr ⟨q3,q4⟩))]at hT;simp -dsimp -implicitDefEqProofs (disch:=omega) [q1',q2',q3',q4']
       simpa -dsimp -implicitDefEqProofs (disch:=omega) [sgD]using hT
      ·have q4': ¬ (v:Int)<57344:=by omega
       rw[yac (by omega)]at hT
       simp -dsimp -implicitDefEqProofs (disch:=omega) [q1',q2',q3',q4']
       simpa -dsimp -implicitDefEqProofs (disch:=omega) [sgD]using hT
     ·have q3': ¬ (55296:Int)<=v:=by omega
      rw[yac (by omega)]at hT
      simp -dsimp -implicitDefEqProofs (disch:=omega) [q1',q2',q3']
      simpa -dsimp -implicitDefEqProofs (disch:=omega) [sgD]using hT
  ·have hj1:(j:Int)+1<2:=by omega
   have hjs:j+1<s.size:=by omega
   have tn:((j:Int)+1).toNat=j+1:=by omega
   have gj:=zcZ hjs;have hb:=zcr s (j+1);have hstep:sgv s c (j+1)=sgv s c j*64+bt s (j+1) - 128:=rfl;have hkk:sgk s (j+1)=(sgk s j && (decide (128<=bt s (j+1)) && decide (bt s (j+1)<192))):=rfl
   by_cases p1:128<=bt s (j+1)
   ·by_cases p2:bt s (j+1)<192
    ·have p1': ¬ (bt s (j+1):Int)<128:=by omega
     have p2': ¬ (192:Int)<=bt s (j+1):=by omega
     have hval:(sgv s c j:Int)*64+bt s (j+1) - 128=sgv s c (j+1):=by omega
     simp -dsimp -implicitDefEqProofs (disch:=omega) [hj1,hjs,tn,gj,p1',p2',hval]
     refine ih (j+1) _ _ ⟨by omega,by rw[hkk,hk];simp;omega⟩ (by omega) ?_
     simp -dsimp -implicitDefEqProofs (disch:=omega)
    ·have p1': ¬ (bt s (j+1):Int)<128:=by omega
     have p2':(192:Int)<=bt s (j+1):=by omega
     have hbad:sgk s (2 - 1)=false:=by
      rw[<- ycb];intro hh;have:=zjR (show j+1<=2 - 1 by omega) hh
      rw[hkk]at this;simp only[yaw,yaB]at this;omega
     subst hT';rw[yag (.inr hbad)]at hT;simp -dsimp -implicitDefEqProofs (disch:=omega) [hj1,hjs,tn,gj,p1',p2']
     simpa -dsimp -implicitDefEqProofs (disch:=omega) [sgD]using hT
   ·have p1':(bt s (j+1):Int)<128:=by omega
    have hbad:sgk s (2 - 1)=false:=by
     rw[<- ycb];intro hh;have:=zjR (show j+1<=2 - 1 by omega) hh
     rw[hkk]at this;simp only[yaw,yaB]at this;omega
    subst hT';rw[yag (.inr hbad)]at hT;simp -dsimp -implicitDefEqProofs (disch:=omega) [hj1,hjs,tn,gj,p1']
    simpa -dsimp -implicitDefEqProofs (disch:=omega) [sgD]using hT
def zEh (s:ByteArray) (hm:s.size<1000000000) (h1:224<=bt s 0) (h2:bt s 0<240) (hs:0<s.size):R 122 [.d (.str s)] []=some (sgD (sig s),[]):=by
 have g0:=zcZ hs;have hb0:=zcr s 0;have e:sig s=sgf s 3 2048 (bt s 0 - 224):=by unfold sig;rw[yac (by omega),yac (by omega),yag (by omega)]
 rw[e];obtain⟨c,hc⟩: ∃c,c=bt s 0 - 224:=⟨_,rfl⟩;have hc32:c<32:=by omega
 have hci:((bt s 0:Nat):Int) - 224=c:=by omega
 rw[<- hc];clear e hc;generalize bt s 0=b0 at*;have c1: ¬ (b0:Int)<128:=by omega
 have k0:(194:Int)<=b0:=by omega
 have k1:(224:Int)<=b0:=by omega
 have k2: ¬ (240:Int)<=b0:=by omega
 have m0: ¬ (b0:Int)<224:=by omega
 have m1:(b0:Int)<240:=by omega
 have m2:(b0:Int)<245:=by omega
 unfold sgf
 by_cases hz:s.size<3
 ·have hz':(s.size:Int)<3:=by omega
  rw[yag (.inl hz)];refine rg zxZ rfl ?_;intro T hT;simp -dsimp -implicitDefEqProofs (disch:=omega) [g0,c1,hci,hz',k0,k1,k2,m0,m1,m2]
  simpa -dsimp -implicitDefEqProofs (disch:=omega) [sgD]using hT
 ·have hz': ¬ (s.size:Int)<3:=by omega
  refine rg zxZ rfl ?_;intro T hT;simp -dsimp -implicitDefEqProofs (disch:=omega) [g0,c1,hci,hz',k0,k1,k2,m0,m1,m2]
  generalize hz:zaf _ _ _ _ _ _=z;revert z;refine zaa (σ:=Nat) (λj=>[(0,.d (.str s)),(6,.d (.int .i64 3)),(7,.d (.int .i64 2048)),(8,.d (.int .i64 (sgv s c j))),(9,.d (.int .i64 ((j:Int)+1)))]) (λ_=>[]) (λj=>j<=3 - 1/\sgk s j=true) (λj=>3 - j) 0 ?_ ?_ ?_
  ·exact⟨yai _,rfl⟩
  ·simp -dsimp -implicitDefEqProofs (disch:=omega) [sgv]
  intro T' f hT' j ⟨hj,hk⟩ ih;have hv:=zra s hc32 j hk;have hv2:=zuM (show j<=3 by omega)
  by_cases h3:j=3 - 1
  ·subst h3
   subst hT';rw[yac (by rw[hk];simp;omega)]at hT
   generalize sgv s c (3 - 1)=v at*
   by_cases q1:v<2048
   ·have q1':(v:Int)<2048:=by omega
    rw[yag (.inl q1)]at hT;simp -dsimp -implicitDefEqProofs (disch:=omega) [q1']
    simpa -dsimp -implicitDefEqProofs (disch:=omega) [sgD]using hT
   ·have q1': ¬ (v:Int)<2048:=by omega
    by_cases q2:1114111<v
    ·have q2':(1114111:Int)<v:=by omega
     rw[yag (.inr (.inl q2))]at hT;simp -dsimp -implicitDefEqProofs (disch:=omega) [q1',q2']
     simpa -dsimp -implicitDefEqProofs (disch:=omega) [sgD]using hT
    ·have q2': ¬ (1114111:Int)<v:=by omega
     by_cases q3:55296<=v
     ·have q3':(55296:Int)<=v:=by omega
      by_cases q4:v<57344
      ·have q4':(v:Int)<57344:=by omega
       rw[yag (.inr (.inr ⟨q3,q4⟩))]at hT;simp -dsimp -implicitDefEqProofs (disch:=omega) [q1',q2',q3',q4']
       simpa -dsimp -implicitDefEqProofs (disch:=omega) [sgD]using hT
      ·have q4': ¬ (v:Int)<57344:=by omega
       rw[yac (by omega)]at hT
       simp -dsimp -implicitDefEqProofs (disch:=omega) [q1',q2',q3',q4']
       simpa -dsimp -implicitDefEqProofs (disch:=omega) [sgD]using hT
     ·have q3': ¬ (55296:Int)<=v:=by omega
      rw[yac (by omega)]at hT
      simp -dsimp -implicitDefEqProofs (disch:=omega) [q1',q2',q3']
      simpa -dsimp -implicitDefEqProofs (disch:=omega) [sgD]using hT
  ·have hj1:(j:Int)+1<3:=by omega
   have hjs:j+1<s.size:=by omega
   have tn:((j:Int)+1).toNat=j+1:=by omega
   have gj:=zcZ hjs;have hb:=zcr s (j+1);have hstep:sgv s c (j+1)=sgv s c j*64+bt s (j+1) - 128:=rfl;have hkk:sgk s (j+1)=(sgk s j && (decide (128<=bt s (j+1)) && decide (bt s (j+1)<192))):=rfl
   by_cases p1:128<=bt s (j+1)
   ·by_cases p2:bt s (j+1)<192
    ·have p1': ¬ (bt s (j+1):Int)<128:=by omega
     have p2': ¬ (192:Int)<=bt s (j+1):=by omega
     have hval:(sgv s c j:Int)*64+bt s (j+1) - 128=sgv s c (j+1):=by omega
     simp -dsimp -implicitDefEqProofs (disch:=omega) [hj1,hjs,tn,gj,p1',p2',hval]
     refine ih (j+1) _ _ ⟨by omega,by rw[hkk,hk];simp;omega⟩ (by omega) ?_
     simp -dsimp -implicitDefEqProofs (disch:=omega)
    ·have p1': ¬ (bt s (j+1):Int)<128:=by omega
     have p2':(192:Int)<=bt s (j+1):=by omega
     have hbad:sgk s (3 - 1)=false:=by
      rw[<- ycb];intro hh;have:=zjR (show j+1<=3 - 1 by omega) hh
      rw[hkk]at this;simp only[yaw,yaB]at this;omega
     subst hT';rw[yag (.inr hbad)]at hT;simp -dsimp -implicitDefEqProofs (disch:=omega) [hj1,hjs,tn,gj,p1',p2']
     simpa -dsimp -implicitDefEqProofs (disch:=omega) [sgD]using hT
   ·have p1':(bt s (j+1):Int)<128:=by omega
    have hbad:sgk s (3 - 1)=false:=by
     rw[<- ycb];intro hh;have:=zjR (show j+1<=3 - 1 by omega) hh
     rw[hkk]at this;simp only[yaw,yaB]at this;omega
    subst hT';rw[yag (.inr hbad)]at hT;simp -dsimp -implicitDefEqProofs (disch:=omega) [hj1,hjs,tn,gj,p1']
    simpa -dsimp -implicitDefEqProofs (disch:=omega) [sgD]using hT
def zEi (s:ByteArray) (hm:s.size<1000000000) (h1:240<=bt s 0) (h2:bt s 0<245) (hs:0<s.size):R 122 [.d (.str s)] []=some (sgD (sig s),[]):=by
 have g0:=zcZ hs;have hb0:=zcr s 0;have e:sig s=sgf s 4 65536 (bt s 0 - 240):=by unfold sig;rw[yac (by omega),yac (by omega),yac (by omega),yag (by omega)]
 rw[e];obtain⟨c,hc⟩: ∃c,c=bt s 0 - 240:=⟨_,rfl⟩;have hc32:c<32:=by omega
 have hci:((bt s 0:Nat):Int) - 240=c:=by omega
 rw[<- hc];clear e hc;generalize bt s 0=b0 at*;have c1: ¬ (b0:Int)<128:=by omega
 have k0:(194:Int)<=b0:=by omega
 have k1:(224:Int)<=b0:=by omega
 have k2:(240:Int)<=b0:=by omega
 have m0: ¬ (b0:Int)<224:=by omega
 have m1: ¬ (b0:Int)<240:=by omega
 have m2:(b0:Int)<245:=by omega
 unfold sgf
 by_cases hz:s.size<4
 ·have hz':(s.size:Int)<4:=by omega
  rw[yag (.inl hz)];refine rg zxZ rfl ?_;intro T hT;simp -dsimp -implicitDefEqProofs (disch:=omega) [g0,c1,hci,hz',k0,k1,k2,m0,m1,m2]
  simpa -dsimp -implicitDefEqProofs (disch:=omega) [sgD]using hT
 ·have hz': ¬ (s.size:Int)<4:=by omega
  refine rg zxZ rfl ?_;intro T hT;simp -dsimp -implicitDefEqProofs (disch:=omega) [g0,c1,hci,hz',k0,k1,k2,m0,m1,m2]
  generalize hz:zaf _ _ _ _ _ _=z;revert z;refine zaa (σ:=Nat) (λj=>[(0,.d (.str s)),(6,.d (.int .i64 4)),(7,.d (.int .i64 65536)),(8,.d (.int .i64 (sgv s c j))),(9,.d (.int .i64 ((j:Int)+1)))]) (λ_=>[]) (λj=>j<=4 - 1/\sgk s j=true) (λj=>4 - j) 0 ?_ ?_ ?_
  ·exact⟨yai _,rfl⟩
  ·simp -dsimp -implicitDefEqProofs (disch:=omega) [sgv]
  intro T' f hT' j ⟨hj,hk⟩ ih;have hv:=zra s hc32 j hk;have hv2:=zuM (show j<=3 by omega)
  by_cases h3:j=4 - 1
  ·subst h3
   subst hT';rw[yac (by rw[hk];simp;omega)]at hT
   generalize sgv s c (4 - 1)=v at*
   by_cases q1:v<65536
   ·have q1':(v:Int)<65536:=by omega
    rw[yag (.inl q1)]at hT;simp -dsimp -implicitDefEqProofs (disch:=omega) [q1']
    simpa -dsimp -implicitDefEqProofs (disch:=omega) [sgD]using hT
   ·have q1': ¬ (v:Int)<65536:=by omega
    by_cases q2:1114111<v
    ·have q2':(1114111:Int)<v:=by omega
     rw[yag (.inr (.inl q2))]at hT;simp -dsimp -implicitDefEqProofs (disch:=omega) [q1',q2']
     simpa -dsimp -implicitDefEqProofs (disch:=omega) [sgD]using hT
    ·have q2': ¬ (1114111:Int)<v:=by omega
     by_cases q3:55296<=v
     ·have q3':(55296:Int)<=v:=by omega
      by_cases q4:v<57344
      ·have q4':(v:Int)<57344:=by omega
       exfalso;omega
      ·have q4': ¬ (v:Int)<57344:=by omega
       rw[yac (by omega)]at hT
       simp -dsimp -implicitDefEqProofs (disch:=omega) [q1',q2',q3',q4']
       simpa -dsimp -implicitDefEqProofs (disch:=omega) [sgD]using hT
     ·have q3': ¬ (55296:Int)<=v:=by omega
      exfalso;omega
  ·have hj1:(j:Int)+1<4:=by omega
   have hjs:j+1<s.size:=by omega
   have tn:((j:Int)+1).toNat=j+1:=by omega
   have gj:=zcZ hjs;have hb:=zcr s (j+1);have hstep:sgv s c (j+1)=sgv s c j*64+bt s (j+1) - 128:=rfl;have hkk:sgk s (j+1)=(sgk s j && (decide (128<=bt s (j+1)) && decide (bt s (j+1)<192))):=rfl
   by_cases p1:128<=bt s (j+1)
   ·by_cases p2:bt s (j+1)<192
    ·have p1': ¬ (bt s (j+1):Int)<128:=by omega
     have p2': ¬ (192:Int)<=bt s (j+1):=by omega
     have hval:(sgv s c j:Int)*64+bt s (j+1) - 128=sgv s c (j+1):=by omega
     simp -dsimp -implicitDefEqProofs (disch:=omega) [hj1,hjs,tn,gj,p1',p2',hval]
     refine ih (j+1) _ _ ⟨by omega,by rw[hkk,hk];simp;omega⟩ (by omega) ?_
     simp -dsimp -implicitDefEqProofs (disch:=omega)
    ·have p1': ¬ (bt s (j+1):Int)<128:=by omega
     have p2':(192:Int)<=bt s (j+1):=by omega
     have hbad:sgk s (4 - 1)=false:=by
      rw[<- ycb];intro hh;have:=zjR (show j+1<=4 - 1 by omega) hh
      rw[hkk]at this;simp only[yaw,yaB]at this;omega
     subst hT';rw[yag (.inr hbad)]at hT;simp -dsimp -implicitDefEqProofs (disch:=omega) [hj1,hjs,tn,gj,p1',p2']
     simpa -dsimp -implicitDefEqProofs (disch:=omega) [sgD]using hT
   ·have p1':(bt s (j+1):Int)<128:=by omega
    have hbad:sgk s (4 - 1)=false:=by
     rw[<- ycb];intro hh;have:=zjR (show j+1<=4 - 1 by omega) hh
     rw[hkk]at this;simp only[yaw,yaB]at this;omega
    subst hT';rw[yag (.inr hbad)]at hT;simp -dsimp -implicitDefEqProofs (disch:=omega) [hj1,hjs,tn,gj,p1']
    simpa -dsimp -implicitDefEqProofs (disch:=omega) [sgD]using hT
def zuN (s:ByteArray) (hm:s.size<1000000000) (hs:0<s.size):R 122 [.d (.str s)] []=some (sgD (sig s),[]):=by
 by_cases h0:bt s 0<128
 ·exact zsO s hs h0
 by_cases h1:bt s 0<194
 ·exact zoa s hs h0 (.inl h1)
 by_cases h2:bt s 0<224
 ·exact zEg s hm (by omega) h2 hs
 by_cases h3:bt s 0<240
 ·exact zEh s hm (by omega) h3 hs
 by_cases h4:bt s 0<245
 ·exact zEi s hm (by omega) h4 hs
 ·exact zoa s hs h0 (.inr (by omega))
end Go.Am.Ab
namespace Go.Am.Ab
open Go.Proofs
set_option maxHeartbeats 4000000
set_option maxRecDepth 4000
abbrev rst (s:ByteArray) (i:Nat):ByteArray:=s.extract i s.size
def zaX {s:ByteArray} {i:Nat} (h:i<=s.size):(rst s i).size=s.size - i:=by simp[rst]
def zdp (s:ByteArray):1<=(sig s).2.1:=by
 unfold sig sgf
 (repeat' split) <;> simp
def zuO (s:ByteArray):(sig s).1<=1114111:=by
 unfold sig;split
 ·simp only;omega
 ·(repeat' split)
  all_goals first
   |(simp only[sgf];(repeat' split) <;> simp only <;> omega)
   |(simp only;omega)
def zc0 {s:ByteArray} (h:0<s.size):(sig s).2.1<=s.size:=by
 unfold sig;split
 ·simp only;omega
 ·(repeat' split)
  all_goals first
   |(simp only[sgf];(repeat' split) <;> simp only <;> omega)
   |(simp only;omega)
def sgL (s:ByteArray):Nat->Nat->List (Nat × Nat × Bool)
 |0,_=>[]
 |m+1,i=>if i<s.size then ((sig (rst s i)).1,i,(sig (rst s i)).2.2)::sgL s m (i+(sig (rst s i)).2.1) else []
def sgs (s:ByteArray):List (Nat × Nat × Bool):=sgL s s.size 0
def zhQ {s:ByteArray} {i:Nat} (h: ¬ i<s.size): ∀m,sgL s m i=[]
 |0=>rfl
 |m+1=>by simp[sgL,h]
def zfn {s:ByteArray} {m i:Nat} (h:i<s.size) (hm:s.size<=m+i): ∃k,m=k+1/\sgL s m i=((sig (rst s i)).1,i,(sig (rst s i)).2.2)::sgL s k (i+(sig (rst s i)).2.1)/\s.size<=k+(i+(sig (rst s i)).2.1):=by
 obtain⟨k,rfl⟩: ∃k,m=k+1:=⟨m - 1,by omega⟩
 have:=zdp (rst s i);exact⟨k,rfl,by simp[sgL,h],by omega⟩
abbrev zjS (l:List (Nat × Nat × Bool)):List D:=l.map λx=>D.int .i64 x.1
abbrev zuP (l:List (Nat × Nat × Bool)):List D:=l.map λx=>D.int .i64 x.2.1
def zcO (s:ByteArray): ∀ (m i:Nat),(sgL s m i).length<=m
 |0,_=>yaj _
 |m+1,i=>by
  simp only[sgL];split
  ·have:=zcO s m (i+(sig (rst s i)).2.1)
   simp only[yaf];omega
  ·simp
def zck (s:ByteArray) (hm:s.size<1000000000):R 78 [.d (.str s)] []=
 some ([.arr 0 (sgs s).length,.arr 1 (sgs s).length,.d (.bool ((sgs s).all (·.2.2)))],[.arr 1 (zjS (sgs s)) 0,.arr 1 (zuP (sgs s)) 0]):=by
 refine rg b78 rfl ?_;intro T hT;simp -dsimp -implicitDefEqProofs (disch:=omega)
 generalize hz:zaf _ _ _ _ _ _=z;revert z;refine zaa (σ:=Nat × Nat × List (Nat × Nat × Bool)) (λx=>[(0,.d (.str s)),(5,.arr 0 x.2.2.length),(6,.arr 1 x.2.2.length),(7,.d (.bool (x.2.2.all (·.2.2)))),(8,.d (.int .i64 x.1))]) (λx=>[.arr 1 (zjS x.2.2) 0,.arr 1 (zuP x.2.2) 0]) (λx=>s.size<=x.2.1+x.1/\x.1<=s.size/\sgs s=x.2.2++sgL s x.2.1 x.1/\x.2.2.length<=x.1) (λx=>s.size - x.1) (0,s.size,[]) ?_ ?_ ?_
 ·exact⟨by simp only;omega,yai _,rfl,yai _⟩
 ·simp -dsimp -implicitDefEqProofs (disch:=omega)
 intro T' f hT' ⟨i,m,l⟩ ⟨h1,h2,h3,h4⟩ ih;simp only at h1 h2 h3 h4 ih
 by_cases hi:i<s.size
 ·obtain⟨k,rfl,e1,e2⟩:=zfn hi h1
  have hw:=zc0 (s:=rst s i) (by rw[zaX h2];omega)
  have hp:=zdp (rst s i);rw[zaX h2]at hw;have hr:=zuN (rst s i) (by rw[zaX h2];omega) (by rw[zaX h2];omega)
  have hb:=zuO (rst s i);rw[e1]at h3;generalize hx:sig (rst s i)=x at*;obtain⟨c,w,ok⟩:=x;simp only at e1 e2 hw hp hb h3;have hi':(i:Int)<s.size:=by omega
  cases hal:l.all (λx=>x.2.2)
  all_goals
   simp -dsimp -implicitDefEqProofs (disch:=omega) [hi,hi',hr,sgD,hal]
   refine ih (i+w,k,l++[(c,i,ok)]) _ _ ⟨by simp only;omega,by simp only;omega,by simp only;rw[h3];simp,by simp;omega⟩ (by simp only;omega) ?_
   simp -dsimp -implicitDefEqProofs (disch:=omega) [List.all_append,hal]
 ·have:i=s.size:=by omega
  subst this;subst hT';rw[zhQ (ybx _),yap]at h3;rw[h3]at hT;simp -dsimp -implicitDefEqProofs (disch:=omega)
  simpa -dsimp -implicitDefEqProofs (disch:=omega) using hT
end Go.Am.Ab
namespace Go.Am.Ab
open Go.Proofs
set_option maxHeartbeats 4000000
set_option maxRecDepth 4000
def zAs (s:ByteArray) (i k:Nat):(rst s i)[k]? =s[i+k]? :=by
 by_cases h:i+k<s.size
 ·have h2:k<(rst s i).size:=by simp[rst];omega
  rw[getElem?_pos (rst s i) k h2,getElem?_pos s (i+k) h];exact congrArg some (ycJ h2)
 ·have h2: ¬ k<(rst s i).size:=by simp[rst];omega
  rw[getElem?_neg (rst s i) k h2,getElem?_neg s (i+k) h]
def zEj (s:ByteArray) (i k:Nat):(s.get! (i+k)).toNat=bt (rst s i) k:=by
 unfold bt;rw[zAs]
 by_cases h:i+k<s.size
 ·rw[getElem?_pos s (i+k) h]
  show _=(s[i+k]).toNat
  have:s.get! (i+k)=s[i+k]:=by
   cases s with
   |mk d=>
    show d[i+k]! =d[i+k]
    exact getElem!_pos d (i+k) h
  rw[this]
 ·rw[getElem?_neg s (i+k) h]
  have:s.get! (i+k)=0:=by
   cases s with
   |mk d=>
    show d[i+k]! =0
    exact getElem!_neg d (i+k) h
  rw[this];rfl
def zjT {s:ByteArray} {i:Nat} (h:i<s.size):Utf8.decode s i=((sig (rst s i)).1,(sig (rst s i)).2.1):=by
 have hn:(rst s i).size=s.size - i:=zaX (by omega)
 unfold Utf8.decode sig sgf;simp only[zEj,hn,sgk,sgv,Nat.reduceSub,yaX,ybK,Nat.reduceAdd,Utf8.valid,Utf8.runeError];have l0:=zcr (rst s i) 0;have l1:=zcr (rst s i) 1;have l2:=zcr (rst s i) 2;have l3:=zcr (rst s i) 3;generalize bt (rst s i) 0=b0 at*;generalize bt (rst s i) 1=b1 at*;generalize bt (rst s i) 2=b2 at*;generalize bt (rst s i) 3=b3 at*;generalize s.size=n at*;simp only[yaw,ybr,yaB,ycN,ybU,yaS]
 by_cases r1:b0<128
 ·simp[r1]
 by_cases r2:b0<194
 ·simp only[yac r1]
  rw[yac (show ¬ (194<=b0/\b0<224) by omega),yac (show ¬ (224<=b0/\b0<240) by omega),yac (show ¬ (240<=b0/\b0<245) by omega)]
  (repeat' split) <;> first | rfl | (exfalso;omega)
 by_cases r3:b0<224
 ·simp only[yac r1]
  rw[yag (show 194<=b0/\b0<224 by omega)]
  (repeat' split) <;> first | rfl | (exfalso;omega) | (simp only[yad,yd2];omega)
 by_cases r4:b0<240
 ·simp only[yac r1]
  rw[yac (show ¬ (194<=b0/\b0<224) by omega),yag (show 224<=b0/\b0<240 by omega)]
  (repeat' split) <;> first | rfl | (exfalso;omega) | (simp only[yad,yd2];omega)
 by_cases r5:b0<245
 ·simp only[yac r1]
  rw[yac (show ¬ (194<=b0/\b0<224) by omega),yac (show ¬ (224<=b0/\b0<240) by omega),yag (show 240<=b0/\b0<245 by omega)]
  (repeat' split) <;> first | rfl | (exfalso;omega) | (simp only[yad,yd2];omega)
 ·simp only[yac r1]
  rw[yac (show ¬ (194<=b0/\b0<224) by omega),yac (show ¬ (224<=b0/\b0<240) by omega),yac (show ¬ (240<=b0/\b0<245) by omega)]
  (repeat' split) <;> first | rfl | (exfalso;omega)
def zx0 {s:ByteArray} (hs:0<s.size) (h:(sig s).1=65533):((sig s).2.2=true->3<=s.size/\bt s 0=239/\bt s 1=191/\bt s 2=189)/\((sig s).2.2=false-> ¬ (3<=s.size/\bt s 0=239/\bt s 1=191/\bt s 2=189)):=by
 revert h;unfold sig sgf;simp only[sgk,sgv,Nat.reduceSub,yaX,ybK,Nat.reduceAdd,yaw,yaB,ybU,yaS];have l0:=zcr s 0;have l1:=zcr s 1;have l2:=zcr s 2;have l3:=zcr s 3;generalize bt s 0=b0 at*;generalize bt s 1=b1 at*;generalize bt s 2=b2 at*;generalize bt s 3=b3 at*;generalize s.size=n at*
 (repeat' split) <;> intro h <;> simp only at h <;> refine⟨λe=> ?_,λe=> ?_⟩ <;> first | (cases e;done) | omega
def zAt {s:ByteArray} (h:(sig s).2.2=false):(sig s).1=65533/\(sig s).2.1=1:=by
 revert h;unfold sig sgf
 (repeat' split) <;> intro h <;> first | (cases h;done) | exact⟨rfl,rfl⟩
end Go.Am.Ab
namespace Go.Am.Ab
open Go.Proofs
set_option maxHeartbeats 4000000
set_option maxRecDepth 4000
def zk2 (s:ByteArray) (hm:s.size<1000000000):R 135 [.d (.str s),.d (.str ⟨#[239,191,189]⟩)] []=some ([.d (.bool (decide (3<=s.size/\bt s 0=239/\bt s 1=191/\bt s 2=189)))],[]):=by
 have e:R 168 [.d (.str s),.d (.str ⟨#[239,191,189]⟩)] []=some ([.d (.bool (decide (3<=s.size/\bt s 0=239/\bt s 1=191/\bt s 2=189)))],[]):=by
  have hz:(ByteArray.mk #[239,191,189]).size=3:=rfl
  by_cases h:3<=s.size
  ·have h':(3:Int)<=s.size:=by omega
   have hb:((s.extract 0 3).toList == [239,191,189])=decide (3<=s.size/\bt s 0=239/\bt s 1=191/\bt s 2=189):=by
    have e1:(s.extract 0 3).toList=[s[0],s[1],s[2]]:=by
     rw[ByteArray.toList_eq];apply ybV;intro k;have hl:(s.extract 0 3).data.toList.length=3:=by
      have:(s.extract 0 3).size=3:=by rw[ybG];omega
      rw[ybi];exact this
     by_cases hk:k<3
     ·have hk2:k<(s.extract 0 3).size:=by rw[ybG];omega
      rw[yak (by omega)]
      have e2:(s.extract 0 3).data.toList[k]'(by omega)=(s.extract 0 3)[k]'hk2:=rfl
      rw[e2,ycJ hk2];have:k=0\/k=1\/k=2:=by omega
      rcases this with rfl | rfl | rfl <;> rfl
     ·rw[yaL (by omega),yaL (by simp only[yaf,yaz];omega)]
    rw[e1];have b0:=zcZ (show 0<s.size by omega)
    have b1:=zcZ (show 1<s.size by omega)
    have b2:=zcZ (show 2<s.size by omega)
    rw[<- b0,<- b1,<- b2];rw[Bool.eq_iff_iff];simp only[ycN,ycp,yd2,yaB,<- UInt8.toNat_inj];exact⟨λ⟨a,b,c⟩=>⟨h,a,b,c⟩,λ⟨_,a,b,c⟩=>⟨a,b,c⟩⟩
   refine rg zI0 rfl ?_;intro T hT;simp -dsimp -implicitDefEqProofs (disch:=omega) [hz,h',h]
   rw[hb];simpa -dsimp -implicitDefEqProofs (disch:=omega) using hT
  ·have h': ¬ (3:Int)<=s.size:=by omega
   have hd:decide (3<=s.size/\bt s 0=239/\bt s 1=191/\bt s 2=189)=false:=by simp[h]
   rw[hd];refine rg zI0 rfl ?_;intro T hT;simp -dsimp -implicitDefEqProofs (disch:=omega) [hz,h']
   simpa -dsimp -implicitDefEqProofs (disch:=omega) using hT
 refine rg zJ3 rfl ?_;intro T hT;simp -dsimp -implicitDefEqProofs (disch:=omega) [e]
 simpa -dsimp -implicitDefEqProofs (disch:=omega) using hT
def zlD (s:ByteArray) (hm:s.size<1000000000):R 141 [.d (.str s)] []=some ([.d (.int .i64 (sgs s).length)],[]):=by
 refine rg zJ5 rfl ?_;intro T hT;simp -dsimp -implicitDefEqProofs (disch:=omega)
 generalize hz:zaf _ _ _ _ _ _=z;revert z;refine zaa (σ:=Nat × Nat × Nat) (λx=>[(3,.d (.int .i64 x.2.2)),(5,.ptr 0 0)]) (λx=>[.siter s x.1]) (λx=>s.size<=x.2.1+x.1/\x.1<=s.size/\(sgs s).length=x.2.2+(sgL s x.2.1 x.1).length/\x.2.2<=x.1) (λx=>s.size - x.1) (0,s.size,0) ?_ ?_ ?_
 ·exact⟨by simp only;omega,yai _,by simp[sgs],yai _⟩
 ·simp -dsimp -implicitDefEqProofs (disch:=omega)
 intro T' f hT' ⟨i,m,n⟩ ⟨h1,h2,h3,h4⟩ ih;simp only at h1 h2 h3 h4 ih
 by_cases hi:i<s.size
 ·obtain⟨k,rfl,e1,e2⟩:=zfn hi h1
  have hw:=zc0 (s:=rst s i) (by rw[zaX h2];omega)
  have hp:=zdp (rst s i);rw[zaX h2]at hw;have hd:=zjT hi;rw[e1]at h3;generalize sig (rst s i)=x at*;obtain⟨c,w,ok⟩:=x;simp only[yaf]at e2 hw hp h3 hd;simp -dsimp -implicitDefEqProofs (disch:=omega) [hi,hd]
  refine ih (i+w,k,n+1) _ _ ⟨by simp only;omega,by simp only;omega,by simp only;omega,by simp only;omega⟩ (by simp only;omega) ?_
  simp -dsimp -implicitDefEqProofs (disch:=omega)
 ·have:i=s.size:=by omega
  subst this;subst hT';rw[zhQ (ybx _)]at h3;simp only[yaz,ycu]at h3;rw[h3]at hT;simp -dsimp -implicitDefEqProofs (disch:=omega)
  simpa -dsimp -implicitDefEqProofs (disch:=omega) using hT
def zhR (s:ByteArray) (hm:s.size<1000000000):R 94 [.d (.str s)] []=some ([.d (.bool ((sgs s).all (·.2.2)))],[]):=by
 refine rg b94 rfl ?_;intro T hT;simp -dsimp -implicitDefEqProofs (disch:=omega)
 generalize hz:zaf _ _ _ _ _ _=z;revert z;refine zaa (σ:=Nat × Nat) (λx=>[(0,.d (.str s)),(6,.ptr 0 0)]) (λx=>[.siter s x.1]) (λx=>s.size<=x.2+x.1/\x.1<=s.size/\(sgs s).all (·.2.2)=(sgL s x.2 x.1).all (·.2.2)) (λx=>s.size - x.1) (0,s.size) ?_ ?_ ?_
 ·exact⟨by simp only;omega,yai _,rfl⟩
 ·simp -dsimp -implicitDefEqProofs (disch:=omega)
 intro T' f hT' ⟨i,m⟩ ⟨h1,h2,h3⟩ ih;simp only at h1 h2 h3 ih
 by_cases hi:i<s.size
 ·obtain⟨k,rfl,e1,e2⟩:=zfn hi h1
  have hw:=zc0 (s:=rst s i) (by rw[zaX h2];omega)
  have hp:=zdp (rst s i);have hf:= @zx0 (rst s i) (by rw[zaX h2];omega)
  have hbad:= @zAt (rst s i);have hpre:=zk2 (rst s i) (by rw[zaX h2];omega)
  rw[zaX h2]at hw;have hd:=zjT hi;rw[e1]at h3;have hf':(sig (rst s i)).1=65533->decide (3<=(rst s i).size/\bt (rst s i) 0=239/\bt (rst s i) 1=191/\bt (rst s i) 2=189)=(sig (rst s i)).2.2:=λh=>by
   cases hok:(sig (rst s i)).2.2 with
   |false=>exact yaO ((hf h).2 hok)
   |true=>exact yaI ((hf h).1 hok)
  clear hf;generalize decide (3<=(rst s i).size/\bt (rst s i) 0=239/\bt (rst s i) 1=191/\bt (rst s i) 2=189)=pre at hpre hf';generalize sig (rst s i)=x at*;obtain⟨c,w,ok⟩:=x;simp only[ycB]at e2 hw hp h3 hd hf' hbad
  by_cases hc:c=65533
  ·subst hc
   have hpo:=hf' rfl;subst hpo;cases pre with
   |true=>
    simp -dsimp -implicitDefEqProofs (disch:=omega) [hi,hd,hpre]
    refine ih (i+w,k) _ _ ⟨by simp only;omega,by simp only;omega,by simpa using h3⟩ (by simp only;omega) ?_
    simp -dsimp -implicitDefEqProofs (disch:=omega)
   |false=>
    subst hT';have h3':(sgs s).all (·.2.2)=false:=by simpa using h3
    rw[h3']at hT;simp -dsimp -implicitDefEqProofs (disch:=omega) [hi,hd,hpre]
    simpa -dsimp -implicitDefEqProofs (disch:=omega) using hT
  ·have hok:ok=true:=by
    cases ok with
    |true=>rfl
    |false=>exact absurd (hbad rfl).1 hc
   subst hok;have hc': ¬ (c:Int)=65533:=by omega
   simp -dsimp -implicitDefEqProofs (disch:=omega) [hi,hd,hc,hc']
   refine ih (i+w,k) _ _ ⟨by simp only;omega,by simp only;omega,by simpa using h3⟩ (by simp only;omega) ?_
   simp -dsimp -implicitDefEqProofs (disch:=omega)
 ·have:i=s.size:=by omega
  subst this;subst hT';rw[zhQ (ybx _)]at h3;have h3':(sgs s).all (·.2.2)=true:=by simpa using h3
  rw[h3']at hT;simp -dsimp -implicitDefEqProofs (disch:=omega)
  simpa -dsimp -implicitDefEqProofs (disch:=omega) using hT
end Go.Am.Ab
namespace Go.Am.Ab
open Go.Proofs
set_option maxHeartbeats 4000000
set_option maxRecDepth 4000
def frs (s:ByteArray) (n:Nat):ByteArray:=
 match (sgs s)[n]? with
 |some x=>s.extract 0 x.2.1
 |none=>s
def zlE (s:ByteArray) (hm:s.size<1000000000) (n:Nat) (hn:n<=1000):R 96 [.d (.str s),.d (.int .i64 n)] []=some ([.d (.str (frs s n))],[]):=by
 refine rg b96 rfl ?_;intro T hT;simp -dsimp -implicitDefEqProofs (disch:=omega)
 generalize hz:zaf _ _ _ _ _ _=z;revert z;refine zaa (σ:=Nat × Nat × List (Nat × Nat × Bool)) (λx=>[(0,.d (.str s)),(1,.d (.int .i64 ((n:Int) - x.2.2.length))),(7,.ptr 0 0)]) (λx=>[.siter s x.1]) (λx=>s.size<=x.2.1+x.1/\x.1<=s.size/\sgs s=x.2.2++sgL s x.2.1 x.1/\x.2.2.length<=n) (λx=>s.size - x.1) (0,s.size,[]) ?_ ?_ ?_
 ·exact⟨by simp only;omega,yai _,rfl,yai _⟩
 ·simp -dsimp -implicitDefEqProofs (disch:=omega)
 intro T' f hT' ⟨i,m,l⟩ ⟨h1,h2,h3,h4⟩ ih;simp only at h1 h2 h3 h4 ih
 by_cases hi:i<s.size
 ·obtain⟨k,rfl,e1,e2⟩:=zfn hi h1
  have hw:=zc0 (s:=rst s i) (by rw[zaX h2];omega)
  have hp:=zdp (rst s i);rw[zaX h2]at hw;have hd:=zjT hi;rw[e1]at h3;generalize sig (rst s i)=x at*;obtain⟨c,w,ok⟩:=x;simp only at e2 hw hp h3 hd
  by_cases hc:l.length=n
  ·have hc':(n:Int) - l.length<1:=by omega
   have hf:frs s n=s.extract 0 i:=by
    unfold frs;rw[h3,<- hc,yal (yaj _),yba];rfl
   rw[hf]at hT;have hi2:i<=s.size:=h2;subst hT';simp -dsimp -implicitDefEqProofs (disch:=omega) [hi,hd,hc',hi2]
   simpa -dsimp -implicitDefEqProofs (disch:=omega) using hT
  ·have hc': ¬ (n:Int) - l.length<1:=by omega
   have hs:(n:Int) - l.length - 1=(n:Int) - ((l.length:Int)+1):=by omega
   simp -dsimp -implicitDefEqProofs (disch:=omega) [hi,hd,hc',hs]
   refine ih (i+w,k,l++[(c,i,ok)]) _ _ ⟨by simp only;omega,by simp only;omega,by simp only;rw[h3];simp,by simp only[yae,yaf,yaz];omega⟩ (by simp only;omega) ?_
   simp -dsimp -implicitDefEqProofs (disch:=omega)
 ·have:i=s.size:=by omega
  subst this;subst hT';rw[zhQ (ybx _),yap]at h3;have hf:frs s n=s:=by
   unfold frs;rw[h3,yaL h4]
  rw[hf]at hT;simp -dsimp -implicitDefEqProofs (disch:=omega)
  simpa -dsimp -implicitDefEqProofs (disch:=omega) using hT
def zeT (s:ByteArray): ∀ (m i:Nat), ∀x∈sgL s m i,x.2.1<s.size
 |0,_,x,h=>by cases h
 |m+1,i,x,h=>by
  simp only[sgL]at h;split at h
  ·rename_i hi
   rcases List.mem_cons.1 h with rfl | h
   ·exact hi
   ·exact zeT s m _ x h
  ·cases h
def zpY (s:ByteArray) (hm:s.size<1000000000) (n:Nat) (hn:n<=1000) (h0:0<n):R 79 [.d (.str s),.d (.int .i64 n)] []=some ([.d (.str (frs s n))],[]):=by
 have hs:=zck s hm;have hl:(sgs s).length<=s.size:=zcO s s.size 0;have h0': ¬ (n:Int)<1:=by omega
 by_cases hc:n<(sgs s).length
 ·have hc': ¬ ((sgs s).length:Int)<=n:=by omega
  have hpl:=zeT s s.size 0 _ (yam hc);have hg:(sgs s)[n]? =some (sgs s)[n]:=yak hc;have hf:frs s n=s.extract 0 (sgs s)[n].2.1:=by
   unfold frs;rw[hg]
  have hle:(sgs s)[n].2.1<=s.size:=Nat.le_of_lt hpl;rw[hf];generalize sgs s=L at*;refine rg b79 rfl ?_;intro T hT;simp -dsimp -implicitDefEqProofs (disch:=omega) [hs,h0',hc,hc',hg,hle]
  simpa -dsimp -implicitDefEqProofs (disch:=omega) using hT
 ·have hc':((sgs s).length:Int)<=n:=by omega
  have hf:frs s n=s:=by
   unfold frs;rw[yaL (by omega)]
  rw[hf];generalize sgs s=L at*;refine rg b79 rfl ?_;intro T hT;simp -dsimp -implicitDefEqProofs (disch:=omega) [hs,h0',hc,hc']
  simpa -dsimp -implicitDefEqProofs (disch:=omega) using hT
end Go.Am.Ab
namespace Go.Am.Ab
open Go.Proofs
set_option maxHeartbeats 4000000
set_option maxRecDepth 4000
def zIe {a b:ByteArray} {k j:Nat} (h:a[k]? =b[j]?):bt a k=bt b j:=by unfold bt;rw[h]
def zjU {a b:ByteArray} (hs:a.size=b.size) (h: ∀k,k<a.size->bt a k=bt b k):a=b:=by
 apply ByteArray.ext;apply Array.ext
 ·exact hs
 ·intro i h1 h2
  have:=h i h1;rw[<- zcZ (s:=a) h1,<- zcZ (s:=b) h2]at this;exact UInt8.toNat_inj.1 this
def zdW (s:ByteArray) (a b k:Nat) (hb:b<=s.size) (hk:a+k<b):bt (s.extract a b) k=bt s (a+k):=by
 apply zIe;have h2:k<(s.extract a b).size:=by rw[ybG];omega
 rw[getElem?_pos (s.extract a b) k h2,getElem?_pos s (a+k) (by omega)]
 exact congrArg some (ycJ h2)
def zzp (x y:ByteArray) (k:Nat) (hk:k<x.size+y.size):bt (x++y) k=if k<x.size then bt x k else bt y (k - x.size):=by
 have hs:(x++y).size=x.size+y.size:=yb5;split
 ·rename_i h
  rw[<- zcZ (s:=x++y) (by omega),<- zcZ h,ByteArray.getElem_append_left h]
 ·rename_i h
  rw[<- zcZ (s:=x++y) (by omega),<- zcZ (s:=y) (by omega),ByteArray.getElem_append_right (by omega)]
def za5 (s:ByteArray) (a b:Nat) (hb:b<=s.size):(s.extract a b).size=b - a:=by rw[ybG];omega
def zpZ (s:ByteArray) (a b c d:Nat) (hb:b<=s.size) (hd:a+d<=b):(s.extract a b).extract c d=s.extract (a+c) (a+d):=by
 have h1:=za5 s a b hb;apply zjU
 ·rw[za5 _ _ _ (by omega),za5 _ _ _ (by omega)];omega
 ·intro k hk
  rw[za5 _ _ _ (by omega)]at hk
  rw[zdW _ c d k (by omega) (by omega),zdW s a b (c+k) hb (by omega),zdW s (a+c) (a+d) k (by omega) (by omega),yaY]
def zi6 (s:ByteArray) (a b c:Nat) (h1:a<=b) (h2:b<=c) (h3:c<=s.size):s.extract a b++s.extract b c=s.extract a c:=by
 have e1:=za5 s a b (by omega)
 have e2:=za5 s b c h3;apply zjU
 ·rw[yb5,za5 s a c h3];omega
 ·intro k hk
  rw[yb5]at hk;rw[zzp _ _ _ hk,zdW s a c k h3 (by omega)]
  split
  ·rw[zdW s a b k (by omega) (by omega)]
  ·rw[zdW s b c _ h3 (by omega)]
   congr 1;omega
def zuQ {s:ByteArray} {k:Nat} (hk:k<=s.size): ∀j,j<k->sgk (s.extract 0 k) j=sgk s j
 |0,_=>rfl
 |j+1,h=>by
  simp only[sgk];rw[zuQ hk j (by omega),zdW s 0 k (j+1) hk (by omega),yaX]
def zuR {s:ByteArray} {k c:Nat} (hk:k<=s.size): ∀j,j<k->sgv (s.extract 0 k) c j=sgv s c j
 |0,_=>rfl
 |j+1,h=>by
  simp only[sgv];rw[zuR hk j (by omega),zdW s 0 k (j+1) hk (by omega),yaX]
def zAu {s:ByteArray} {k n low c:Nat} (hn:0<n) (hk:k<=s.size) (h:(sgf s n low c).2.2=true) (hw:(sgf s n low c).2.1<=k):sgf (s.extract 0 k) n low c=sgf s n low c:=by
 revert h hw;unfold sgf;rw[za5 s 0 k hk,ydQ];split
 ·intro h;cases h
 ·rename_i h1
  split
  ·intro h;cases h
  ·rename_i h2
   intro _ hw;simp only at hw;rw[zuQ hk _ (by omega),zuR hk _ (by omega),yac (λh=>h1 (h.imp (λ_=>by omega) id)),yac h2]
def zAv {s:ByteArray} {k:Nat} (hk:k<=s.size) (h:(sig s).2.2=true) (hw:(sig s).2.1<=k):sig (s.extract 0 k)=sig s:=by
 have hp:=zdp s;have h0:bt (s.extract 0 k) 0=bt s 0:=by rw[zdW s 0 k 0 hk (by omega)]
 revert h hw;unfold sig;rw[h0]
 (repeat' split)
 all_goals first
  |(intro _ _;rfl)
  |(intro h hw;exact zAu (by omega) hk h hw)
def zuS (s:ByteArray) (x y:Nat) (hs:2<=s.size) (h0:bt s 0=x) (h1:bt s 1=y):(⟨#[UInt8.ofNat x,UInt8.ofNat y]⟩:ByteArray)=s.extract 0 2:=by
 have l0:=zcr s 0;have l1:=zcr s 1;apply zjU
 ·rw[za5 s 0 2 hs];rfl
 ·intro k hk
  have hk':k<2:=hk;rw[zdW s 0 2 k hs (by omega),yaX]
  have:k=0\/k=1:=by omega
  rcases this with rfl | rfl
  ·rw[h0];exact zcA (by omega)
  ·rw[h1];exact zcA (by omega)
def zx1 (s:ByteArray) (x:Nat) (hs:1<=s.size) (h0:bt s 0=x):(⟨#[UInt8.ofNat x]⟩:ByteArray)=s.extract 0 1:=by
 have l0:=zcr s 0;apply zjU
 ·rw[za5 s 0 1 hs];rfl
 ·intro k hk
  have hk':k<1:=hk;rw[zdW s 0 1 k hs (by omega),yaX]
  have:k=0:=by omega
  subst this;rw[h0];exact zcA (by omega)
def zp0 (s:ByteArray) (x y z:Nat) (hs:3<=s.size) (h0:bt s 0=x) (h1:bt s 1=y) (h2:bt s 2=z):(⟨#[UInt8.ofNat x,UInt8.ofNat y,UInt8.ofNat z]⟩:ByteArray)=s.extract 0 3:=by
 have l0:=zcr s 0;have l1:=zcr s 1;have l2:=zcr s 2;apply zjU
 ·rw[za5 s 0 3 hs];rfl
 ·intro k hk
  have hk':k<3:=hk;rw[zdW s 0 3 k hs (by omega),yaX]
  have:k=0\/k=1\/k=2:=by omega
  rcases this with rfl | rfl | rfl
  ·rw[h0];exact zcA (by omega)
  ·rw[h1];exact zcA (by omega)
  ·rw[h2];exact zcA (by omega)
def zsP (s:ByteArray) (x y z u:Nat) (hs:4<=s.size) (h0:bt s 0=x) (h1:bt s 1=y) (h2:bt s 2=z) (h3:bt s 3=u):(⟨#[UInt8.ofNat x,UInt8.ofNat y,UInt8.ofNat z,UInt8.ofNat u]⟩:ByteArray)=s.extract 0 4:=by
 have l0:=zcr s 0;have l1:=zcr s 1;have l2:=zcr s 2;have l3:=zcr s 3;apply zjU
 ·rw[za5 s 0 4 hs];rfl
 ·intro k hk
  have hk':k<4:=hk;rw[zdW s 0 4 k hs (by omega),yaX]
  have:k=0\/k=1\/k=2\/k=3:=by omega
  rcases this with rfl | rfl | rfl | rfl
  ·rw[h0];exact zcA (by omega)
  ·rw[h1];exact zcA (by omega)
  ·rw[h2];exact zcA (by omega)
  ·rw[h3];exact zcA (by omega)
def zuT (c:Nat):Utf8.valid c=decide (c<55296\/(57344<=c/\c<=1114111)):=by
 unfold Utf8.valid;rw[Bool.eq_iff_iff];simp only[ybr,yaw,yaB];omega
def ziz {c:Nat} (hv:c<55296\/(57344<=c/\c<=1114111)):Utf8.encode (c:Int)=if c<128 then ⟨#[UInt8.ofNat c]⟩ else if c<2048 then ⟨#[UInt8.ofNat (192+c / 64),UInt8.ofNat (128+c % 64)]⟩ else if c<65536 then ⟨#[UInt8.ofNat (224+c / 4096),UInt8.ofNat (128+c / 64 % 64),UInt8.ofNat (128+c % 64)]⟩ else ⟨#[UInt8.ofNat (240+c / 262144),UInt8.ofNat (128+c / 4096 % 64),UInt8.ofNat (128+c / 64 % 64),UInt8.ofNat (128+c % 64)]⟩:=by
 unfold Utf8.encode;rw[zuT,yaI hv];simp only[ybk,yat]
def zzq {s:ByteArray} (hs:0<s.size) (h:(sig s).2.2=true):Utf8.encode ((sig s).1:Nat)=s.extract 0 (sig s).2.1:=by
 revert h;unfold sig sgf;simp only[sgk,sgv,Nat.reduceSub,yaX,ybK,Nat.reduceAdd];have l0:=zcr s 0;have l1:=zcr s 1;have l2:=zcr s 2;have l3:=zcr s 3
 by_cases r1:bt s 0<128
 ·intro _
  simp only[yag r1];rw[ziz (by omega),yag r1]
  exact zx1 s _ (by omega) rfl
 simp only[yac r1]
 by_cases r3:194<=bt s 0/\bt s 0<224
 ·simp only[yag r3]
  split
  ·intro h;cases h
  ·rename_i h1
   split
   ·intro h;cases h
   ·rename_i h2
    intro _;simp only[ybU,yaS]at h1;simp only;rw[ziz (by omega),yac (by omega),yag (by omega)]
    exact zuS s _ _ (by omega) (by omega) (by omega)
 simp only[yac r3]
 by_cases r4:224<=bt s 0/\bt s 0<240
 ·simp only[yag r4]
  split
  ·intro h;cases h
  ·rename_i h1
   split
   ·intro h;cases h
   ·rename_i h2
    intro _;simp only[ybU,yaS]at h1;simp only;rw[ziz (by omega),yac (by omega),yac (by omega),yag (by omega)]
    exact zp0 s _ _ _ (by omega) (by omega) (by omega) (by omega)
 simp only[yac r4]
 by_cases r5:240<=bt s 0/\bt s 0<245
 ·simp only[yag r5]
  split
  ·intro h;cases h
  ·rename_i h1
   split
   ·intro h;cases h
   ·rename_i h2
    intro _;simp only[ybU,yaS]at h1;simp only;rw[ziz (by omega),yac (by omega),yac (by omega),yac (by omega)]
    exact zsP s _ _ _ _ (by omega) (by omega) (by omega) (by omega) (by omega)
 ·simp only[yac r5]
  intro h;cases h
end Go.Am.Ab
namespace Go.Am.Ab
open Go.Proofs
set_option maxHeartbeats 4000000
set_option maxRecDepth 4000
def zuU (s:ByteArray): ∀ (m i:Nat), ∀x∈sgL s m i,i<=x.2.1
 |0,_,x,h=>by cases h
 |m+1,i,x,h=>by
  simp only[sgL]at h;split at h
  ·rcases List.mem_cons.1 h with rfl | h
   ·exact yaj _
   ·have:=zuU s m _ x h
    omega
  ·cases h
def zjV (s:ByteArray) (p:Nat): ∀ (l:List (Nat × Nat × Bool)) (m i:Nat) (x:Nat × Nat × Bool) (zay:List (Nat × Nat × Bool)) (F:Nat),sgL s m i=l++x::zay->(∀y∈l,y.2.2=true)->p=x.2.1->p<=F+i->
 zev (s.extract 0 p) F i=l.map (·.1)/\ ∀acc:ByteArray,(l.map λy=>(y.1:Int)).foldl (λs n=>s++Utf8.encode n) acc=acc++s.extract i p
 |[],m,i,x,zay,F,h,_,hp,hF=>by
  cases m with
  |zero=>simp[sgL]at h
  |succ m=>
   simp only[sgL]at h;split at h
   ·rename_i hi
    simp only[ybT,ycp]at h;have hpi:p=i:=by rw[hp,<- h.1]
    subst hpi;have hsz:=za5 s 0 p (by omega)
    refine⟨?_,λacc=> ?_⟩
    ·cases F with
     |zero=>rfl
     |succ F=>simp[zev,hsz]
    ·apply zjU
     ·rw[yb5,za5 s p p (by omega)];simp
     ·intro k hk
      have hk':k<acc.size:=hk;rw[zzp _ _ _ (by omega),yag hk'];rfl
   ·cases h
 |y::l,m,i,x,zay,F,h,hok,hp,hF=>by
  cases m with
  |zero=>simp[sgL]at h
  |succ m=>
   simp only[sgL]at h;split at h
   ·rename_i hi
    simp only[ya9,ycp]at h;obtain⟨rfl,h⟩:=h;have hge:i+(sig (rst s i)).2.1<=p:=by
     rw[hp];exact zuU s m _ x (by rw[h];simp)
    have hps:p<s.size:=by
     rw[hp];exact zeT s m _ x (by rw[h];simp)
    have hw:=zdp (rst s i);have hsz:=za5 s 0 p (by omega)
    obtain⟨G,rfl⟩: ∃G,F=G+1:=⟨F - 1,by omega⟩
    have hk:(sig (rst s i)).2.2=true:=hok ((sig (rst s i)).1,i,(sig (rst s i)).2.2) (ybb ..);have hrs:=zaX (s:=s) (i:=i) (by omega)
    have hcut:rst (s.extract 0 p) i=(rst s i).extract 0 (p - i):=by
     unfold rst;rw[hsz,zpZ s 0 p i (p - 0) (by omega) (by omega),zpZ s i s.size 0 (p - i) (by omega) (by omega)]
     congr 1 <;> omega
    have hdec:Utf8.decode (s.extract 0 p) i=((sig (rst s i)).1,(sig (rst s i)).2.1):=by
     rw[zjT (by omega),hcut,zAv (by omega) hk (by omega)]
    obtain⟨ih1,ih2⟩:=zjV s p l m _ x zay G h (λy hy=>hok y (yaZ _ hy)) hp (by omega)
    refine⟨?_,λacc=> ?_⟩
    ·simp only[zev,hdec]
     rw[yag (by omega),ih1]
     rfl
    ·have henc:=zzq (s:=rst s i) (by omega) hk
     have hext:(rst s i).extract 0 (sig (rst s i)).2.1=s.extract i (i+(sig (rst s i)).2.1):=by
      have:=zc0 (s:=rst s i) (by omega)
      rw[zpZ s i s.size 0 _ (by omega) (by omega),ycu]
     simp only[yaV,ybc];rw[ih2,henc,hext,ByteArray.append_assoc,zi6 s i _ p (by omega) hge (by omega)]
   ·cases h
def nxt (c:Nat):Nat:=if c=55295 then 57344 else c+1
def zjW (s:ByteArray) (L:List (Nat × Nat × Bool)):Nat->Option ByteArray
 |0=>none
 |k+1=>
  match L[k]? with
  |some x=>if x.1<1114111 then some (s.extract 0 x.2.1++Utf8.encode (nxt x.1:Nat)) else zjW s L k
  |none=>none
def abv (s:ByteArray) (n:Nat):ByteArray × Bool:=
 if (sgs s).all (·.2.2)=false then (⟨#[]⟩,false) else
 if (sgs s).length<=n then (s,true) else
 match zjW s (sgs s) n with
 |some t=>(t,true)
 |none=>(⟨#[]⟩,false)
def zrb {x:Int} (h1: -2147483648<=x) (h2:x<=2147483647):IntKind.i32.wrap x=x:=by
 simp[IntKind.wrap,IntKind.signed,IntKind.bits];omega
def zsQ (c:Nat) (hc:c<=1114111):R 142 [.d (.int .i32 c)] []=some ([.d (.int .i32 (nxt c:Nat)),.d (.bool (decide (c<1114111)))],[]):=by
 obtain⟨m,hm⟩: ∃m,m=nxt c:=⟨_,rfl⟩;rw[<- hm];unfold nxt at hm
 by_cases h:c=55295
 ·subst h
  rw[yag rfl]at hm;subst hm;refine rg zH9 rfl ?_;intro T hT;simp -dsimp -implicitDefEqProofs (disch:=omega)
  simpa -dsimp -implicitDefEqProofs (disch:=omega) using hT
 ·have h': ¬ (c:Int)=55295:=by omega
  rw[yac h]at hm;have hm':(c:Int)+1=m:=by omega
  clear hm
  by_cases h2:c<1114111
  ·have h2':(c:Int)<1114111:=by omega
   rw[yaI h2];refine rg zH9 rfl ?_;intro T hT;simp -dsimp -implicitDefEqProofs (disch:=omega) [h',h2',zrb,hm']
   simpa -dsimp -implicitDefEqProofs (disch:=omega) using hT
  ·have h2': ¬ (c:Int)<1114111:=by omega
   rw[yaO h2];refine rg zH9 rfl ?_;intro T hT;simp -dsimp -implicitDefEqProofs (disch:=omega) [h',h2',zrb,hm']
   simpa -dsimp -implicitDefEqProofs (disch:=omega) using hT
end Go.Am.Ab
