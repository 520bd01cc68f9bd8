/- Texts that fit to a pattern; what a predicate answers of a row. -/
import Derived.Test.YtibdiacpdmhmnaaGreatDoorSignsB
import Derived.Test.YtibdiacpdmhmnaaGreatDoorValsA
import Derived.Test.YtibdiacpdmhmnaaGreatDoorPredA
import Derived.Test.YtibdiacpdmhmnaaGreatDoorColE
import Derived.Test.YtibdiacpdmhmnaaGreatDoorFileB
set_option linter.all false
namespace Go.Am.Ab
open Go.Proofs
set_option maxHeartbeats 16000000
set_option maxRecDepth 4000
def zo3 (s:ByteArray): ∀ (m i:Nat),zev s m i=(sgL s m i).map (·.1)
 |0,_=>rfl
 |m+1,i=>by
  simp only[zev,sgL];split
  ·rename_i h
   rw[zjT h,yaV,zo3 s m]
  ·rfl
def sgN (s:ByteArray):List Nat:=(sgs s).map (·.1)
def ztK (s:ByteArray):zeF s=sgN s:=zo3 s s.size 0
def lkN (p:Nat) (S:Nat->Nat) (F:Nat->Bool):Nat->Bool
 |0=>decide (p=37) && F 0
 |i+1=>if p=37 then F (i+1) || lkN p S F i else if p=95 then F i else F i && decide (S i=p)
def lkF (S:Nat->Nat) (P:List Nat) (F:Nat->Bool):Nat->Bool:=P.foldl (λF p=>lkN p S F) F
def gN (S:List Nat) (i:Nat):Nat:=S.getD i 0
def zrX {S:List Nat} {i:Nat} (h:i<S.length):S[i]=gN S i:=by simp[gN,yas,h]
def lk (S P:List Nat):Bool:=lkF (gN S) P (λi=>decide (i=0)) S.length
def gl (F:Nat->Bool) (n i:Nat):List D:=(List.range (n+1)).map λk=> .bool (decide (k<i) && F k)
@[simp] def zo4 (F:Nat->Bool) (n i:Nat):(gl F n i).length=n+1:=by simp[gl]
def zeA {F:Nat->Bool} {n i k:Nat} (h:k<(gl F n i).length):(gl F n i)[k]= .bool (decide (k<i) && F k):=by simp[gl]
def zk8 {F:Nat->Bool} {n i k:Nat} (h:k<n+1):(gl F n i)[k]? =some (.bool (decide (k<i) && F k)):=by
 rw[yak (by simpa using h),zeA]
def zo5 {F:Nat->Bool} {n i:Nat}:(gl F n i).set i (.bool (F i))=gl F n (i+1):=by
 refine ybO (by simp) λk h1 h2=> ?_
 rw[List.getElem_set,zeA,zeA];split
 ·rename_i h
  subst h;simp
 ·rename_i h
  congr 2;rw[ydP];omega
def znc (F:Nat->Bool) (n:Nat):List.replicate (n+1) (D.bool false)=gl F n 0:=by
 refine ybO (by simp) λk h1 h2=> ?_
 rw[zeA,List.getElem_replicate];simp
def zrY (n:Nat) (i:Nat):gl (λi=>decide (i=0)) n (i+1)=gl (λi=>decide (i=0)) n 1:=by
 refine ybO (by simp) λk h1 h2=> ?_
 rw[zeA,zeA];congr 1
 by_cases h:k=0
 ·subst h;simp
 ·simp[h]
def ztL (s t:ByteArray) (hs:s.size<1000000000) (ht:t.size<1000000000):R 157 [.d (.str s),.d (.str t)] []=some ([.d (.bool (lk (sgN s) (sgN t)))],[]):=by
 have hrun:=ztK s;have hSl:(sgN s).length<=s.size:=by unfold sgN sgs;rw[yah];exact zcO s s.size 0
 have hPt:sgN t=(sgL t t.size 0).map (·.1):=rfl
 unfold lk;generalize sgN s=S at*;obtain⟨n,hn⟩: ∃n,S.length=n:=⟨_,rfl⟩;obtain⟨F0,hF0⟩: ∃F0:Nat->Bool,F0=λi=>decide (i=0):=⟨_,rfl⟩
 rw[<- hF0,hn];have hf0:(List.replicate (n+1) (D.bool false)).set 0 (.bool true)=gl F0 n (n+1):=by
  rw[znc F0,show D.bool true= .bool (F0 0) by rw[hF0];rfl,zo5,hF0]
  exact (zrY n n).symm
 have hrl:(S.map λ(c:Nat)=>D.int .i32 c).length=n:=by rw[yah,hn]
 refine rg zKa rfl ?_;intro T hT;simp -dsimp -implicitDefEqProofs (disch:=omega) [hrun,hn]
 generalize hz:zaf _ _ _ _ _ _=z;revert z;refine zaa (σ:=(Nat->Bool) × Nat × Nat) (λx=>[(5,.arr 0 n),(6,.arr 1 (n+1)),(21,.ptr 2 0)]) (λx=>[.arr 1 (S.map λ(c:Nat)=>D.int .i32 c) 0,.arr 1 (gl x.1 n (n+1)) 0,.siter t x.2.1]) (λx=>t.size<=x.2.2+x.2.1/\x.2.1<=t.size/\lkF (gN S) (sgN t) F0 n=lkF (gN S) ((sgL t x.2.2 x.2.1).map (·.1)) x.1 n) (λx=>t.size - x.2.1) (F0,0,t.size) ?_ ?_ ?_
 ·exact⟨by simp only;omega,yai _,by rw[hPt]⟩
 ·simp -dsimp -implicitDefEqProofs (disch:=omega) [<- hf0,hn,hrl]
 intro T' f' hT' ⟨F,i,m⟩ ⟨h1,h2,h3⟩ ih;simp only at h1 h2 h3 ih
 by_cases hi:i<t.size
 ·obtain⟨k,rfl,e1,e2⟩:=zfn hi h1
  have hw:=zc0 (s:=rst t i) (by rw[zaX h2];omega)
  have hp:=zdp (rst t i);have hcl:=zuO (rst t i);rw[zaX h2]at hw;have hd:=zjT hi;rw[e1]at h3;generalize sig (rst t i)=x at*;obtain⟨c,w,ok⟩:=x;simp only[yaV]at e2 hw hp h3 hd hcl;obtain⟨N,hN⟩: ∃N,N=lkN c (gN S) F:=⟨_,rfl⟩;have h3':lkF (gN S) (sgN t) F0 n=lkF (gN S) ((sgL t k (i+w)).map (·.1)) N n:=by rw[h3,hN];rfl
  have hF: ∀k,k<n+1->(gl F n (n+1))[k]? =some (.bool (F k)):=λk hk=>by
   rw[zk8 hk,yaI hk,ybK]
  have hg0:=hF 0 (by omega)
  have hz0:(List.replicate (n+1) (D.bool false)).set 0 (.bool (N 0))=gl N n 1:=by rw[znc N,zo5]
  have hst0: ∀j,(gl N n (j+1)).set (j+1) (.bool (N (j+1)))=gl N n (j+2):=λj=>zo5
  have hgl: ∀j,(gl N n j).length=n+1:=λj=>zo4 N n j
  have hNg: ∀j,j<n->(gl N n (j+1))[j]? =some (.bool (N j)):=λj hj=>by
   rw[zk8 (by omega),yaI (yci j),ybK]
  have hcs:c=37\/c=95\/(c≠37/\c≠95):=by omega
  have hst:(c=37-> ∀j,(gl N n (j+1)).set (j+1) (.bool (F (j+1) || N j))=gl N n (j+2))/\(c=95-> ∀j,(gl N n (j+1)).set (j+1) (.bool (F j))=gl N n (j+2))/\(c≠37/\c≠95-> ∀j,(gl N n (j+1)).set (j+1) (.bool (F j && decide (gN S j=c)))=gl N n (j+2)):=by
   refine⟨λh j=> ?_,λh j=> ?_,λh j=> ?_⟩ <;> rw[<- hst0 j] <;> congr 2 <;> rw[hN] <;> simp[lkN,h]
  have hz:(c=37->(List.replicate (n+1) (D.bool false)).set 0 (.bool (F 0))=gl N n 1)/\(c≠37->(List.replicate (n+1) (D.bool false)).set 0 (.bool false)=gl N n 1):=by
   refine⟨λh=> ?_,λh=> ?_⟩ <;> rw[<- hz0] <;> congr 2 <;> rw[hN] <;> simp[lkN,h]
  clear hz0 hst0 hN h3;rcases hcs with rfl | rfl | hc
  ·have hst:=hst.1 rfl
   have hz:=hz.1 rfl;simp -dsimp -implicitDefEqProofs (disch:=omega) [hi,hd,hn,hrl,hg0,hz]
   generalize hz:zaf _ _ _ _ _ _=z;revert z;refine zaa (σ:=Nat) (λj=>[(5,.arr 0 n),(6,.arr 1 (n+1)),(8,.d (.int .i32 37)),(9,.arr 2 (n+1)),(21,.ptr 3 0),(38,.arr 0 n),(39,.d (.int .i64 n)),(40,.d (.int .i64 j))]) (λj=>[.arr 1 (S.map λ(c:Nat)=>D.int .i32 c) 0,.arr 1 (gl F n (n+1)) 0,.arr 1 (gl N n (j+1)) 0,.siter t (i+w)]) (λj=>j<=n) (λj=>n - j) 0 ?_ ?_ ?_
   ·exact yai _
   ·simp -dsimp -implicitDefEqProofs (disch:=omega)
   intro T2 f2 hT2 j hj ih2
   by_cases h4:j<n
   ·have e1:=hF (j+1) (by omega)
    have e0:=hF j (by omega)
    have e2:=hNg j h4;have e3:j<S.length:=by omega
    have e4:=zrX e3;have h5:=hst j;have e6:(gl N n (j+1))[j+1]? =some (.bool false):=by rw[zk8 (by omega)];simp
    cases hb:F (j+1) with
    |false=>
     rw[hb]at e1 h5;simp only[yck]at h5;simp -dsimp -implicitDefEqProofs (disch:=omega) [h4,hn,hrl,e1,e2,e3,h5,hgl,e6]
     refine ih2 (j+1) _ _ h4 (by omega) ?_
     simp -dsimp -implicitDefEqProofs (disch:=omega)
    |true=>
     rw[hb]at e1 h5;simp only[ydy]at h5;simp -dsimp -implicitDefEqProofs (disch:=omega) [h4,hn,hrl,e1,e2,e3,h5,hgl,e6]
     refine ih2 (j+1) _ _ h4 (by omega) ?_
     simp -dsimp -implicitDefEqProofs (disch:=omega)
   obtain rfl:j=n:=by omega
   subst hT2;simp -dsimp -implicitDefEqProofs (disch:=omega) [hn]
   refine ih (N,i+w,k) _ _ ⟨by simp only;omega,by simp only;omega,h3'⟩ (by simp only;omega) ?_
   simp -dsimp -implicitDefEqProofs (disch:=omega)
  ·have hst:=hst.2.1 rfl
   have hz:=hz.2 (by omega)
   simp -dsimp -implicitDefEqProofs (disch:=omega) [hi,hd,hn,hrl,hg0,hz]
   generalize hz:zaf _ _ _ _ _ _=z;revert z;refine zaa (σ:=Nat) (λj=>[(5,.arr 0 n),(6,.arr 1 (n+1)),(8,.d (.int .i32 95)),(9,.arr 2 (n+1)),(21,.ptr 3 0),(38,.arr 0 n),(39,.d (.int .i64 n)),(40,.d (.int .i64 j))]) (λj=>[.arr 1 (S.map λ(c:Nat)=>D.int .i32 c) 0,.arr 1 (gl F n (n+1)) 0,.arr 1 (gl N n (j+1)) 0,.siter t (i+w)]) (λj=>j<=n) (λj=>n - j) 0 ?_ ?_ ?_
   ·exact yai _
   ·simp -dsimp -implicitDefEqProofs (disch:=omega)
   intro T2 f2 hT2 j hj ih2
   by_cases h4:j<n
   ·have e1:=hF (j+1) (by omega)
    have e0:=hF j (by omega)
    have e2:=hNg j h4;have e3:j<S.length:=by omega
    have e4:=zrX e3;have h5:=hst j;have e6:(gl N n (j+1))[j+1]? =some (.bool false):=by rw[zk8 (by omega)];simp
    simp -dsimp -implicitDefEqProofs (disch:=omega) [h4,hn,hrl,e0,e3,h5,hgl,e6]
    refine ih2 (j+1) _ _ h4 (by omega) ?_
    simp -dsimp -implicitDefEqProofs (disch:=omega)
   obtain rfl:j=n:=by omega
   subst hT2;simp -dsimp -implicitDefEqProofs (disch:=omega) [hn]
   refine ih (N,i+w,k) _ _ ⟨by simp only;omega,by simp only;omega,h3'⟩ (by simp only;omega) ?_
   simp -dsimp -implicitDefEqProofs (disch:=omega)
  ·have hst:=hst.2.2 hc
   have hz:=hz.2 hc.1;have c37: ¬ (c:Int)=37:=by omega
   have c95: ¬ (c:Int)=95:=by omega
   simp -dsimp -implicitDefEqProofs (disch:=omega) [hi,hd,hn,hrl,hg0,hz,c37,c95]
   generalize hz:zaf _ _ _ _ _ _=z;revert z;refine zaa (σ:=Nat) (λj=>[(5,.arr 0 n),(6,.arr 1 (n+1)),(8,.d (.int .i32 c)),(9,.arr 2 (n+1)),(21,.ptr 3 0),(38,.arr 0 n),(39,.d (.int .i64 n)),(40,.d (.int .i64 j))]) (λj=>[.arr 1 (S.map λ(c:Nat)=>D.int .i32 c) 0,.arr 1 (gl F n (n+1)) 0,.arr 1 (gl N n (j+1)) 0,.siter t (i+w)]) (λj=>j<=n) (λj=>n - j) 0 ?_ ?_ ?_
   ·exact yai _
   ·simp -dsimp -implicitDefEqProofs (disch:=omega)
   intro T2 f2 hT2 j hj ih2
   by_cases h4:j<n
   ·have e1:=hF (j+1) (by omega)
    have e0:=hF j (by omega)
    have e2:=hNg j h4;have e3:j<S.length:=by omega
    have e4:=zrX e3;have h5:=hst j;have e6:(gl N n (j+1))[j+1]? =some (.bool false):=by rw[zk8 (by omega)];simp
    cases hb:F j with
    |false=>
     rw[hb]at e0 h5;simp only[yc8]at h5;simp -dsimp -implicitDefEqProofs (disch:=omega) [h4,hn,hrl,e0,e3,h5,hgl,e6,c37,c95]
     refine ih2 (j+1) _ _ h4 (by omega) ?_
     simp -dsimp -implicitDefEqProofs (disch:=omega)
    |true=>
     rw[hb]at e0 h5;simp only[ybK]at h5;simp -dsimp -implicitDefEqProofs (disch:=omega) [h4,hn,hrl,e0,e3,e4,h5,hgl,e6,c37,c95]
     refine ih2 (j+1) _ _ h4 (by omega) ?_
     simp -dsimp -implicitDefEqProofs (disch:=omega)
   obtain rfl:j=n:=by omega
   subst hT2;simp -dsimp -implicitDefEqProofs (disch:=omega) [hn]
   refine ih (N,i+w,k) _ _ ⟨by simp only;omega,by simp only;omega,h3'⟩ (by simp only;omega) ?_
   simp -dsimp -implicitDefEqProofs (disch:=omega)
 ·have:i=t.size:=by omega
  subst this;subst hT';rw[zhQ (ybx _)]at h3;rw[h3,ybX,show lkF (gN S) [] F n=F n from rfl]at hT
  have hg:= @zk8 F n (n+1) n (yci n);rw[yaI (yci n),ybK]at hg;simp -dsimp -implicitDefEqProofs (disch:=omega) [hn,hrl,hg]
  simpa -dsimp -implicitDefEqProofs (disch:=omega) using hT
end Go.Am.Ab
namespace Go.Am.Ab
open Go.Proofs
set_option maxHeartbeats 16000000
set_option maxRecDepth 4000
def orF (F:Nat->Bool):Nat->Bool
 |0=>false
 |j+1=>orF F j || F j
def zzD (S:Nat->Nat) (F:Nat->Bool): ∀i,lkN 37 S F i=orF F (i+1)
 |0=>by simp[lkN,orF]
 |i+1=>by
  rw[lkN,yag rfl,zzD S F i,show orF F (i+1+1)=(orF F (i+1) || F (i+1)) from rfl,Bool.or_comm]
def upd (N:Nat->Bool) (i:Nat) (b:Bool) (k:Nat):Bool:=if k=i then b else N k
def zEA (N:Nat->Bool) (i:Nat) (b:Bool):upd N i b i=b:=yag rfl
def zEB (N:Nat->Bool) (n i:Nat) (b c:Bool):(gl (upd N i b) n (i+1)).set i (.bool c)=gl (upd N i c) n (i+1):=by
 refine ybO (by simp) λk h1 h2=> ?_
 rw[List.getElem_set,zeA,zeA];split
 ·rename_i h
  subst h;simp[upd]
 ·rename_i h
  simp only[upd,yac (λe:k=i=>h e.symm)]
def zwe (N:Nat->Bool) (n i:Nat):gl N n i=gl (upd N i false) n (i+1):=by
 refine ybO (by simp) λk h1 h2=> ?_
 rw[zeA,zeA];unfold upd;split
 ·rename_i h;subst h;simp
 ·rename_i h
  congr 2;rw[ydP];omega
def zwf (N:Nat->Bool) (n i:Nat):gl (upd N i (N i)) n (i+1)=gl N n (i+1):=by
 refine ybO (by simp) λk h1 h2=> ?_
 rw[zeA,zeA];unfold upd;split
 ·rename_i h;subst h;simp
 ·rfl
abbrev cI (S:List Nat):List D:=S.map λ(c:Nat)=>D.int .i64 c
def ztM (S P:List Nat) (hS:S.length<1000000000) (hP:P.length<1000000000):R 121 [.d (.list (cI S)),.d (.list (cI P))] []=some ([.d (.bool (lk S P))],[]):=by
 unfold lk;obtain⟨n,hn⟩: ∃n,S.length=n:=⟨_,rfl⟩;obtain⟨F0,hF0⟩: ∃F0:Nat->Bool,F0=λi=>decide (i=0):=⟨_,rfl⟩
 rw[<- hF0,hn];have hf0:(List.replicate (n+1) (D.bool false)).set 0 (.bool true)=gl F0 n (n+1):=by
  rw[znc F0,show D.bool true= .bool (F0 0) by rw[hF0];rfl,zo5,hF0]
  exact (zrY n n).symm
 refine rg zJZ rfl ?_;intro T hT;simp -dsimp -implicitDefEqProofs (disch:=omega) [hn]
 generalize hz:zaf _ _ _ _ _ _=z;revert z;refine zaa (σ:=(Nat->Bool) × Nat) (λx=>[(0,.d (.list (cI S))),(1,.d (.list (cI P))),(5,.arr 0 (n+1)),(6,.d (.int .i64 x.2))]) (λx=>[.arr 1 (gl x.1 n (n+1)) 0]) (λx=>x.2<=P.length/\lkF (gN S) P F0 n=lkF (gN S) (P.drop x.2) x.1 n) (λx=>P.length - x.2) (F0,0) ?_ ?_ ?_
 ·exact⟨yai _,rfl⟩
 ·simp -dsimp -implicitDefEqProofs (disch:=omega) [<- hf0,hn]
 intro T' f' hT' ⟨F,k⟩ ⟨h1,h3⟩ ih;simp only at h1 h3 ih
 by_cases hk:k<P.length
 case neg=>
  subst hT';rw[yaJ (by omega),show lkF (gN S) [] F n=F n from rfl]at h3
  rw[h3]at hT;have hg:= @zk8 F n (n+1) n (yci n);rw[yaI (yci n),ybK]at hg;simp -dsimp -implicitDefEqProofs (disch:=omega) [hn,hk,hg]
  simpa -dsimp -implicitDefEqProofs (disch:=omega) using hT
 obtain⟨c,hc⟩: ∃c,P[k]=c:=⟨_,rfl⟩;rw[yao hk,hc]at h3;obtain⟨N,hN⟩: ∃N,N=lkN c (gN S) F:=⟨_,rfl⟩;have h3':lkF (gN S) P F0 n=lkF (gN S) (P.drop (k+1)) N n:=by rw[h3,hN];rfl
 have hF: ∀k,k<n+1->(gl F n (n+1))[k]? =some (.bool (F k)):=λk hk=>by
  rw[zk8 hk,yaI hk,ybK]
 have hz:List.replicate (n+1) (D.bool false)=gl N n 0:=znc N n;have hgl: ∀N j,(gl N n j).length=n+1:=λN j=>zo4 N n j
 simp -dsimp -implicitDefEqProofs (disch:=omega) [hk,hn,hz]
 generalize hz:zaf _ _ _ _ _ _=z;revert z;refine zaa (σ:=Nat) (λi=>[(0,.d (.list (cI S))),(1,.d (.list (cI P))),(5,.arr 0 (n+1)),(6,.d (.int .i64 k)),(7,.arr 1 (n+1)),(8,.d (.int .i64 i))]) (λi=>[.arr 1 (gl F n (n+1)) 0,.arr 1 (gl N n i) 0]) (λi=>i<=n+1) (λi=>n+1 - i) 0 ?_ ?_ ?_
 ·exact yai _
 ·simp -dsimp -implicitDefEqProofs (disch:=omega)
 intro T2 f2 hT2 i hi ih2
 by_cases h4:i<=n
 case neg=>
  obtain rfl:i=n+1:=by omega
  subst hT2;have hx: ¬ (n:Int)+1<=n:=by omega
  simp -dsimp -implicitDefEqProofs (disch:=omega) [hn,hx]
  refine ih (N,k+1) _ _ ⟨hk,h3'⟩ (by simp only;omega) ?_
  simp -dsimp -implicitDefEqProofs (disch:=omega)
 by_cases h5:c=37
 ·subst h5
  have hor:orF F (i+1)=N i:=by rw[hN];exact (zzD _ _ _).symm
  simp -dsimp -implicitDefEqProofs (disch:=omega) [h4,hn,hk,hc]
  generalize hz:zaf _ _ _ _ _ _=z;revert z;refine zaa (σ:=Nat) (λj=>[(0,.d (.list (cI S))),(1,.d (.list (cI P))),(5,.arr 0 (n+1)),(6,.d (.int .i64 k)),(7,.arr 1 (n+1)),(8,.d (.int .i64 i)),(9,.d (.int .i64 j))]) (λj=>[.arr 1 (gl F n (n+1)) 0,.arr 1 (gl (upd N i (orF F j)) n (i+1)) 0]) (λj=>j<=i+1) (λj=>i+1 - j) 0 ?_ ?_ ?_
  ·exact yai _
  ·simp -dsimp -implicitDefEqProofs (disch:=omega) [zwe N n i,orF]
  intro T4 f4 hT4 j hj ih4
  by_cases h6:j<=i
  ·have e1:=hF j (by omega)
   have e2:(gl (upd N i (orF F j)) n (i+1))[i]? =some (.bool (orF F j)):=by rw[zk8 (by omega),zEA];simp
   have e3:=λc=>zEB N n i (orF F j) c
   have e4:orF F (j+1)=(orF F j || F j):=rfl;cases hb:orF F j with
   |true=>
    rw[hb]at e2 e3 e4;simp only[ydy]at e4;simp -dsimp -implicitDefEqProofs (disch:=omega) [h6,hn,e1,e2,e3,hgl]
    refine ih4 (j+1) _ _ (by omega) (by omega) ?_
    simp -dsimp -implicitDefEqProofs (disch:=omega) [e4]
   |false=>
    rw[hb]at e2 e3 e4;simp only[yck]at e4;simp -dsimp -implicitDefEqProofs (disch:=omega) [h6,hn,e1,e2,e3,hgl]
    refine ih4 (j+1) _ _ (by omega) (by omega) ?_
    simp -dsimp -implicitDefEqProofs (disch:=omega) [e4]
  ·obtain rfl:j=i+1:=by omega
   subst hT4;rw[hor,zwf];have hy: ¬ (i:Int)+1<=i:=by omega
   simp -dsimp -implicitDefEqProofs (disch:=omega) [hy]
   refine ih2 (i+1) _ _ (by omega) (by omega) ?_
   simp -dsimp -implicitDefEqProofs (disch:=omega)
 have h5': ¬ (c:Int)=37:=by omega
 rcases i with _ | i
 ·have hz1:gl N n 0=gl N n 1:=by
   have:=zwf N n 0;rw[show N 0=false by rw[hN];simp[lkN,h5],<- zwe]at this
   exact this
  simp -dsimp -implicitDefEqProofs (disch:=omega) [h4,hn,hk,hc,h5']
  refine ih2 1 _ _ (by omega) (by omega) ?_
  simp -dsimp -implicitDefEqProofs (disch:=omega) [hz1]
 ·have e0:=hF i (by omega)
  have h8:(i:Int)+1<=n:=by omega
  have h9:(0:Int)<i+1:=by omega
  have e3:i<S.length:=by omega
  have e4:=zrX e3;have e6:(gl N n (i+1))[i+1]? =some (.bool false):=by rw[zk8 (by omega)];simp
  have hst:(gl N n (i+1)).set (i+1) (.bool (N (i+1)))=gl N n (i+2):=zo5;have hNi:N (i+1)=if c=95 then F i else F i && decide (gN S i=c):=by rw[hN,lkN,yac h5]
  rw[hNi]at hst;cases hb:F i with
  |false=>
   rw[hb]at e0 hst;rw[show (if c=95 then false else false && decide (gN S i=c))=false by split <;> simp]at hst
   simp -dsimp -implicitDefEqProofs (disch:=omega) [h8,h9,hn,hk,hc,h5',e0,e3,e6,hst,hgl]
   refine ih2 (i+2) _ _ (by omega) (by omega) ?_
   simp -dsimp -implicitDefEqProofs (disch:=omega)
   omega
  |true=>
   rw[hb]at e0 hst
   by_cases h7:c=95
   ·subst h7
    rw[yag rfl]at hst;simp -dsimp -implicitDefEqProofs (disch:=omega) [h8,h9,hn,hk,hc,e0,e3,e6,hst,hgl]
    refine ih2 (i+2) _ _ (by omega) (by omega) ?_
    simp -dsimp -implicitDefEqProofs (disch:=omega)
    omega
   ·rw[yac h7,ybK]at hst
    have h7': ¬ (c:Int)=95:=by omega
    rw[show decide (gN S i=c)=decide (c=gN S i) from decide_eq_decide.2 ⟨Eq.symm,Eq.symm⟩]at hst
    simp -dsimp -implicitDefEqProofs (disch:=omega) [h8,h9,hn,hk,hc,h5',h7',e0,e3,e4,e6,hst,hgl]
    refine ih2 (i+2) _ _ (by omega) (by omega) ?_
    simp -dsimp -implicitDefEqProofs (disch:=omega)
    omega
def ztN (s t:ByteArray) (hs:s.size<1000000000) (ht:t.size<1000000000):R 73 [.d (.str s),.d (.str t)] []=some ([.d (.bool (lk (sgN s) (sgN t)))],[]):=by
 have h1:=zck s hs;have h2:=zck t ht;have l1:(sgs s).length<=s.size:=zcO s s.size 0;have l2:(sgs t).length<=t.size:=zcO t t.size 0;have e1: ∀l:List (Nat × Nat × Bool),zjS l=cI (l.map (·.1)):=λl=>by rw[cI,yaQ];rfl
 have h3:R 121 [.d (.list (zjS (sgs s))),.d (.list (zjS (sgs t)))] []=some ([.d (.bool (lk (sgN s) (sgN t)))],[]):=by
  rw[e1,e1];exact ztM (sgN s) (sgN t) (by unfold sgN;rw[yah];omega) (by unfold sgN;rw[yah];omega)
 have g1:(zjS (sgs s)).length=(sgs s).length:=yah _;have g2:(zjS (sgs t)).length=(sgs t).length:=yah _;generalize zjS (sgs s)=A at*;generalize zjS (sgs t)=B' at*;refine rg b73 rfl ?_;intro T hT;simp -dsimp -implicitDefEqProofs (disch:=omega) [h1,h2,h3,g1,g2]
 simpa -dsimp -implicitDefEqProofs (disch:=omega) using hT
end Go.Am.Ab
namespace Go.Am.Ab
open Go.Proofs
set_option maxHeartbeats 16000000
set_option maxRecDepth 4000
def zo6 {fs:List Fld}: ∀ {ks:List Prd},ziV fs ks=0-> ∀k∈ks,ziU fs k=0
 |[],_,_,h=>by simp at h
 |k::ks,hc,k',h=>by
  rw[ziV]at hc;split at hc
  ·rename_i h1
   rcases List.mem_cons.1 h with rfl | h
   ·exact h1
   ·exact zo6 hc k' h
  ·exact absurd hc (by assumption)
def Prd.indC {fs:List Fld} {Q:Prd->Prop} (h6: ∀ks,ks.length<=9223372036854775807->(∀k∈ks,Q k)->Q (.node 6 0 Cel.none ks)) (h7: ∀ks,ks.length<=9223372036854775807->(∀k∈ks,Q k)->Q (.node 7 0 Cel.none ks))
 (h8: ∀k,Q k->Q (.node 8 0 Cel.none [k])) (h5: ∀f (j:Nat),plc f fs 0=j->j<fs.length->Q (.node 5 f Cel.none []))
 (h1: ∀ (op:Nat) f (j:Nat) (w:Val),op=1\/op=2\/op=3\/op=4->plc f fs 0=j->j<fs.length->w≠ .null->(w.kind:Int)=kdI fs j->(op=4->w.kind=3)->zaA (cellOf w)=w->chk (cellOf w)=0->Q (.node op f (cellOf w) [])):
 ∀p:Prd,p.wf->ziU fs p=0->Q p:=by
 refine Prd.indW λop f v ks q1 q2 q3 q4 q5 q6 hkm ih hc=> ?_
 rw[ziU]at hc;split at hc
 ·omega
 rename_i a1;split at hc
 ·split at hc
  ·rename_i a2 a3
   subst a3;unfold ztv at hc;split at hc
   ·omega
   rename_i a4;obtain⟨j,b1,b2⟩: ∃j:Nat,plc f fs 0=j/\j<fs.length:=by
    rcases zrD f fs 0 with h | ⟨j,h,h'⟩
    ·rw[h]at a4;omega
    ·exact⟨j,by simpa using h,h'⟩
   rw[b1,yat]at hc;split at hc
   ·rename_i a5
    subst a5;split at hc
    ·rename_i a6
     subst a6;exact h5 f j b1 b2
    ·omega
   ·rename_i a5
    split at hc
    ·omega
    split at hc
    ·exact absurd hc (by assumption)
    rename_i a6 a7;split at hc
    ·omega
    rename_i a8;have a9:chk v=0:=by omega
    have e:=zky a9;have hk:=zl1 a9;have hw:=h1 op f j (zaA v) (by omega) b1 b2 (λh=>a8 (.inl (by rw[<- hk,h];rfl))) (by rw[hk];exact Classical.not_not.1 λh=>a8 (.inr (.inl h))) (λh=>by rw[hk];exact Classical.not_not.1 λh'=>a8 (.inr (.inr ⟨h,h'⟩))) (by rw[e]) (by rw[e];exact a9)
    rw[e]at hw;exact hw
  ·omega
 ·split at hc
  ·omega
  rename_i a2 a3;have hf:f=0:=Classical.not_not.1 λh=>a3 (.inl h)
  have hv:v=Cel.none:=Classical.not_not.1 λh=>a3 (.inr (.inl h))
  subst hf hv;have hk: ∀k∈ks,Q k:=λk h=>ih k h (zo6 hc k h)
  have ho:op=6\/op=7\/op=8:=by omega
  rcases ho with rfl | rfl | rfl
  ·exact h6 ks hkm hk
  ·exact h7 ks hkm hk
  ·have hl:ks.length=1:=Classical.not_not.1 λh=>a3 (.inr (.inr ⟨rfl,h⟩))
   match ks,hl,hk with
   |[k],_,hk=>exact h8 k (hk k (by simp))
def ltB (b:Bool):Nat:=if b then 2 else 0
def zqB:Val->Val->Bool
 |.text s,.text t=>lk (sgN s) (sgN t)
 |_,_=>false
def evL (op:Nat) (w x:Val):Nat:=
 if op=5 then ltB (decide (x= .null)) else if x= .null then 1 else if op=1 then ltB (decide (x=w)) else if op=2 then ltB (ltV x w) else if op=3 then ltB (!ltV w x) else ltB (zqB x w)
mutual
def evP (fs:List Fld) (r:List Val):Prd->Nat
 |.node op f v ks=>if op=6 then evA fs r ks 2 else if op=7 then evO fs r ks 0 else if op=8 then 2 - evH fs r ks else evL op (zaA v) (atV r (plc f fs 0).toNat)
def evA (fs:List Fld) (r:List Val):List Prd->Nat->Nat
 |[],n=>n
 |k::ks,n=>evA fs r ks (min n (evP fs r k))
def evO (fs:List Fld) (r:List Val):List Prd->Nat->Nat
 |[],n=>n
 |k::ks,n=>evO fs r ks (max n (evP fs r k))
def evH (fs:List Fld) (r:List Val):List Prd->Nat
 |[]=>1
 |k::_=>evP fs r k
end
def zEC (b:Bool):ltB b<=2:=by cases b <;> decide
def zED (op:Nat) (w x:Val):evL op w x<=2:=by
 unfold evL
 (repeat' split) <;> first | exact zEC _ | omega
def zzE (fs:List Fld) (r:List Val): ∀ (ks:List Prd) (n:Nat),n<=2->evA fs r ks n<=2
 |[],_,h=>h
 |k::ks,n,h=>by rw[evA];exact zzE fs r ks _ (by omega)
def zzF {fs:List Fld} {r:List Val}: ∀ (ks:List Prd) (n:Nat),(∀k∈ks,evP fs r k<=2)->n<=2->evO fs r ks n<=2
 |[],_,_,h=>h
 |k::ks,n,hk,h=>by
  rw[evO];have:=hk k (by simp)
  exact zzF ks _ (λk h=>hk k (by simp[h])) (by omega)
def zma (fs:List Fld) (r:List Val): ∀p,evP fs r p<=2:=by
 refine Prd.ind λop f v ks ih=> ?_
 rw[evP];split
 ·exact zzE fs r ks 2 (by omega)
 split
 ·exact zzF ks 0 ih (by omega)
 split
 ·omega
 ·exact zED _ _ _
def zd5 (a:Nat) (h:a<=2):R 154 [.d (.int .u8 a)] []=some ([.d (.int .u8 a)],[]):=by
 have h': ¬ (2:Int)<a:=by omega
 refine rg zJ8 rfl ?_;intro T hT;simp -dsimp -implicitDefEqProofs (disch:=omega) [h']
 simpa -dsimp -implicitDefEqProofs (disch:=omega) using hT
def zyA (a b:Nat) (ha:a<=2) (hb:b<=2):R 113 [.d (.int .u8 a),.d (.int .u8 b)] []=some ([.d (.int .u8 ((min a b:Nat):Int))],[]):=by
 have h1:=zd5 a ha;have h2:=zd5 b hb
 by_cases h:(b:Int)<a
 ·rw[ych (by omega)]
  refine rg zIR rfl ?_;intro T hT;simp -dsimp -implicitDefEqProofs (disch:=omega) [h1,h2,h]
  simpa -dsimp -implicitDefEqProofs (disch:=omega) using hT
 ·rw[ybM (by omega)]
  refine rg zIR rfl ?_;intro T hT;simp -dsimp -implicitDefEqProofs (disch:=omega) [h1,h2,h]
  simpa -dsimp -implicitDefEqProofs (disch:=omega) using hT
def zAR (a b:Nat) (ha:a<=2) (hb:b<=2):R 114 [.d (.int .u8 a),.d (.int .u8 b)] []=some ([.d (.int .u8 ((max a b:Nat):Int))],[]):=by
 have h1:=zd5 a ha;have h2:=zd5 b hb
 by_cases h:(a:Int)<b
 ·rw[Nat.max_eq_right (by omega)]
  refine rg zIS rfl ?_;intro T hT;simp -dsimp -implicitDefEqProofs (disch:=omega) [h1,h2,h]
  simpa -dsimp -implicitDefEqProofs (disch:=omega) using hT
 ·rw[Nat.max_eq_left (by omega)]
  refine rg zIS rfl ?_;intro T hT;simp -dsimp -implicitDefEqProofs (disch:=omega) [h1,h2,h]
  simpa -dsimp -implicitDefEqProofs (disch:=omega) using hT
def zyB (a:Nat) (ha:a<=2):R 118 [.d (.int .u8 a)] []=some ([.d (.int .u8 ((2 - a:Nat):Int))],[]):=by
 have h1:=zd5 a ha;have h2:((2 - a:Nat):Int)=2 - a:=by omega
 rw[h2];have h3:a=0\/a=1\/a=2:=by omega
 rcases h3 with rfl | rfl | rfl
 all_goals
  simp only[show ((0:Nat):Int)=0 from rfl,i1,i2]at h1
  refine rg zJY rfl ?_;intro T hT;simp -dsimp -implicitDefEqProofs (disch:=omega) [h1]
  simpa -dsimp -implicitDefEqProofs (disch:=omega) using hT
def zwg (b:Bool):zoB b=(ltB b:Nat):=by cases b <;> rfl
def zes (b:Bool):R 139 [.d (.bool b)] []=some ([.d (.int .u8 (ltB b))],[]):=by rw[zqi,zwg]
def ztO (op:Nat) (f:Int) (w x:Val) (ho:op=1\/op=2\/op=3\/op=4) (hv:zaA (cellOf w)=w) (hc:chk (cellOf w)=0) (hx: ∀s,x= .text s->s.size<1000000000) (h4:op=4->w.kind=3):
 R 119 [.d (Prd.node op f (cellOf w) []).d,.d x.d] []=some ([.d (.int .u8 (evL op w x))],[]):=by
 have hk:=zbv hc;have hof:=zmW (cellOf w) (by omega) (by omega)
 rw[hv,hc]at hof;have hcm:=zc2 x w;have his:=zqi;have e5: ¬ op=5:=by omega
 unfold evL;rw[yac e5,zar];simp only[Cel.d]at hof;generalize (cellOf w).kind=ck at*;generalize (cellOf w).n=cn at*;generalize (cellOf w).s=cs at*
 by_cases hx0:x= .null
 ·subst hx0
  rw[yag rfl,vd0];rcases ho with rfl | rfl | rfl | rfl
  all_goals
   refine rg zzo rfl ?_;intro T hT;simp -dsimp -implicitDefEqProofs (disch:=omega)
   simpa -dsimp -implicitDefEqProofs (disch:=omega) using hT
 rw[yac hx0];have c1:decide (zht x w=0)=decide (x=w):=decide_eq_decide.2 zoC;have c2:decide (zht x w<0)=ltV x w:=by simp only[zmV];simp
 have c3:decide (zht x w<=0)= !ltV w x:=by
  have:=zjb x w;cases h:ltV w x with
  |true=>rw[h]at this;simp at this ⊢;omega
  |false=>rw[h]at this;simp at this ⊢;omega
 have k1:R 139 [.d (.bool (decide (zht x w=0)))] []=some ([.d (.int .u8 (ltB (decide (x=w))))],[]):=by rw[zes,c1]
 have k2:R 139 [.d (.bool (decide (zht x w<0)))] []=some ([.d (.int .u8 (ltB (ltV x w)))],[]):=by rw[zes,c2]
 have k3:R 139 [.d (.bool (decide (zht x w<=0)))] []=some ([.d (.int .u8 (ltB (!ltV w x)))],[]):=by rw[zes,c3]
 clear c1 c2 c3 his;have k4:op=4-> ∃t,w= .text t/\t.size<=64:=λh=>by
  have:=h4 h;cases w with
  |text t=>exact⟨t,rfl,by have:=(zbv hc).2.2.2.2;exact this⟩
  |_=>simp[Val.kind]at this
 generalize hcz:zht x w=z at*
 by_cases h5:op=4
 ·obtain⟨t,rfl,ht⟩:=k4 h5
  subst h5;rw[yac (by omega),yac (by omega),yac (by omega)]
  rw[vd3]at hof;cases x with
  |null=>exact absurd rfl hx0
  |whole m=>
   rw[vd1,show ltB (zqB (.whole m) (.text t))=0 from rfl]
   have k5:=zes false;refine rg zzo rfl ?_;intro T hT;simp -dsimp -implicitDefEqProofs (disch:=omega) [hof,k5,ltB]
   simpa -dsimp -implicitDefEqProofs (disch:=omega) using hT
  |truth m=>
   rw[vd2,show ltB (zqB (.truth m) (.text t))=0 from rfl]
   have k5:=zes false;refine rg zzo rfl ?_;intro T hT;simp -dsimp -implicitDefEqProofs (disch:=omega) [hof,k5,ltB]
   simpa -dsimp -implicitDefEqProofs (disch:=omega) using hT
  |text u=>
   rw[vd3,show zqB (.text u) (.text t)=lk (sgN u) (sgN t) from rfl]
   have hl:=ztL u t (hx u rfl) (by omega)
   have k5:=zes (lk (sgN u) (sgN t));refine rg zzo rfl ?_;intro T hT;simp -dsimp -implicitDefEqProofs (disch:=omega) [hof,hl,k5]
   simpa -dsimp -implicitDefEqProofs (disch:=omega) using hT
 ·have hop:op=1\/op=2\/op=3:=by
   rcases ho with h | h | h | h
   ·exact .inl h
   ·exact .inr (.inl h)
   ·exact .inr (.inr h)
   ·exact absurd h h5
  generalize hwd:w.d=wd at*;generalize ltB (decide (x=w))=r1 at*;generalize ltB (ltV x w)=r2 at*;generalize ltB (!ltV w x)=r3 at*;have hxd: ∃ty y,x.d= .iface ty y:=by
   cases x with
   |null=>exact absurd rfl hx0
   |_=>exact⟨_,_,rfl⟩
  obtain⟨ty,y,hxd⟩:=hxd;rw[hxd]at hcm ⊢;rcases hop with rfl | rfl | rfl
  ·rw[yag rfl]
   refine rg zzo rfl ?_;intro T hT;simp -dsimp -implicitDefEqProofs (disch:=omega) [hof,hcm,k1]
   simpa -dsimp -implicitDefEqProofs (disch:=omega) using hT
  ·rw[yac (by omega),yag rfl]
   refine rg zzo rfl ?_;intro T hT;simp -dsimp -implicitDefEqProofs (disch:=omega) [hof,hcm,k2]
   simpa -dsimp -implicitDefEqProofs (disch:=omega) using hT
  ·rw[yac (by omega),yac (by omega),yag rfl]
   refine rg zzo rfl ?_;intro T hT;simp -dsimp -implicitDefEqProofs (disch:=omega) [hof,hcm,k3]
   simpa -dsimp -implicitDefEqProofs (disch:=omega) using hT
def zqC (f:Int) (x:Val):R 119 [.d (Prd.node 5 f Cel.none []).d,.d x.d] []=some ([.d (.int .u8 (evL 5 .null x))],[]):=by
 rw[show evL 5 .null x=ltB (decide (x= .null)) from rfl,zar]
 have k5:=zes (decide (x= .null));cases x
 all_goals
  simp only[vd0,vd1,vd2,vd3]at k5 ⊢;simp only[reduceCtorEq,ydc,ydM]at k5 ⊢;refine rg zzo rfl ?_;intro T hT;simp -dsimp -implicitDefEqProofs (disch:=omega) [k5]
  simpa -dsimp -implicitDefEqProofs (disch:=omega) using hT
end Go.Am.Ab
namespace Go.Am.Ab
open Go.Proofs
set_option maxHeartbeats 16000000
set_option maxRecDepth 4000
def ztP (s:Sch) (hl:s.fields.length<1000000000) (r:List Val) (hr:r.length=s.fields.length) (hx: ∀t,Val.text t∈r->t.size<1000000000):
 ∀p:Prd,p.wf->ziU s.fields p=0->R 64 [.d p.d,.d s.d,.d (.list (vs r))] []=some ([.d (.int .u8 (evP s.fields r p))],[]):=by
 have hp:=λf=>zgo s f hl
 obtain⟨sid,fs⟩:=s;simp only at hl hr;simp only[Sch.d]at hp ⊢;have hvl:(vs r).length=r.length:=yah _;have hat: ∀j,j<r.length->(vs r)[j]? =some (atV r j).d:=λj h=>by
  rw[yau,yak h,zdL h];rfl
 have hxa: ∀j,j<r.length-> ∀t,atV r j= .text t->t.size<1000000000:=λj h t e=>hx t (e ▸ zdL h ▸ yam h)
 generalize vs r=Y at*;refine Prd.indC (λks hkm ih=> ?_) (λks hkm ih=> ?_) (λk ih=> ?_) (λf j h1 h2=> ?_) (λop f j w ho h1 h2 hw0 hwk h4 hv hc=> ?_)
 ·rw[zar,evP,yag rfl]
  simp only[Cel.none];refine rg b64 rfl ?_;intro T hT;simp -dsimp -implicitDefEqProofs (disch:=omega)
  generalize hz:zaf _ _ _ _ _ _=z;revert z;refine zaa (σ:=Nat × Nat) (λx=>[(2,.d (.list Y)),(4,.ptr 0 0),(7,.d (.int .u8 x.2)),(20,.d (.list (ks.map Prd.d))),(21,.d (.int .i64 ks.length)),(22,.d (.int .i64 x.1))]) (λ_=>[.box [.d (.int .u32 sid),.d (.list (fs.map Fld.d))]]) (λx=>x.1<=ks.length/\x.2<=2/\evA fs r ks 2=evA fs r (ks.drop x.1) x.2) (λx=>ks.length - x.1) (0,2) ?_ ?_ ?_
  ·exact⟨yai _,by simp only;omega,rfl⟩
  ·simp -dsimp -implicitDefEqProofs (disch:=omega)
  intro T' f' hT' ⟨i,n⟩ ⟨hi,hn,hs⟩ ih2;simp only at hi hn hs ih2
  by_cases h4:i<ks.length
  ·rw[yao h4,evA]at hs
   obtain⟨k,hk⟩: ∃k,ks[i]=k:=⟨_,rfl⟩;have hr1:=ih k (hk ▸ yam h4);have hle:=zma fs r k;have hop:=zyA n (evP fs r k) hn hle;rw[hk]at hs;obtain⟨op',f1,v',ks'⟩:=k;rw[zar]at hr1;generalize evP fs r (.node op' f1 v' ks')=e at*;generalize hmm:min n e=m at*;simp -dsimp -implicitDefEqProofs (disch:=omega) [h4,hk,hr1,zar,hop]
   refine ih2 (i+1,m) _ _ ⟨h4,by simp only;omega,hs⟩ (by simp only;omega) ?_
   simp -dsimp -implicitDefEqProofs (disch:=omega)
  ·rw[yaJ (by omega),evA]at hs
   subst hT';rw[hs]at hT;simp -dsimp -implicitDefEqProofs (disch:=omega) [h4]
   simpa -dsimp -implicitDefEqProofs (disch:=omega) using hT
 ·rw[zar,evP,yac (by omega),yag rfl]
  simp only[Cel.none];refine rg b64 rfl ?_;intro T hT;simp -dsimp -implicitDefEqProofs (disch:=omega)
  generalize hz:zaf _ _ _ _ _ _=z;revert z;refine zaa (σ:=Nat × Nat) (λx=>[(2,.d (.list Y)),(4,.ptr 0 0),(10,.d (.int .u8 x.2)),(37,.d (.list (ks.map Prd.d))),(38,.d (.int .i64 ks.length)),(39,.d (.int .i64 x.1))]) (λ_=>[.box [.d (.int .u32 sid),.d (.list (fs.map Fld.d))]]) (λx=>x.1<=ks.length/\x.2<=2/\evO fs r ks 0=evO fs r (ks.drop x.1) x.2) (λx=>ks.length - x.1) (0,0) ?_ ?_ ?_
  ·exact⟨yai _,by simp only;omega,rfl⟩
  ·simp -dsimp -implicitDefEqProofs (disch:=omega)
  intro T' f' hT' ⟨i,n⟩ ⟨hi,hn,hs⟩ ih2;simp only at hi hn hs ih2
  by_cases h4:i<ks.length
  ·rw[yao h4,evO]at hs
   obtain⟨k,hk⟩: ∃k,ks[i]=k:=⟨_,rfl⟩;have hr1:=ih k (hk ▸ yam h4);have hle:=zma fs r k;have hop:=zAR n (evP fs r k) hn hle;rw[hk]at hs;obtain⟨op',f1,v',ks'⟩:=k;rw[zar]at hr1;generalize evP fs r (.node op' f1 v' ks')=e at*;generalize hmm:max n e=m at*;simp -dsimp -implicitDefEqProofs (disch:=omega) [h4,hk,hr1,zar,hop]
   refine ih2 (i+1,m) _ _ ⟨h4,by simp only;omega,hs⟩ (by simp only;omega) ?_
   simp -dsimp -implicitDefEqProofs (disch:=omega)
  ·rw[yaJ (by omega),evO]at hs
   subst hT';rw[hs]at hT;simp -dsimp -implicitDefEqProofs (disch:=omega) [h4]
   simpa -dsimp -implicitDefEqProofs (disch:=omega) using hT
 ·rw[zar,evP,yac (by omega),yac (by omega),yag rfl,evH]
  have hn:=zyB _ (zma fs r k);simp only[Cel.none];obtain⟨op',f1,v',ks'⟩:=k;rw[zar]at ih;generalize evP fs r (.node op' f1 v' ks')=e at*;generalize 2 - e=m at*;refine rg b64 rfl ?_;intro T hT;simp -dsimp -implicitDefEqProofs (disch:=omega) [ih,zar,hn]
  simpa -dsimp -implicitDefEqProofs (disch:=omega) using hT
 ·have hp:=hp f
  have hh:=zqC f (atV r j);have ha:=hat j (by omega)
  rw[h1]at hp;have e1: ¬ (j:Int)<0:=by omega
  have e2:(0:Int)<=j:=by omega
  have e3:j<Y.length:=by omega
  have e4: ¬ r.length<=j:=by omega
  rw[yac e1]at hp;rw[evP,yac (by omega),yac (by omega),yac (by omega),h1,yat,show zaA Cel.none= .null from rfl]
  rw[zar]at hh ⊢;generalize evL 5 .null (atV r j)=e at*;simp only[Cel.none,ybX,show ((5:Nat):Int)=5 from rfl,show ((0:Nat):Int)=0 from rfl]at hh ⊢
  have ha2:Y[j]=(atV r j).d:=by rw[yak e3]at ha;exact yaN ha
  have hcl:(atV r j).d.cells=[(atV r j).d]:=by cases atV r j <;> rfl
  generalize (atV r j).d=xd at*;refine rg b64 rfl ?_;intro T hT;simp -dsimp -implicitDefEqProofs (disch:=omega) [hp,e2,e3,e4,hvl,ha2,hh,hcl]
  simpa -dsimp -implicitDefEqProofs (disch:=omega) using hT
 ·have hp:=hp f
  have hh:=ztO op f w (atV r j) ho hv hc (hxa j (by omega)) h4
  have ha:=hat j (by omega)
  rw[h1]at hp;have e1: ¬ (j:Int)<0:=by omega
  have e2:(0:Int)<=j:=by omega
  have e3:j<Y.length:=by omega
  have e4: ¬ r.length<=j:=by omega
  rw[yac e1]at hp;rw[evP,yac (by omega),yac (by omega),yac (by omega),h1,yat,hv]
  rw[zar]at hh ⊢;simp only[ybX]at hh ⊢;generalize evL op w (atV r j)=e at*;have ha2:Y[j]=(atV r j).d:=by rw[yak e3]at ha;exact yaN ha
  have hcl:(atV r j).d.cells=[(atV r j).d]:=by cases atV r j <;> rfl
  generalize (atV r j).d=xd at*;generalize ho':(op:Int)=o at*;have n6: ¬ o=6:=by omega
  have n7: ¬ o=7:=by omega
  have n8: ¬ o=8:=by omega
  refine rg b64 rfl ?_;intro T hT;simp -dsimp -implicitDefEqProofs (disch:=omega) [hp,e2,e3,e4,hvl,ha2,hh,hcl,n6,n7,n8]
  simpa -dsimp -implicitDefEqProofs (disch:=omega) using hT
end Go.Am.Ab
namespace Go.Am.Ab
open Go.Proofs
set_option maxHeartbeats 16000000
set_option maxRecDepth 4000
def zEE (v:Val):(cellOf v).kind=v.kind:=by cases v <;> rfl
def znd (x w:Val):(decide ((cellOf x).kind=(cellOf w).kind) && (decide ((cellOf x).n=(cellOf w).n) && decide ((cellOf x).s=(cellOf w).s)))=decide (x=w):=by
 by_cases h:x=w
 ·subst h;simp
 ·rw[yaO h]
  by_cases c1:(cellOf x).kind=(cellOf w).kind <;> by_cases c2:(cellOf x).n=(cellOf w).n <;> by_cases c3:(cellOf x).s=(cellOf w).s <;> simp[c1,c2,c3]
  exact h (zfB (by
   generalize cellOf x=cx at*;generalize cellOf w=cw at*;obtain⟨a,b,c⟩:=cx;obtain⟨a',b',c'⟩:=cw;simp only at c1 c2 c3;rw[c1,c2,c3]))
def zrZ (b:Bool):R 70 [.d (.bool b)] []=some ([.d (.int .i64 (ltB b))],[]):=by
 cases b
 all_goals
  refine rg b70 rfl ?_;intro T hT;simp -dsimp -implicitDefEqProofs (disch:=omega)
  simpa -dsimp -implicitDefEqProofs (disch:=omega) [ltB]using hT
def zmb (s:Sch) (hl:s.fields.length<1000000000) (r:List Val) (hr:r.length=s.fields.length) (hx: ∀t,Val.text t∈r->t.size<1000000000):
 ∀p:Prd,p.wf->ziU s.fields p=0->R 22 [.d p.d,.d s.d,.d (.list (ce (r.map cellOf)))] []=some ([.d (.int .i64 (evP s.fields r p))],[]):=by
 have hp:=λf=>zgn s f hl
 obtain⟨sid,fs⟩:=s;simp only at hl hr;simp only[Sch.d]at hp ⊢;have hvl:(ce (r.map cellOf)).length=r.length:=by rw[yah,yah]
 have hat: ∀j,j<r.length->(ce (r.map cellOf))[j]? =some (cellOf (atV r j)).d:=λj h=>by
  rw[yau,yau,yak h,zdL h];rfl
 have hxa: ∀j,j<r.length-> ∀t,atV r j= .text t->t.size<1000000000:=λj h t e=>hx t (e ▸ zdL h ▸ yam h)
 generalize ce (r.map cellOf)=Y at*;refine Prd.indC (λks hkm ih=> ?_) (λks hkm ih=> ?_) (λk ih=> ?_) (λf j h1 h2=> ?_) (λop f j w ho h1 h2 hw0 hwk h4 hv hc=> ?_)
 ·rw[zar,evP,yag rfl]
  simp only[Cel.none];refine rg b22 rfl ?_;intro T hT;simp -dsimp -implicitDefEqProofs (disch:=omega)
  generalize hz:zaf _ _ _ _ _ _=z;revert z;refine zaa (σ:=Nat × Nat) (λx=>[(2,.d (.list Y)),(3,.ptr 0 0),(4,.ptr 1 0),(7,.d (.int .i64 x.2)),(8,.d (.int .i64 x.1))]) (λ_=>[.box [.d (.int .u8 6),.d (.int .u32 0),.d (.int .u8 0),.d (.int .i64 0),.d (.str noS),.d (.list (ks.map Prd.d))],.box [.d (.int .u32 sid),.d (.list (fs.map Fld.d))]]) (λx=>x.1<=ks.length/\x.2<=2/\evA fs r ks 2=evA fs r (ks.drop x.1) x.2) (λx=>ks.length - x.1) (0,2) ?_ ?_ ?_
  ·exact⟨yai _,by simp only;omega,rfl⟩
  ·simp -dsimp -implicitDefEqProofs (disch:=omega)
  intro T' f' hT' ⟨i,n⟩ ⟨hi,hn,hs⟩ ih2;simp only at hi hn hs ih2
  by_cases h4:i<ks.length
  ·rw[yao h4,evA]at hs
   obtain⟨k,hk⟩: ∃k,ks[i]=k:=⟨_,rfl⟩;have hr1:=ih k (hk ▸ yam h4);have hle:=zma fs r k;rw[hk]at hs;obtain⟨op',f1,v',ks'⟩:=k;rw[zar]at hr1;generalize evP fs r (.node op' f1 v' ks')=e at*
   by_cases h5:(e:Int)<n
   ·rw[ych (by omega)]at hs
    simp -dsimp -implicitDefEqProofs (disch:=omega) [h4,hk,hr1,zar,h5]
    refine ih2 (i+1,e) _ _ ⟨h4,by simp only;omega,hs⟩ (by simp only;omega) ?_
    simp -dsimp -implicitDefEqProofs (disch:=omega)
   ·rw[ybM (by omega)]at hs
    simp -dsimp -implicitDefEqProofs (disch:=omega) [h4,hk,hr1,zar,h5]
    refine ih2 (i+1,n) _ _ ⟨h4,by simp only;omega,hs⟩ (by simp only;omega) ?_
    simp -dsimp -implicitDefEqProofs (disch:=omega)
  ·rw[yaJ (by omega),evA]at hs
   subst hT';rw[hs]at hT;simp -dsimp -implicitDefEqProofs (disch:=omega) [h4]
   simpa -dsimp -implicitDefEqProofs (disch:=omega) using hT
 ·rw[zar,evP,yac (by omega),yag rfl]
  simp only[Cel.none];refine rg b22 rfl ?_;intro T hT;simp -dsimp -implicitDefEqProofs (disch:=omega)
  generalize hz:zaf _ _ _ _ _ _=z;revert z;refine zaa (σ:=Nat × Nat) (λx=>[(2,.d (.list Y)),(3,.ptr 0 0),(4,.ptr 1 0),(9,.d (.int .i64 x.2)),(10,.d (.int .i64 x.1))]) (λ_=>[.box [.d (.int .u8 7),.d (.int .u32 0),.d (.int .u8 0),.d (.int .i64 0),.d (.str noS),.d (.list (ks.map Prd.d))],.box [.d (.int .u32 sid),.d (.list (fs.map Fld.d))]]) (λx=>x.1<=ks.length/\x.2<=2/\evO fs r ks 0=evO fs r (ks.drop x.1) x.2) (λx=>ks.length - x.1) (0,0) ?_ ?_ ?_
  ·exact⟨yai _,by simp only;omega,rfl⟩
  ·simp -dsimp -implicitDefEqProofs (disch:=omega)
  intro T' f' hT' ⟨i,n⟩ ⟨hi,hn,hs⟩ ih2;simp only at hi hn hs ih2
  by_cases h4:i<ks.length
  ·rw[yao h4,evO]at hs
   obtain⟨k,hk⟩: ∃k,ks[i]=k:=⟨_,rfl⟩;have hr1:=ih k (hk ▸ yam h4);have hle:=zma fs r k;rw[hk]at hs;obtain⟨op',f1,v',ks'⟩:=k;rw[zar]at hr1;generalize evP fs r (.node op' f1 v' ks')=e at*
   by_cases h5:(n:Int)<e
   ·rw[Nat.max_eq_right (by omega)]at hs
    simp -dsimp -implicitDefEqProofs (disch:=omega) [h4,hk,hr1,zar,h5]
    refine ih2 (i+1,e) _ _ ⟨h4,by simp only;omega,hs⟩ (by simp only;omega) ?_
    simp -dsimp -implicitDefEqProofs (disch:=omega)
   ·rw[Nat.max_eq_left (by omega)]at hs
    simp -dsimp -implicitDefEqProofs (disch:=omega) [h4,hk,hr1,zar,h5]
    refine ih2 (i+1,n) _ _ ⟨h4,by simp only;omega,hs⟩ (by simp only;omega) ?_
    simp -dsimp -implicitDefEqProofs (disch:=omega)
  ·rw[yaJ (by omega),evO]at hs
   subst hT';rw[hs]at hT;simp -dsimp -implicitDefEqProofs (disch:=omega) [h4]
   simpa -dsimp -implicitDefEqProofs (disch:=omega) using hT
 ·rw[zar,evP,yac (by omega),yac (by omega),yag rfl,evH]
  have hle:=zma fs r k;simp only[Cel.none];obtain⟨op',f1,v',ks'⟩:=k;rw[zar]at ih;generalize evP fs r (.node op' f1 v' ks')=e at*;rw[show ((2 - e:Nat):Int)=2 - e by omega]
  refine rg b22 rfl ?_;intro T hT;simp -dsimp -implicitDefEqProofs (disch:=omega) [ih,zar]
  simpa -dsimp -implicitDefEqProofs (disch:=omega) using hT
 ·have hp:=hp f
  have ha:=hat j (by omega)
  rw[h1]at hp;have e1: ¬ (j:Int)<0:=by omega
  have e3:j<Y.length:=by omega
  have e4: ¬ r.length<=j:=by omega
  rw[evP,yac (by omega),yac (by omega),yac (by omega),h1,yat,show zaA Cel.none= .null from rfl,show evL 5 .null (atV r j)=ltB (decide (atV r j= .null)) from rfl]
  have ha2:Y[j]=(cellOf (atV r j)).d:=by rw[yak e3]at ha;exact yaN ha
  have hi:=zrZ;have hk:=zEE (atV r j);have hk2:atV r j= .null↔(atV r j).kind=0:=by cases atV r j <;> simp[Val.kind]
  generalize atV r j=x at*;rw[<- hk]at hk2;generalize cellOf x=cx at*;obtain⟨xk,xn,xs⟩:=cx;simp only at hk2;rw[zar];simp only[Cel.none,Cel.d]at ha2 ⊢
  by_cases h0:xk=0
  ·rw[yaI (hk2.2 h0)]
   subst h0;have hi:=hi true;refine rg b22 rfl ?_;intro T hT;simp -dsimp -implicitDefEqProofs (disch:=omega) [hp,e1,e3,e4,hvl,ha2,hi]
   simpa -dsimp -implicitDefEqProofs (disch:=omega) using hT
  ·rw[yaO λh=>h0 (hk2.1 h)]
   have h0': ¬ (xk:Int)=0:=by omega
   have hi:=hi false;refine rg b22 rfl ?_;intro T hT;simp -dsimp -implicitDefEqProofs (disch:=omega) [hp,e1,e3,e4,hvl,ha2,h0,h0',hi]
   simpa -dsimp -implicitDefEqProofs (disch:=omega) using hT
 ·have hp:=hp f
  have ha:=hat j (by omega)
  rw[h1]at hp;have e1: ¬ (j:Int)<0:=by omega
  have e3:j<Y.length:=by omega
  have e4: ¬ r.length<=j:=by omega
  rw[evP,yac (by omega),yac (by omega),yac (by omega),h1,yat,hv]
  have ha2:Y[j]=(cellOf (atV r j)).d:=by rw[yak e3]at ha;exact yaN ha
  have hxs:=hxa j (by omega)
  generalize atV r j=x at*;have hfx:=zg6 (cellOf w) (by have:=(zbv hc).1;omega) (by have:=(zbv hc).2.2.2.2;omega)
  rw[zm2 hc]at hfx;have g1:=zcl (cellOf x) (cellOf w);have g2:=zcl (cellOf w) (cellOf x);rw[zmU]at g1 g2;have i1:=zrZ;have hws:=(zbv hc).2.2.2.2;have hk2:x= .null↔(cellOf x).kind=0:=by cases x <;> simp[cellOf,Cel.none]
  have heq:=znd x w;have hlk:op=4->(cellOf x).kind=3->R 73 [.d (.str (cellOf x).s),.d (.str (cellOf w).s)] []=some ([.d (.bool (zqB x w))],[]):=λh5 h6=>by
   have h7:=h4 h5;cases x with
   |text s=>
    cases w with
    |text t=>exact ztN s t (hxs s rfl) (by have:t.size<=64:=hws;omega)
    |_=>simp[Val.kind]at h7
   |_=>simp[cellOf,Cel.none]at h6
  have hlk2:(cellOf x).kind≠3->zqB x w=false:=λh=>by
   cases x with
   |text s=>exact absurd rfl h
   |_=>rfl
  have hwk3:op=4->(cellOf w).kind=3:=λh=>by rw[zEE];exact h4 h
  unfold evL;rw[yac (by omega)]
  generalize zqB x w=lx at*;generalize ltV x w=l1 at*;generalize ltV w x=l2 at*;generalize decide (x=w)=l3 at*;clear hxs hwk hw0 h4 hv hc;rw[zar];generalize cellOf x=cx at*;generalize cellOf w=cw at*;obtain⟨xk,xn,xs⟩:=cx;obtain⟨wk,wn,ws'⟩:=cw;simp only[Cel.d]at ha2 hfx g1 g2 hk2 heq hlk hlk2 hwk3 ⊢
  by_cases h0:xk=0
  ·rw[yag (hk2.2 h0)]
   subst h0;rcases ho with rfl | rfl | rfl | rfl
   all_goals
    refine rg b22 rfl ?_;intro T hT;simp -dsimp -implicitDefEqProofs (disch:=omega) [hp,e1,e3,e4,hvl,ha2]
    simpa -dsimp -implicitDefEqProofs (disch:=omega) using hT
  rw[yac λh=>h0 (hk2.1 h)]
  have h0': ¬ (xk:Int)=0:=by omega
  rcases ho with rfl | rfl | rfl | rfl
  ·rw[yag rfl]
   have i2:=i1 l3;refine rg b22 rfl ?_;intro T hT;simp -dsimp -implicitDefEqProofs (disch:=omega) [hp,e1,e3,e4,hvl,ha2,h0,h0',hfx,heq,zaS,i2]
   simpa -dsimp -implicitDefEqProofs (disch:=omega) using hT
  ·rw[yac (by omega),yag rfl]
   have i2:=i1 l1;refine rg b22 rfl ?_;intro T hT;simp -dsimp -implicitDefEqProofs (disch:=omega) [hp,e1,e3,e4,hvl,ha2,h0,h0',hfx,g1,i2]
   simpa -dsimp -implicitDefEqProofs (disch:=omega) using hT
  ·rw[yac (by omega),yac (by omega),yag rfl]
   have i2:=i1 (!l2);refine rg b22 rfl ?_;intro T hT;simp -dsimp -implicitDefEqProofs (disch:=omega) [hp,e1,e3,e4,hvl,ha2,h0,h0',hfx,g2,i2]
   simpa -dsimp -implicitDefEqProofs (disch:=omega) using hT
  ·rw[yac (by omega),yac (by omega),yac (by omega)]
   have hw3:=hwk3 rfl;subst hw3;simp only[show ((3:Nat):Int)=3 from rfl]at hfx
   by_cases h5:xk=3
   ·have hl5:=hlk rfl h5
    subst h5;have i2:=i1 lx;refine rg b22 rfl ?_;intro T hT;simp -dsimp -implicitDefEqProofs (disch:=omega) [hp,e1,e3,e4,hvl,ha2,hfx,hl5,i2]
    simpa -dsimp -implicitDefEqProofs (disch:=omega) using hT
   ·rw[hlk2 h5]
    have h5': ¬ (xk:Int)=3:=by omega
    have i2:=i1 false;refine rg b22 rfl ?_;intro T hT;simp -dsimp -implicitDefEqProofs (disch:=omega) [hp,e1,e3,e4,hvl,ha2,h0,h0',hfx,h5,h5',i2]
    simpa -dsimp -implicitDefEqProofs (disch:=omega) using hT
end Go.Am.Ab
