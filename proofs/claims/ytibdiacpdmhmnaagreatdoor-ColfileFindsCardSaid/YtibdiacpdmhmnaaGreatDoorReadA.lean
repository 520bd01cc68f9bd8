/- The small parts of the readers. -/
import Derived.Test.YtibdiacpdmhmnaaGreatDoorParsing
set_option linter.all false
namespace Go.Am.Ab
open Go.Proofs
set_option maxHeartbeats 4000000
abbrev B (b:List UInt8):V:= .d (.list (bytes b))
abbrev E (e:Nat):V:= .d (.int .i64 (e:Int))
abbrev Z:V:= .d (.int .i64 0)
def zfZ:E 0=Z:=rfl
def zhf (x:D) (k:Int):R 213 [.ptr 0 0,.d (.int .i64 k)] [.box [.d x,Z]]=some ([],[.box [.d x,.d (.int .i64 k)]]):=by
 refine rg zId rfl ?_;intro T hT;simp -dsimp -implicitDefEqProofs (disch:=omega)
 simpa -dsimp -implicitDefEqProofs (disch:=omega) [E]using hT
def zvn (k:Int):R 213 [.ptr 0 0,.d (.int .i64 k)] [.box [.nilS,Z]]=some ([],[.box [.nilS,.d (.int .i64 k)]]):=by
 refine rg zId rfl ?_;intro T hT;simp -dsimp -implicitDefEqProofs (disch:=omega)
 simpa -dsimp -implicitDefEqProofs (disch:=omega) [E]using hT
def zvo (x:D) (e:Nat) (k:Int) (h:e≠0):R 213 [.ptr 0 0,.d (.int .i64 k)] [.box [.d x,E e]]=some ([],[.box [.d x,E e]]):=by
 refine rg zId rfl ?_;intro T hT;simp -dsimp -implicitDefEqProofs (disch:=omega) [h]
 simpa -dsimp -implicitDefEqProofs (disch:=omega) [E]using hT
def zvp (x:D) (e:Nat) (h:e≠0):R 217 [.ptr 0 0] [.box [.d x,E e]]=some ([.d (.int .u64 0)],[.box [.d x,E e]]):=by
 refine rg zI7 rfl ?_;intro T hT;simp -dsimp -implicitDefEqProofs (disch:=omega) [h]
 simpa -dsimp -implicitDefEqProofs (disch:=omega) [B,E]using hT
def zrz (b:List UInt8) (hb:b.length<4611686018427387904):R 217 [.ptr 0 0] [.box [B b,Z]]=some ([.d (.int .u64 (get b).1)],[.box [B (b.drop (get b).2.1),E (get b).2.2]]):=by
 have hg:=zfo b hb;have hu:=zfw b;generalize get b=x at*;have hu':(x.2.1:Int)<=b.length:=by omega
 refine rg zI7 rfl ?_;intro T hT;simp -dsimp -implicitDefEqProofs (disch:=omega) [hg,hu']
 simpa -dsimp -implicitDefEqProofs (disch:=omega) [B,E]using hT
def zhg (b:List UInt8) (hb:b.length<4611686018427387904):R 209 [.ptr 0 0] [.box [B b,Z]]=some ([.d (.int .i64 (zag (get b).1))],[.box [B (b.drop (get b).2.1),E (get b).2.2]]):=by
 have hg:=zjX b hb;have hu:=zfw b;generalize get b=x at*;have hu':(x.2.1:Int)<=b.length:=by omega
 refine rg zKp rfl ?_;intro T hT;simp -dsimp -implicitDefEqProofs (disch:=omega) [hg,hu']
 simpa -dsimp -implicitDefEqProofs (disch:=omega) [B,E]using hT
end Go.Am.Ab
namespace Go.Am.Ab
open Go.Proofs
set_option maxHeartbeats 4000000
abbrev us (l:List Nat):List D:=l.map λ(n:Nat)=>D.int .u64 (n:Int)
def zlZ {n w e:Nat} {b:List UInt8} (h:zbN n w b= .err e) (hn:n<=256) (hw:w<=64) (hb:b.length<4611686018427387904):
 R 219 [.ptr 0 0,.d (.int .i64 n),.d (.int .i64 w)] [.box [B b,Z]]=some ([.arr 1 n],[.box [B b,E e],.arr 1 (List.replicate n (.int .u64 0)) 0]):=by
 have hnw:n*w<=256*64:=ybA hn hw;unfold zbN at h;have hc:=zjZ b n w hn hw;obtain⟨lw,hlw⟩: ∃lw,lw=n*w:=⟨_,rfl⟩;have hlw':(n:Int)*w=lw:=by rw[hlw,ybt]
 rw[<- hlw]at h hnw hc;obtain⟨sz,hsz⟩: ∃sz,sz=(lw+7) / 8:=⟨_,rfl⟩;have hszi:((lw:Int)+7) / 8=sz:=by omega
 rw[<- hsz]at h hc;have f1:=zhf (.list (bytes b)) 30;have f2:=zhf (.list (bytes b)) 32
 by_cases h1:b.length<sz
 ·rw[yag h1]at h
  cases h;have h2: ¬ sz<b.length:=by omega
  refine rg zFN rfl ?_;intro T hT;simp -dsimp -implicitDefEqProofs (disch:=omega) [hlw',hszi,h1,h2,f1]
  simpa -dsimp -implicitDefEqProofs (disch:=omega) [B,E]using hT
 ·rw[yac h1]at h
  by_cases h2:sz<b.length
  ·rw[yag h2]at h
   cases h;refine rg zFN rfl ?_;intro T hT;simp -dsimp -implicitDefEqProofs (disch:=omega) [hlw',hszi,h1,h2,f2]
   simpa -dsimp -implicitDefEqProofs (disch:=omega) [B,E]using hT
  ·rw[yac h2]at h
   have h3:b.length=sz:=by omega
   split at h
   ·cases h
   ·rename_i h4
    cases h;have hu:=hc h3 h4;have f3:=zhf (.list (bytes b)) 40;refine rg zFN rfl ?_;intro T hT;simp -dsimp -implicitDefEqProofs (disch:=omega) [hlw',hszi,h1,h2,hu,f3]
    simpa -dsimp -implicitDefEqProofs (disch:=omega) [B,E]using hT
def zoy {n w:Nat} {b r:List UInt8} {p:List Nat} (h:zbN n w b= .ok p r) (hn:n<=256) (hw:w<=64) (hb:b.length<4611686018427387904):
 r=[]/\p.length=n/\(∀q∈p,q<18446744073709551616)/\R 219 [.ptr 0 0,.d (.int .i64 n),.d (.int .i64 w)] [.box [B b,Z]]=some ([.arr 1 n],[.box [.nilS,Z],.arr 1 (us p) 0]):=by
 have hnw:n*w<=256*64:=ybA hn hw;unfold zbN at h;have hc:=zlI b n w hn hw;split at h
 ·cases h
 ·rename_i h1
  split at h
  ·cases h
  ·rename_i h2
   split at h
   ·rename_i h4
    cases h;refine⟨rfl,zfq _ _ _,λq hq=>zEl hw hq, ?_⟩
    have hu:=hc (by omega) h4
    obtain⟨p,hp⟩: ∃p,p=ups w (num b) n:=⟨_,rfl⟩;rw[<- hp]at hu ⊢;have hpl:p.length=n:=by rw[hp];exact zfq _ _ _
    obtain⟨lw,hlw⟩: ∃lw,lw=n*w:=⟨_,rfl⟩;have hlw':(n:Int)*w=lw:=by rw[hlw,ybt]
    rw[<- hlw]at h1 h2 hnw;obtain⟨sz,hsz⟩: ∃sz,sz=(lw+7) / 8:=⟨_,rfl⟩;have hszi:((lw:Int)+7) / 8=sz:=by omega
    rw[<- hsz]at h1 h2;refine rg zFN rfl ?_;intro T hT;simp -dsimp -implicitDefEqProofs (disch:=omega) [hlw',hszi,h1,h2,hu]
    simpa -dsimp -implicitDefEqProofs (disch:=omega) [B,E]using hT
   ·cases h
end Go.Am.Ab
namespace Go.Am.Ab
open Go.Proofs
set_option maxHeartbeats 4000000
def zfz (a b:List UInt8) (ha:a.length<4611686018427387904):R 61 [B a,B b] []=some ([.d (.bool (decide (a=b)))],[]):=by
 by_cases hl:a.length=b.length
 ·have hl':(a.length:Int)=b.length:=by omega
  refine rg b61 rfl ?_;intro T hT;simp -dsimp -implicitDefEqProofs (disch:=omega) [hl,hl']
  generalize hz:zaf _ _ _ _ _ _=z;revert z;refine zaa (σ:=Nat) (λi=>[(0,B a),(1,B b),(12,.d (.int .i64 a.length)),(13,.d (.int .i64 i))]) (λi=>[]) (λi=>i<=a.length/\ ∀p,p<i->a[p]? =b[p]?) (λi=>a.length - i) 0 ?_ ?_ ?_
  ·exact⟨yai _,λp h=>by omega⟩
  ·simp -dsimp -implicitDefEqProofs (disch:=omega) [hl]
  intro T' f hT' i ⟨hi,hp⟩ ih
  by_cases h1:i<a.length
  ·have h2:i<b.length:=by omega
   have h1':(i:Int)<a.length:=by omega
   by_cases h3:a[i].toNat=b[i].toNat
   ·simp -dsimp -implicitDefEqProofs (disch:=omega) [h1,h1',h2,h3]
    refine ih (i+1) _ _ ⟨h1,λp hp2=> ?_⟩ (by omega) (by simp -dsimp -implicitDefEqProofs (disch:=omega))
    by_cases c:p=i
    ·rw[c,yak h1,yak h2,zEk h3]
    ·exact hp p (by omega)
   ·have hab: ¬ a=b:=λe=>h3 (by simp only[e])
    subst hT';simp -dsimp -implicitDefEqProofs (disch:=omega) [h1,h1',h2,h3]
    simpa -dsimp -implicitDefEqProofs (disch:=omega) [hab]using hT
  ·have hab:a=b:=ybV λp=>by
    by_cases c:p<i
    ·exact hp p c
    ·rw[yaL (by omega),yaL (by omega)]
   have h1': ¬ (i:Int)<a.length:=by omega
   subst hT';simp -dsimp -implicitDefEqProofs (disch:=omega) [h1,h1']
   simpa -dsimp -implicitDefEqProofs (disch:=omega) [hab]using hT
 ·have hl': ¬ (a.length:Int)=b.length:=by omega
  have hab: ¬ a=b:=λe=>hl (by rw[e])
  refine rg b61 rfl ?_;intro T hT;simp -dsimp -implicitDefEqProofs (disch:=omega) [hl,hl']
  simpa -dsimp -implicitDefEqProofs (disch:=omega) [hab]using hT
def zvq (k:Nat) (hk:k<=256):R 208 [.d (.int .u64 1),.d (.int .u64 k)] []=some ([.d (.int .u64 0),.d (.int .u64 k)],[]):=by
 have h1:k &&& 4294967295=k:=by rw[show (4294967295:Nat)=2 ^ 32 - 1 from rfl,zg0];omega
 have h2:(1:Nat) &&& 4294967295=1:=by decide
 have h3:(k:Int) / 4294967296=0:=by omega
 have h4:(1:Int) / 4294967296=0:=by omega
 have hw:IntKind.u64.wrap (k:Int)=k:=zal (by omega) (by omega)
 have hw0:IntKind.u64.wrap 0=0:=zal (by omega) (by omega)
 have h5:(0:Nat) &&& 4294967295=0:=by decide
 refine rg zKo rfl ?_;intro T hT;simp -dsimp -implicitDefEqProofs (disch:=omega) [h1,h2,h3,h4,h5,hw,hw0]
 simpa -dsimp -implicitDefEqProofs (disch:=omega) using hT
def ziI (k:Nat) (hk:k<=256):R 194 [.d (.int .u64 1),.d (.int .u64 k)] []=some ([.d (.int .u64 0),.d (.int .u64 k)],[]):=by
 have h:=zvq k hk;refine rg zKm rfl ?_;intro T hT;simp -dsimp -implicitDefEqProofs (disch:=omega) [h]
 simpa -dsimp -implicitDefEqProofs (disch:=omega) using hT
def zbr (x:Int) (n j:Nat):List Int:=List.replicate j x++List.replicate (n - j) 0
def zqf (x:Int) (n:Nat) (hn:n<=256):R 218 [.arr 0 1,.d (.int .i64 n)] [.arr 1 [.int .i64 x] 0]=some ([.arr 1 n],[.arr 1 [.int .i64 x] 0,.arr 1 (cs (List.replicate n x)) 0]):=by
 have hm:=ziI n hn;have hw:IntKind.u64.wrap (n:Int)=n:=zal (by omega) (by omega)
 have hw1:IntKind.u64.wrap 1=1:=zal (by omega) (by omega)
 have hn0: ¬ (n:Int)<0:=by omega
 have hfit: ¬ (9223372036854775807:Int)<n:=by omega
 have hqi:IntKind.i64.wrap (n:Int)=n:=wI (by omega) (by omega)
 by_cases h0:n=0
 ·subst h0
  rw[show ((0:Nat):Int)=0 from rfl]at*
  refine rg zI8 rfl ?_;intro T hT;simp -dsimp -implicitDefEqProofs (disch:=omega) [hm,hw,hw1]
  generalize hz:zaf _ _ _ _ _ _=z;revert z;refine zaa (σ:=Unit) (λ_=>[(7,.arr 1 0),(8,.d (.int .i64 0))]) (λ_=>[.arr 1 [.int .i64 x] 0,.arr 1 [] 0]) (λ_=>True) (λ_=>0) () ?_ ?_ ?_
  ·trivial
  ·simp -dsimp -implicitDefEqProofs (disch:=omega)
  intro T' f hT' _ _ ih;subst hT';simp -dsimp -implicitDefEqProofs (disch:=omega)
  simpa -dsimp -implicitDefEqProofs (disch:=omega) using hT
 ·have h0': ¬ (n:Int)=0:=by omega
  have hmin:min 1 n=1:=by omega
  have hpos:0<n:=by omega
  have hfl: ∀j,j<=n->(zbr x n j).length=n:=λj hj=>by simp[zbr];omega
  have htk:List.take n [D.int .i64 x]=[D.int .i64 x]:=yaA (by simp;omega)
  refine rg zI8 rfl ?_;intro T hT;simp -dsimp -implicitDefEqProofs (disch:=omega) [hm,hw,hw1,hn0,hfit,hqi,h0,h0',hmin,hpos,htk]
  generalize hz:zaf _ _ _ _ _ _=z;revert z;refine zaa (σ:=Nat) (λj=>[(7,.arr 1 n),(8,.d (.int .i64 j))]) (λj=>[.arr 1 [.int .i64 x] 0,.arr 1 (cs (zbr x n j)) 0]) (λj=>0<j/\j<=n) (λj=>n - j) 1 ?_ ?_ ?_
  ·omega
  ·simp -dsimp -implicitDefEqProofs (disch:=omega) [zbr]
  intro T' f hT' j ⟨hj0,hj⟩ ih;have hfj:=hfl j hj
  by_cases h1:j<n
  ·have h1':(j:Int)<n:=by omega
   have hnj: ¬ 0=n:=by omega
   have hjle:j<=n:=hj;obtain⟨k,hk⟩: ∃k,k=min (n - j) j:=⟨_,rfl⟩;have hk':min (n - j) j=k:=hk.symm;have hk2:min j (n - j)=k:=by omega
   have hA:List.take j (List.map (λn=>D.int .i64 n) (zbr x n j))=List.replicate j (D.int .i64 x):=by
    unfold zbr;rw[ya7,ybE (by simp),yaA (by simp)];simp
   have hC:List.drop (j+k) (List.map (λn=>D.int .i64 n) (zbr x n j))=List.replicate (n - j - k) (D.int .i64 0):=by
    unfold zbr;rw[ya7,ydj,yaJ (by simp),ybT]
    simp
   have hD:List.replicate j (D.int .i64 x)++(List.replicate k (D.int .i64 x)++List.replicate (n - j - k) (D.int .i64 0))=List.map (λn=>D.int .i64 n) (zbr x n (j+k)):=by
    unfold zbr;rw[<- yan,ycq,show n - (j+k)=n - j - k by omega]
    simp
   simp -dsimp -implicitDefEqProofs (disch:=omega) [h1,h1',hfj,hnj,hjle,hA,hk',hk2,hC,hD]
   have hnjk:n - (j+k)=n - j - k:=by omega
   exact ih (j+k) _ _ (by omega) (by omega) (by simp -dsimp -implicitDefEqProofs (disch:=omega) [zbr,hnjk])
  ·have hjn:j=n:=by omega
   have hff:zbr x n n=List.replicate n x:=by simp[zbr]
   subst hT';rw[hjn,hff];simp -dsimp -implicitDefEqProofs (disch:=omega)
   simpa -dsimp -implicitDefEqProofs (disch:=omega) using hT
end Go.Am.Ab
