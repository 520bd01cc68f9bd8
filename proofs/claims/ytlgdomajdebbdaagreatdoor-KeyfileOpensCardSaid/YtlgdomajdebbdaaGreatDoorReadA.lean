/- The small parts of the readers. -/
import Derived.Test.YtlgdomajdebbdaaGreatDoorParsing
set_option linter.all false
namespace Go.Am.Ab
open Go.Proofs
set_option maxHeartbeats 4000000
abbrev B (b:List UInt8):V:= .d (.list (bytes b))
abbrev E (e:Nat):V:= .d (.int .i64 (e:Int))
abbrev Z:V:= .d (.int .i64 0)
def zcz:E 0=Z:=rfl
def zgl (x:D) (k:Int):R 253 [.ptr 0 0,.d (.int .i64 k)] [.box [.d x,Z]]=some ([],[.box [.d x,.d (.int .i64 k)]]):=by
 refine rg zCH rfl ?_;intro T hT;simp -dsimp -implicitDefEqProofs (disch:=first|omega|assumption)
 simpa -dsimp -implicitDefEqProofs (disch:=first|omega|assumption) [E]using hT
def zr7 (k:Int):R 253 [.ptr 0 0,.d (.int .i64 k)] [.box [.nilS,Z]]=some ([],[.box [.nilS,.d (.int .i64 k)]]):=by
 refine rg zCH rfl ?_;intro T hT;simp -dsimp -implicitDefEqProofs (disch:=first|omega|assumption)
 simpa -dsimp -implicitDefEqProofs (disch:=first|omega|assumption) [E]using hT
def zr8 (x:D) (e:Nat) (k:Int) (h:e≠0):R 253 [.ptr 0 0,.d (.int .i64 k)] [.box [.d x,E e]]=some ([],[.box [.d x,E e]]):=by
 refine rg zCH rfl ?_;intro T hT;simp -dsimp -implicitDefEqProofs (disch:=first|omega|assumption) [h]
 simpa -dsimp -implicitDefEqProofs (disch:=first|omega|assumption) [E]using hT
def zr9 (x:D) (e:Nat) (h:e≠0):R 264 [.ptr 0 0] [.box [.d x,E e]]=some ([.d (.int .u64 0)],[.box [.d x,E e]]):=by
 refine rg zDB rfl ?_;intro T hT;simp -dsimp -implicitDefEqProofs (disch:=first|omega|assumption) [h]
 simpa -dsimp -implicitDefEqProofs (disch:=first|omega|assumption) [B,E]using hT
def zpe (b:List UInt8) (hb:b.length<4611686018427387904):R 264 [.ptr 0 0] [.box [B b,Z]]=some ([.d (.int .u64 (get b).1)],[.box [B (b.drop (get b).2.1),E (get b).2.2]]):=by
 have hg:=zfa b hb;have hu:=zcL b;generalize get b=x at*;have hu':(x.2.1:Int)<=b.length:=by omega
 refine rg zDB rfl ?_;intro T hT;simp -dsimp -implicitDefEqProofs (disch:=first|omega|assumption) [hg,hu']
 simpa -dsimp -implicitDefEqProofs (disch:=first|omega|assumption) [B,E]using hT
def zgm (b:List UInt8) (hb:b.length<4611686018427387904):R 249 [.ptr 0 0] [.box [B b,Z]]=some ([.d (.int .i64 (zag (get b).1))],[.box [B (b.drop (get b).2.1),E (get b).2.2]]):=by
 have hg:=znP b hb;have hu:=zcL b;generalize get b=x at*;have hu':(x.2.1:Int)<=b.length:=by omega
 refine rg zE3 rfl ?_;intro T hT;simp -dsimp -implicitDefEqProofs (disch:=first|omega|assumption) [hg,hu']
 simpa -dsimp -implicitDefEqProofs (disch:=first|omega|assumption) [B,E]using hT
def zpf (x:D) (e:Nat) (h:e≠0):R 230 [.ptr 0 0] [.box [.d x,E e]]=some ([.d (.int .u64 0)],[.box [.d x,E e]]):=by
 refine rg zDv rfl ?_;intro T hT;simp -dsimp -implicitDefEqProofs (disch:=first|omega|assumption) [h]
 simpa -dsimp -implicitDefEqProofs (disch:=first|omega|assumption) [B,E]using hT
def zlh (b:List UInt8) (hb:b.length<4611686018427387904):R 230 [.ptr 0 0] [.box [B b,Z]]=some ([.d (.int .u64 (get b).1)],[.box [B (b.drop (get b).2.1),E (get b).2.2]]):=by
 have hg:=zeL b hb;rw[ziJ]at hg;have hu:=zcL b;generalize get b=x at*;have hu':(x.2.1:Int)<=b.length:=by omega
 refine rg zDv rfl ?_;intro T hT;simp -dsimp -implicitDefEqProofs (disch:=first|omega|assumption) [hg,hu']
 simpa -dsimp -implicitDefEqProofs (disch:=first|omega|assumption) [B,E]using hT
def zeW (b:List UInt8) (hb:b.length<4611686018427387904):R 229 [.ptr 0 0] [.box [B b,Z]]=some ([.d (.int .i64 (zag (get b).1))],[.box [B (b.drop (get b).2.1),E (get b).2.2]]):=by
 have hg:=zmp b hb;have hu:=zcL b;generalize get b=x at*;have hu':(x.2.1:Int)<=b.length:=by omega
 refine rg zER rfl ?_;intro T hT;simp -dsimp -implicitDefEqProofs (disch:=first|omega|assumption) [hg,hu']
 simpa -dsimp -implicitDefEqProofs (disch:=first|omega|assumption) [B,E]using hT
end Go.Am.Ab
namespace Go.Am.Ab
open Go.Proofs
set_option maxHeartbeats 4000000
abbrev us (l:List Nat):List D:=l.map λ(n:Nat)=>D.int .u64 (n:Int)
def zkr {n w e:Nat} {b:List UInt8} (h:za6 n w b= .err e) (hn:n<=256) (hw:w<=64) (hb:b.length<4611686018427387904):
 R 266 [.ptr 0 0,.d (.int .i64 n),.d (.int .i64 w)] [.box [B b,Z]]=some ([.arr 1 n],[.box [B b,E e],.arr 1 (List.replicate n (.int .u64 0)) 0]):=by
 have hnw:n*w<=256*64:=Nat.mul_le_mul hn hw;unfold za6 at h;have hc:=ziH b n w hn hw;obtain⟨lw,hlw⟩: ∃lw,lw=n*w:=⟨_,rfl⟩;have hlw':(n:Int)*w=lw:=by rw[hlw,Int.natCast_mul]
 rw[<- hlw]at h hnw hc;obtain⟨sz,hsz⟩: ∃sz,sz=(lw+7) / 8:=⟨_,rfl⟩;have hszi:((lw:Int)+7) / 8=sz:=by omega
 rw[<- hsz]at h hc;have f1:=zgl (.list (bytes b)) 30;have f2:=zgl (.list (bytes b)) 32
 by_cases h1:b.length<sz
 ·rw[if_pos h1]at h
  cases h;have h2: ¬ sz<b.length:=by omega
  refine rg zAQ rfl ?_;intro T hT;simp -dsimp -implicitDefEqProofs (disch:=first|omega|assumption) [hlw',hszi,h1,h2,f1]
  simpa -dsimp -implicitDefEqProofs (disch:=first|omega|assumption) [B,E]using hT
 ·rw[if_neg h1]at h
  by_cases h2:sz<b.length
  ·rw[if_pos h2]at h
   cases h;refine rg zAQ rfl ?_;intro T hT;simp -dsimp -implicitDefEqProofs (disch:=first|omega|assumption) [hlw',hszi,h1,h2,f2]
   simpa -dsimp -implicitDefEqProofs (disch:=first|omega|assumption) [B,E]using hT
  ·rw[if_neg h2]at h
   have h3:b.length=sz:=by omega
   split at h
   ·cases h
   ·rename_i h4
    cases h;have hu:=hc h3 h4;have f3:=zgl (.list (bytes b)) 40;refine rg zAQ rfl ?_;intro T hT;simp -dsimp -implicitDefEqProofs (disch:=first|omega|assumption) [hlw',hszi,h1,h2,hu,f3]
    simpa -dsimp -implicitDefEqProofs (disch:=first|omega|assumption) [B,E]using hT
def zgn {n w:Nat} {b r:List UInt8} {p:List Nat} (h:za6 n w b= .ok p r) (hn:n<=256) (hw:w<=64) (hb:b.length<4611686018427387904):
 r=[]/\p.length=n/\(∀q∈p,q<18446744073709551616)/\R 266 [.ptr 0 0,.d (.int .i64 n),.d (.int .i64 w)] [.box [B b,Z]]=some ([.arr 1 n],[.box [.nilS,Z],.arr 1 (us p) 0]):=by
 have hnw:n*w<=256*64:=Nat.mul_le_mul hn hw;unfold za6 at h;have hc:=zkd b n w hn hw;split at h
 ·cases h
 ·rename_i h1
  split at h
  ·cases h
  ·rename_i h2
   split at h
   ·rename_i h4
    cases h;refine⟨rfl,zdq _ _ _,λq hq=>zzO hw hq, ?_⟩
    have hu:=hc (by omega) h4
    obtain⟨p,hp⟩: ∃p,p=ups w (num b) n:=⟨_,rfl⟩;rw[<- hp]at hu ⊢;have hpl:p.length=n:=by rw[hp];exact zdq _ _ _
    obtain⟨lw,hlw⟩: ∃lw,lw=n*w:=⟨_,rfl⟩;have hlw':(n:Int)*w=lw:=by rw[hlw,Int.natCast_mul]
    rw[<- hlw]at h1 h2 hnw;obtain⟨sz,hsz⟩: ∃sz,sz=(lw+7) / 8:=⟨_,rfl⟩;have hszi:((lw:Int)+7) / 8=sz:=by omega
    rw[<- hsz]at h1 h2;refine rg zAQ rfl ?_;intro T hT;simp -dsimp -implicitDefEqProofs (disch:=first|omega|assumption) [hlw',hszi,h1,h2,hu]
    simpa -dsimp -implicitDefEqProofs (disch:=first|omega|assumption) [B,E]using hT
   ·cases h
def zfS (x:D) (n w:Int) (e:Nat) (he:e≠0):R 231 [.ptr 0 0,.d (.int .i64 n),.d (.int .i64 w)] [.box [.d x,E e]]=some ([.arr 1 0],[.box [.d x,E e],.arr 1 [] 0]):=by
 refine rg zzK rfl ?_;intro T hT;simp -dsimp -implicitDefEqProofs (disch:=first|omega|assumption) [he]
 simpa -dsimp -implicitDefEqProofs (disch:=first|omega|assumption) [B,E]using hT
def ziZ {n w e:Nat} {b:List UInt8} (h:za6 n w b= .err e) (hn:n<=256) (hw:w<=64) (hb:b.length<4611686018427387904):
 ∃x,(x=B b\/x= .nilS)/\R 231 [.ptr 0 0,.d (.int .i64 n),.d (.int .i64 w)] [.box [B b,Z]]=some ([.arr 1 0],[.box [x,E e],.arr 1 [] 0]):=by
 have hnw:n*w<=256*64:=Nat.mul_le_mul hn hw;unfold za6 at h;have hc:=zfL b n w hn hw;obtain⟨lw,hlw⟩: ∃lw,lw=n*w:=⟨_,rfl⟩;have hlw':(n:Int)*w=lw:=by rw[hlw,Int.natCast_mul]
 rw[<- hlw]at h hnw hc;obtain⟨sz,hsz⟩: ∃sz,sz=(lw+7) / 8:=⟨_,rfl⟩;have hszi:((lw:Int)+7) / 8=sz:=by omega
 rw[<- hsz]at h hc
 by_cases h1:b.length<sz
 ·rw[if_pos h1]at h
  cases h;refine⟨_,.inl rfl, ?_⟩;refine rg zzK rfl ?_;intro T hT;simp -dsimp -implicitDefEqProofs (disch:=first|omega|assumption) [hlw',hszi,h1]
  simpa -dsimp -implicitDefEqProofs (disch:=first|omega|assumption) [B,E]using hT
 ·rw[if_neg h1]at h
  by_cases h2:sz<b.length
  ·rw[if_pos h2]at h
   cases h;refine⟨_,.inl rfl, ?_⟩;refine rg zzK rfl ?_;intro T hT;simp -dsimp -implicitDefEqProofs (disch:=first|omega|assumption) [hlw',hszi,h1,h2]
   simpa -dsimp -implicitDefEqProofs (disch:=first|omega|assumption) [B,E]using hT
  ·rw[if_neg h2]at h
   have h3:b.length=sz:=by omega
   split at h
   ·cases h
   ·rename_i h4
    cases h;have hu:=hc h3;rw[if_neg h4]at hu;refine⟨_,.inr rfl, ?_⟩;refine rg zzK rfl ?_;intro T hT;simp -dsimp -implicitDefEqProofs (disch:=first|omega|assumption) [hlw',hszi,h1,h2,hu]
    simpa -dsimp -implicitDefEqProofs (disch:=first|omega|assumption) [B,E]using hT
def zks {n w:Nat} {b r:List UInt8} {p:List Nat} (h:za6 n w b= .ok p r) (hn:n<=256) (hw:w<=64) (hb:b.length<4611686018427387904):
 R 231 [.ptr 0 0,.d (.int .i64 n),.d (.int .i64 w)] [.box [B b,Z]]=some ([.arr 1 n],[.box [.nilS,Z],.arr 1 (us p) 0]):=by
 have hnw:n*w<=256*64:=Nat.mul_le_mul hn hw;unfold za6 at h;have hc:=zfL b n w hn hw;split at h
 ·cases h
 ·rename_i h1
  split at h
  ·cases h
  ·rename_i h2
   split at h
   ·rename_i h4
    cases h;have hu:=hc (by omega)
    rw[if_pos h4]at hu;obtain⟨p,hp⟩: ∃p,p=ups w (num b) n:=⟨_,rfl⟩;rw[<- hp]at hu ⊢;have hpl:p.length=n:=by rw[hp];exact zdq _ _ _
    obtain⟨lw,hlw⟩: ∃lw,lw=n*w:=⟨_,rfl⟩;have hlw':(n:Int)*w=lw:=by rw[hlw,Int.natCast_mul]
    rw[<- hlw]at h1 h2 hnw;obtain⟨sz,hsz⟩: ∃sz,sz=(lw+7) / 8:=⟨_,rfl⟩;have hszi:((lw:Int)+7) / 8=sz:=by omega
    rw[<- hsz]at h1 h2;refine rg zzK rfl ?_;intro T hT;simp -dsimp -implicitDefEqProofs (disch:=first|omega|assumption) [hlw',hszi,h1,h2,hu]
    simpa -dsimp -implicitDefEqProofs (disch:=first|omega|assumption) [B,E]using hT
   ·cases h
end Go.Am.Ab
namespace Go.Am.Ab
open Go.Proofs
set_option maxHeartbeats 4000000
def zfj (a b:List UInt8) (ha:a.length<4611686018427387904):R 72 [B a,B b] []=some ([.d (.bool (decide (a=b)))],[]):=by
 by_cases hl:a.length=b.length
 ·have hl':(a.length:Int)=b.length:=by omega
  refine rg b72 rfl ?_;intro T hT;simp -dsimp -implicitDefEqProofs (disch:=first|omega|assumption) [hl,hl']
  generalize hz:zac _ _ _ _ _ _=z;revert z;refine zaa (σ:=Nat) (λi=>[(0,B a),(1,B b),(12,.d (.int .i64 a.length)),(13,.d (.int .i64 i))]) (λi=>[]) (λi=>i<=a.length/\ ∀p,p<i->a[p]? =b[p]?) (λi=>a.length - i) 0 ?_ ?_ ?_
  ·exact⟨Nat.zero_le _,λp h=>by omega⟩
  ·simp -dsimp -implicitDefEqProofs (disch:=first|omega|assumption) [hl]
  intro T' f hT' i ⟨hi,hp⟩ ih
  by_cases h1:i<a.length
  ·have h2:i<b.length:=by omega
   have h1':(i:Int)<a.length:=by omega
   by_cases h3:a[i].toNat=b[i].toNat
   ·simp -dsimp -implicitDefEqProofs (disch:=first|omega|assumption) [h1,h1',h2,h3]
    refine ih (i+1) _ _ ⟨h1,λp hp2=> ?_⟩ (by omega) (by simp -dsimp -implicitDefEqProofs (disch:=first|omega|assumption))
    by_cases c:p=i
    ·rw[c,List.getElem?_eq_getElem h1,List.getElem?_eq_getElem h2,zu0 h3]
    ·exact hp p (by omega)
   ·have hab: ¬ a=b:=λe=>h3 (by simp only[e])
    subst hT';simp -dsimp -implicitDefEqProofs (disch:=first|omega|assumption) [h1,h1',h2,h3]
    simpa -dsimp -implicitDefEqProofs (disch:=first|omega|assumption) [hab]using hT
  ·have hab:a=b:=List.ext_getElem? λp=>by
    by_cases c:p<i
    ·exact hp p c
    ·rw[List.getElem?_eq_none (by omega),List.getElem?_eq_none (by omega)]
   have h1': ¬ (i:Int)<a.length:=by omega
   subst hT';simp -dsimp -implicitDefEqProofs (disch:=first|omega|assumption) [h1,h1']
   simpa -dsimp -implicitDefEqProofs (disch:=first|omega|assumption) [hab]using hT
 ·have hl': ¬ (a.length:Int)=b.length:=by omega
  have hab: ¬ a=b:=λe=>hl (by rw[e])
  refine rg b72 rfl ?_;intro T hT;simp -dsimp -implicitDefEqProofs (disch:=first|omega|assumption) [hl,hl']
  simpa -dsimp -implicitDefEqProofs (disch:=first|omega|assumption) [hab]using hT
def zsa (k:Nat) (hk:k<=256):R 248 [.d (.int .u64 1),.d (.int .u64 k)] []=some ([.d (.int .u64 0),.d (.int .u64 k)],[]):=by
 have h1:k &&& 4294967295=k:=by rw[show (4294967295:Nat)=2 ^ 32 - 1 from rfl,zdI];omega
 have h2:(1:Nat) &&& 4294967295=1:=by decide
 have h3:(k:Int) / 4294967296=0:=by omega
 have h4:(1:Int) / 4294967296=0:=by omega
 have hw:IntKind.u64.wrap (k:Int)=k:=zae (by omega) (by omega)
 have hw0:IntKind.u64.wrap 0=0:=zae (by omega) (by omega)
 have h5:(0:Nat) &&& 4294967295=0:=by decide
 refine rg zE2 rfl ?_;intro T hT;simp -dsimp -implicitDefEqProofs (disch:=first|omega|assumption) [h1,h2,h3,h4,h5,hw,hw0]
 simpa -dsimp -implicitDefEqProofs (disch:=first|omega|assumption) using hT
def zhy (k:Nat) (hk:k<=256):R 226 [.d (.int .u64 1),.d (.int .u64 k)] []=some ([.d (.int .u64 0),.d (.int .u64 k)],[]):=by
 have h:=zsa k hk;refine rg zEQ rfl ?_;intro T hT;simp -dsimp -implicitDefEqProofs (disch:=first|omega|assumption) [h]
 simpa -dsimp -implicitDefEqProofs (disch:=first|omega|assumption) using hT
def zbC (x:Int) (n j:Nat):List Int:=List.replicate j x++List.replicate (n - j) 0
def znW (x:Int) (n:Nat) (hn:n<=256):R 265 [.arr 0 1,.d (.int .i64 n)] [.arr 1 [.int .i64 x] 0]=some ([.arr 1 n],[.arr 1 [.int .i64 x] 0,.arr 1 (cs (List.replicate n x)) 0]):=by
 have hm:=zhy n hn;have hw:IntKind.u64.wrap (n:Int)=n:=zae (by omega) (by omega)
 have hw1:IntKind.u64.wrap 1=1:=zae (by omega) (by omega)
 have hn0: ¬ (n:Int)<0:=by omega
 have hfit: ¬ (9223372036854775807:Int)<n:=by omega
 have hqi:IntKind.i64.wrap (n:Int)=n:=wI (by omega) (by omega)
 by_cases h0:n=0
 ·subst h0
  rw[show ((0:Nat):Int)=0 from rfl]at*
  refine rg zDC rfl ?_;intro T hT;simp -dsimp -implicitDefEqProofs (disch:=first|omega|assumption) [hm,hw,hw1]
  generalize hz:zac _ _ _ _ _ _=z;revert z;refine zaa (σ:=Unit) (λ_=>[(7,.arr 1 0),(8,.d (.int .i64 0))]) (λ_=>[.arr 1 [.int .i64 x] 0,.arr 1 [] 0]) (λ_=>True) (λ_=>0) () ?_ ?_ ?_
  ·trivial
  ·simp -dsimp -implicitDefEqProofs (disch:=first|omega|assumption)
  intro T' f hT' _ _ ih;subst hT';simp -dsimp -implicitDefEqProofs (disch:=first|omega|assumption)
  simpa -dsimp -implicitDefEqProofs (disch:=first|omega|assumption) using hT
 ·have h0': ¬ (n:Int)=0:=by omega
  have hmin:min 1 n=1:=by omega
  have hpos:0<n:=by omega
  have hfl: ∀j,j<=n->(zbC x n j).length=n:=λj hj=>by simp[zbC];omega
  have htk:List.take n [D.int .i64 x]=[D.int .i64 x]:=List.take_of_length_le (by simp;omega)
  refine rg zDC rfl ?_;intro T hT;simp -dsimp -implicitDefEqProofs (disch:=first|omega|assumption) [hm,hw,hw1,hn0,hfit,hqi,h0,h0',hmin,hpos,htk]
  generalize hz:zac _ _ _ _ _ _=z;revert z;refine zaa (σ:=Nat) (λj=>[(7,.arr 1 n),(8,.d (.int .i64 j))]) (λj=>[.arr 1 [.int .i64 x] 0,.arr 1 (cs (zbC x n j)) 0]) (λj=>0<j/\j<=n) (λj=>n - j) 1 ?_ ?_ ?_
  ·omega
  ·simp -dsimp -implicitDefEqProofs (disch:=first|omega|assumption) [zbC]
  intro T' f hT' j ⟨hj0,hj⟩ ih;have hfj:=hfl j hj
  by_cases h1:j<n
  ·have h1':(j:Int)<n:=by omega
   have hnj: ¬ 0=n:=by omega
   have hjle:j<=n:=hj;obtain⟨k,hk⟩: ∃k,k=min (n - j) j:=⟨_,rfl⟩;have hk':min (n - j) j=k:=hk.symm;have hk2:min j (n - j)=k:=by omega
   have hA:List.take j (List.map (λn=>D.int .i64 n) (zbC x n j))=List.replicate j (D.int .i64 x):=by
    unfold zbC;rw[List.map_append,List.take_append_of_le_length (by simp),List.take_of_length_le (by simp)];simp
   have hC:List.drop (j+k) (List.map (λn=>D.int .i64 n) (zbC x n j))=List.replicate (n - j - k) (D.int .i64 0):=by
    unfold zbC;rw[List.map_append,List.drop_append,List.drop_of_length_le (by simp),List.nil_append]
    simp
   have hD:List.replicate j (D.int .i64 x)++(List.replicate k (D.int .i64 x)++List.replicate (n - j - k) (D.int .i64 0))=List.map (λn=>D.int .i64 n) (zbC x n (j+k)):=by
    unfold zbC;rw[<- List.append_assoc,List.replicate_append_replicate,show n - (j+k)=n - j - k by omega]
    simp
   simp -dsimp -implicitDefEqProofs (disch:=first|omega|assumption) [h1,h1',hfj,hnj,hjle,hA,hk',hk2,hC,hD]
   have hnjk:n - (j+k)=n - j - k:=by omega
   exact ih (j+k) _ _ (by omega) (by omega) (by simp -dsimp -implicitDefEqProofs (disch:=first|omega|assumption) [zbC,hnjk])
  ·have hjn:j=n:=by omega
   have hff:zbC x n n=List.replicate n x:=by simp[zbC]
   subst hT';rw[hjn,hff];simp -dsimp -implicitDefEqProofs (disch:=first|omega|assumption)
   simpa -dsimp -implicitDefEqProofs (disch:=first|omega|assumption) using hT
end Go.Am.Ab
