/- Files of rows, read: parts. -/
import Derived.Test.YtibdiacpdmhmnaaGreatDoorReadA
import Derived.Test.YtibdiacpdmhmnaaGreatDoorCellsA
import Derived.Test.YtibdiacpdmhmnaaGreatDoorSchemaA
import Derived.Test.YtibdiacpdmhmnaaGreatDoorSums
import Derived.Test.YtibdiacpdmhmnaaGreatDoorFileA
set_option linter.all false
namespace Go.Am.Ab
open Go.Proofs
set_option maxHeartbeats 4000000
set_option maxRecDepth 4000
abbrev Bo (b:Bool):V:= .d (.bool b)
def zeq (most:Nat) (s:List UInt8 × Bool):Nat × List UInt8 × Bool:=
 if (get s.1).2.2≠0\/most<(get s.1).1\/s.2=true then (0,s.1,true) else ((get s.1).1,s.1.drop (get s.1).2.1,false)
def zdC (most:Nat) (s:List UInt8 × Bool):(zeq most s).1<=most/\(zeq most s).2.1.length<=s.1.length:=by
 unfold zeq;split
 ·exact⟨yai _,yab _⟩
 ·rename_i h;simp only[yay];omega
def zdT (most:Nat) (hm:most<=1000000) (s:List UInt8 × Bool) (hb:s.1.length<1000000000):
 R 108 [.ptr 0 0,.d (.int .i64 most)] [.box [B s.1,Bo s.2]]=some ([.d (.int .i64 (zeq most s).1)],[.box [B (zeq most s).2.1,Bo (zeq most s).2.2]]):=by
 obtain⟨b,bad⟩:=s;simp only at hb;have hg:=ze6 b (by omega)
 have hu:=ze9 b;have hl:=zdq b;unfold zeq;generalize get b=x at*;obtain⟨n,used,why⟩:=x;simp only at hg hu hl ⊢;obtain⟨r,hr⟩: ∃r,r=b.drop used:=⟨_,rfl⟩;have hr':List.drop used (bytes b)=bytes r:=by rw[hr];exact List.map_drop.symm
 have hw:IntKind.u64.wrap (most:Int)=most:=zai (by omega) (by omega)
 have hu':(used:Int)<=b.length:=by omega
 rw[<- hr];clear hr
 by_cases h1:why=0
 ·by_cases h2:most<n
  ·rw[yah (.inr (.inl h2))]
   have h2':(most:Int)<n:=by omega
   refine rg zCc rfl ?_;intro T hT;simp -dsimp -implicitDefEqProofs (disch:=first|omega|assumption) [hg,h1,h2',hw]
   simpa -dsimp -implicitDefEqProofs (disch:=first|omega|assumption) [B,Bo]using hT
  ·have h2': ¬ (most:Int)<n:=by omega
   have hw2:IntKind.i64.wrap (n:Int)=n:=wI (by omega) (by omega)
   cases bad with
   |true=>
    rw[yah (.inr (.inr rfl))];refine rg zCc rfl ?_;intro T hT;simp -dsimp -implicitDefEqProofs (disch:=first|omega|assumption) [hg,h1,h2',hw]
    simpa -dsimp -implicitDefEqProofs (disch:=first|omega|assumption) [B,Bo]using hT
   |false=>
    rw[yae (by simp[h1,h2])]
    refine rg zCc rfl ?_;intro T hT;simp -dsimp -implicitDefEqProofs (disch:=first|omega|assumption) [hg,h1,h2',hw,hw2,hu',hr']
    simpa -dsimp -implicitDefEqProofs (disch:=first|omega|assumption) [B,Bo]using hT
 ·rw[yah (.inl h1)]
  refine rg zCc rfl ?_;intro T hT;simp -dsimp -implicitDefEqProofs (disch:=first|omega|assumption) [hg,h1,hw]
  simpa -dsimp -implicitDefEqProofs (disch:=first|omega|assumption) [B,Bo]using hT
def zhq (n:Nat) (s:List UInt8 × Bool):List UInt8 × Bool:=if s.2=true\/s.1.length<n then (s.1,true) else (s.1.drop n,false)
def zgH (n:Nat) (s:List UInt8 × Bool):(zhq n s).1.length<=s.1.length:=by
 unfold zhq;split
 ·exact yab _
 ·simp only[yay];omega
def zfg (n:Nat) (s:List UInt8 × Bool) (hb:s.1.length<1000000000):
 R 150 [.ptr 0 0,.d (.int .i64 n)] [.box [B s.1,Bo s.2]]=some ([],[.box [B (zhq n s).1,Bo (zhq n s).2]]):=by
 obtain⟨b,bad⟩:=s;simp only at hb;unfold zhq;simp only;obtain⟨r,hr⟩: ∃r,r=b.drop n:=⟨_,rfl⟩;have hr':List.drop n (bytes b)=bytes r:=by rw[hr];exact List.map_drop.symm
 rw[<- hr];clear hr;cases bad with
 |true=>
  rw[yah (.inl rfl)];refine rg zEr rfl ?_;intro T hT;simp -dsimp -implicitDefEqProofs (disch:=first|omega|assumption)
  simpa -dsimp -implicitDefEqProofs (disch:=first|omega|assumption) [B,Bo]using hT
 |false=>
  by_cases h:b.length<n
  ·rw[yah (.inr h)]
   have h':(b.length:Int)<n:=by omega
   refine rg zEr rfl ?_;intro T hT;simp -dsimp -implicitDefEqProofs (disch:=first|omega|assumption) [h']
   simpa -dsimp -implicitDefEqProofs (disch:=first|omega|assumption) [B,Bo]using hT
  ·rw[yae (by simp[h])]
   have h': ¬ (b.length:Int)<n:=by omega
   have h2:(n:Int)<=b.length:=by omega
   refine rg zEr rfl ?_;intro T hT;simp -dsimp -implicitDefEqProofs (disch:=first|omega|assumption) [h',h2,hr']
   simpa -dsimp -implicitDefEqProofs (disch:=first|omega|assumption) [B,Bo]using hT
def znv (k:Nat) (s:List UInt8 × Bool):List UInt8 × Bool:=
 if k=1 then zhq (get s.1).2.1 (s.1,s.2 || decide ((get s.1).2.2≠0)) else if k=2 then zhq 1 s else zhq (zeq 64 s).1 (zeq 64 s).2
def zqd (k:Nat) (s:List UInt8 × Bool):(znv k s).1.length<=s.1.length:=by
 unfold znv;split
 ·exact zgH _ _
 ·split
  ·exact zgH _ _
  ·exact ya5 (zgH _ _) (zdC _ _).2
def zrD (k:Nat) (s:List UInt8 × Bool) (hb:s.1.length<1000000000):
 R 151 [.ptr 0 0,.d (.int .u8 k)] [.box [B s.1,Bo s.2]]=some ([],[.box [B (znv k s).1,Bo (znv k s).2]]):=by
 unfold znv
 by_cases h1:k=1
 ·subst h1
  rw[yah rfl];have hg:=ziV s.1 (by omega)
  have hc:=zfg (get s.1).2.1 (s.1,s.2 || decide ((get s.1).2.2≠0)) hb;generalize zhq (get s.1).2.1 (s.1,s.2 || decide ((get s.1).2.2≠0))=y at*;generalize zag (get s.1).1=z at*;generalize get s.1=x at*;obtain⟨n,used,why⟩:=x;obtain⟨b,bad⟩:=s;simp only at hg hc
  by_cases h:why=0
  ·simp only[h,ydW,yb9,ycS,ycF]at hc
   cases bad
   all_goals
    refine rg zCf rfl ?_;intro T hT;simp -dsimp -implicitDefEqProofs (disch:=first|omega|assumption) [hg,hc,h]
    simpa -dsimp -implicitDefEqProofs (disch:=first|omega|assumption) [B,Bo]using hT
  ·have h': ¬ (why:Int)=0:=by omega
   simp only[h,ydW,yca,yc3,ydq]at hc;cases bad
   all_goals
    refine rg zCf rfl ?_;intro T hT;simp -dsimp -implicitDefEqProofs (disch:=first|omega|assumption) [hg,hc,h,h']
    simpa -dsimp -implicitDefEqProofs (disch:=first|omega|assumption) [B,Bo]using hT
 rw[yae h1];have h1': ¬ (k:Int)=1:=by omega
 by_cases h2:k=2
 ·rw[yah h2]
  have hc:=zfg 1 s hb;generalize zhq 1 s=y at*;obtain⟨b,bad⟩:=s;simp only[Int.natCast_one]at hc;refine rg zCf rfl ?_;intro T hT;simp -dsimp -implicitDefEqProofs (disch:=first|omega|assumption) [hc,h1,h1',h2]
  simpa -dsimp -implicitDefEqProofs (disch:=first|omega|assumption) [B,Bo]using hT
 ·rw[yae h2]
  have h2': ¬ (k:Int)=2:=by omega
  have hn:R 108 [.ptr 0 0,.d (.int .i64 64)] [.box [B s.1,Bo s.2]]=_:=zdT 64 (by omega) s hb
  have hc:=zfg (zeq 64 s).1 (zeq 64 s).2 (by have:=(zdC 64 s).2;omega)
  generalize zhq (zeq 64 s).1 (zeq 64 s).2=y at*;generalize zeq 64 s=x at*;obtain⟨n,b2,bad2⟩:=x;obtain⟨b,bad⟩:=s;simp only at hn hc;refine rg zCf rfl ?_;intro T hT;simp -dsimp -implicitDefEqProofs (disch:=first|omega|assumption) [hn,hc,h1,h1',h2,h2']
  simpa -dsimp -implicitDefEqProofs (disch:=first|omega|assumption) [B,Bo]using hT
def zj2 (k:Nat):Nat->Nat->List UInt8 × Bool->List UInt8 × Bool
 |0,_,s=>s
 |f+1,fl,s=>if 0<fl/\s.2=false then zj2 k f (fl / 2) (if fl % 2=1 then znv k s else s) else s
def zvz (b:List UInt8):Nat:=match b with | []=>0 | c::_=>c.toNat
def zj3 (k:Nat) (s:List UInt8 × Bool):List UInt8 × Bool:=zj2 k 8 (zvz (zeq 256 s).2.1) (zhq 1 (zeq 256 s).2)
def zqe (k:Nat): ∀ (f fl:Nat) (s:List UInt8 × Bool),(zj2 k f fl s).1.length<=s.1.length
 |0,_,_=>yab _
 |f+1,fl,s=>by
  unfold zj2;split
  ·refine ya5 (zqe k f _ _) ?_
   split
   ·exact zqd k s
   ·exact yab _
  ·exact yab _
def zqf (k:Nat) (s:List UInt8 × Bool):(zj3 k s).1.length<=s.1.length:=
 ya5 (zqe k _ _ _) (ya5 (zgH _ _) (zdC _ _).2)
def znw (k f fl:Nat) (s:List UInt8 × Bool) (h: ¬ (0<fl/\s.2=false)):zj2 k f fl s=s:=by
 cases f with
 |zero=>rfl
 |succ f=>unfold zj2;rw[yae h]
def zkW (k:Nat) (s:List UInt8 × Bool) (hb:s.1.length<1000000000):
 R 109 [.ptr 0 0,.d (.int .u8 k)] [.box [B s.1,Bo s.2]]=some ([],[.box [B (zj3 k s).1,Bo (zj3 k s).2]]):=by
 have hn:R 108 [.ptr 0 0,.d (.int .i64 256)] [.box [B s.1,Bo s.2]]=_:=zdT 256 (by omega) s hb
 have hle:=(zdC 256 s).2;unfold zj3;generalize zeq 256 s=x at*;obtain⟨n,q⟩:=x;simp only at hn hle ⊢;have hc:R 150 [.ptr 0 0,.d (.int .i64 1)] [.box [B q.1,Bo q.2]]=_:=zfg 1 q (by omega)
 have hle2:=zgH 1 q;obtain⟨y,hy⟩: ∃y,y=zhq 1 q:=⟨_,rfl⟩;rw[<- hy]at hc hle2 ⊢;clear hy;obtain⟨b,bad⟩:=s;simp only at hn hb hle;obtain⟨qb,qbad⟩:=q;simp only at hn hc hle hle2 ⊢;have hh:zvz qb<256:=by
  cases qb with
  |nil=>exact (by decide)
  |cons c r=>exact c.toNat_lt
 obtain⟨fl,hfl⟩: ∃fl,fl=zvz qb:=⟨_,rfl⟩;rw[<- hfl]at hh ⊢;rcases qb with _ | ⟨c,r⟩
 all_goals
  simp only[zvz]at hfl;simp only[B,bytes,ydO,yaW,zgm]at hc hn;refine rg zGa rfl ?_;intro T hT;simp -dsimp -implicitDefEqProofs (disch:=first|omega|assumption) [hn,hc]
  generalize hz:zad _ _ _ _ _ _=z;revert z;refine zaa (σ:=Nat × Nat × List UInt8 × Bool) (λx=>[(0,.ptr 0 0),(1,.d (.int .u8 k)),(4,.d (.int .u8 x.2.1))]) (λx=>[.box [B x.2.2.1,Bo x.2.2.2]]) (λx=>x.2.1<2 ^ x.1/\x.1<=8/\x.2.2.1.length<=y.1.length/\zj2 k 8 fl y=zj2 k x.1 x.2.1 x.2.2) (λx=>x.1) (8,fl,y) ?_ ?_ ?_
  ·exact⟨hh,yab _,yab _,rfl⟩
  ·simp -dsimp -implicitDefEqProofs (disch:=first|omega|assumption) [hfl]
  intro T' f hT' ⟨m,g,s⟩ ⟨g1,g2,g3,g4⟩ ih;simp only at g1 g2 g3 g4 ih;have g256:g<256:=ybv g1 (ybl (n:=2) (by decide) g2)
  by_cases h1:0<g
  ·cases m with
   |zero=>simp at g1;omega
   |succ m=>
    have g1':g / 2<2 ^ m:=by rw[yb6]at g1;omega
    by_cases h2:s.2=false
    ·rw[show zj2 k (m+1) g s=zj2 k m (g / 2) (if g % 2=1 then znv k s else s) from yah ⟨h1,h2⟩]at g4
     by_cases h3:g % 2=1
     ·have hcc:=zrD k s (by simp only[yat,yag]at *;omega)
      have hcl:=zqd k s;rw[yah h3]at g4;rw[h2]at hcc;simp -dsimp -implicitDefEqProofs (disch:=first|omega|assumption) [h1,h2,h3,hcc]
      refine ih (m,g / 2,znv k s) _ _ ⟨g1',by simp only;omega,by simp only;omega,g4⟩ (by simp only;omega) ?_
      simp -dsimp -implicitDefEqProofs (disch:=first|omega|assumption)
     ·rw[yae h3]at g4
      have h3': ¬ (g:Int) % 2=1:=by omega
      simp -dsimp -implicitDefEqProofs (disch:=first|omega|assumption) [h1,h2,h3,h3']
      refine ih (m,g / 2,s) _ _ ⟨g1',by simp only;omega,g3,g4⟩ (by simp only;omega) ?_
      simp -dsimp -implicitDefEqProofs (disch:=first|omega|assumption) [h2]
    ·have h2':s.2=true:=by simpa using h2
     rw[znw k (m+1) g s (λh=>h2 h.2)]at g4
     subst hT';rw[g4]at hT;simp -dsimp -implicitDefEqProofs (disch:=first|omega|assumption) [h1,h2']
     simpa -dsimp -implicitDefEqProofs (disch:=first|omega|assumption) [h2']using hT
  ·rw[znw k m g s (λh=>h1 h.1)]at g4
   subst hT';rw[g4]at hT;simp -dsimp -implicitDefEqProofs (disch:=first|omega|assumption) [h1]
   simpa -dsimp -implicitDefEqProofs (disch:=first|omega|assumption) using hT
end Go.Am.Ab
namespace Go.Am.Ab
open Go.Proofs
set_option maxHeartbeats 8000000
set_option maxRecDepth 4000
def zdW (most:Nat) (s:List UInt8 × Nat):Nat × List UInt8 × Nat:=
 if s.2≠0 then (0,s) else if (get s.1).2.2≠0 then (0,s.1,(get s.1).2.2) else if most<(get s.1).1 then (0,s.1,40) else ((get s.1).1,s.1.drop (get s.1).2.1,0)
def zcI (most:Nat) (s:List UInt8 × Nat):(zdW most s).1<=most/\(zdW most s).2.1.length<=s.1.length:=by
 unfold zdW;split
 ·exact⟨yai _,yab _⟩
 ·split
  ·exact⟨yai _,yab _⟩
  ·split
   ·exact⟨yai _,yab _⟩
   ·simp only[yay];omega
def zb9 (most:Nat) (s:List UInt8 × Nat) (hb:s.1.length<1000000000):
 R 148 [.ptr 0 0,.d (.int .u64 most)] [.box [B s.1,E s.2]]=some ([.d (.int .u64 (zdW most s).1)],[.box [B (zdW most s).2.1,E (zdW most s).2.2]]):=by
 obtain⟨b,e⟩:=s;simp only at hb;have hg:=ze6 b (by omega)
 have hu:=ze9 b;unfold zdW
 by_cases h0:e=0
 case neg=>
  rw[yah h0];refine rg zCe rfl ?_;intro T hT;simp -dsimp -implicitDefEqProofs (disch:=first|omega|assumption) [h0]
  simpa -dsimp -implicitDefEqProofs (disch:=first|omega|assumption) [B,E]using hT
 subst h0;rw[yae (by simp)]
 simp only;generalize get b=x at*;obtain⟨n,used,why⟩:=x;simp only at hg hu ⊢;obtain⟨r,hr⟩: ∃r,r=b.drop used:=⟨_,rfl⟩;have hr':List.drop used (bytes b)=bytes r:=by rw[hr];exact List.map_drop.symm
 have hu':(used:Int)<=b.length:=by omega
 rw[<- hr];clear hr
 by_cases h1:why=0
 ·rw[yae (yct h1)]
  by_cases h2:most<n
  ·rw[yah h2]
   have h2':(most:Int)<n:=by omega
   refine rg zCe rfl ?_;intro T hT;simp -dsimp -implicitDefEqProofs (disch:=first|omega|assumption) [hg,h1,h2']
   simpa -dsimp -implicitDefEqProofs (disch:=first|omega|assumption) [B,E]using hT
  ·rw[yae h2]
   have h2': ¬ (most:Int)<n:=by omega
   refine rg zCe rfl ?_;intro T hT;simp -dsimp -implicitDefEqProofs (disch:=first|omega|assumption) [hg,h1,h2',hu',hr']
   simpa -dsimp -implicitDefEqProofs (disch:=first|omega|assumption) [B,E]using hT
 ·rw[yah h1]
  refine rg zCe rfl ?_;intro T hT;simp -dsimp -implicitDefEqProofs (disch:=first|omega|assumption) [hg,h1]
  simpa -dsimp -implicitDefEqProofs (disch:=first|omega|assumption) [B,E]using hT
def zem (n:Nat) (s:List UInt8 × Nat):ByteArray × List UInt8 × Nat:=
 if s.2≠0 then (noS,s) else if s.1.length<n then (noS,s.1,30) else (⟨(s.1.take n).toArray⟩,s.1.drop n,0)
def zgI (s:List UInt8 × Nat):Fld × List UInt8 × Nat:=
 let a:=zdW 4294967295 s
 let c:=zdW 16 a.2
 let e:=zem c.1 c.2
 let k:=zdW 255 e.2
 let m:=zdW 1 k.2
 (⟨a.1,e.1,k.1,decide (m.1=1)⟩,m.2)
def zen:Nat->List UInt8 × Nat->List Fld->List Fld × List UInt8 × Nat
 |0,s,acc=>(acc,s)
 |n+1,s,acc=>if s.2=0 then zen n (zgI s).2 (acc++[(zgI s).1]) else (acc,s)
def zcT (b:List UInt8):Sch × List UInt8 × Int:=
 let a:=zdW 4294967295 (b,0)
 let c:=zdW 8 a.2
 let r:=zen c.1 c.2 []
 let s:Sch:=⟨a.1,r.1⟩
 if r.2.2=0 then (if zly s=0 then (s,r.2.1,0) else (⟨0,[]⟩,[],zly s)) else (⟨0,[]⟩,[],r.2.2)
def ztN (n:Nat) (s:List UInt8 × Nat):(zem n s).1.size<=n/\(zem n s).2.1.length<=s.1.length:=by
 unfold zem;split
 ·exact⟨yai _,yab _⟩
 ·split
  ·exact⟨yai _,yab _⟩
  ·simp only[yay]
   refine⟨?_,by omega⟩
   show (s.1.take n).toArray.size<=n
   simp;omega
def zqg (s:List UInt8 × Nat):(zgI s).2.1.length<=s.1.length/\(0<=(zgI s).1.id/\(zgI s).1.id<=4294967295/\0<=(zgI s).1.kind/\(zgI s).1.kind<=255/\(zgI s).1.name.size<=16):=by
 unfold zgI;simp only;have h1:=zcI 4294967295 s;have h2:=zcI 16 (zdW 4294967295 s).2;have h3:=ztN (zdW 16 (zdW 4294967295 s).2).1 (zdW 16 (zdW 4294967295 s).2).2;have h4:=zcI 255 (zem (zdW 16 (zdW 4294967295 s).2).1 (zdW 16 (zdW 4294967295 s).2).2).2;have h5:=zcI 1 (zdW 255 (zem (zdW 16 (zdW 4294967295 s).2).1 (zdW 16 (zdW 4294967295 s).2).2).2).2;omega
def zrP (acc:List Fld):V:=match acc with | []=> .nilS | _=> .arr 3 acc.length
def zrQ (acc:List Fld):List Obj:=match acc with | []=>[] | _=>[.arr 4 (acc.map Fld.d) 0]
def unV (x:Sch × List UInt8 × Int):List V:=
 match x.1.fields with
 |[]=>[.agg [.d (.int .u32 x.1.id),.nilS],.arr 0 x.2.1.length,.d (.int .i64 x.2.2)]
 |_::fs=>[.agg [.d (.int .u32 x.1.id),.arr 0 (fs.length+1)],.arr 1 x.2.1.length,.d (.int .i64 x.2.2)]
def unH (x:Sch × List UInt8 × Int):List Obj:=
 match x.1.fields with
 |[]=>[.arr 1 (bytes x.2.1) 0]
 |f::fs=>[.arr 4 (f.d::fs.map Fld.d) (fs.length+1),.arr 1 (bytes x.2.1) 0]
def zoV (b:List UInt8) (hb:b.length<1000000):R 107 [B b] []=some (unV (zcT b),unH (zcT b)):=by
 unfold zcT;have h1:R 148 [.ptr 0 0,.d (.int .u64 4294967295)] [.box [B b,Z]]=_:=zb9 4294967295 (b,0) (by simp only;omega)
 have l1:=zcI 4294967295 (b,0);simp only;generalize zdW 4294967295 (b,0)=a at*;obtain⟨id,a⟩:=a;simp only at h1 l1 ⊢;have h2:R 148 [.ptr 0 0,.d (.int .u64 8)] [.box [B a.1,E a.2]]=_:=zb9 8 a (by omega)
 have l2:=zcI 8 a;generalize zdW 8 a=c at*;obtain⟨n,c⟩:=c;simp only at h2 l2 ⊢;have w1:IntKind.u32.wrap (id:Int)=id:=zpp (by omega) (by omega)
 refine rg zF9 rfl ?_;intro T hT;simp -dsimp -implicitDefEqProofs (disch:=first|omega|assumption) [h1,h2,w1]
 generalize hz:zad _ _ _ _ _ _=z;revert z;refine zaa (σ:=Nat × List Fld × List UInt8 × Nat) (λx=>[(2,.ptr 0 0),(5,.ptr 1 0),(6,.ptr 2 0),(7,.d (.int .u64 x.1))]) (λx=>[.box [.d (.int .u32 0),.nilS],.box [B x.2.2.1,E x.2.2.2],.box [.d (.int .u32 id),zrP x.2.1]]++zrQ x.2.1) (λx=>x.1<=8/\x.2.2.1.length<=b.length/\zen n c []=zen x.1 x.2.2 x.2.1/\x.2.1.length+x.1<=8/\ ∀f∈x.2.1,0<=f.id/\f.id<=4294967295/\0<=f.kind/\f.kind<=255/\f.name.size<=16) (λx=>x.1) (n,[],c) ?_ ?_ ?_
 ·exact⟨l2.1,by simp only;omega,rfl,by simp only[yat];omega,λf h=>by simp at h⟩
 ·simp -dsimp -implicitDefEqProofs (disch:=first|omega|assumption) [zrP,zrQ]
 intro T' f hT' ⟨m,acc,q,e⟩ ⟨g1,g2,g3,g4,g5⟩ ih;simp only at g1 g2 g3 g4 g5 ih
 by_cases c1:0<m
 ·by_cases c2:e=0
  ·subst c2
   obtain⟨m,rfl⟩: ∃k,m=k+1:=⟨m - 1,by omega⟩
   rw[show zen (m+1) (q,0) acc=zen m (zgI (q,0)).2 (acc++[(zgI (q,0)).1]) from rfl]at g3
   have f1:R 148 [.ptr 0 0,.d (.int .u64 4294967295)] [.box [B q,Z]]=_:=zb9 4294967295 (q,0) (by simp only;omega)
   have hfl:=zqg (q,0);have k1:=zcI 4294967295 (q,0);unfold zgI at g3 hfl;simp only at g3 hfl k1;generalize zdW 4294967295 (q,0)=y1 at*;obtain⟨fid,q1,e1⟩:=y1;simp only at f1 g3 hfl k1;have f2:R 148 [.ptr 0 0,.d (.int .u64 16)] [.box [B q1,E e1]]=_:=zb9 16 (q1,e1) (by simp only;omega)
   have k2:=zcI 16 (q1,e1);generalize zdW 16 (q1,e1)=y2 at*;obtain⟨sz,q2,e2⟩:=y2;simp only at f2 g3 hfl k2;have wl:IntKind.u64.wrap (q2.length:Int)=q2.length:=zai (by omega) (by omega)
   have wf:IntKind.u32.wrap (fid:Int)=fid:=zpp (by omega) (by omega)
   have wm:IntKind.u64.wrap (m:Int)=m:=zai (by omega) (by omega)
   by_cases c3:e2=0
   ·subst c3
    by_cases c4:q2.length<sz
    ·rw[show zem sz (q2,0)=(noS,q2,30) from by unfold zem;simp[c4]]at g3 hfl
     have c4':(q2.length:Int)<sz:=by omega
     have f3:R 148 [.ptr 0 0,.d (.int .u64 255)] [.box [B q2,.d (.int .i64 30)]]=_:=zb9 255 (q2,30) (by simp only;omega)
     simp only at g3 hfl;have k3:=zcI 255 (q2,30);generalize zdW 255 (q2,30)=y3 at*;obtain⟨kk,q3,e3⟩:=y3;simp only at f3 g3 hfl k3;have f4:R 148 [.ptr 0 0,.d (.int .u64 1)] [.box [B q3,E e3]]=_:=zb9 1 (q3,e3) (by simp only;omega)
     generalize zdW 1 (q3,e3)=y4 at*;obtain⟨nd,q4,e4⟩:=y4;simp only at f4 g3 hfl;have wk:IntKind.u8.wrap (kk:Int)=kk:=zoh (by omega) (by omega)
     have wd:((nd:Int)=1)=(nd=1):=by simp only[eq_iff_iff];omega
     rcases acc with _ | ⟨f0,acc⟩
     all_goals
      simp only[yat,yag]at g4;simp -dsimp -implicitDefEqProofs (disch:=first|omega|assumption) [c1,f1,f2,f3,f4,wf,wk,wl,wm,wd,zrP,zrQ,c4']
      refine ih (m,_,q4,e4) _ _ ⟨by simp only;omega,by simp only;omega,g3,by simp only[yaf,yag,yat]at *;omega,λx hx=> ?_⟩ (by simp only;omega) ?_
      ·rcases List.mem_append.1 hx with h | h
       ·exact g5 x h
       ·obtain rfl:=List.mem_singleton.1 h;exact hfl.2
      ·simp -dsimp -implicitDefEqProofs (disch:=first|omega|assumption) [zrP,zrQ]
    ·obtain⟨w,hw⟩: ∃w,w=q2.take sz:=⟨_,rfl⟩
     obtain⟨v,hv⟩: ∃v,v=q2.drop sz:=⟨_,rfl⟩;rw[show zem sz (q2,0)=(⟨w.toArray⟩,v,0) from by unfold zem;simp[c4,hw,hv]]at g3 hfl
     have c4': ¬ (q2.length:Int)<sz:=by omega
     have c5:(sz:Int)<=q2.length:=by omega
     have hw':List.take sz (bytes q2)=bytes w:=by rw[hw];exact List.map_take.symm
     have hv':List.drop sz (bytes q2)=bytes v:=by rw[hv];exact List.map_drop.symm
     have hvl:v.length<=q2.length:=by rw[hv,yay];omega
     have hM:=zbg w;clear hw hv;have f3:R 148 [.ptr 0 0,.d (.int .u64 255)] [.box [B v,Z]]=_:=zb9 255 (v,0) (by simp only;omega)
     simp only at g3 hfl;have k3:=zcI 255 (v,0);generalize zdW 255 (v,0)=y3 at*;obtain⟨kk,q3,e3⟩:=y3;simp only at f3 g3 hfl k3;have f4:R 148 [.ptr 0 0,.d (.int .u64 1)] [.box [B q3,E e3]]=_:=zb9 1 (q3,e3) (by simp only;omega)
     generalize zdW 1 (q3,e3)=y4 at*;obtain⟨nd,q4,e4⟩:=y4;simp only at f4 g3 hfl;have wk:IntKind.u8.wrap (kk:Int)=kk:=zoh (by omega) (by omega)
     have wd:((nd:Int)=1)=(nd=1):=by simp only[eq_iff_iff];omega
     rcases acc with _ | ⟨f0,acc⟩
     all_goals
      simp only[yat,yag]at g4;simp -dsimp -implicitDefEqProofs (disch:=first|omega|assumption) [c1,f1,f2,f3,f4,wf,wk,wl,wm,wd,zrP,zrQ,c4',c5,hw',hv',hM]
      refine ih (m,_,q4,e4) _ _ ⟨by simp only;omega,by simp only;omega,g3,by simp only[yaf,yag,yat]at *;omega,λx hx=> ?_⟩ (by simp only;omega) ?_
      ·rcases List.mem_append.1 hx with h | h
       ·exact g5 x h
       ·obtain rfl:=List.mem_singleton.1 h;exact hfl.2
      ·simp -dsimp -implicitDefEqProofs (disch:=first|omega|assumption) [zrP,zrQ]
   ·rw[show zem sz (q2,e2)=(noS,q2,e2) from by unfold zem;simp[c3]]at g3 hfl
    have c3': ¬ (e2:Int)=0:=by omega
    have f3:R 148 [.ptr 0 0,.d (.int .u64 255)] [.box [B q2,E e2]]=_:=zb9 255 (q2,e2) (by simp only;omega)
    simp only at g3 hfl;have k3:=zcI 255 (q2,e2);generalize zdW 255 (q2,e2)=y3 at*;obtain⟨kk,q3,e3⟩:=y3;simp only at f3 g3 hfl k3;have f4:R 148 [.ptr 0 0,.d (.int .u64 1)] [.box [B q3,E e3]]=_:=zb9 1 (q3,e3) (by simp only;omega)
    generalize zdW 1 (q3,e3)=y4 at*;obtain⟨nd,q4,e4⟩:=y4;simp only at f4 g3 hfl;have wk:IntKind.u8.wrap (kk:Int)=kk:=zoh (by omega) (by omega)
    have wd:((nd:Int)=1)=(nd=1):=by simp only[eq_iff_iff];omega
    rcases acc with _ | ⟨f0,acc⟩
    all_goals
     simp only[yat,yag]at g4;simp -dsimp -implicitDefEqProofs (disch:=first|omega|assumption) [c1,f1,f2,f3,f4,wf,wk,wl,wm,wd,zrP,zrQ,c3,c3']
     refine ih (m,_,q4,e4) _ _ ⟨by simp only;omega,by simp only;omega,g3,by simp only[yaf,yag,yat]at *;omega,λx hx=> ?_⟩ (by simp only;omega) ?_
     ·rcases List.mem_append.1 hx with h | h
      ·exact g5 x h
      ·obtain rfl:=List.mem_singleton.1 h;exact hfl.2
     ·simp -dsimp -implicitDefEqProofs (disch:=first|omega|assumption) [zrP,zrQ]
  ·have g6:zen n c []=(acc,q,e):=by
    rw[g3];cases m with
    |zero=>rfl
    |succ m=>exact yae c2
   rw[g6]at hT;subst hT';simp only[c2,ya8]at hT;rcases acc with _ | ⟨f0,acc⟩
   all_goals
    simp -dsimp -implicitDefEqProofs (disch:=first|omega|assumption) [c1,c2,zrP,zrQ]
    simpa -dsimp -implicitDefEqProofs (disch:=first|omega|assumption) [unV,unH]using hT
 ·obtain rfl:m=0:=by omega
  have g6:zen n c []=(acc,q,e):=g3;rw[g6]at hT;subst hT';simp only at hT
  by_cases c2:e=0
  ·subst c2
   rw[yah rfl]at hT;have hck:=zi9 ⟨id,acc⟩ (by simp only;omega) (λf hf=>by have:=g5 f hf;omega) (by simp only;omega)
   simp only[Sch.d]at hck;have hcl:=zfU q (by omega)
   by_cases c3:zly ⟨id,acc⟩=0
   ·rw[yah c3]at hT
    rw[c3]at hck;rcases acc with _ | ⟨f0,acc⟩
    all_goals
     simp only[ydO,yaW,Fld.d]at hck;simp -dsimp -implicitDefEqProofs (disch:=first|omega|assumption) [zrP,zrQ,hck,hcl]
     simpa -dsimp -implicitDefEqProofs (disch:=first|omega|assumption) [unV,unH]using hT
   ·rw[yae c3]at hT
    generalize zly ⟨id,acc⟩=ce at*;rcases acc with _ | ⟨f0,acc⟩
    all_goals
     simp only[ydO,yaW,Fld.d]at hck;simp -dsimp -implicitDefEqProofs (disch:=first|omega|assumption) [zrP,zrQ,hck,hcl,c3]
     simpa -dsimp -implicitDefEqProofs (disch:=first|omega|assumption) [unV,unH]using hT
  ·rw[yae c2]at hT
   rcases acc with _ | ⟨f0,acc⟩
   all_goals
    simp -dsimp -implicitDefEqProofs (disch:=first|omega|assumption) [c2,zrP,zrQ]
    simpa -dsimp -implicitDefEqProofs (disch:=first|omega|assumption) [unV,unH]using hT
end Go.Am.Ab
namespace Go.Am.Ab
open Go.Proofs
set_option maxHeartbeats 8000000
set_option maxRecDepth 4000
def zfW {k n:Nat} {b:List UInt8} (h:(zcf k b n).2=0):zj1 k (zcf k b n).1/\(zcf k b n).1.length=n/\n<=256/\1<=k/\k<=3:=by
 unfold zcf at h ⊢
 by_cases hk:1<=k/\k<=3
 ·rw[yae (λc=>c hk)]at h ⊢
  by_cases h1:(n:Int)<0\/256<(n:Int)
  ·rw[yah h1]at h;simp at h
  rw[yae h1,yaB]at h ⊢
  by_cases h2:(zgE k n b).2≠0
  ·rw[yah h2]at h;exact absurd h h2
  rw[yae h2]at h ⊢;have hg:=zkU hk (n:=n) (b:=b) (by omega)
  by_cases h3:zeT k (zgE k n b).1=b
  ·rw[yah h3]
   exact⟨hg.1,hg.2,by omega,hk⟩
  ·rw[yae h3]at h;simp at h
 ·rw[yah hk]at h;simp at h
def ztO (a c k m:Nat) (hm:m=2 ^ k) (ha:a<m) (hc:a+c*m<9223372036854775808):zbv .or .i64 (a:Int) ((c:Int)*m)=some (.int .i64 ((a:Int)+c*m)):=by
 have e:(c:Int)*m=((c*m:Nat):Int):=by rw[ybp]
 have h1:a<2 ^ 64:=by omega
 have h2:c*m<2 ^ 64:=by omega
 have h3:a ||| c*m=a+c*m:=zfL (i:=k) (by rw[hm];exact yda _ _) (by rw[<- hm];exact ha)
 rw[e]
 show some (D.int .i64 (IntKind.i64.wrap (BitVec.ofInt 64 (a:Int) ||| BitVec.ofInt 64 ((c*m:Nat):Int)).toNat))=_
 rw[ydi,zaT,zaT,yaI h1,yaI h2,h3,wI (by omega) (by omega),Int.natCast_add]
def zkX {b:List UInt8} (h:(zcT b).2.2=0):zly (zcT b).1=0/\SchOk (zcT b).1/\(zcT b).2.1.length<=b.length:=by
 have hfs: ∀ (n:Nat) (s:List UInt8 × Nat) (acc:List Fld),(∀f∈acc,0<=f.id/\f.id<4294967296/\0<=f.kind/\f.kind<256/\f.name.size<5000)->(zen n s acc).2.1.length<=s.1.length/\ ∀f∈(zen n s acc).1,0<=f.id/\f.id<4294967296/\0<=f.kind/\f.kind<256/\f.name.size<5000:=by
  intro n
  induction n with
  |zero=>exact λs acc h=>⟨yab _,h⟩
  |succ n ih=>
   intro s acc h;unfold zen;split
   ·have hl:=zqg s
    obtain⟨h1,h2⟩:=ih (zgI s).2 (acc++[(zgI s).1]) λf hf=>by
     rcases List.mem_append.1 hf with hf | hf
     ·exact h f hf
     ·obtain rfl:=List.mem_singleton.1 hf;omega
    exact⟨by omega,h2⟩
   ·exact⟨yab _,h⟩
 have h1:=zcI 4294967295 (b,0);have h2:=zcI 8 (zdW 4294967295 (b,0)).2;unfold zcT at h ⊢;simp only at h h1 ⊢;generalize zdW 4294967295 (b,0)=a at*;generalize zdW 8 a.2=c at*;obtain⟨h3,h4⟩:=hfs c.1 c.2 [] λf hf=>by simp at hf
 generalize zen c.1 c.2 []=r at*
 by_cases e:r.2.2=0
 ·rw[yah e]at h ⊢
  by_cases e2:zly ⟨a.1,r.1⟩=0
  ·rw[yah e2]
   have:=(zjB e2).len;exact⟨e2,⟨by simp only;omega,by simp only at this ⊢;omega,h4⟩,by simp only;omega⟩
  ·rw[yae e2]at h;exact absurd h e2
 ·rw[yae e]at h;simp only at h;omega
def zBd (b:List UInt8):Nat:=(b.getD 0 0).toNat+(b.getD 1 0).toNat*256+(b.getD 2 0).toNat*65536+(b.getD 3 0).toNat*16777216
def zrR (T:List (List Val)) (l:List Val):List (List Val):=List.zipWith (λr v=>r++[v]) T l
def zhr (many:Nat):List Nat->List UInt8 × Bool->List UInt8->List (List Val)->Option ((List UInt8 × Bool) × List UInt8 × List (List Val))
 |[],r,e,T=>some (r,e,T)
 |k::ks,r,e,T=>
  if (zj3 k (zeq 65536 r).2).2=true\/e.length<(zeq 65536 r).1 then none
  else if (zcf k (e.take (zeq 65536 r).1) many).2≠0 then none
  else zhr many ks (zj3 k (zeq 65536 r).2) (e.drop (zeq 65536 r).1) (zrR T (zcf k (e.take (zeq 65536 r).1) many).1)
def zhs (many k:Nat) (ks:List Nat) (r:List UInt8 × Bool) (e:List UInt8) (T:List (List Val)):zhr many (k::ks) r e T=
 if (zj3 k (zeq 65536 r).2).2=true\/e.length<(zeq 65536 r).1 then none
 else if (zcf k (e.take (zeq 65536 r).1) many).2≠0 then none
 else zhr many ks (zj3 k (zeq 65536 r).2) (e.drop (zeq 65536 r).1) (zrR T (zcf k (e.take (zeq 65536 r).1) many).1):=rfl
def zj4 (ks:List Nat) (g:Nat):Nat->Nat->List UInt8 × Bool->List UInt8->List (List Val)->Option (List (List Val))
 |0,_,_,_,_=>none
 |f+1,n,r,e,acc=>if n=0 then some acc else match zhr (min n g) ks r e (List.replicate (min n g) []) with
  |none=>none
  |some (r',e',T)=>zj4 ks g f (n - min n g) r' e' (acc++T)
def znx (b:List UInt8):Option (Sch × List (List Val) × Nat):=
 if b.length<4 then none else
 if (b.take (b.length - 4)).length<zBd (b.drop (b.length - 4)) then none else
 let u:=b.take (b.length - 4)
 let m:=u.length - zBd (b.drop (b.length - 4))
 let un:=zcT (u.drop m)
 if un.2.2≠0 then none else
 let n:=zeq 256 (un.2.1,false)
 let g:=zeq 64 n.2
 if g.2.2=true\/g.1<1 then none else
 match zj4 (un.1.fields.map (·.kind.toNat)) g.1 257 n.1 g.2 (u.take m) [] with
 |none=>none
 |some X=>some (un.1,X,g.1)
def zih {Z Z' P0:List (List Val)} {l:List Val} {a:Nat} {row:List Val} {v:Val} (hZ: ∀j:Nat,Z[j]? =if j<a then (zrR P0 l)[j]? else P0[j]?) (hr:Z[a]? =some row) (hv:l[a]? =some v)
 (hZ': ∀j:Nat,Z'[j]? =if j=a then some (row++[v]) else Z[j]?): ∀j:Nat,Z'[j]? =if j<a+1 then (zrR P0 l)[j]? else P0[j]? :=by
 intro j;rw[hZ' j]
 by_cases e:j=a
 ·subst e
  have h:=hZ j;rw[yae (ybO j),hr]at h;rw[yah rfl,yah (Nat.lt_succ_self j)];unfold zrR;rw[List.getElem?_zipWith,<- h,hv]
 ·rw[yae e,hZ j]
  by_cases e2:j<a
  ·rw[yah e2,yah (by omega)]
  ·rw[yae e2,yae (by omega)]
def zfX (T:List (List Val)) (l:List Val):(zrR T l).length=min T.length l.length:=List.length_zipWith
def RA (X:List (List Val)):Option (List D × Nat):=match X with | []=>none | _=>some (zbe X,0)
def rd3 (a0 a1 b0 b1 gg:D) (R:Option (List D × Nat)):List Obj:=
 .box [.d a0,.d a1]:: .box [.d b0,.d b1]:: .box [.d a0,.d a1,(match R with | none=> .nilS | some (xs,_)=> .arr 3 xs.length),.d gg,.nilS]::(match R with | none=>[] | some (xs,wm)=>[.arr 1 xs wm])
def rdV:Option (Sch × List (List Val) × Nat)->List V
 |none=>[.d .nilP,.d (.bool false)]
 |some _=>[.ptr 0 0,.d (.bool true)]
def rdH:Option (Sch × List (List Val) × Nat)->List Obj
 |none=>[]
 |some (s,X,g)=> .box [.d (.int .u32 s.id),.d (.list (s.fields.map Fld.d)),(match X with | []=> .nilS | _::r=> .arr 1 (r.length+1)),.d (.int .i64 g),.nilS]::(match X with | []=>[] | _=>[.arr 1 (zbe X) 0])
end Go.Am.Ab
namespace Go.Am.Ab
open Go.Proofs
set_option maxHeartbeats 4000000
set_option maxRecDepth 4000
def zht {α β:Type} {f:α->Option β}: ∀ {l:List α} {r:List β},l.length=r.length->(∀ (j:Nat) (a:α) (b:β),l[j]? =some a->r[j]? =some b->f a=some b)->l.mapM f=some r
 |[],[],_,_=>rfl
 |[],_::_,h,_=>by simp at h
 |_::_,[],h,_=>by simp at h
 |a::l,b::r,h,hf=>by
  rw[yaU,hf 0 a b rfl rfl,zht (l:=l) (r:=r) (by simpa using h) λj x y hx hy=>hf (j+1) x y (by simpa using hx) (by simpa using hy)]
  rfl
def zfh (h:List Obj): ∀ (fuel pos:Nat) (acc:List Nat),(∀ (j id:Nat),pos<=j->acc[j]? =some id->zcv h id=[])->zfz h fuel pos acc=acc
 |0,_,_,_=>rfl
 |fuel+1,pos,acc,hf=>by
  unfold zfz;cases e:acc[pos]? with
  |none=>rfl
  |some i=>
   simp only;rw[hf pos i (yab _) e];exact zfh h fuel (pos+1) acc λj id hj h=>hf j id (by omega) h
def zco {h:List Obj} {fuel pos i:Nat} {acc:List Nat} (e:acc[pos]? =some i):zfz h (fuel+1) pos acc=zfz h fuel (pos+1) (zam acc (zcv h i)):=by
 show (match acc[pos]? with | none=>acc | some i=>zfz h fuel (pos+1) (zam acc (zcv h i)))=_
 rw[e]
def zfi: ∀ (l acc:List Nat),l.Nodup->(∀i∈l,i∉acc)->zam acc l=acc++l
 |[],acc,_,_=>by simp[zam]
 |i::r,acc,hn,hd=>by
  unfold zam;have h1:acc.contains i=false:=by simpa using hd i (by simp)
  rw[h1];simp only[yas,ya8];rw[zfi r (acc++[i]) (List.nodup_cons.1 hn).2 λj hj=> ?_]
  ·simp
  ·simp only[List.mem_append,List.mem_singleton,not_or]
   exact⟨hd j (by simp[hj]),λe=>(List.nodup_cons.1 hn).1 (e ▸ hj)⟩
def zgM (r:List Val):Obj:= .arr 1 (vs r) 0
def tcs:Nat->List (List Val)->List V
 |_,[]=>[]
 |n,r::T=> .arr n r.length::tcs (n+1) T
def zjE: ∀ (n:Nat) (T:List (List Val)) (j:Nat),(tcs n T)[j]? =(T[j]?).map λr=> .arr (n+j) r.length
 |_,[],_=>by simp[tcs]
 |n,r::T,0=>rfl
 |n,r::T,j+1=>by
  show (tcs (n+1) T)[j]? =_
  rw[zjE (n+1) T j,show n+1+j=n+(j+1) by omega]
  rfl
def zbW: ∀ (n:Nat) (T:List (List Val)),(tcs n T).length=T.length
 |_,[]=>rfl
 |n,_::T=>by simp[tcs,zbW (n+1) T]
def zcg (a0 a1 b0 b1 gg:D) (R:Option (List D × Nat)) (cs:List V):List Obj:=
 .box [.d a0,.d a1]:: .box [.d b0,.d b1]:: .box [.d a0,.d a1,(match R with | none=> .nilS | some (xs,_)=> .arr 4 xs.length),.d gg,.nilS]:: .box cs::(match R with | none=>[] | some (xs,wm)=>[.arr 1 xs wm])
def zaS (R:Option (List D × Nat)):Nat:=match R with | none=>4 | some _=>5
def ren_arr (f:Nat->Option Nat) (sz:Nat) (xs:List D) (wm:Nat):Obj.ren f (.arr sz xs wm)=some (.arr sz xs wm):=rfl
def zqh {a0 a1 b0 b1 gg:D} {R:Option (List D × Nat)} {k:Nat} (P:List (Nat × List Val)) {keep:List (Nat × Nat)} {s s1:Slots} {h zaF:List Obj}
 (hh:h=zcg a0 a1 b0 b1 gg R ((P.map λp=> .arr p.1 p.2.length)++List.replicate k .nilS)++zaF)
 (hn:(P.map (·.1)).Nodup) (hp: ∀p∈P,zaS R<=p.1/\h[p.1]? =some (zgM p.2))
 (hk:zah s h keep=(s1,h)) (h0:zam [] (s1.flatMap λq=>q.2.ids)=[0,1,2,3])
 (hs: ∀f:Nat->Option Nat,f 0=some 0->f 1=some 1->f 2=some 2->f 3=some 3->zaM f s1=some s1):
 zfm 0 keep s h=some (s1,zcg a0 a1 b0 b1 gg R (tcs (zaS R) (P.map (·.2))++List.replicate k .nilS)++(P.map (·.2)).map zgM):=by
 obtain⟨ids,hids⟩: ∃ids,ids=List.range (zaS R)++P.map (·.1):=⟨_,rfl⟩
 have hb:(((P.map λ(p:Nat × List Val)=>V.arr p.1 p.2.length)++List.replicate k V.nilS).flatMap V.ids1)=P.map (·.1):=by
  rw[ydm];have e1:(List.replicate k V.nilS).flatMap V.ids1=[]:=by
   rw[List.flatMap_eq_nil_iff];intro x hx;rw[(List.mem_replicate.1 hx).2];rfl
  rw[e1,yau];clear hids hp hn hh hk
  induction P with
  |nil=>rfl
  |cons p P ih=>rw[yaW,ybB,ih];rfl
 have hnd:ids.Nodup:=by
  rw[hids,ydD];refine⟨yc9,hn,λa ha b hb e=> ?_⟩
  obtain⟨p,hp1,rfl⟩:=List.mem_map.1 hb;have:=(hp p hp1).1;rw[ydS]at ha;omega
 have hlen:5<=h.length+1:=by rw[hh];simp[zcg]
 obtain⟨fu,hfu⟩: ∃fu,h.length+1=fu+4:=⟨h.length - 3,by omega⟩
 have g0:h[0]? =some (.box [.d a0,.d a1]):=by rw[hh];rfl
 have g1:h[1]? =some (.box [.d b0,.d b1]):=by rw[hh];rfl
 have g3:h[3]? =some (.box ((P.map λp=> .arr p.1 p.2.length)++List.replicate k .nilS)):=by rw[hh];rfl
 have hflat: ∀ (j id:Nat),4<=j->ids[j]? =some id->zcv h id=[]:=by
  intro j id hj e;rw[hids]at e;rcases ybn j (zaS R) with hlt | hge
  ·rw[yan (by simpa using hlt),ybb hlt]at e
   obtain rfl:=ybd e;cases R with
   |none=>exact absurd hlt (by simp only[zaS];omega)
   |some q=>
    have:j=4:=by simp[zaS]at hlt;omega
    subst this;have:h[4]? =some (.arr 1 q.1 q.2):=by rw[hh];rfl
    simp only[zcv,this,Obj.ids]
  ·rw[yaj (by simpa using hge)]at e
   obtain⟨p,hp1,rfl⟩:=List.mem_map.1 (yax e);simp only[zcv,(hp p hp1).2,zgM,Obj.ids]
 have hreach:zbp h [0,1,2,3]=ids:=by
  unfold zbp;rw[hfu,zco (i:=0) rfl,zco (i:=1) (by rw[zcv,g0];rfl)]
  have i0:zcv h 0=[]:=by rw[zcv,g0];rfl
  have i1:zcv h 1=[]:=by rw[zcv,g1];rfl
  have i3:zcv h 3=P.map (·.1):=by rw[zcv,g3];exact hb
  rw[i0,i1];simp only[zam];rw[zco (i:=2) rfl];cases R with
  |none=>
   have i2:zcv h 2=[]:=by rw[zcv,hh];rfl
   rw[i2];simp only[zam];rw[zco (i:=3) rfl,i3,zfi _ _ hn λi hi=> ?_]
   ·have:[0,1,2,3]++P.map (·.1)=ids:=by rw[hids];rfl
    rw[this];exact zfh h _ _ _ hflat
   ·obtain⟨p,hp1,rfl⟩:=List.mem_map.1 hi
    have:=(hp p hp1).1;simp only[zaS]at this;simp;omega
  |some q=>
   have i2:zcv h 2=[4]:=by rw[zcv,hh];rfl
   rw[i2,show zam [0,1,2,3] [4]=[0,1,2,3,4] from rfl,zco (i:=3) rfl,i3,zfi _ _ hn λi hi=> ?_]
   ·have:[0,1,2,3,4]++P.map (·.1)=ids:=by rw[hids];rfl
    rw[this];exact zfh h _ _ _ hflat
   ·obtain⟨p,hp1,rfl⟩:=List.mem_map.1 hi
    have:=(hp p hp1).1;simp only[zaS]at this;simp;omega
 have hpl: ∀j,j<zaS R->zax ids j=some j:=λj hj=>zd3 hnd (by rw[hids,yan (by simpa using hj),ybb hj])
 have hr4:4<=zaS R:=by cases R <;> simp[zaS]
 have hpr: ∀ (j:Nat) (p:Nat × List Val),P[j]? =some p->zax ids p.1=some (zaS R+j):=λj p hj=>zd3 hnd (by
  rw[hids,yaj (by simp),yb7,yaM,yaz,hj];rfl)
 have hcs:((P.map λ(p:Nat × List Val)=>V.arr p.1 p.2.length)++List.replicate k V.nilS).mapM (V.ren1 (zax ids))=some (tcs (zaS R) (P.map (·.2))++List.replicate k .nilS):=by
  refine zht (by simp[zbW]) λj a b ha hb=> ?_
  rcases ybn j P.length with hlt | hge
  ·rw[yan (by simpa using hlt),yaz]at ha
   rw[yan (by simpa[zbW]using hlt),zjE,yaz]at hb
   obtain⟨p,hp1,rfl⟩:=Option.map_eq_some_iff.1 ha;rw[hp1]at hb;simp only[yaQ,yaa]at hb;subst hb;simp only[V.ren1,V.ren0,hpr j p hp1,yaQ]
  ·rw[yaj (by simpa using hge)]at ha
   rw[yaj (by simpa[zbW]using hge)]at hb
   rw[(List.mem_replicate.1 (yax ha)).2,(List.mem_replicate.1 (yax hb)).2];rfl
 have hrows:(P.map (·.1)).mapM (λi=>(h[i]?).bind (Obj.ren (zax ids)))=some ((P.map (·.2)).map zgM):=by
  refine zht (by simp) λj a b ha hb=> ?_
  rw[yaz]at ha;rw[yaz,yaz]at hb;obtain⟨p,hp1,rfl⟩:=Option.map_eq_some_iff.1 ha;rw[hp1]at hb;simp only[yaQ,yaa]at hb;subst hb;rw[(hp p (yax hp1)).2];rfl
 have hbox: ∀ (l:List D) (f:Nat->Option Nat),Obj.ren f (.box (l.map .d))=some (.box (l.map .d)):=λl f=>by
  show (Option.map Obj.box ((l.map V.d).mapM (V.ren1 f)))=_
  rw[zht (r:=l.map V.d) rfl λj a b ha hb=>by
   rw[ha]at hb;obtain rfl:=ybd hb;rw[yaz]at ha;obtain⟨x,_,rfl⟩:=Option.map_eq_some_iff.1 ha;rfl]
  rfl
 have q0:Obj.ren (zax ids) (.box [.d a0,.d a1])=some (.box [.d a0,.d a1]):=hbox [a0,a1] _;have q1:Obj.ren (zax ids) (.box [.d b0,.d b1])=some (.box [.d b0,.d b1]):=hbox [b0,b1] _;have q3:Obj.ren (zax ids) (.box ((P.map λp=> .arr p.1 p.2.length)++List.replicate k .nilS))=some (.box (tcs (zaS R) (P.map (·.2))++List.replicate k .nilS)):=by
  show Option.map Obj.box (List.mapM _ _)=_
  rw[hcs];rfl
 have htake:zaL h (zax ids) ids=some (zcg a0 a1 b0 b1 gg R (tcs (zaS R) (P.map (·.2))++List.replicate k .nilS)++(P.map (·.2)).map zgM):=by
  unfold zaL;cases R with
  |none=>
   have g2:h[2]? =some (.box [.d a0,.d a1,.nilS,.d gg,.nilS]):=by rw[hh];rfl
   have e:ids=0::1::2::3::P.map (·.1):=by rw[hids];rfl
   rw[e]at hrows q0 q1 q3 ⊢;simp only[yaU,g0,g1,g2,g3,yc8,q0,q1,q3,hrows];rfl
  |some q=>
   have g2:h[2]? =some (.box [.d a0,.d a1,.arr 4 q.1.length,.d gg,.nilS]):=by rw[hh];rfl
   have g4:h[4]? =some (.arr 1 q.1 q.2):=by rw[hh];rfl
   have e:ids=0::1::2::3::4::P.map (·.1):=by rw[hids];rfl
   have q2:Obj.ren (zax ids) (.box [.d a0,.d a1,.arr 4 q.1.length,.d gg,.nilS])=some (.box [.d a0,.d a1,.arr 4 q.1.length,.d gg,.nilS]):=by
    have:=hpl 4 (Nat.lt_succ_self 4)
    show Option.map Obj.box (List.mapM _ _)=_
    simp only[yaU,List.mapM_nil,V.ren1,V.ren0,this,yaQ];rfl
   rw[e]at hrows q0 q1 q2 q3 ⊢;simp only[yaU,g0,g1,g2,g3,g4,yc8,q0,q1,q2,q3,hrows,ren_arr];rfl
 unfold zfm;rw[hk];simp only;rw[show List.range 0=[] from rfl,h0,hreach,hs (zax ids) (hpl 0 (by omega)) (hpl 1 (by omega)) (hpl 2 (by omega)) (hpl 3 (by omega)),htake]
def zoW: ∀ (n:Nat) (T:List (List Val)) (i:Nat) (r:List Val),tcs n (T.set i r)=(tcs n T).set i (.arr (n+i) r.length)
 |_,[],_,_=>rfl
 |n,_::T,0,r=>rfl
 |n,x::T,i+1,r=>by
  show _::tcs (n+1) (T.set i r)=_::(tcs (n+1) T).set i _
  rw[zoW (n+1) T i r,show n+1+i=n+(i+1) by omega]
def pz:Nat->List (List Val)->List (Nat × List Val)
 |_,[]=>[]
 |n,r::T=>(n,r)::pz (n+1) T
def ztP: ∀ (n:Nat) (T:List (List Val)),((pz n T).map λp=>V.arr p.1 p.2.length)=tcs n T
 |_,[]=>rfl
 |n,r::T=>by show _::_=_::_;rw[ztP (n+1) T]
def ztQ: ∀ (n:Nat) (T:List (List Val)),(pz n T).map (·.2)=T
 |_,[]=>rfl
 |n,r::T=>by show _::_=_;rw[ztQ (n+1) T]
def ztR: ∀ (n:Nat) (T:List (List Val)),(pz n T).map (·.1)=List.range' n T.length
 |_,[]=>rfl
 |n,r::T=>by show _::_=_;rw[ztR (n+1) T];rfl
def ztS: ∀ {n:Nat} {T:List (List Val)} {p:Nat × List Val},p∈pz n T-> ∃j,p.1=n+j/\T[j]? =some p.2
 |_,[],_,h=>by simp[pz]at h
 |n,r::T,p,h=>by
  rcases List.mem_cons.1 h with rfl | h
  ·exact⟨0,rfl,rfl⟩
  ·obtain⟨j,h1,h2⟩:=ztS h
   exact⟨j+1,by omega,h2⟩
def zcp (a0 a1 b0 b1 gg:D) (R:Option (List D × Nat)) (cs:List V):(zcg a0 a1 b0 b1 gg R cs).length=zaS R:=by cases R <;> rfl
def zdU {a0 a1 b0 b1 gg:D} (R:Option (List D × Nat)) (T:List (List Val)) (k:Nat) {keep:List (Nat × Nat)} {s s1:Slots} {h zaF:List Obj}
 (hh:h=zcg a0 a1 b0 b1 gg R (tcs (zaS R) T++List.replicate k .nilS)++(T.map zgM++zaF))
 (hk:zah s h keep=(s1,h)) (h0:zam [] (s1.flatMap λq=>q.2.ids)=[0,1,2,3])
 (hs: ∀f:Nat->Option Nat,f 0=some 0->f 1=some 1->f 2=some 2->f 3=some 3->zaM f s1=some s1):
 zfm 0 keep s h=some (s1,zcg a0 a1 b0 b1 gg R (tcs (zaS R) T++List.replicate k .nilS)++T.map zgM):=by
 have e:=zqh (k:=k) (pz (zaS R) T) (by rw[ztP];exact hh) (by rw[ztR];exact List.nodup_range') (λp hp=> ?_) hk h0 hs
 ·rw[ztQ]at e
  exact e
 ·obtain⟨j,h1,h2⟩:=ztS hp
  refine⟨by omega, ?_⟩
  have hj:j<T.length:=lt_of_getElem? h2;rw[hh,yaj (by rw[zcp];omega),zcp,h1,yaM,yan (by simpa using hj),yaz,h2]
  rfl
def zqi {a0 a1 b0 b1 gg:D} (R:Option (List D × Nat)) (T:List (List Val)) (r:List Val) (k:Nat) {keep:List (Nat × Nat)} {s s1:Slots} {h zaF:List Obj} {o:Obj}
 (hh:h=zcg a0 a1 b0 b1 gg R (tcs (zaS R) T++ .arr (zaS R+T.length+1) r.length::List.replicate k .nilS)++(T.map zgM++o::zgM r::zaF))
 (hk:zah s h keep=(s1,h)) (h0:zam [] (s1.flatMap λq=>q.2.ids)=[0,1,2,3])
 (hs: ∀f:Nat->Option Nat,f 0=some 0->f 1=some 1->f 2=some 2->f 3=some 3->zaM f s1=some s1):
 zfm 0 keep s h=some (s1,zcg a0 a1 b0 b1 gg R (tcs (zaS R) (T++[r])++List.replicate k .nilS)++(T++[r]).map zgM):=by
 have e:=zqh (k:=k) (pz (zaS R) T++[(zaS R+T.length+1,r)]) (by rw[ya7,ztP,yaq];exact hh) ?_ (λp hp=> ?_) hk h0 hs
 ·rw[ya7,ztQ]at e
  exact e
 ·rw[ya7,ztR,ydD]
  refine⟨List.nodup_range',by simp,λa ha b hb e=> ?_⟩
  simp at hb;rw[List.mem_range'_1]at ha;omega
 ·rcases List.mem_append.1 hp with hp | hp
  ·obtain⟨j,h1,h2⟩:=ztS hp
   refine⟨by omega, ?_⟩
   have hj:j<T.length:=lt_of_getElem? h2;rw[hh,yaj (by rw[zcp];omega),zcp,h1,yaM,yan (by simpa using hj),yaz,h2]
   rfl
  ·obtain rfl:=List.mem_singleton.1 hp
   refine⟨by simp only;omega, ?_⟩
   rw[hh,yaj (by rw[zcp];simp only;omega),zcp]
   simp only;rw[show zaS R+T.length+1 - zaS R=T.length+1 by omega,yaj (by simp),yam,yaM]
   rfl
def ztT (m:Nat):(List.replicate m V.nilS).flatMap V.ids1=[]:=by
 rw[List.flatMap_eq_nil_iff];intro x hx;rw[(List.mem_replicate.1 hx).2];rfl
def ztU (f:Nat->Option Nat) (m:Nat):(List.replicate m V.nilS).mapM (V.ren1 f)=some (List.replicate m V.nilS):=zht rfl λj a b ha hb=>by
 rw[(List.mem_replicate.1 (yax ha)).2,(List.mem_replicate.1 (yax hb)).2];rfl
def zrS (r:List Val):Obj:= .arr 1 (vs r) r.length
def zjF: ∀ (todo done:List (List Val)) (pre:List Obj),za7 (pre++(done.map zrS++todo.map zgM)) (tcs (pre.length+done.length) todo)=some (zbe todo,pre++(done++todo).map zrS)
 |[],done,pre=>by simp[tcs,za7]
 |r::todo,done,pre=>by
  have h1:(pre++(done.map zrS++(r::todo).map zgM))[pre.length+done.length]? =some (zgM r):=by
   rw[yaj (ych _ _),yaM,yaj (by rw[yam];exact yab _),yam,ya2]
   rfl
  have h2:(pre++(done.map zrS++(r::todo).map zgM)).set (pre.length+done.length) (zrS r)=pre++((done++[r]).map zrS++todo.map zgM):=by
   rw[ybg _ _ (ych _ _),yaM,ybg _ _ (by rw[yam];exact yab _),yam,ya2]
   simp
  have h3:zba (pre++(done.map zrS++(r::todo).map zgM)) (.arr (pre.length+done.length) r.length)=some (.list (vs r),pre++((done++[r]).map zrS++todo.map zgM)):=by
   unfold zba;simp only;rw[h1];simp only[zgM];rw[yah (by rw[yam]),yam,<- h2]
   rfl
  have ih:=zjF todo (done++[r]) pre;rw[yaf,ya3]at ih
  show (match zba _ (.arr (pre.length+done.length) r.length) with | some (x,h1)=>_ | none=>_)=_
  rw[h3];simp only;rw[show pre.length+done.length+1=pre.length+(done.length+1) from rfl,ih]
  simp
def zny (pre:List Obj) (T:List (List Val)) (zaF:List Obj):(tcs pre.length T).mapM (zrT (pre++(T.map zrS++zaF)))=some (zbe T):=by
 refine zht (by rw[zbW,yam]) λj a b ha hb=> ?_
 rw[zjE]at ha;rw[yaz]at hb;obtain⟨r,hr,rfl⟩:=Option.map_eq_some_iff.1 ha;rw[hr]at hb;obtain rfl:=ybd hb;have hj:j<T.length:=lt_of_getElem? hr;unfold zrT;simp only;rw[yaj (ych _ _),yaM,yan (by rw[yam];exact hj),yaz,hr]
 simp[zrS]
end Go.Am.Ab
