/- Files of rows, read: parts. -/
import Derived.Test.YtibdiacpdmhmnaaGreatDoorCellsA
import Derived.Test.YtibdiacpdmhmnaaGreatDoorSchemaA
import Derived.Test.YtibdiacpdmhmnaaGreatDoorReadA
import Derived.Test.YtibdiacpdmhmnaaGreatDoorSums
import Derived.Test.YtibdiacpdmhmnaaGreatDoorFileA
set_option linter.all false
namespace Go.Am.Ab
open Go.Proofs
set_option maxHeartbeats 4000000
set_option maxRecDepth 4000
abbrev Bo (b:Bool):V:= .d (.bool b)
def zeB (most:Nat) (s:List UInt8 × Bool):Nat × List UInt8 × Bool:=
 if (get s.1).2.2≠0\/most<(get s.1).1\/s.2=true then (0,s.1,true) else ((get s.1).1,s.1.drop (get s.1).2.1,false)
def zdM (most:Nat) (s:List UInt8 × Bool):(zeB most s).1<=most/\(zeB most s).2.1.length<=s.1.length:=by
 unfold zeB;split
 ·exact⟨yai _,yaj _⟩
 ·rename_i h;simp only[yax];omega
def zd6 (most:Nat) (hm:most<=1000000) (s:List UInt8 × Bool) (hb:s.1.length<1000000000):
 R 108 [.ptr 0 0,.d (.int .i64 most)] [.box [B s.1,Bo s.2]]=some ([.d (.int .i64 (zeB most s).1)],[.box [B (zeB most s).2.1,Bo (zeB most s).2.2]]):=by
 obtain⟨b,bad⟩:=s;simp only at hb;have hg:=zfo b (by omega)
 have hu:=zfw b;have hl:=zdu b;unfold zeB;generalize get b=x at*;obtain⟨n,used,why⟩:=x;simp only at hg hu hl ⊢;obtain⟨r,hr⟩: ∃r,r=b.drop used:=⟨_,rfl⟩;have hr':List.drop used (bytes b)=bytes r:=by rw[hr];exact List.map_drop.symm
 have hw:IntKind.u64.wrap (most:Int)=most:=zal (by omega) (by omega)
 have hu':(used:Int)<=b.length:=by omega
 rw[<- hr];clear hr
 by_cases h1:why=0
 ·by_cases h2:most<n
  ·rw[yag (.inr (.inl h2))]
   have h2':(most:Int)<n:=by omega
   refine rg zFI rfl ?_;intro T hT;simp -dsimp -implicitDefEqProofs (disch:=omega) [hg,h1,h2',hw]
   simpa -dsimp -implicitDefEqProofs (disch:=omega) [B,Bo]using hT
  ·have h2': ¬ (most:Int)<n:=by omega
   have hw2:IntKind.i64.wrap (n:Int)=n:=wI (by omega) (by omega)
   cases bad with
   |true=>
    rw[yag (.inr (.inr rfl))];refine rg zFI rfl ?_;intro T hT;simp -dsimp -implicitDefEqProofs (disch:=omega) [hg,h1,h2',hw]
    simpa -dsimp -implicitDefEqProofs (disch:=omega) [B,Bo]using hT
   |false=>
    rw[yac (by simp[h1,h2])]
    refine rg zFI rfl ?_;intro T hT;simp -dsimp -implicitDefEqProofs (disch:=omega) [hg,h1,h2',hw,hw2,hu',hr']
    simpa -dsimp -implicitDefEqProofs (disch:=omega) [B,Bo]using hT
 ·rw[yag (.inl h1)]
  refine rg zFI rfl ?_;intro T hT;simp -dsimp -implicitDefEqProofs (disch:=omega) [hg,h1,hw]
  simpa -dsimp -implicitDefEqProofs (disch:=omega) [B,Bo]using hT
def zfM (n:Nat) (s:List UInt8 × Bool):List UInt8 × Bool:=if s.2=true\/s.1.length<n then (s.1,true) else (s.1.drop n,false)
def zhn (n:Nat) (s:List UInt8 × Bool):(zfM n s).1.length<=s.1.length:=by
 unfold zfM;split
 ·exact yaj _
 ·simp only[yax];omega
def zfE (n:Nat) (s:List UInt8 × Bool) (hb:s.1.length<1000000000):
 R 150 [.ptr 0 0,.d (.int .i64 n)] [.box [B s.1,Bo s.2]]=some ([],[.box [B (zfM n s).1,Bo (zfM n s).2]]):=by
 obtain⟨b,bad⟩:=s;simp only at hb;unfold zfM;simp only;obtain⟨r,hr⟩: ∃r,r=b.drop n:=⟨_,rfl⟩;have hr':List.drop n (bytes b)=bytes r:=by rw[hr];exact List.map_drop.symm
 rw[<- hr];clear hr;cases bad with
 |true=>
  rw[yag (.inl rfl)];refine rg zIa rfl ?_;intro T hT;simp -dsimp -implicitDefEqProofs (disch:=omega)
  simpa -dsimp -implicitDefEqProofs (disch:=omega) [B,Bo]using hT
 |false=>
  by_cases h:b.length<n
  ·rw[yag (.inr h)]
   have h':(b.length:Int)<n:=by omega
   refine rg zIa rfl ?_;intro T hT;simp -dsimp -implicitDefEqProofs (disch:=omega) [h']
   simpa -dsimp -implicitDefEqProofs (disch:=omega) [B,Bo]using hT
  ·rw[yac (by simp[h])]
   have h': ¬ (b.length:Int)<n:=by omega
   have h2:(n:Int)<=b.length:=by omega
   refine rg zIa rfl ?_;intro T hT;simp -dsimp -implicitDefEqProofs (disch:=omega) [h',h2,hr']
   simpa -dsimp -implicitDefEqProofs (disch:=omega) [B,Bo]using hT
def zkB (k:Nat) (s:List UInt8 × Bool):List UInt8 × Bool:=
 if k=1 then zfM (get s.1).2.1 (s.1,s.2 || decide ((get s.1).2.2≠0)) else if k=2 then zfM 1 s else zfM (zeB 64 s).1 (zeB 64 s).2
def zr0 (k:Nat) (s:List UInt8 × Bool):(zkB k s).1.length<=s.1.length:=by
 unfold zkB;split
 ·exact zhn _ _
 ·split
  ·exact zhn _ _
  ·exact ya4 (zhn _ _) (zdM _ _).2
def ztQ (k:Nat) (s:List UInt8 × Bool) (hb:s.1.length<1000000000):
 R 151 [.ptr 0 0,.d (.int .u8 k)] [.box [B s.1,Bo s.2]]=some ([],[.box [B (zkB k s).1,Bo (zkB k s).2]]):=by
 unfold zkB
 by_cases h1:k=1
 ·subst h1
  rw[yag rfl];have hg:=zjX s.1 (by omega)
  have hc:=zfE (get s.1).2.1 (s.1,s.2 || decide ((get s.1).2.2≠0)) hb;generalize zfM (get s.1).2.1 (s.1,s.2 || decide ((get s.1).2.2≠0))=y at*;generalize zag (get s.1).1=z at*;generalize get s.1=x at*;obtain⟨n,used,why⟩:=x;obtain⟨b,bad⟩:=s;simp only at hg hc
  by_cases h:why=0
  ·simp only[h,ydG,ybm,ydc,ydn]at hc
   cases bad
   all_goals
    refine rg zFL rfl ?_;intro T hT;simp -dsimp -implicitDefEqProofs (disch:=omega) [hg,hc,h]
    simpa -dsimp -implicitDefEqProofs (disch:=omega) [B,Bo]using hT
  ·have h': ¬ (why:Int)=0:=by omega
   simp only[h,ydG,yc7,ydM,Bool.or_true]at hc;cases bad
   all_goals
    refine rg zFL rfl ?_;intro T hT;simp -dsimp -implicitDefEqProofs (disch:=omega) [hg,hc,h,h']
    simpa -dsimp -implicitDefEqProofs (disch:=omega) [B,Bo]using hT
 rw[yac h1];have h1': ¬ (k:Int)=1:=by omega
 by_cases h2:k=2
 ·rw[yag h2]
  have hc:=zfE 1 s hb;generalize zfM 1 s=y at*;obtain⟨b,bad⟩:=s;simp only[Int.natCast_one]at hc;refine rg zFL rfl ?_;intro T hT;simp -dsimp -implicitDefEqProofs (disch:=omega) [hc,h1,h1',h2]
  simpa -dsimp -implicitDefEqProofs (disch:=omega) [B,Bo]using hT
 ·rw[yac h2]
  have h2': ¬ (k:Int)=2:=by omega
  have hn:R 108 [.ptr 0 0,.d (.int .i64 64)] [.box [B s.1,Bo s.2]]=_:=zd6 64 (by omega) s hb
  have hc:=zfE (zeB 64 s).1 (zeB 64 s).2 (by have:=(zdM 64 s).2;omega)
  generalize zfM (zeB 64 s).1 (zeB 64 s).2=y at*;generalize zeB 64 s=x at*;obtain⟨n,b2,bad2⟩:=x;obtain⟨b,bad⟩:=s;simp only at hn hc;refine rg zFL rfl ?_;intro T hT;simp -dsimp -implicitDefEqProofs (disch:=omega) [hn,hc,h1,h1',h2,h2']
  simpa -dsimp -implicitDefEqProofs (disch:=omega) [B,Bo]using hT
def zho (k:Nat):Nat->Nat->List UInt8 × Bool->List UInt8 × Bool
 |0,_,s=>s
 |f+1,fl,s=>if 0<fl/\s.2=false then zho k f (fl / 2) (if fl % 2=1 then zkB k s else s) else s
def zqD (b:List UInt8):Nat:=match b with | []=>0 | c::_=>c.toNat
def ziX (k:Nat) (s:List UInt8 × Bool):List UInt8 × Bool:=zho k 8 (zqD (zeB 256 s).2.1) (zfM 1 (zeB 256 s).2)
def zr1 (k:Nat): ∀ (f fl:Nat) (s:List UInt8 × Bool),(zho k f fl s).1.length<=s.1.length
 |0,_,_=>yaj _
 |f+1,fl,s=>by
  unfold zho;split
  ·refine ya4 (zr1 k f _ _) ?_
   split
   ·exact zr0 k s
   ·exact yaj _
  ·exact yaj _
def zr2 (k:Nat) (s:List UInt8 × Bool):(ziX k s).1.length<=s.1.length:=
 ya4 (zr1 k _ _ _) (ya4 (zhn _ _) (zdM _ _).2)
def zkC (k f fl:Nat) (s:List UInt8 × Bool) (h: ¬ (0<fl/\s.2=false)):zho k f fl s=s:=by
 cases f with
 |zero=>rfl
 |succ f=>unfold zho;rw[yac h]
def zmc (k:Nat) (s:List UInt8 × Bool) (hb:s.1.length<1000000000):
 R 109 [.ptr 0 0,.d (.int .u8 k)] [.box [B s.1,Bo s.2]]=some ([],[.box [B (ziX k s).1,Bo (ziX k s).2]]):=by
 have hn:R 108 [.ptr 0 0,.d (.int .i64 256)] [.box [B s.1,Bo s.2]]=_:=zd6 256 (by omega) s hb
 have hle:=(zdM 256 s).2;unfold ziX;generalize zeB 256 s=x at*;obtain⟨n,q⟩:=x;simp only at hn hle ⊢;have hc:R 150 [.ptr 0 0,.d (.int .i64 1)] [.box [B q.1,Bo q.2]]=_:=zfE 1 q (by omega)
 have hle2:=zhn 1 q;obtain⟨y,hy⟩: ∃y,y=zfM 1 q:=⟨_,rfl⟩;rw[<- hy]at hc hle2 ⊢;clear hy;obtain⟨b,bad⟩:=s;simp only at hn hb hle;obtain⟨qb,qbad⟩:=q;simp only at hn hc hle hle2 ⊢;have hh:zqD qb<256:=by
  cases qb with
  |nil=>exact (by decide)
  |cons c r=>exact c.toNat_lt
 obtain⟨fl,hfl⟩: ∃fl,fl=zqD qb:=⟨_,rfl⟩;rw[<- hfl]at hh ⊢;rcases qb with _ | ⟨c,r⟩
 all_goals
  simp only[zqD]at hfl;simp only[B,bytes,ybX,yaV,zmF]at hc hn;refine rg zJW rfl ?_;intro T hT;simp -dsimp -implicitDefEqProofs (disch:=omega) [hn,hc]
  generalize hz:zaf _ _ _ _ _ _=z;revert z;refine zaa (σ:=Nat × Nat × List UInt8 × Bool) (λx=>[(0,.ptr 0 0),(1,.d (.int .u8 k)),(4,.d (.int .u8 x.2.1))]) (λx=>[.box [B x.2.2.1,Bo x.2.2.2]]) (λx=>x.2.1<2 ^ x.1/\x.1<=8/\x.2.2.1.length<=y.1.length/\zho k 8 fl y=zho k x.1 x.2.1 x.2.2) (λx=>x.1) (8,fl,y) ?_ ?_ ?_
  ·exact⟨hh,yaj _,yaj _,rfl⟩
  ·simp -dsimp -implicitDefEqProofs (disch:=omega) [hfl]
  intro T' f hT' ⟨m,g,s⟩ ⟨g1,g2,g3,g4⟩ ih;simp only at g1 g2 g3 g4 ih;have g256:g<256:=ybp g1 (yby (n:=2) (by decide) g2)
  by_cases h1:0<g
  ·cases m with
   |zero=>simp at g1;omega
   |succ m=>
    have g1':g / 2<2 ^ m:=by rw[ycP]at g1;omega
    by_cases h2:s.2=false
    ·rw[show zho k (m+1) g s=zho k m (g / 2) (if g % 2=1 then zkB k s else s) from yag ⟨h1,h2⟩]at g4
     by_cases h3:g % 2=1
     ·have hcc:=ztQ k s (by simp only[yaz,yaf]at *;omega)
      have hcl:=zr0 k s;rw[yag h3]at g4;rw[h2]at hcc;simp -dsimp -implicitDefEqProofs (disch:=omega) [h1,h2,h3,hcc]
      refine ih (m,g / 2,zkB k s) _ _ ⟨g1',by simp only;omega,by simp only;omega,g4⟩ (by simp only;omega) ?_
      simp -dsimp -implicitDefEqProofs (disch:=omega)
     ·rw[yac h3]at g4
      have h3': ¬ (g:Int) % 2=1:=by omega
      simp -dsimp -implicitDefEqProofs (disch:=omega) [h1,h2,h3,h3']
      refine ih (m,g / 2,s) _ _ ⟨g1',by simp only;omega,g3,g4⟩ (by simp only;omega) ?_
      simp -dsimp -implicitDefEqProofs (disch:=omega) [h2]
    ·have h2':s.2=true:=by simpa using h2
     rw[zkC k (m+1) g s (λh=>h2 h.2)]at g4
     subst hT';rw[g4]at hT;simp -dsimp -implicitDefEqProofs (disch:=omega) [h1,h2']
     simpa -dsimp -implicitDefEqProofs (disch:=omega) [h2']using hT
  ·rw[zkC k m g s (λh=>h1 h.1)]at g4
   subst hT';rw[g4]at hT;simp -dsimp -implicitDefEqProofs (disch:=omega) [h1]
   simpa -dsimp -implicitDefEqProofs (disch:=omega) using hT
end Go.Am.Ab
namespace Go.Am.Ab
open Go.Proofs
set_option maxHeartbeats 8000000
set_option maxRecDepth 4000
def zdN (most:Nat) (s:List UInt8 × Nat):Nat × List UInt8 × Nat:=
 if s.2≠0 then (0,s) else if (get s.1).2.2≠0 then (0,s.1,(get s.1).2.2) else if most<(get s.1).1 then (0,s.1,40) else ((get s.1).1,s.1.drop (get s.1).2.1,0)
def zcT (most:Nat) (s:List UInt8 × Nat):(zdN most s).1<=most/\(zdN most s).2.1.length<=s.1.length:=by
 unfold zdN;split
 ·exact⟨yai _,yaj _⟩
 ·split
  ·exact⟨yai _,yaj _⟩
  ·split
   ·exact⟨yai _,yaj _⟩
   ·simp only[yax];omega
def zb8 (most:Nat) (s:List UInt8 × Nat) (hb:s.1.length<1000000000):
 R 148 [.ptr 0 0,.d (.int .u64 most)] [.box [B s.1,E s.2]]=some ([.d (.int .u64 (zdN most s).1)],[.box [B (zdN most s).2.1,E (zdN most s).2.2]]):=by
 obtain⟨b,e⟩:=s;simp only at hb;have hg:=zfo b (by omega)
 have hu:=zfw b;unfold zdN
 by_cases h0:e=0
 case neg=>
  rw[yag h0];refine rg zFK rfl ?_;intro T hT;simp -dsimp -implicitDefEqProofs (disch:=omega) [h0]
  simpa -dsimp -implicitDefEqProofs (disch:=omega) [B,E]using hT
 subst h0;rw[yac (by simp)]
 simp only;generalize get b=x at*;obtain⟨n,used,why⟩:=x;simp only at hg hu ⊢;obtain⟨r,hr⟩: ∃r,r=b.drop used:=⟨_,rfl⟩;have hr':List.drop used (bytes b)=bytes r:=by rw[hr];exact List.map_drop.symm
 have hu':(used:Int)<=b.length:=by omega
 rw[<- hr];clear hr
 by_cases h1:why=0
 ·rw[yac (ycl h1)]
  by_cases h2:most<n
  ·rw[yag h2]
   have h2':(most:Int)<n:=by omega
   refine rg zFK rfl ?_;intro T hT;simp -dsimp -implicitDefEqProofs (disch:=omega) [hg,h1,h2']
   simpa -dsimp -implicitDefEqProofs (disch:=omega) [B,E]using hT
  ·rw[yac h2]
   have h2': ¬ (most:Int)<n:=by omega
   refine rg zFK rfl ?_;intro T hT;simp -dsimp -implicitDefEqProofs (disch:=omega) [hg,h1,h2',hu',hr']
   simpa -dsimp -implicitDefEqProofs (disch:=omega) [B,E]using hT
 ·rw[yag h1]
  refine rg zFK rfl ?_;intro T hT;simp -dsimp -implicitDefEqProofs (disch:=omega) [hg,h1]
  simpa -dsimp -implicitDefEqProofs (disch:=omega) [B,E]using hT
def zdz (n:Nat) (s:List UInt8 × Nat):ByteArray × List UInt8 × Nat:=
 if s.2≠0 then (noS,s) else if s.1.length<n then (noS,s.1,30) else (⟨(s.1.take n).toArray⟩,s.1.drop n,0)
def zfN (s:List UInt8 × Nat):Fld × List UInt8 × Nat:=
 let a:=zdN 4294967295 s
 let c:=zdN 16 a.2
 let e:=zdz c.1 c.2
 let k:=zdN 255 e.2
 let m:=zdN 1 k.2
 (⟨a.1,e.1,k.1,decide (m.1=1)⟩,m.2)
def zdr:Nat->List UInt8 × Nat->List Fld->List Fld × List UInt8 × Nat
 |0,s,acc=>(acc,s)
 |n+1,s,acc=>if s.2=0 then zdr n (zfN s).2 (acc++[(zfN s).1]) else (acc,s)
def zcI (b:List UInt8):Sch × List UInt8 × Int:=
 let a:=zdN 4294967295 (b,0)
 let c:=zdN 8 a.2
 let r:=zdr c.1 c.2 []
 let s:Sch:=⟨a.1,r.1⟩
 if r.2.2=0 then (if zj6 s=0 then (s,r.2.1,0) else (⟨0,[]⟩,[],zj6 s)) else (⟨0,[]⟩,[],r.2.2)
def zwh (n:Nat) (s:List UInt8 × Nat):(zdz n s).1.size<=n/\(zdz n s).2.1.length<=s.1.length:=by
 unfold zdz;split
 ·exact⟨yai _,yaj _⟩
 ·split
  ·exact⟨yai _,yaj _⟩
  ·simp only[yax]
   refine⟨?_,by omega⟩
   show (s.1.take n).toArray.size<=n
   simp;omega
def zr3 (s:List UInt8 × Nat):(zfN s).2.1.length<=s.1.length/\(0<=(zfN s).1.id/\(zfN s).1.id<=4294967295/\0<=(zfN s).1.kind/\(zfN s).1.kind<=255/\(zfN s).1.name.size<=16):=by
 unfold zfN;simp only;have h1:=zcT 4294967295 s;have h2:=zcT 16 (zdN 4294967295 s).2;have h3:=zwh (zdN 16 (zdN 4294967295 s).2).1 (zdN 16 (zdN 4294967295 s).2).2;have h4:=zcT 255 (zdz (zdN 16 (zdN 4294967295 s).2).1 (zdN 16 (zdN 4294967295 s).2).2).2;have h5:=zcT 1 (zdN 255 (zdz (zdN 16 (zdN 4294967295 s).2).1 (zdN 16 (zdN 4294967295 s).2).2).2).2;omega
def zug (acc:List Fld):V:=match acc with | []=> .nilS | _=> .arr 3 acc.length
def zuh (acc:List Fld):List Obj:=match acc with | []=>[] | _=>[.arr 4 (acc.map Fld.d) 0]
def unV (x:Sch × List UInt8 × Int):List V:=
 match x.1.fields with
 |[]=>[.agg [.d (.int .u32 x.1.id),.nilS],.arr 0 x.2.1.length,.d (.int .i64 x.2.2)]
 |_::fs=>[.agg [.d (.int .u32 x.1.id),.arr 0 (fs.length+1)],.arr 1 x.2.1.length,.d (.int .i64 x.2.2)]
def unH (x:Sch × List UInt8 × Int):List Obj:=
 match x.1.fields with
 |[]=>[.arr 1 (bytes x.2.1) 0]
 |f::fs=>[.arr 4 (f.d::fs.map Fld.d) (fs.length+1),.arr 1 (bytes x.2.1) 0]
def zqE (b:List UInt8) (hb:b.length<1000000):R 107 [B b] []=some (unV (zcI b),unH (zcI b)):=by
 unfold zcI;have h1:R 148 [.ptr 0 0,.d (.int .u64 4294967295)] [.box [B b,Z]]=_:=zb8 4294967295 (b,0) (by simp only;omega)
 have l1:=zcT 4294967295 (b,0);simp only;generalize zdN 4294967295 (b,0)=a at*;obtain⟨id,a⟩:=a;simp only at h1 l1 ⊢;have h2:R 148 [.ptr 0 0,.d (.int .u64 8)] [.box [B a.1,E a.2]]=_:=zb8 8 a (by omega)
 have l2:=zcT 8 a;generalize zdN 8 a=c at*;obtain⟨n,c⟩:=c;simp only at h2 l2 ⊢;have w1:IntKind.u32.wrap (id:Int)=id:=zq7 (by omega) (by omega)
 refine rg zJV rfl ?_;intro T hT;simp -dsimp -implicitDefEqProofs (disch:=omega) [h1,h2,w1]
 generalize hz:zaf _ _ _ _ _ _=z;revert z;refine zaa (σ:=Nat × List Fld × List UInt8 × Nat) (λx=>[(2,.ptr 0 0),(5,.ptr 1 0),(6,.ptr 2 0),(7,.d (.int .u64 x.1))]) (λx=>[.box [.d (.int .u32 0),.nilS],.box [B x.2.2.1,E x.2.2.2],.box [.d (.int .u32 id),zug x.2.1]]++zuh x.2.1) (λx=>x.1<=8/\x.2.2.1.length<=b.length/\zdr n c []=zdr x.1 x.2.2 x.2.1/\x.2.1.length+x.1<=8/\ ∀f∈x.2.1,0<=f.id/\f.id<=4294967295/\0<=f.kind/\f.kind<=255/\f.name.size<=16) (λx=>x.1) (n,[],c) ?_ ?_ ?_
 ·exact⟨l2.1,by simp only;omega,rfl,by simp only[yaz];omega,λf h=>by simp at h⟩
 ·simp -dsimp -implicitDefEqProofs (disch:=omega) [zug,zuh]
 intro T' f hT' ⟨m,acc,q,e⟩ ⟨g1,g2,g3,g4,g5⟩ ih;simp only at g1 g2 g3 g4 g5 ih
 by_cases c1:0<m
 ·by_cases c2:e=0
  ·subst c2
   obtain⟨m,rfl⟩: ∃k,m=k+1:=⟨m - 1,by omega⟩
   rw[show zdr (m+1) (q,0) acc=zdr m (zfN (q,0)).2 (acc++[(zfN (q,0)).1]) from rfl]at g3
   have f1:R 148 [.ptr 0 0,.d (.int .u64 4294967295)] [.box [B q,Z]]=_:=zb8 4294967295 (q,0) (by simp only;omega)
   have hfl:=zr3 (q,0);have k1:=zcT 4294967295 (q,0);unfold zfN at g3 hfl;simp only at g3 hfl k1;generalize zdN 4294967295 (q,0)=y1 at*;obtain⟨fid,q1,e1⟩:=y1;simp only at f1 g3 hfl k1;have f2:R 148 [.ptr 0 0,.d (.int .u64 16)] [.box [B q1,E e1]]=_:=zb8 16 (q1,e1) (by simp only;omega)
   have k2:=zcT 16 (q1,e1);generalize zdN 16 (q1,e1)=y2 at*;obtain⟨sz,q2,e2⟩:=y2;simp only at f2 g3 hfl k2;have wl:IntKind.u64.wrap (q2.length:Int)=q2.length:=zal (by omega) (by omega)
   have wf:IntKind.u32.wrap (fid:Int)=fid:=zq7 (by omega) (by omega)
   have wm:IntKind.u64.wrap (m:Int)=m:=zal (by omega) (by omega)
   by_cases c3:e2=0
   ·subst c3
    by_cases c4:q2.length<sz
    ·rw[show zdz sz (q2,0)=(noS,q2,30) from by unfold zdz;simp[c4]]at g3 hfl
     have c4':(q2.length:Int)<sz:=by omega
     have f3:R 148 [.ptr 0 0,.d (.int .u64 255)] [.box [B q2,.d (.int .i64 30)]]=_:=zb8 255 (q2,30) (by simp only;omega)
     simp only at g3 hfl;have k3:=zcT 255 (q2,30);generalize zdN 255 (q2,30)=y3 at*;obtain⟨kk,q3,e3⟩:=y3;simp only at f3 g3 hfl k3;have f4:R 148 [.ptr 0 0,.d (.int .u64 1)] [.box [B q3,E e3]]=_:=zb8 1 (q3,e3) (by simp only;omega)
     generalize zdN 1 (q3,e3)=y4 at*;obtain⟨nd,q4,e4⟩:=y4;simp only at f4 g3 hfl;have wk:IntKind.u8.wrap (kk:Int)=kk:=zpV (by omega) (by omega)
     have wd:((nd:Int)=1)=(nd=1):=by simp only[eq_iff_iff];omega
     rcases acc with _ | ⟨f0,acc⟩
     all_goals
      simp only[yaz,yaf]at g4;simp -dsimp -implicitDefEqProofs (disch:=omega) [c1,f1,f2,f3,f4,wf,wk,wl,wm,wd,zug,zuh,c4']
      refine ih (m,_,q4,e4) _ _ ⟨by simp only;omega,by simp only;omega,g3,by simp only[yae,yaf,yaz]at *;omega,λx hx=> ?_⟩ (by simp only;omega) ?_
      ·rcases List.mem_append.1 hx with h | h
       ·exact g5 x h
       ·obtain rfl:=List.mem_singleton.1 h;exact hfl.2
      ·simp -dsimp -implicitDefEqProofs (disch:=omega) [zug,zuh]
    ·obtain⟨w,hw⟩: ∃w,w=q2.take sz:=⟨_,rfl⟩
     obtain⟨v,hv⟩: ∃v,v=q2.drop sz:=⟨_,rfl⟩;rw[show zdz sz (q2,0)=(⟨w.toArray⟩,v,0) from by unfold zdz;simp[c4,hw,hv]]at g3 hfl
     have c4': ¬ (q2.length:Int)<sz:=by omega
     have c5:(sz:Int)<=q2.length:=by omega
     have hw':List.take sz (bytes q2)=bytes w:=by rw[hw];exact List.map_take.symm
     have hv':List.drop sz (bytes q2)=bytes v:=by rw[hv];exact List.map_drop.symm
     have hvl:v.length<=q2.length:=by rw[hv,yax];omega
     have hM:=zfC w;clear hw hv;have f3:R 148 [.ptr 0 0,.d (.int .u64 255)] [.box [B v,Z]]=_:=zb8 255 (v,0) (by simp only;omega)
     simp only at g3 hfl;have k3:=zcT 255 (v,0);generalize zdN 255 (v,0)=y3 at*;obtain⟨kk,q3,e3⟩:=y3;simp only at f3 g3 hfl k3;have f4:R 148 [.ptr 0 0,.d (.int .u64 1)] [.box [B q3,E e3]]=_:=zb8 1 (q3,e3) (by simp only;omega)
     generalize zdN 1 (q3,e3)=y4 at*;obtain⟨nd,q4,e4⟩:=y4;simp only at f4 g3 hfl;have wk:IntKind.u8.wrap (kk:Int)=kk:=zpV (by omega) (by omega)
     have wd:((nd:Int)=1)=(nd=1):=by simp only[eq_iff_iff];omega
     rcases acc with _ | ⟨f0,acc⟩
     all_goals
      simp only[yaz,yaf]at g4;simp -dsimp -implicitDefEqProofs (disch:=omega) [c1,f1,f2,f3,f4,wf,wk,wl,wm,wd,zug,zuh,c4',c5,hw',hv',hM]
      refine ih (m,_,q4,e4) _ _ ⟨by simp only;omega,by simp only;omega,g3,by simp only[yae,yaf,yaz]at *;omega,λx hx=> ?_⟩ (by simp only;omega) ?_
      ·rcases List.mem_append.1 hx with h | h
       ·exact g5 x h
       ·obtain rfl:=List.mem_singleton.1 h;exact hfl.2
      ·simp -dsimp -implicitDefEqProofs (disch:=omega) [zug,zuh]
   ·rw[show zdz sz (q2,e2)=(noS,q2,e2) from by unfold zdz;simp[c3]]at g3 hfl
    have c3': ¬ (e2:Int)=0:=by omega
    have f3:R 148 [.ptr 0 0,.d (.int .u64 255)] [.box [B q2,E e2]]=_:=zb8 255 (q2,e2) (by simp only;omega)
    simp only at g3 hfl;have k3:=zcT 255 (q2,e2);generalize zdN 255 (q2,e2)=y3 at*;obtain⟨kk,q3,e3⟩:=y3;simp only at f3 g3 hfl k3;have f4:R 148 [.ptr 0 0,.d (.int .u64 1)] [.box [B q3,E e3]]=_:=zb8 1 (q3,e3) (by simp only;omega)
    generalize zdN 1 (q3,e3)=y4 at*;obtain⟨nd,q4,e4⟩:=y4;simp only at f4 g3 hfl;have wk:IntKind.u8.wrap (kk:Int)=kk:=zpV (by omega) (by omega)
    have wd:((nd:Int)=1)=(nd=1):=by simp only[eq_iff_iff];omega
    rcases acc with _ | ⟨f0,acc⟩
    all_goals
     simp only[yaz,yaf]at g4;simp -dsimp -implicitDefEqProofs (disch:=omega) [c1,f1,f2,f3,f4,wf,wk,wl,wm,wd,zug,zuh,c3,c3']
     refine ih (m,_,q4,e4) _ _ ⟨by simp only;omega,by simp only;omega,g3,by simp only[yae,yaf,yaz]at *;omega,λx hx=> ?_⟩ (by simp only;omega) ?_
     ·rcases List.mem_append.1 hx with h | h
      ·exact g5 x h
      ·obtain rfl:=List.mem_singleton.1 h;exact hfl.2
     ·simp -dsimp -implicitDefEqProofs (disch:=omega) [zug,zuh]
  ·have g6:zdr n c []=(acc,q,e):=by
    rw[g3];cases m with
    |zero=>rfl
    |succ m=>exact yac c2
   rw[g6]at hT;subst hT';simp only[c2,ybd]at hT;rcases acc with _ | ⟨f0,acc⟩
   all_goals
    simp -dsimp -implicitDefEqProofs (disch:=omega) [c1,c2,zug,zuh]
    simpa -dsimp -implicitDefEqProofs (disch:=omega) [unV,unH]using hT
 ·obtain rfl:m=0:=by omega
  have g6:zdr n c []=(acc,q,e):=g3;rw[g6]at hT;subst hT';simp only at hT
  by_cases c2:e=0
  ·subst c2
   rw[yag rfl]at hT;have hck:=zj7 ⟨id,acc⟩ (by simp only;omega) (λf hf=>by have:=g5 f hf;omega) (by simp only;omega)
   simp only[Sch.d]at hck;have hcl:=zgq q (by omega)
   by_cases c3:zj6 ⟨id,acc⟩=0
   ·rw[yag c3]at hT
    rw[c3]at hck;rcases acc with _ | ⟨f0,acc⟩
    all_goals
     simp only[ybX,yaV,Fld.d]at hck;simp -dsimp -implicitDefEqProofs (disch:=omega) [zug,zuh,hck,hcl]
     simpa -dsimp -implicitDefEqProofs (disch:=omega) [unV,unH]using hT
   ·rw[yac c3]at hT
    generalize zj6 ⟨id,acc⟩=ce at*;rcases acc with _ | ⟨f0,acc⟩
    all_goals
     simp only[ybX,yaV,Fld.d]at hck;simp -dsimp -implicitDefEqProofs (disch:=omega) [zug,zuh,hck,hcl,c3]
     simpa -dsimp -implicitDefEqProofs (disch:=omega) [unV,unH]using hT
  ·rw[yac c2]at hT
   rcases acc with _ | ⟨f0,acc⟩
   all_goals
    simp -dsimp -implicitDefEqProofs (disch:=omega) [c2,zug,zuh]
    simpa -dsimp -implicitDefEqProofs (disch:=omega) [unV,unH]using hT
end Go.Am.Ab
namespace Go.Am.Ab
open Go.Proofs
set_option maxHeartbeats 8000000
set_option maxRecDepth 4000
def zgr {k n:Nat} {b:List UInt8} (h:(zbQ k b n).2=0):zfL k (zbQ k b n).1/\(zbQ k b n).1.length=n/\n<=256/\1<=k/\k<=3:=by
 unfold zbQ at h ⊢
 by_cases hk:1<=k/\k<=3
 ·rw[yac (λc=>c hk)]at h ⊢
  by_cases h1:(n:Int)<0\/256<(n:Int)
  ·rw[yag h1]at h;simp at h
  rw[yac h1,yat]at h ⊢
  by_cases h2:(ze9 k n b).2≠0
  ·rw[yag h2]at h;exact absurd h h2
  rw[yac h2]at h ⊢;have hg:=zl8 hk (n:=n) (b:=b) (by omega)
  by_cases h3:zez k (ze9 k n b).1=b
  ·rw[yag h3]
   exact⟨hg.1,hg.2,by omega,hk⟩
  ·rw[yac h3]at h;simp at h
 ·rw[yag hk]at h;simp at h
def zwi (a c k m:Nat) (hm:m=2 ^ k) (ha:a<m) (hc:a+c*m<9223372036854775808):zbq .or .i64 (a:Int) ((c:Int)*m)=some (.int .i64 ((a:Int)+c*m)):=by
 have e:(c:Int)*m=((c*m:Nat):Int):=by rw[ybt]
 have h1:a<2 ^ 64:=by omega
 have h2:c*m<2 ^ 64:=by omega
 have h3:a ||| c*m=a+c*m:=zgf (i:=k) (by rw[hm];exact ydh _ _) (by rw[<- hm];exact ha)
 rw[e]
 show some (D.int .i64 (IntKind.i64.wrap (BitVec.ofInt 64 (a:Int) ||| BitVec.ofInt 64 ((c*m:Nat):Int)).toNat))=_
 rw[ydr,zaT,zaT,yaK h1,yaK h2,h3,wI (by omega) (by omega),Int.natCast_add]
def zmd {b:List UInt8} (h:(zcI b).2.2=0):zj6 (zcI b).1=0/\SchOk (zcI b).1/\(zcI b).2.1.length<=b.length:=by
 have hfs: ∀ (n:Nat) (s:List UInt8 × Nat) (acc:List Fld),(∀f∈acc,0<=f.id/\f.id<4294967296/\0<=f.kind/\f.kind<256/\f.name.size<5000)->(zdr n s acc).2.1.length<=s.1.length/\ ∀f∈(zdr n s acc).1,0<=f.id/\f.id<4294967296/\0<=f.kind/\f.kind<256/\f.name.size<5000:=by
  intro n
  induction n with
  |zero=>exact λs acc h=>⟨yaj _,h⟩
  |succ n ih=>
   intro s acc h;unfold zdr;split
   ·have hl:=zr3 s
    obtain⟨h1,h2⟩:=ih (zfN s).2 (acc++[(zfN s).1]) λf hf=>by
     rcases List.mem_append.1 hf with hf | hf
     ·exact h f hf
     ·obtain rfl:=List.mem_singleton.1 hf;omega
    exact⟨by omega,h2⟩
   ·exact⟨yaj _,h⟩
 have h1:=zcT 4294967295 (b,0);have h2:=zcT 8 (zdN 4294967295 (b,0)).2;unfold zcI at h ⊢;simp only at h h1 ⊢;generalize zdN 4294967295 (b,0)=a at*;generalize zdN 8 a.2=c at*;obtain⟨h3,h4⟩:=hfs c.1 c.2 [] λf hf=>by simp at hf
 generalize zdr c.1 c.2 []=r at*
 by_cases e:r.2.2=0
 ·rw[yag e]at h ⊢
  by_cases e2:zj6 ⟨a.1,r.1⟩=0
  ·rw[yag e2]
   have:=(zfd e2).len;exact⟨e2,⟨by simp only;omega,by simp only at this ⊢;omega,h4⟩,by simp only;omega⟩
  ·rw[yac e2]at h;exact absurd h e2
 ·rw[yac e]at h;simp only at h;omega
def zAS (b:List UInt8):Nat:=(b.getD 0 0).toNat+(b.getD 1 0).toNat*256+(b.getD 2 0).toNat*65536+(b.getD 3 0).toNat*16777216
def zqF (T:List (List Val)) (l:List Val):List (List Val):=List.zipWith (λr v=>r++[v]) T l
def zgs (many:Nat):List Nat->List UInt8 × Bool->List UInt8->List (List Val)->Option ((List UInt8 × Bool) × List UInt8 × List (List Val))
 |[],r,e,T=>some (r,e,T)
 |k::ks,r,e,T=>
  if (ziX k (zeB 65536 r).2).2=true\/e.length<(zeB 65536 r).1 then none
  else if (zbQ k (e.take (zeB 65536 r).1) many).2≠0 then none
  else zgs many ks (ziX k (zeB 65536 r).2) (e.drop (zeB 65536 r).1) (zqF T (zbQ k (e.take (zeB 65536 r).1) many).1)
def zfF (many k:Nat) (ks:List Nat) (r:List UInt8 × Bool) (e:List UInt8) (T:List (List Val)):zgs many (k::ks) r e T=
 if (ziX k (zeB 65536 r).2).2=true\/e.length<(zeB 65536 r).1 then none
 else if (zbQ k (e.take (zeB 65536 r).1) many).2≠0 then none
 else zgs many ks (ziX k (zeB 65536 r).2) (e.drop (zeB 65536 r).1) (zqF T (zbQ k (e.take (zeB 65536 r).1) many).1):=rfl
def ziY (ks:List Nat) (g:Nat):Nat->Nat->List UInt8 × Bool->List UInt8->List (List Val)->Option (List (List Val))
 |0,_,_,_,_=>none
 |f+1,n,r,e,acc=>if n=0 then some acc else match zgs (min n g) ks r e (List.replicate (min n g) []) with
  |none=>none
  |some (r',e',T)=>ziY ks g f (n - min n g) r' e' (acc++T)
def zne (b:List UInt8):Option (Sch × List (List Val) × Nat):=
 if b.length<4 then none else
 if (b.take (b.length - 4)).length<zAS (b.drop (b.length - 4)) then none else
 let u:=b.take (b.length - 4)
 let m:=u.length - zAS (b.drop (b.length - 4))
 let un:=zcI (u.drop m)
 if un.2.2≠0 then none else
 let n:=zeB 256 (un.2.1,false)
 let g:=zeB 64 n.2
 if g.2.2=true\/g.1<1 then none else
 match ziY (un.1.fields.map (·.kind.toNat)) g.1 257 n.1 g.2 (u.take m) [] with
 |none=>none
 |some X=>some (un.1,X,g.1)
def zjg {Z Z' P0:List (List Val)} {l:List Val} {a:Nat} {row:List Val} {v:Val} (hZ: ∀j:Nat,Z[j]? =if j<a then (zqF P0 l)[j]? else P0[j]?) (hr:Z[a]? =some row) (hv:l[a]? =some v)
 (hZ': ∀j:Nat,Z'[j]? =if j=a then some (row++[v]) else Z[j]?): ∀j:Nat,Z'[j]? =if j<a+1 then (zqF P0 l)[j]? else P0[j]? :=by
 intro j;rw[hZ' j]
 by_cases e:j=a
 ·subst e
  have h:=hZ j;rw[yac (ybx j),hr]at h;rw[yag rfl,yag (yci j)];unfold zqF;rw[List.getElem?_zipWith,<- h,hv]
 ·rw[yac e,hZ j]
  by_cases e2:j<a
  ·rw[yag e2,yag (by omega)]
  ·rw[yac e2,yac (by omega)]
def zgt (T:List (List Val)) (l:List Val):(zqF T l).length=min T.length l.length:=List.length_zipWith
def RA (X:List (List Val)):Option (List D × Nat):=match X with | []=>none | _=>some (zaK X,0)
def rd3 (a0 a1 b0 b1 gg:D) (R:Option (List D × Nat)):List Obj:=
 .box [.d a0,.d a1]:: .box [.d b0,.d b1]:: .box [.d a0,.d a1,(match R with | none=> .nilS | some (xs,_)=> .arr 3 xs.length),.d gg,.nilS]::(match R with | none=>[] | some (xs,wm)=>[.arr 1 xs wm])
def rdV:Option (Sch × List (List Val) × Nat)->List V
 |none=>[.d .nilP,.d (.bool false)]
 |some _=>[.ptr 0 0,.d (.bool true)]
def rdH:Option (Sch × List (List Val) × Nat)->List Obj
 |none=>[]
 |some (s,X,g)=> .box [.d (.int .u32 s.id),.d (.list (s.fields.map Fld.d)),(match X with | []=> .nilS | _::r=> .arr 1 (r.length+1)),.d (.int .i64 g),.nilS]::(match X with | []=>[] | _=>[.arr 1 (zaK X) 0])
end Go.Am.Ab
namespace Go.Am.Ab
open Go.Proofs
set_option maxHeartbeats 4000000
set_option maxRecDepth 4000
def zii {α β:Type} {f:α->Option β}: ∀ {l:List α} {r:List β},l.length=r.length->(∀ (j:Nat) (a:α) (b:β),l[j]? =some a->r[j]? =some b->f a=some b)->l.mapM f=some r
 |[],[],_,_=>rfl
 |[],_::_,h,_=>by simp at h
 |_::_,[],h,_=>by simp at h
 |a::l,b::r,h,hf=>by
  rw[ya2,hf 0 a b rfl rfl,zii (l:=l) (r:=r) (by simpa using h) λj x y hx hy=>hf (j+1) x y (by simpa using hx) (by simpa using hy)]
  rfl
def zfG (h:List Obj): ∀ (fuel pos:Nat) (acc:List Nat),(∀ (j id:Nat),pos<=j->acc[j]? =some id->zcu h id=[])->zf4 h fuel pos acc=acc
 |0,_,_,_=>rfl
 |fuel+1,pos,acc,hf=>by
  unfold zf4;cases e:acc[pos]? with
  |none=>rfl
  |some i=>
   simp only;rw[hf pos i (yaj _) e];exact zfG h fuel (pos+1) acc λj id hj h=>hf j id (by omega) h
def zcm {h:List Obj} {fuel pos i:Nat} {acc:List Nat} (e:acc[pos]? =some i):zf4 h (fuel+1) pos acc=zf4 h fuel (pos+1) (zaj acc (zcu h i)):=by
 show (match acc[pos]? with | none=>acc | some i=>zf4 h fuel (pos+1) (zaj acc (zcu h i)))=_
 rw[e]
def zfH: ∀ (l acc:List Nat),l.Nodup->(∀i∈l,i∉acc)->zaj acc l=acc++l
 |[],acc,_,_=>by simp[zaj]
 |i::r,acc,hn,hd=>by
  unfold zaj;have h1:acc.contains i=false:=by simpa using hd i (by simp)
  rw[h1];simp only[yaD,ybd];rw[zfH r (acc++[i]) (List.nodup_cons.1 hn).2 λj hj=> ?_]
  ·simp
  ·simp only[ycU,List.mem_singleton,not_or]
   exact⟨hd j (by simp[hj]),λe=>(List.nodup_cons.1 hn).1 (e ▸ hj)⟩
def zhu (r:List Val):Obj:= .arr 1 (vs r) 0
def tcs:Nat->List (List Val)->List V
 |_,[]=>[]
 |n,r::T=> .arr n r.length::tcs (n+1) T
def zkD: ∀ (n:Nat) (T:List (List Val)) (j:Nat),(tcs n T)[j]? =(T[j]?).map λr=> .arr (n+j) r.length
 |_,[],_=>by simp[tcs]
 |n,r::T,0=>rfl
 |n,r::T,j+1=>by
  show (tcs (n+1) T)[j]? =_
  rw[zkD (n+1) T j,show n+1+j=n+(j+1) by omega]
  rfl
def zbZ: ∀ (n:Nat) (T:List (List Val)),(tcs n T).length=T.length
 |_,[]=>rfl
 |n,_::T=>by simp[tcs,zbZ (n+1) T]
def zcd (a0 a1 b0 b1 gg:D) (R:Option (List D × Nat)) (cs:List V):List Obj:=
 .box [.d a0,.d a1]:: .box [.d b0,.d b1]:: .box [.d a0,.d a1,(match R with | none=> .nilS | some (xs,_)=> .arr 4 xs.length),.d gg,.nilS]:: .box cs::(match R with | none=>[] | some (xs,wm)=>[.arr 1 xs wm])
def zaR (R:Option (List D × Nat)):Nat:=match R with | none=>4 | some _=>5
def ren_arr (f:Nat->Option Nat) (sz:Nat) (xs:List D) (wm:Nat):Obj.ren f (.arr sz xs wm)=some (.arr sz xs wm):=rfl
def zr4 {a0 a1 b0 b1 gg:D} {R:Option (List D × Nat)} {k:Nat} (P:List (Nat × List Val)) {keep:List (Nat × Nat)} {s s1:Slots} {h zay:List Obj}
 (hh:h=zcd a0 a1 b0 b1 gg R ((P.map λp=> .arr p.1 p.2.length)++List.replicate k .nilS)++zay)
 (hn:(P.map (·.1)).Nodup) (hp: ∀p∈P,zaR R<=p.1/\h[p.1]? =some (zhu p.2))
 (hk:zad s h keep=(s1,h)) (h0:zaj [] (s1.flatMap λq=>q.2.ids)=[0,1,2,3])
 (hs: ∀f:Nat->Option Nat,f 0=some 0->f 1=some 1->f 2=some 2->f 3=some 3->zaH f s1=some s1):
 zfO 0 keep s h=some (s1,zcd a0 a1 b0 b1 gg R (tcs (zaR R) (P.map (·.2))++List.replicate k .nilS)++(P.map (·.2)).map zhu):=by
 obtain⟨ids,hids⟩: ∃ids,ids=List.range (zaR R)++P.map (·.1):=⟨_,rfl⟩
 have hb:(((P.map λ(p:Nat × List Val)=>V.arr p.1 p.2.length)++List.replicate k V.nilS).flatMap V.ids1)=P.map (·.1):=by
  rw[yds];have e1:(List.replicate k V.nilS).flatMap V.ids1=[]:=by
   rw[List.flatMap_eq_nil_iff];intro x hx;rw[(List.mem_replicate.1 hx).2];rfl
  rw[e1,yap];clear hids hp hn hh hk
  induction P with
  |nil=>rfl
  |cons p P ih=>rw[yaV,ya5,ih];rfl
 have hnd:ids.Nodup:=by
  rw[hids,ydH];refine⟨ydg,hn,λa ha b hb e=> ?_⟩
  obtain⟨p,hp1,rfl⟩:=List.mem_map.1 hb;have:=(hp p hp1).1;rw[ydY]at ha;omega
 have hlen:5<=h.length+1:=by rw[hh];simp[zcd]
 obtain⟨fu,hfu⟩: ∃fu,h.length+1=fu+4:=⟨h.length - 3,by omega⟩
 have g0:h[0]? =some (.box [.d a0,.d a1]):=by rw[hh];rfl
 have g1:h[1]? =some (.box [.d b0,.d b1]):=by rw[hh];rfl
 have g3:h[3]? =some (.box ((P.map λp=> .arr p.1 p.2.length)++List.replicate k .nilS)):=by rw[hh];rfl
 have hflat: ∀ (j id:Nat),4<=j->ids[j]? =some id->zcu h id=[]:=by
  intro j id hj e;rw[hids]at e;rcases ybL j (zaR R) with hlt | hge
  ·rw[yar (by simpa using hlt),ybj hlt]at e
   obtain rfl:=yaN e;cases R with
   |none=>exact absurd hlt (by simp only[zaR];omega)
   |some q=>
    have:j=4:=by simp[zaR]at hlt;omega
    subst this;have:h[4]? =some (.arr 1 q.1 q.2):=by rw[hh];rfl
    simp only[zcu,this,Obj.ids]
  ·rw[yal (by simpa using hge)]at e
   obtain⟨p,hp1,rfl⟩:=List.mem_map.1 (yay e);simp only[zcu,(hp p hp1).2,zhu,Obj.ids]
 have hreach:zbi h [0,1,2,3]=ids:=by
  unfold zbi;rw[hfu,zcm (i:=0) rfl,zcm (i:=1) (by rw[zcu,g0];rfl)]
  have i0:zcu h 0=[]:=by rw[zcu,g0];rfl
  have i1:zcu h 1=[]:=by rw[zcu,g1];rfl
  have i3:zcu h 3=P.map (·.1):=by rw[zcu,g3];exact hb
  rw[i0,i1];simp only[zaj];rw[zcm (i:=2) rfl];cases R with
  |none=>
   have i2:zcu h 2=[]:=by rw[zcu,hh];rfl
   rw[i2];simp only[zaj];rw[zcm (i:=3) rfl,i3,zfH _ _ hn λi hi=> ?_]
   ·have:[0,1,2,3]++P.map (·.1)=ids:=by rw[hids];rfl
    rw[this];exact zfG h _ _ _ hflat
   ·obtain⟨p,hp1,rfl⟩:=List.mem_map.1 hi
    have:=(hp p hp1).1;simp only[zaR]at this;simp;omega
  |some q=>
   have i2:zcu h 2=[4]:=by rw[zcu,hh];rfl
   rw[i2,show zaj [0,1,2,3] [4]=[0,1,2,3,4] from rfl,zcm (i:=3) rfl,i3,zfH _ _ hn λi hi=> ?_]
   ·have:[0,1,2,3,4]++P.map (·.1)=ids:=by rw[hids];rfl
    rw[this];exact zfG h _ _ _ hflat
   ·obtain⟨p,hp1,rfl⟩:=List.mem_map.1 hi
    have:=(hp p hp1).1;simp only[zaR]at this;simp;omega
 have hpl: ∀j,j<zaR R->zas ids j=some j:=λj hj=>zeg hnd (by rw[hids,yar (by simpa using hj),ybj hj])
 have hr4:4<=zaR R:=by cases R <;> simp[zaR]
 have hpr: ∀ (j:Nat) (p:Nat × List Val),P[j]? =some p->zas ids p.1=some (zaR R+j):=λj p hj=>zeg hnd (by
  rw[hids,yal (by simp),ycf,yaP,yau,hj];rfl)
 have hcs:((P.map λ(p:Nat × List Val)=>V.arr p.1 p.2.length)++List.replicate k V.nilS).mapM (V.ren1 (zas ids))=some (tcs (zaR R) (P.map (·.2))++List.replicate k .nilS):=by
  refine zii (by simp[zbZ]) λj a b ha hb=> ?_
  rcases ybL j P.length with hlt | hge
  ·rw[yar (by simpa using hlt),yau]at ha
   rw[yar (by simpa[zbZ]using hlt),zkD,yau]at hb
   obtain⟨p,hp1,rfl⟩:=Option.map_eq_some_iff.1 ha;rw[hp1]at hb;simp only[yaM,yaa]at hb;subst hb;simp only[V.ren1,V.ren0,hpr j p hp1,yaM]
  ·rw[yal (by simpa using hge)]at ha
   rw[yal (by simpa[zbZ]using hge)]at hb
   rw[(List.mem_replicate.1 (yay ha)).2,(List.mem_replicate.1 (yay hb)).2];rfl
 have hrows:(P.map (·.1)).mapM (λi=>(h[i]?).bind (Obj.ren (zas ids)))=some ((P.map (·.2)).map zhu):=by
  refine zii (by simp) λj a b ha hb=> ?_
  rw[yau]at ha;rw[yau,yau]at hb;obtain⟨p,hp1,rfl⟩:=Option.map_eq_some_iff.1 ha;rw[hp1]at hb;simp only[yaM,yaa]at hb;subst hb;rw[(hp p (yay hp1)).2];rfl
 have hbox: ∀ (l:List D) (f:Nat->Option Nat),Obj.ren f (.box (l.map .d))=some (.box (l.map .d)):=λl f=>by
  show (Option.map Obj.box ((l.map V.d).mapM (V.ren1 f)))=_
  rw[zii (r:=l.map V.d) rfl λj a b ha hb=>by
   rw[ha]at hb;obtain rfl:=yaN hb;rw[yau]at ha;obtain⟨x,_,rfl⟩:=Option.map_eq_some_iff.1 ha;rfl]
  rfl
 have q0:Obj.ren (zas ids) (.box [.d a0,.d a1])=some (.box [.d a0,.d a1]):=hbox [a0,a1] _;have q1:Obj.ren (zas ids) (.box [.d b0,.d b1])=some (.box [.d b0,.d b1]):=hbox [b0,b1] _;have q3:Obj.ren (zas ids) (.box ((P.map λp=> .arr p.1 p.2.length)++List.replicate k .nilS))=some (.box (tcs (zaR R) (P.map (·.2))++List.replicate k .nilS)):=by
  show Option.map Obj.box (List.mapM _ _)=_
  rw[hcs];rfl
 have htake:zaG h (zas ids) ids=some (zcd a0 a1 b0 b1 gg R (tcs (zaR R) (P.map (·.2))++List.replicate k .nilS)++(P.map (·.2)).map zhu):=by
  unfold zaG;cases R with
  |none=>
   have g2:h[2]? =some (.box [.d a0,.d a1,.nilS,.d gg,.nilS]):=by rw[hh];rfl
   have e:ids=0::1::2::3::P.map (·.1):=by rw[hids];rfl
   rw[e]at hrows q0 q1 q3 ⊢;simp only[ya2,g0,g1,g2,g3,yde,q0,q1,q3,hrows];rfl
  |some q=>
   have g2:h[2]? =some (.box [.d a0,.d a1,.arr 4 q.1.length,.d gg,.nilS]):=by rw[hh];rfl
   have g4:h[4]? =some (.arr 1 q.1 q.2):=by rw[hh];rfl
   have e:ids=0::1::2::3::4::P.map (·.1):=by rw[hids];rfl
   have q2:Obj.ren (zas ids) (.box [.d a0,.d a1,.arr 4 q.1.length,.d gg,.nilS])=some (.box [.d a0,.d a1,.arr 4 q.1.length,.d gg,.nilS]):=by
    have:=hpl 4 (yci 4)
    show Option.map Obj.box (List.mapM _ _)=_
    simp only[ya2,List.mapM_nil,V.ren1,V.ren0,this,yaM];rfl
   rw[e]at hrows q0 q1 q2 q3 ⊢;simp only[ya2,g0,g1,g2,g3,g4,yde,q0,q1,q2,q3,hrows,ren_arr];rfl
 unfold zfO;rw[hk];simp only;rw[show List.range 0=[] from rfl,h0,hreach,hs (zas ids) (hpl 0 (by omega)) (hpl 1 (by omega)) (hpl 2 (by omega)) (hpl 3 (by omega)),htake]
def zqG: ∀ (n:Nat) (T:List (List Val)) (i:Nat) (r:List Val),tcs n (T.set i r)=(tcs n T).set i (.arr (n+i) r.length)
 |_,[],_,_=>rfl
 |n,_::T,0,r=>rfl
 |n,x::T,i+1,r=>by
  show _::tcs (n+1) (T.set i r)=_::(tcs (n+1) T).set i _
  rw[zqG (n+1) T i r,show n+1+i=n+(i+1) by omega]
def pz:Nat->List (List Val)->List (Nat × List Val)
 |_,[]=>[]
 |n,r::T=>(n,r)::pz (n+1) T
def zwj: ∀ (n:Nat) (T:List (List Val)),((pz n T).map λp=>V.arr p.1 p.2.length)=tcs n T
 |_,[]=>rfl
 |n,r::T=>by show _::_=_::_;rw[zwj (n+1) T]
def zwk: ∀ (n:Nat) (T:List (List Val)),(pz n T).map (·.2)=T
 |_,[]=>rfl
 |n,r::T=>by show _::_=_;rw[zwk (n+1) T]
def zwl: ∀ (n:Nat) (T:List (List Val)),(pz n T).map (·.1)=List.range' n T.length
 |_,[]=>rfl
 |n,r::T=>by show _::_=_;rw[zwl (n+1) T];rfl
def zwm: ∀ {n:Nat} {T:List (List Val)} {p:Nat × List Val},p∈pz n T-> ∃j,p.1=n+j/\T[j]? =some p.2
 |_,[],_,h=>by simp[pz]at h
 |n,r::T,p,h=>by
  rcases List.mem_cons.1 h with rfl | h
  ·exact⟨0,rfl,rfl⟩
  ·obtain⟨j,h1,h2⟩:=zwm h
   exact⟨j+1,by omega,h2⟩
def zcn (a0 a1 b0 b1 gg:D) (R:Option (List D × Nat)) (cs:List V):(zcd a0 a1 b0 b1 gg R cs).length=zaR R:=by cases R <;> rfl
def zd7 {a0 a1 b0 b1 gg:D} (R:Option (List D × Nat)) (T:List (List Val)) (k:Nat) {keep:List (Nat × Nat)} {s s1:Slots} {h zay:List Obj}
 (hh:h=zcd a0 a1 b0 b1 gg R (tcs (zaR R) T++List.replicate k .nilS)++(T.map zhu++zay))
 (hk:zad s h keep=(s1,h)) (h0:zaj [] (s1.flatMap λq=>q.2.ids)=[0,1,2,3])
 (hs: ∀f:Nat->Option Nat,f 0=some 0->f 1=some 1->f 2=some 2->f 3=some 3->zaH f s1=some s1):
 zfO 0 keep s h=some (s1,zcd a0 a1 b0 b1 gg R (tcs (zaR R) T++List.replicate k .nilS)++T.map zhu):=by
 have e:=zr4 (k:=k) (pz (zaR R) T) (by rw[zwj];exact hh) (by rw[zwl];exact List.nodup_range') (λp hp=> ?_) hk h0 hs
 ·rw[zwk]at e
  exact e
 ·obtain⟨j,h1,h2⟩:=zwm hp
  refine⟨by omega, ?_⟩
  have hj:j<T.length:=lt_of_getElem? h2;rw[hh,yal (by rw[zcn];omega),zcn,h1,yaP,yar (by simpa using hj),yau,h2]
  rfl
def zr5 {a0 a1 b0 b1 gg:D} (R:Option (List D × Nat)) (T:List (List Val)) (r:List Val) (k:Nat) {keep:List (Nat × Nat)} {s s1:Slots} {h zay:List Obj} {o:Obj}
 (hh:h=zcd a0 a1 b0 b1 gg R (tcs (zaR R) T++ .arr (zaR R+T.length+1) r.length::List.replicate k .nilS)++(T.map zhu++o::zhu r::zay))
 (hk:zad s h keep=(s1,h)) (h0:zaj [] (s1.flatMap λq=>q.2.ids)=[0,1,2,3])
 (hs: ∀f:Nat->Option Nat,f 0=some 0->f 1=some 1->f 2=some 2->f 3=some 3->zaH f s1=some s1):
 zfO 0 keep s h=some (s1,zcd a0 a1 b0 b1 gg R (tcs (zaR R) (T++[r])++List.replicate k .nilS)++(T++[r]).map zhu):=by
 have e:=zr4 (k:=k) (pz (zaR R) T++[(zaR R+T.length+1,r)]) (by rw[ya7,zwj,yan];exact hh) ?_ (λp hp=> ?_) hk h0 hs
 ·rw[ya7,zwk]at e
  exact e
 ·rw[ya7,zwl,ydH]
  refine⟨List.nodup_range',by simp,λa ha b hb e=> ?_⟩
  simp at hb;rw[List.mem_range'_1]at ha;omega
 ·rcases List.mem_append.1 hp with hp | hp
  ·obtain⟨j,h1,h2⟩:=zwm hp
   refine⟨by omega, ?_⟩
   have hj:j<T.length:=lt_of_getElem? h2;rw[hh,yal (by rw[zcn];omega),zcn,h1,yaP,yar (by simpa using hj),yau,h2]
   rfl
  ·obtain rfl:=List.mem_singleton.1 hp
   refine⟨by simp only;omega, ?_⟩
   rw[hh,yal (by rw[zcn];simp only;omega),zcn]
   simp only;rw[show zaR R+T.length+1 - zaR R=T.length+1 by omega,yal (by simp),yah,yaP]
   rfl
def zwn (m:Nat):(List.replicate m V.nilS).flatMap V.ids1=[]:=by
 rw[List.flatMap_eq_nil_iff];intro x hx;rw[(List.mem_replicate.1 hx).2];rfl
def zwo (f:Nat->Option Nat) (m:Nat):(List.replicate m V.nilS).mapM (V.ren1 f)=some (List.replicate m V.nilS):=zii rfl λj a b ha hb=>by
 rw[(List.mem_replicate.1 (yay ha)).2,(List.mem_replicate.1 (yay hb)).2];rfl
def zui (r:List Val):Obj:= .arr 1 (vs r) r.length
def zkE: ∀ (todo done:List (List Val)) (pre:List Obj),za4 (pre++(done.map zui++todo.map zhu)) (tcs (pre.length+done.length) todo)=some (zaK todo,pre++(done++todo).map zui)
 |[],done,pre=>by simp[tcs,za4]
 |r::todo,done,pre=>by
  have h1:(pre++(done.map zui++(r::todo).map zhu))[pre.length+done.length]? =some (zhu r):=by
   rw[yal (yb0 _ _),yaP,yal (by rw[yah];exact yaj _),yah,yba]
   rfl
  have h2:(pre++(done.map zui++(r::todo).map zhu)).set (pre.length+done.length) (zui r)=pre++((done++[r]).map zui++todo.map zhu):=by
   rw[ybl _ _ (yb0 _ _),yaP,ybl _ _ (by rw[yah];exact yaj _),yah,yba]
   simp
  have h3:za6 (pre++(done.map zui++(r::todo).map zhu)) (.arr (pre.length+done.length) r.length)=some (.list (vs r),pre++((done++[r]).map zui++todo.map zhu)):=by
   unfold za6;simp only;rw[h1];simp only[zhu];rw[yag (by rw[yah]),yah,<- h2]
   rfl
  have ih:=zkE todo (done++[r]) pre;rw[yae,ybg]at ih
  show (match za6 _ (.arr (pre.length+done.length) r.length) with | some (x,h1)=>_ | none=>_)=_
  rw[h3];simp only;rw[show pre.length+done.length+1=pre.length+(done.length+1) from rfl,ih]
  simp
def zo7 (pre:List Obj) (T:List (List Val)) (zay:List Obj):(tcs pre.length T).mapM (zuj (pre++(T.map zui++zay)))=some (zaK T):=by
 refine zii (by rw[zbZ,yah]) λj a b ha hb=> ?_
 rw[zkD]at ha;rw[yau]at hb;obtain⟨r,hr,rfl⟩:=Option.map_eq_some_iff.1 ha;rw[hr]at hb;obtain rfl:=yaN hb;have hj:j<T.length:=lt_of_getElem? hr;unfold zuj;simp only;rw[yal (yb0 _ _),yaP,yar (by rw[yah];exact hj),yau,hr]
 simp[zui]
end Go.Am.Ab
