/- Files of rows, read: parts. -/
import Derived.Test.YtibdiacpdmhmnaaGreatDoorReadA
import Derived.Test.YtibdiacpdmhmnaaGreatDoorCellsA
import Derived.Test.YtibdiacpdmhmnaaGreatDoorSchemaA
import Derived.Test.YtibdiacpdmhmnaaGreatDoorSums
import Derived.Test.YtibdiacpdmhmnaaGreatDoorFileA
set_option linter.all false
namespace Go.Am.Ab
open Go.Proofs
set_option maxHeartbeats 4000000
set_option maxRecDepth 4000
abbrev Bo (b:Bool):V:= .d (.bool b)
def zeM (most:Nat) (s:List UInt8 × Bool):Nat × List UInt8 × Bool:=
 if (get s.1).2.2≠0\/most<(get s.1).1\/s.2=true then (0,s.1,true) else ((get s.1).1,s.1.drop (get s.1).2.1,false)
def zdV (most:Nat) (s:List UInt8 × Bool):(zeM most s).1<=most/\(zeM most s).2.1.length<=s.1.length:=by
 unfold zeM;split
 ·exact⟨yai _,yaf _⟩
 ·rename_i h;simp only[yaw];omega
def zef (most:Nat) (hm:most<=1000000) (s:List UInt8 × Bool) (hb:s.1.length<1000000000):
 R 108 [.ptr 0 0,.d (.int .i64 most)] [.box [B s.1,Bo s.2]]=some ([.d (.int .i64 (zeM most s).1)],[.box [B (zeM most s).2.1,Bo (zeM most s).2.2]]):=by
 obtain⟨b,bad⟩:=s;simp only at hb;have hg:=zfB b (by omega)
 have hu:=zfF b;have hl:=zdC b;unfold zeM;generalize get b=x at*;obtain⟨n,used,why⟩:=x;simp only at hg hu hl ⊢;obtain⟨r,hr⟩: ∃r,r=b.drop used:=⟨_,rfl⟩;have hr':List.drop used (bytes b)=bytes r:=by rw[hr];exact List.map_drop.symm
 have hw:IntKind.u64.wrap (most:Int)=most:=zak (by omega) (by omega)
 have hu':(used:Int)<=b.length:=by omega
 rw[<- hr];clear hr
 by_cases h1:why=0
 ·by_cases h2:most<n
  ·rw[yaj (.inr (.inl h2))]
   have h2':(most:Int)<n:=by omega
   refine rg zE3 rfl ?_;intro T hT;simp -dsimp -implicitDefEqProofs (disch:=first|omega|assumption) [hg,h1,h2',hw]
   simpa -dsimp -implicitDefEqProofs (disch:=first|omega|assumption) [B,Bo]using hT
  ·have h2': ¬ (most:Int)<n:=by omega
   have hw2:IntKind.i64.wrap (n:Int)=n:=wI (by omega) (by omega)
   cases bad with
   |true=>
    rw[yaj (.inr (.inr rfl))];refine rg zE3 rfl ?_;intro T hT;simp -dsimp -implicitDefEqProofs (disch:=first|omega|assumption) [hg,h1,h2',hw]
    simpa -dsimp -implicitDefEqProofs (disch:=first|omega|assumption) [B,Bo]using hT
   |false=>
    rw[yag (by simp[h1,h2])]
    refine rg zE3 rfl ?_;intro T hT;simp -dsimp -implicitDefEqProofs (disch:=first|omega|assumption) [hg,h1,h2',hw,hw2,hu',hr']
    simpa -dsimp -implicitDefEqProofs (disch:=first|omega|assumption) [B,Bo]using hT
 ·rw[yaj (.inl h1)]
  refine rg zE3 rfl ?_;intro T hT;simp -dsimp -implicitDefEqProofs (disch:=first|omega|assumption) [hg,h1,hw]
  simpa -dsimp -implicitDefEqProofs (disch:=first|omega|assumption) [B,Bo]using hT
def zf0 (n:Nat) (s:List UInt8 × Bool):List UInt8 × Bool:=if s.2=true\/s.1.length<n then (s.1,true) else (s.1.drop n,false)
def zhw (n:Nat) (s:List UInt8 × Bool):(zf0 n s).1.length<=s.1.length:=by
 unfold zf0;split
 ·exact yaf _
 ·simp only[yaw];omega
def zfT (n:Nat) (s:List UInt8 × Bool) (hb:s.1.length<1000000000):
 R 150 [.ptr 0 0,.d (.int .i64 n)] [.box [B s.1,Bo s.2]]=some ([],[.box [B (zf0 n s).1,Bo (zf0 n s).2]]):=by
 obtain⟨b,bad⟩:=s;simp only at hb;unfold zf0;simp only;obtain⟨r,hr⟩: ∃r,r=b.drop n:=⟨_,rfl⟩;have hr':List.drop n (bytes b)=bytes r:=by rw[hr];exact List.map_drop.symm
 rw[<- hr];clear hr;cases bad with
 |true=>
  rw[yaj (.inl rfl)];refine rg zHs rfl ?_;intro T hT;simp -dsimp -implicitDefEqProofs (disch:=first|omega|assumption)
  simpa -dsimp -implicitDefEqProofs (disch:=first|omega|assumption) [B,Bo]using hT
 |false=>
  by_cases h:b.length<n
  ·rw[yaj (.inr h)]
   have h':(b.length:Int)<n:=by omega
   refine rg zHs rfl ?_;intro T hT;simp -dsimp -implicitDefEqProofs (disch:=first|omega|assumption) [h']
   simpa -dsimp -implicitDefEqProofs (disch:=first|omega|assumption) [B,Bo]using hT
  ·rw[yag (by simp[h])]
   have h': ¬ (b.length:Int)<n:=by omega
   have h2:(n:Int)<=b.length:=by omega
   refine rg zHs rfl ?_;intro T hT;simp -dsimp -implicitDefEqProofs (disch:=first|omega|assumption) [h',h2,hr']
   simpa -dsimp -implicitDefEqProofs (disch:=first|omega|assumption) [B,Bo]using hT
def zkZ (k:Nat) (s:List UInt8 × Bool):List UInt8 × Bool:=
 if k=1 then zf0 (get s.1).2.1 (s.1,s.2 || decide ((get s.1).2.2≠0)) else if k=2 then zf0 1 s else zf0 (zeM 64 s).1 (zeM 64 s).2
def zsE (k:Nat) (s:List UInt8 × Bool):(zkZ k s).1.length<=s.1.length:=by
 unfold zkZ;split
 ·exact zhw _ _
 ·split
  ·exact zhw _ _
  ·exact ybd (zhw _ _) (zdV _ _).2
def zuk (k:Nat) (s:List UInt8 × Bool) (hb:s.1.length<1000000000):
 R 151 [.ptr 0 0,.d (.int .u8 k)] [.box [B s.1,Bo s.2]]=some ([],[.box [B (zkZ k s).1,Bo (zkZ k s).2]]):=by
 unfold zkZ
 by_cases h1:k=1
 ·subst h1
  rw[yaj rfl];have hg:=zkh s.1 (by omega)
  have hc:=zfT (get s.1).2.1 (s.1,s.2 || decide ((get s.1).2.2≠0)) hb;generalize zf0 (get s.1).2.1 (s.1,s.2 || decide ((get s.1).2.2≠0))=y at*;generalize zag (get s.1).1=z at*;generalize get s.1=x at*;obtain⟨n,used,why⟩:=x;obtain⟨b,bad⟩:=s;simp only at hg hc
  by_cases h:why=0
  ·simp only[h,ydh,yba,ycC,yct]at hc
   cases bad
   all_goals
    refine rg zE6 rfl ?_;intro T hT;simp -dsimp -implicitDefEqProofs (disch:=first|omega|assumption) [hg,hc,h]
    simpa -dsimp -implicitDefEqProofs (disch:=first|omega|assumption) [B,Bo]using hT
  ·have h': ¬ (why:Int)=0:=by omega
   simp only[h,ydh,ycj,yda,ydf]at hc;cases bad
   all_goals
    refine rg zE6 rfl ?_;intro T hT;simp -dsimp -implicitDefEqProofs (disch:=first|omega|assumption) [hg,hc,h,h']
    simpa -dsimp -implicitDefEqProofs (disch:=first|omega|assumption) [B,Bo]using hT
 rw[yag h1];have h1': ¬ (k:Int)=1:=by omega
 by_cases h2:k=2
 ·rw[yaj h2]
  have hc:=zfT 1 s hb;generalize zf0 1 s=y at*;obtain⟨b,bad⟩:=s;simp only[Int.natCast_one]at hc;refine rg zE6 rfl ?_;intro T hT;simp -dsimp -implicitDefEqProofs (disch:=first|omega|assumption) [hc,h1,h1',h2]
  simpa -dsimp -implicitDefEqProofs (disch:=first|omega|assumption) [B,Bo]using hT
 ·rw[yag h2]
  have h2': ¬ (k:Int)=2:=by omega
  have hn:R 108 [.ptr 0 0,.d (.int .i64 64)] [.box [B s.1,Bo s.2]]=_:=zef 64 (by omega) s hb
  have hc:=zfT (zeM 64 s).1 (zeM 64 s).2 (by have:=(zdV 64 s).2;omega)
  generalize zf0 (zeM 64 s).1 (zeM 64 s).2=y at*;generalize zeM 64 s=x at*;obtain⟨n,b2,bad2⟩:=x;obtain⟨b,bad⟩:=s;simp only at hn hc;refine rg zE6 rfl ?_;intro T hT;simp -dsimp -implicitDefEqProofs (disch:=first|omega|assumption) [hn,hc,h1,h1',h2,h2']
  simpa -dsimp -implicitDefEqProofs (disch:=first|omega|assumption) [B,Bo]using hT
def zhx (k:Nat):Nat->Nat->List UInt8 × Bool->List UInt8 × Bool
 |0,_,s=>s
 |f+1,fl,s=>if 0<fl/\s.2=false then zhx k f (fl / 2) (if fl % 2=1 then zkZ k s else s) else s
def zra (b:List UInt8):Nat:=match b with | []=>0 | c::_=>c.toNat
def zjb (k:Nat) (s:List UInt8 × Bool):List UInt8 × Bool:=zhx k 8 (zra (zeM 256 s).2.1) (zf0 1 (zeM 256 s).2)
def zsF (k:Nat): ∀ (f fl:Nat) (s:List UInt8 × Bool),(zhx k f fl s).1.length<=s.1.length
 |0,_,_=>yaf _
 |f+1,fl,s=>by
  unfold zhx;split
  ·refine ybd (zsF k f _ _) ?_
   split
   ·exact zsE k s
   ·exact yaf _
  ·exact yaf _
def zsG (k:Nat) (s:List UInt8 × Bool):(zjb k s).1.length<=s.1.length:=
 ybd (zsF k _ _ _) (ybd (zhw _ _) (zdV _ _).2)
def zk0 (k f fl:Nat) (s:List UInt8 × Bool) (h: ¬ (0<fl/\s.2=false)):zhx k f fl s=s:=by
 cases f with
 |zero=>rfl
 |succ f=>unfold zhx;rw[yag h]
def zmL (k:Nat) (s:List UInt8 × Bool) (hb:s.1.length<1000000000):
 R 109 [.ptr 0 0,.d (.int .u8 k)] [.box [B s.1,Bo s.2]]=some ([],[.box [B (zjb k s).1,Bo (zjb k s).2]]):=by
 have hn:R 108 [.ptr 0 0,.d (.int .i64 256)] [.box [B s.1,Bo s.2]]=_:=zef 256 (by omega) s hb
 have hle:=(zdV 256 s).2;unfold zjb;generalize zeM 256 s=x at*;obtain⟨n,q⟩:=x;simp only at hn hle ⊢;have hc:R 150 [.ptr 0 0,.d (.int .i64 1)] [.box [B q.1,Bo q.2]]=_:=zfT 1 q (by omega)
 have hle2:=zhw 1 q;obtain⟨y,hy⟩: ∃y,y=zf0 1 q:=⟨_,rfl⟩;rw[<- hy]at hc hle2 ⊢;clear hy;obtain⟨b,bad⟩:=s;simp only at hn hb hle;obtain⟨qb,qbad⟩:=q;simp only at hn hc hle hle2 ⊢;have hh:zra qb<256:=by
  cases qb with
  |nil=>exact (by decide)
  |cons c r=>exact c.toNat_lt
 obtain⟨fl,hfl⟩: ∃fl,fl=zra qb:=⟨_,rfl⟩;rw[<- hfl]at hh ⊢;rcases qb with _ | ⟨c,r⟩
 all_goals
  simp only[zra]at hfl;simp only[B,bytes,ydX,yaO,zjl]at hc hn;refine rg zJg rfl ?_;intro T hT;simp -dsimp -implicitDefEqProofs (disch:=first|omega|assumption) [hn,hc]
  generalize hz:zaj _ _ _ _ _ _=z;revert z;refine zaa (σ:=Nat × Nat × List UInt8 × Bool) (λx=>[(0,.ptr 0 0),(1,.d (.int .u8 k)),(4,.d (.int .u8 x.2.1))]) (λx=>[.box [B x.2.2.1,Bo x.2.2.2]]) (λx=>x.2.1<2 ^ x.1/\x.1<=8/\x.2.2.1.length<=y.1.length/\zhx k 8 fl y=zhx k x.1 x.2.1 x.2.2) (λx=>x.1) (8,fl,y) ?_ ?_ ?_
  ·exact⟨hh,yaf _,yaf _,rfl⟩
  ·simp -dsimp -implicitDefEqProofs (disch:=first|omega|assumption) [hfl]
  intro T' f hT' ⟨m,g,s⟩ ⟨g1,g2,g3,g4⟩ ih;simp only at g1 g2 g3 g4 ih;have g256:g<256:=ybv g1 (ybu (n:=2) (by decide) g2)
  by_cases h1:0<g
  ·cases m with
   |zero=>simp at g1;omega
   |succ m=>
    have g1':g / 2<2 ^ m:=by rw[ycr]at g1;omega
    by_cases h2:s.2=false
    ·rw[show zhx k (m+1) g s=zhx k m (g / 2) (if g % 2=1 then zkZ k s else s) from yaj ⟨h1,h2⟩]at g4
     by_cases h3:g % 2=1
     ·have hcc:=zuk k s (by simp only[yat,yad]at *;omega)
      have hcl:=zsE k s;rw[yaj h3]at g4;rw[h2]at hcc;simp -dsimp -implicitDefEqProofs (disch:=first|omega|assumption) [h1,h2,h3,hcc]
      refine ih (m,g / 2,zkZ k s) _ _ ⟨g1',by simp only;omega,by simp only;omega,g4⟩ (by simp only;omega) ?_
      simp -dsimp -implicitDefEqProofs (disch:=first|omega|assumption)
     ·rw[yag h3]at g4
      have h3': ¬ (g:Int) % 2=1:=by omega
      simp -dsimp -implicitDefEqProofs (disch:=first|omega|assumption) [h1,h2,h3,h3']
      refine ih (m,g / 2,s) _ _ ⟨g1',by simp only;omega,g3,g4⟩ (by simp only;omega) ?_
      simp -dsimp -implicitDefEqProofs (disch:=first|omega|assumption) [h2]
    ·have h2':s.2=true:=by simpa using h2
     rw[zk0 k (m+1) g s (λh=>h2 h.2)]at g4
     subst hT';rw[g4]at hT;simp -dsimp -implicitDefEqProofs (disch:=first|omega|assumption) [h1,h2']
     simpa -dsimp -implicitDefEqProofs (disch:=first|omega|assumption) [h2']using hT
  ·rw[zk0 k m g s (λh=>h1 h.1)]at g4
   subst hT';rw[g4]at hT;simp -dsimp -implicitDefEqProofs (disch:=first|omega|assumption) [h1]
   simpa -dsimp -implicitDefEqProofs (disch:=first|omega|assumption) using hT
end Go.Am.Ab
namespace Go.Am.Ab
open Go.Proofs
set_option maxHeartbeats 8000000
set_option maxRecDepth 4000
def zdW (most:Nat) (s:List UInt8 × Nat):Nat × List UInt8 × Nat:=
 if s.2≠0 then (0,s) else if (get s.1).2.2≠0 then (0,s.1,(get s.1).2.2) else if most<(get s.1).1 then (0,s.1,40) else ((get s.1).1,s.1.drop (get s.1).2.1,0)
def zc0 (most:Nat) (s:List UInt8 × Nat):(zdW most s).1<=most/\(zdW most s).2.1.length<=s.1.length:=by
 unfold zdW;split
 ·exact⟨yai _,yaf _⟩
 ·split
  ·exact⟨yai _,yaf _⟩
  ·split
   ·exact⟨yai _,yaf _⟩
   ·simp only[yaw];omega
def zcm (most:Nat) (s:List UInt8 × Nat) (hb:s.1.length<1000000000):
 R 148 [.ptr 0 0,.d (.int .u64 most)] [.box [B s.1,E s.2]]=some ([.d (.int .u64 (zdW most s).1)],[.box [B (zdW most s).2.1,E (zdW most s).2.2]]):=by
 obtain⟨b,e⟩:=s;simp only at hb;have hg:=zfB b (by omega)
 have hu:=zfF b;unfold zdW
 by_cases h0:e=0
 case neg=>
  rw[yaj h0];refine rg zE5 rfl ?_;intro T hT;simp -dsimp -implicitDefEqProofs (disch:=first|omega|assumption) [h0]
  simpa -dsimp -implicitDefEqProofs (disch:=first|omega|assumption) [B,E]using hT
 subst h0;rw[yag (by simp)]
 simp only;generalize get b=x at*;obtain⟨n,used,why⟩:=x;simp only at hg hu ⊢;obtain⟨r,hr⟩: ∃r,r=b.drop used:=⟨_,rfl⟩;have hr':List.drop used (bytes b)=bytes r:=by rw[hr];exact List.map_drop.symm
 have hu':(used:Int)<=b.length:=by omega
 rw[<- hr];clear hr
 by_cases h1:why=0
 ·rw[yag (yce h1)]
  by_cases h2:most<n
  ·rw[yaj h2]
   have h2':(most:Int)<n:=by omega
   refine rg zE5 rfl ?_;intro T hT;simp -dsimp -implicitDefEqProofs (disch:=first|omega|assumption) [hg,h1,h2']
   simpa -dsimp -implicitDefEqProofs (disch:=first|omega|assumption) [B,E]using hT
  ·rw[yag h2]
   have h2': ¬ (most:Int)<n:=by omega
   refine rg zE5 rfl ?_;intro T hT;simp -dsimp -implicitDefEqProofs (disch:=first|omega|assumption) [hg,h1,h2',hu',hr']
   simpa -dsimp -implicitDefEqProofs (disch:=first|omega|assumption) [B,E]using hT
 ·rw[yaj h1]
  refine rg zE5 rfl ?_;intro T hT;simp -dsimp -implicitDefEqProofs (disch:=first|omega|assumption) [hg,h1]
  simpa -dsimp -implicitDefEqProofs (disch:=first|omega|assumption) [B,E]using hT
def zdI (n:Nat) (s:List UInt8 × Nat):ByteArray × List UInt8 × Nat:=
 if s.2≠0 then (noS,s) else if s.1.length<n then (noS,s.1,30) else (⟨(s.1.take n).toArray⟩,s.1.drop n,0)
def zf1 (s:List UInt8 × Nat):Fld × List UInt8 × Nat:=
 let a:=zdW 4294967295 s
 let c:=zdW 16 a.2
 let e:=zdI c.1 c.2
 let k:=zdW 255 e.2
 let m:=zdW 1 k.2
 (⟨a.1,e.1,k.1,decide (m.1=1)⟩,m.2)
def zdz:Nat->List UInt8 × Nat->List Fld->List Fld × List UInt8 × Nat
 |0,s,acc=>(acc,s)
 |n+1,s,acc=>if s.2=0 then zdz n (zf1 s).2 (acc++[(zf1 s).1]) else (acc,s)
def zcR (b:List UInt8):Sch × List UInt8 × Int:=
 let a:=zdW 4294967295 (b,0)
 let c:=zdW 8 a.2
 let r:=zdz c.1 c.2 []
 let s:Sch:=⟨a.1,r.1⟩
 if r.2.2=0 then (if zib s=0 then (s,r.2.1,0) else (⟨0,[]⟩,[],zib s)) else (⟨0,[]⟩,[],r.2.2)
def zws (n:Nat) (s:List UInt8 × Nat):(zdI n s).1.size<=n/\(zdI n s).2.1.length<=s.1.length:=by
 unfold zdI;split
 ·exact⟨yai _,yaf _⟩
 ·split
  ·exact⟨yai _,yaf _⟩
  ·simp only[yaw]
   refine⟨?_,by omega⟩
   show (s.1.take n).toArray.size<=n
   simp;omega
def zsH (s:List UInt8 × Nat):(zf1 s).2.1.length<=s.1.length/\(0<=(zf1 s).1.id/\(zf1 s).1.id<=4294967295/\0<=(zf1 s).1.kind/\(zf1 s).1.kind<=255/\(zf1 s).1.name.size<=16):=by
 unfold zf1;simp only;have h1:=zc0 4294967295 s;have h2:=zc0 16 (zdW 4294967295 s).2;have h3:=zws (zdW 16 (zdW 4294967295 s).2).1 (zdW 16 (zdW 4294967295 s).2).2;have h4:=zc0 255 (zdI (zdW 16 (zdW 4294967295 s).2).1 (zdW 16 (zdW 4294967295 s).2).2).2;have h5:=zc0 1 (zdW 255 (zdI (zdW 16 (zdW 4294967295 s).2).1 (zdW 16 (zdW 4294967295 s).2).2).2).2;omega
def zuA (acc:List Fld):V:=match acc with | []=> .nilS | _=> .arr 3 acc.length
def zuB (acc:List Fld):List Obj:=match acc with | []=>[] | _=>[.arr 4 (acc.map Fld.d) 0]
def unV (x:Sch × List UInt8 × Int):List V:=
 match x.1.fields with
 |[]=>[.agg [.d (.int .u32 x.1.id),.nilS],.arr 0 x.2.1.length,.d (.int .i64 x.2.2)]
 |_::fs=>[.agg [.d (.int .u32 x.1.id),.arr 0 (fs.length+1)],.arr 1 x.2.1.length,.d (.int .i64 x.2.2)]
def unH (x:Sch × List UInt8 × Int):List Obj:=
 match x.1.fields with
 |[]=>[.arr 1 (bytes x.2.1) 0]
 |f::fs=>[.arr 4 (f.d::fs.map Fld.d) (fs.length+1),.arr 1 (bytes x.2.1) 0]
def zrb (b:List UInt8) (hb:b.length<1000000):R 107 [B b] []=some (unV (zcR b),unH (zcR b)):=by
 unfold zcR;have h1:R 148 [.ptr 0 0,.d (.int .u64 4294967295)] [.box [B b,Z]]=_:=zcm 4294967295 (b,0) (by simp only;omega)
 have l1:=zc0 4294967295 (b,0);simp only;generalize zdW 4294967295 (b,0)=a at*;obtain⟨id,a⟩:=a;simp only at h1 l1 ⊢;have h2:R 148 [.ptr 0 0,.d (.int .u64 8)] [.box [B a.1,E a.2]]=_:=zcm 8 a (by omega)
 have l2:=zc0 8 a;generalize zdW 8 a=c at*;obtain⟨n,c⟩:=c;simp only at h2 l2 ⊢;have w1:IntKind.u32.wrap (id:Int)=id:=zrK (by omega) (by omega)
 refine rg zJf rfl ?_;intro T hT;simp -dsimp -implicitDefEqProofs (disch:=first|omega|assumption) [h1,h2,w1]
 generalize hz:zaj _ _ _ _ _ _=z;revert z;refine zaa (σ:=Nat × List Fld × List UInt8 × Nat) (λx=>[(2,.ptr 0 0),(5,.ptr 1 0),(6,.ptr 2 0),(7,.d (.int .u64 x.1))]) (λx=>[.box [.d (.int .u32 0),.nilS],.box [B x.2.2.1,E x.2.2.2],.box [.d (.int .u32 id),zuA x.2.1]]++zuB x.2.1) (λx=>x.1<=8/\x.2.2.1.length<=b.length/\zdz n c []=zdz x.1 x.2.2 x.2.1/\x.2.1.length+x.1<=8/\ ∀f∈x.2.1,0<=f.id/\f.id<=4294967295/\0<=f.kind/\f.kind<=255/\f.name.size<=16) (λx=>x.1) (n,[],c) ?_ ?_ ?_
 ·exact⟨l2.1,by simp only;omega,rfl,by simp only[yat];omega,λf h=>by simp at h⟩
 ·simp -dsimp -implicitDefEqProofs (disch:=first|omega|assumption) [zuA,zuB]
 intro T' f hT' ⟨m,acc,q,e⟩ ⟨g1,g2,g3,g4,g5⟩ ih;simp only at g1 g2 g3 g4 g5 ih
 by_cases c1:0<m
 ·by_cases c2:e=0
  ·subst c2
   obtain⟨m,rfl⟩: ∃k,m=k+1:=⟨m - 1,by omega⟩
   rw[show zdz (m+1) (q,0) acc=zdz m (zf1 (q,0)).2 (acc++[(zf1 (q,0)).1]) from rfl]at g3
   have f1:R 148 [.ptr 0 0,.d (.int .u64 4294967295)] [.box [B q,Z]]=_:=zcm 4294967295 (q,0) (by simp only;omega)
   have hfl:=zsH (q,0);have k1:=zc0 4294967295 (q,0);unfold zf1 at g3 hfl;simp only at g3 hfl k1;generalize zdW 4294967295 (q,0)=y1 at*;obtain⟨fid,q1,e1⟩:=y1;simp only at f1 g3 hfl k1;have f2:R 148 [.ptr 0 0,.d (.int .u64 16)] [.box [B q1,E e1]]=_:=zcm 16 (q1,e1) (by simp only;omega)
   have k2:=zc0 16 (q1,e1);generalize zdW 16 (q1,e1)=y2 at*;obtain⟨sz,q2,e2⟩:=y2;simp only at f2 g3 hfl k2;have wl:IntKind.u64.wrap (q2.length:Int)=q2.length:=zak (by omega) (by omega)
   have wf:IntKind.u32.wrap (fid:Int)=fid:=zrK (by omega) (by omega)
   have wm:IntKind.u64.wrap (m:Int)=m:=zak (by omega) (by omega)
   by_cases c3:e2=0
   ·subst c3
    by_cases c4:q2.length<sz
    ·rw[show zdI sz (q2,0)=(noS,q2,30) from by unfold zdI;simp[c4]]at g3 hfl
     have c4':(q2.length:Int)<sz:=by omega
     have f3:R 148 [.ptr 0 0,.d (.int .u64 255)] [.box [B q2,.d (.int .i64 30)]]=_:=zcm 255 (q2,30) (by simp only;omega)
     simp only at g3 hfl;have k3:=zc0 255 (q2,30);generalize zdW 255 (q2,30)=y3 at*;obtain⟨kk,q3,e3⟩:=y3;simp only at f3 g3 hfl k3;have f4:R 148 [.ptr 0 0,.d (.int .u64 1)] [.box [B q3,E e3]]=_:=zcm 1 (q3,e3) (by simp only;omega)
     generalize zdW 1 (q3,e3)=y4 at*;obtain⟨nd,q4,e4⟩:=y4;simp only at f4 g3 hfl;have wk:IntKind.u8.wrap (kk:Int)=kk:=zne (by omega) (by omega)
     have wd:((nd:Int)=1)=(nd=1):=by simp only[eq_iff_iff];omega
     rcases acc with _ | ⟨f0,acc⟩
     all_goals
      simp only[yat,yad]at g4;simp -dsimp -implicitDefEqProofs (disch:=first|omega|assumption) [c1,f1,f2,f3,f4,wf,wk,wl,wm,wd,zuA,zuB,c4']
      refine ih (m,_,q4,e4) _ _ ⟨by simp only;omega,by simp only;omega,g3,by simp only[yab,yad,yat]at *;omega,λx hx=> ?_⟩ (by simp only;omega) ?_
      ·rcases List.mem_append.1 hx with h | h
       ·exact g5 x h
       ·obtain rfl:=List.mem_singleton.1 h;exact hfl.2
      ·simp -dsimp -implicitDefEqProofs (disch:=first|omega|assumption) [zuA,zuB]
    ·obtain⟨w,hw⟩: ∃w,w=q2.take sz:=⟨_,rfl⟩
     obtain⟨v,hv⟩: ∃v,v=q2.drop sz:=⟨_,rfl⟩;rw[show zdI sz (q2,0)=(⟨w.toArray⟩,v,0) from by unfold zdI;simp[c4,hw,hv]]at g3 hfl
     have c4': ¬ (q2.length:Int)<sz:=by omega
     have c5:(sz:Int)<=q2.length:=by omega
     have hw':List.take sz (bytes q2)=bytes w:=by rw[hw];exact List.map_take.symm
     have hv':List.drop sz (bytes q2)=bytes v:=by rw[hv];exact List.map_drop.symm
     have hvl:v.length<=q2.length:=by rw[hv,yaw];omega
     have hM:=zbn w;clear hw hv;have f3:R 148 [.ptr 0 0,.d (.int .u64 255)] [.box [B v,Z]]=_:=zcm 255 (v,0) (by simp only;omega)
     simp only at g3 hfl;have k3:=zc0 255 (v,0);generalize zdW 255 (v,0)=y3 at*;obtain⟨kk,q3,e3⟩:=y3;simp only at f3 g3 hfl k3;have f4:R 148 [.ptr 0 0,.d (.int .u64 1)] [.box [B q3,E e3]]=_:=zcm 1 (q3,e3) (by simp only;omega)
     generalize zdW 1 (q3,e3)=y4 at*;obtain⟨nd,q4,e4⟩:=y4;simp only at f4 g3 hfl;have wk:IntKind.u8.wrap (kk:Int)=kk:=zne (by omega) (by omega)
     have wd:((nd:Int)=1)=(nd=1):=by simp only[eq_iff_iff];omega
     rcases acc with _ | ⟨f0,acc⟩
     all_goals
      simp only[yat,yad]at g4;simp -dsimp -implicitDefEqProofs (disch:=first|omega|assumption) [c1,f1,f2,f3,f4,wf,wk,wl,wm,wd,zuA,zuB,c4',c5,hw',hv',hM]
      refine ih (m,_,q4,e4) _ _ ⟨by simp only;omega,by simp only;omega,g3,by simp only[yab,yad,yat]at *;omega,λx hx=> ?_⟩ (by simp only;omega) ?_
      ·rcases List.mem_append.1 hx with h | h
       ·exact g5 x h
       ·obtain rfl:=List.mem_singleton.1 h;exact hfl.2
      ·simp -dsimp -implicitDefEqProofs (disch:=first|omega|assumption) [zuA,zuB]
   ·rw[show zdI sz (q2,e2)=(noS,q2,e2) from by unfold zdI;simp[c3]]at g3 hfl
    have c3': ¬ (e2:Int)=0:=by omega
    have f3:R 148 [.ptr 0 0,.d (.int .u64 255)] [.box [B q2,E e2]]=_:=zcm 255 (q2,e2) (by simp only;omega)
    simp only at g3 hfl;have k3:=zc0 255 (q2,e2);generalize zdW 255 (q2,e2)=y3 at*;obtain⟨kk,q3,e3⟩:=y3;simp only at f3 g3 hfl k3;have f4:R 148 [.ptr 0 0,.d (.int .u64 1)] [.box [B q3,E e3]]=_:=zcm 1 (q3,e3) (by simp only;omega)
    generalize zdW 1 (q3,e3)=y4 at*;obtain⟨nd,q4,e4⟩:=y4;simp only at f4 g3 hfl;have wk:IntKind.u8.wrap (kk:Int)=kk:=zne (by omega) (by omega)
    have wd:((nd:Int)=1)=(nd=1):=by simp only[eq_iff_iff];omega
    rcases acc with _ | ⟨f0,acc⟩
    all_goals
     simp only[yat,yad]at g4;simp -dsimp -implicitDefEqProofs (disch:=first|omega|assumption) [c1,f1,f2,f3,f4,wf,wk,wl,wm,wd,zuA,zuB,c3,c3']
     refine ih (m,_,q4,e4) _ _ ⟨by simp only;omega,by simp only;omega,g3,by simp only[yab,yad,yat]at *;omega,λx hx=> ?_⟩ (by simp only;omega) ?_
     ·rcases List.mem_append.1 hx with h | h
      ·exact g5 x h
      ·obtain rfl:=List.mem_singleton.1 h;exact hfl.2
     ·simp -dsimp -implicitDefEqProofs (disch:=first|omega|assumption) [zuA,zuB]
  ·have g6:zdz n c []=(acc,q,e):=by
    rw[g3];cases m with
    |zero=>rfl
    |succ m=>exact yag c2
   rw[g6]at hT;subst hT';simp only[c2,yaY]at hT;rcases acc with _ | ⟨f0,acc⟩
   all_goals
    simp -dsimp -implicitDefEqProofs (disch:=first|omega|assumption) [c1,c2,zuA,zuB]
    simpa -dsimp -implicitDefEqProofs (disch:=first|omega|assumption) [unV,unH]using hT
 ·obtain rfl:m=0:=by omega
  have g6:zdz n c []=(acc,q,e):=g3;rw[g6]at hT;subst hT';simp only at hT
  by_cases c2:e=0
  ·subst c2
   rw[yaj rfl]at hT;have hck:=zkx ⟨id,acc⟩ (by simp only;omega) (λf hf=>by have:=g5 f hf;omega) (by simp only;omega)
   simp only[Sch.d]at hck;have hcl:=zgG q (by omega)
   by_cases c3:zib ⟨id,acc⟩=0
   ·rw[yaj c3]at hT
    rw[c3]at hck;rcases acc with _ | ⟨f0,acc⟩
    all_goals
     simp only[ydX,yaO,Fld.d]at hck;simp -dsimp -implicitDefEqProofs (disch:=first|omega|assumption) [zuA,zuB,hck,hcl]
     simpa -dsimp -implicitDefEqProofs (disch:=first|omega|assumption) [unV,unH]using hT
   ·rw[yag c3]at hT
    generalize zib ⟨id,acc⟩=ce at*;rcases acc with _ | ⟨f0,acc⟩
    all_goals
     simp only[ydX,yaO,Fld.d]at hck;simp -dsimp -implicitDefEqProofs (disch:=first|omega|assumption) [zuA,zuB,hck,hcl,c3]
     simpa -dsimp -implicitDefEqProofs (disch:=first|omega|assumption) [unV,unH]using hT
  ·rw[yag c2]at hT
   rcases acc with _ | ⟨f0,acc⟩
   all_goals
    simp -dsimp -implicitDefEqProofs (disch:=first|omega|assumption) [c2,zuA,zuB]
    simpa -dsimp -implicitDefEqProofs (disch:=first|omega|assumption) [unV,unH]using hT
end Go.Am.Ab
namespace Go.Am.Ab
open Go.Proofs
set_option maxHeartbeats 8000000
set_option maxRecDepth 4000
def zgI {k n:Nat} {b:List UInt8} (h:(zb8 k b n).2=0):zgh k (zb8 k b n).1/\(zb8 k b n).1.length=n/\n<=256/\1<=k/\k<=3:=by
 unfold zb8 at h ⊢
 by_cases hk:1<=k/\k<=3
 ·rw[yag (λc=>c hk)]at h ⊢
  by_cases h1:(n:Int)<0\/256<(n:Int)
  ·rw[yaj h1]at h;simp at h
  rw[yag h1,yaB]at h ⊢
  by_cases h2:(zfk k n b).2≠0
  ·rw[yaj h2]at h;exact absurd h h2
  rw[yag h2]at h ⊢;have hg:=zmI hk (n:=n) (b:=b) (by omega)
  by_cases h3:zdh k (zfk k n b).1=b
  ·rw[yaj h3]
   exact⟨hg.1,hg.2,by omega,hk⟩
  ·rw[yag h3]at h;simp at h
 ·rw[yaj hk]at h;simp at h
def zwt (a c k m:Nat) (hm:m=2 ^ k) (ha:a<m) (hc:a+c*m<9223372036854775808):zbs .or .i64 (a:Int) ((c:Int)*m)=some (.int .i64 ((a:Int)+c*m)):=by
 have e:(c:Int)*m=((c*m:Nat):Int):=by rw[ybz]
 have h1:a<2 ^ 64:=by omega
 have h2:c*m<2 ^ 64:=by omega
 have h3:a ||| c*m=a+c*m:=zgv (i:=k) (by rw[hm];exact ydm _ _) (by rw[<- hm];exact ha)
 rw[e]
 show some (D.int .i64 (IntKind.i64.wrap (BitVec.ofInt 64 (a:Int) ||| BitVec.ofInt 64 ((c*m:Nat):Int)).toNat))=_
 rw[ydu,zaT,zaT,yaJ h1,yaJ h2,h3,wI (by omega) (by omega),Int.natCast_add]
def zmM {b:List UInt8} (h:(zcR b).2.2=0):zib (zcR b).1=0/\SchOk (zcR b).1/\(zcR b).2.1.length<=b.length:=by
 have hfs: ∀ (n:Nat) (s:List UInt8 × Nat) (acc:List Fld),(∀f∈acc,0<=f.id/\f.id<4294967296/\0<=f.kind/\f.kind<256/\f.name.size<5000)->(zdz n s acc).2.1.length<=s.1.length/\ ∀f∈(zdz n s acc).1,0<=f.id/\f.id<4294967296/\0<=f.kind/\f.kind<256/\f.name.size<5000:=by
  intro n
  induction n with
  |zero=>exact λs acc h=>⟨yaf _,h⟩
  |succ n ih=>
   intro s acc h;unfold zdz;split
   ·have hl:=zsH s
    obtain⟨h1,h2⟩:=ih (zf1 s).2 (acc++[(zf1 s).1]) λf hf=>by
     rcases List.mem_append.1 hf with hf | hf
     ·exact h f hf
     ·obtain rfl:=List.mem_singleton.1 hf;omega
    exact⟨by omega,h2⟩
   ·exact⟨yaf _,h⟩
 have h1:=zc0 4294967295 (b,0);have h2:=zc0 8 (zdW 4294967295 (b,0)).2;unfold zcR at h ⊢;simp only at h h1 ⊢;generalize zdW 4294967295 (b,0)=a at*;generalize zdW 8 a.2=c at*;obtain⟨h3,h4⟩:=hfs c.1 c.2 [] λf hf=>by simp at hf
 generalize zdz c.1 c.2 []=r at*
 by_cases e:r.2.2=0
 ·rw[yaj e]at h ⊢
  by_cases e2:zib ⟨a.1,r.1⟩=0
  ·rw[yaj e2]
   have:=(zdU e2).len;exact⟨e2,⟨by simp only;omega,by simp only at this ⊢;omega,h4⟩,by simp only;omega⟩
  ·rw[yag e2]at h;exact absurd h e2
 ·rw[yag e]at h;simp only at h;omega
def zAr (b:List UInt8):Nat:=(b.getD 0 0).toNat+(b.getD 1 0).toNat*256+(b.getD 2 0).toNat*65536+(b.getD 3 0).toNat*16777216
def zrc (T:List (List Val)) (l:List Val):List (List Val):=List.zipWith (λr v=>r++[v]) T l
def zgJ (many:Nat):List Nat->List UInt8 × Bool->List UInt8->List (List Val)->Option ((List UInt8 × Bool) × List UInt8 × List (List Val))
 |[],r,e,T=>some (r,e,T)
 |k::ks,r,e,T=>
  if (zjb k (zeM 65536 r).2).2=true\/e.length<(zeM 65536 r).1 then none
  else if (zb8 k (e.take (zeM 65536 r).1) many).2≠0 then none
  else zgJ many ks (zjb k (zeM 65536 r).2) (e.drop (zeM 65536 r).1) (zrc T (zb8 k (e.take (zeM 65536 r).1) many).1)
def zfU (many k:Nat) (ks:List Nat) (r:List UInt8 × Bool) (e:List UInt8) (T:List (List Val)):zgJ many (k::ks) r e T=
 if (zjb k (zeM 65536 r).2).2=true\/e.length<(zeM 65536 r).1 then none
 else if (zb8 k (e.take (zeM 65536 r).1) many).2≠0 then none
 else zgJ many ks (zjb k (zeM 65536 r).2) (e.drop (zeM 65536 r).1) (zrc T (zb8 k (e.take (zeM 65536 r).1) many).1):=rfl
def zjc (ks:List Nat) (g:Nat):Nat->Nat->List UInt8 × Bool->List UInt8->List (List Val)->Option (List (List Val))
 |0,_,_,_,_=>none
 |f+1,n,r,e,acc=>if n=0 then some acc else match zgJ (min n g) ks r e (List.replicate (min n g) []) with
  |none=>none
  |some (r',e',T)=>zjc ks g f (n - min n g) r' e' (acc++T)
def zls (b:List UInt8):Option (Sch × List (List Val) × Nat):=
 if b.length<4 then none else
 if (b.take (b.length - 4)).length<zAr (b.drop (b.length - 4)) then none else
 let u:=b.take (b.length - 4)
 let m:=u.length - zAr (b.drop (b.length - 4))
 let un:=zcR (u.drop m)
 if un.2.2≠0 then none else
 let n:=zeM 256 (un.2.1,false)
 let g:=zeM 64 n.2
 if g.2.2=true\/g.1<1 then none else
 match zjc (un.1.fields.map (·.kind.toNat)) g.1 257 n.1 g.2 (u.take m) [] with
 |none=>none
 |some X=>some (un.1,X,g.1)
def zjA {Z Z' P0:List (List Val)} {l:List Val} {a:Nat} {row:List Val} {v:Val} (hZ: ∀j:Nat,Z[j]? =if j<a then (zrc P0 l)[j]? else P0[j]?) (hr:Z[a]? =some row) (hv:l[a]? =some v)
 (hZ': ∀j:Nat,Z'[j]? =if j=a then some (row++[v]) else Z[j]?): ∀j:Nat,Z'[j]? =if j<a+1 then (zrc P0 l)[j]? else P0[j]? :=by
 intro j;rw[hZ' j]
 by_cases e:j=a
 ·subst e
  have h:=hZ j;rw[yag (ybG j),hr]at h;rw[yaj rfl,yaj (Nat.lt_succ_self j)];unfold zrc;rw[List.getElem?_zipWith,<- h,hv]
 ·rw[yag e,hZ j]
  by_cases e2:j<a
  ·rw[yaj e2,yaj (by omega)]
  ·rw[yag e2,yag (by omega)]
def zgK (T:List (List Val)) (l:List Val):(zrc T l).length=min T.length l.length:=List.length_zipWith
def RA (X:List (List Val)):Option (List D × Nat):=match X with | []=>none | _=>some (zaU X,0)
def rd3 (a0 a1 b0 b1 gg:D) (R:Option (List D × Nat)):List Obj:=
 .box [.d a0,.d a1]:: .box [.d b0,.d b1]:: .box [.d a0,.d a1,(match R with | none=> .nilS | some (xs,_)=> .arr 3 xs.length),.d gg,.nilS]::(match R with | none=>[] | some (xs,wm)=>[.arr 1 xs wm])
def rdV:Option (Sch × List (List Val) × Nat)->List V
 |none=>[.d .nilP,.d (.bool false)]
 |some _=>[.ptr 0 0,.d (.bool true)]
def rdH:Option (Sch × List (List Val) × Nat)->List Obj
 |none=>[]
 |some (s,X,g)=> .box [.d (.int .u32 s.id),.d (.list (s.fields.map Fld.d)),(match X with | []=> .nilS | _::r=> .arr 1 (r.length+1)),.d (.int .i64 g),.nilS]::(match X with | []=>[] | _=>[.arr 1 (zaU X) 0])
end Go.Am.Ab
namespace Go.Am.Ab
open Go.Proofs
set_option maxHeartbeats 4000000
set_option maxRecDepth 4000
def zis {α β:Type} {f:α->Option β}: ∀ {l:List α} {r:List β},l.length=r.length->(∀ (j:Nat) (a:α) (b:β),l[j]? =some a->r[j]? =some b->f a=some b)->l.mapM f=some r
 |[],[],_,_=>rfl
 |[],_::_,h,_=>by simp at h
 |_::_,[],h,_=>by simp at h
 |a::l,b::r,h,hf=>by
  rw[ya2,hf 0 a b rfl rfl,zis (l:=l) (r:=r) (by simpa using h) λj x y hx hy=>hf (j+1) x y (by simpa using hx) (by simpa using hy)]
  rfl
def zfV (h:List Obj): ∀ (fuel pos:Nat) (acc:List Nat),(∀ (j id:Nat),pos<=j->acc[j]? =some id->zcH h id=[])->zgk h fuel pos acc=acc
 |0,_,_,_=>rfl
 |fuel+1,pos,acc,hf=>by
  unfold zgk;cases e:acc[pos]? with
  |none=>rfl
  |some i=>
   simp only;rw[hf pos i (yaf _) e];exact zfV h fuel (pos+1) acc λj id hj h=>hf j id (by omega) h
def zcA {h:List Obj} {fuel pos i:Nat} {acc:List Nat} (e:acc[pos]? =some i):zgk h (fuel+1) pos acc=zgk h fuel (pos+1) (zan acc (zcH h i)):=by
 show (match acc[pos]? with | none=>acc | some i=>zgk h fuel (pos+1) (zan acc (zcH h i)))=_
 rw[e]
def zfW: ∀ (l acc:List Nat),l.Nodup->(∀i∈l,i∉acc)->zan acc l=acc++l
 |[],acc,_,_=>by simp[zan]
 |i::r,acc,hn,hd=>by
  unfold zan;have h1:acc.contains i=false:=by simpa using hd i (by simp)
  rw[h1];simp only[yau,yaY];rw[zfW r (acc++[i]) (List.nodup_cons.1 hn).2 λj hj=> ?_]
  ·simp
  ·simp only[ycZ,List.mem_singleton,not_or]
   exact⟨hd j (by simp[hj]),λe=>(List.nodup_cons.1 hn).1 (e ▸ hj)⟩
def zhF (r:List Val):Obj:= .arr 1 (vs r) 0
def tcs:Nat->List (List Val)->List V
 |_,[]=>[]
 |n,r::T=> .arr n r.length::tcs (n+1) T
def zk1: ∀ (n:Nat) (T:List (List Val)) (j:Nat),(tcs n T)[j]? =(T[j]?).map λr=> .arr (n+j) r.length
 |_,[],_=>by simp[tcs]
 |n,r::T,0=>rfl
 |n,r::T,j+1=>by
  show (tcs (n+1) T)[j]? =_
  rw[zk1 (n+1) T j,show n+1+j=n+(j+1) by omega]
  rfl
def zcd: ∀ (n:Nat) (T:List (List Val)),(tcs n T).length=T.length
 |_,[]=>rfl
 |n,_::T=>by simp[tcs,zcd (n+1) T]
def zcs (a0 a1 b0 b1 gg:D) (R:Option (List D × Nat)) (cs:List V):List Obj:=
 .box [.d a0,.d a1]:: .box [.d b0,.d b1]:: .box [.d a0,.d a1,(match R with | none=> .nilS | some (xs,_)=> .arr 4 xs.length),.d gg,.nilS]:: .box cs::(match R with | none=>[] | some (xs,wm)=>[.arr 1 xs wm])
def zaZ (R:Option (List D × Nat)):Nat:=match R with | none=>4 | some _=>5
def ren_arr (f:Nat->Option Nat) (sz:Nat) (xs:List D) (wm:Nat):Obj.ren f (.arr sz xs wm)=some (.arr sz xs wm):=rfl
def zsI {a0 a1 b0 b1 gg:D} {R:Option (List D × Nat)} {k:Nat} (P:List (Nat × List Val)) {keep:List (Nat × Nat)} {s s1:Slots} {h zaF:List Obj}
 (hh:h=zcs a0 a1 b0 b1 gg R ((P.map λp=> .arr p.1 p.2.length)++List.replicate k .nilS)++zaF)
 (hn:(P.map (·.1)).Nodup) (hp: ∀p∈P,zaZ R<=p.1/\h[p.1]? =some (zhF p.2))
 (hk:zaf s h keep=(s1,h)) (h0:zan [] (s1.flatMap λq=>q.2.ids)=[0,1,2,3])
 (hs: ∀f:Nat->Option Nat,f 0=some 0->f 1=some 1->f 2=some 2->f 3=some 3->zaP f s1=some s1):
 zf4 0 keep s h=some (s1,zcs a0 a1 b0 b1 gg R (tcs (zaZ R) (P.map (·.2))++List.replicate k .nilS)++(P.map (·.2)).map zhF):=by
 obtain⟨ids,hids⟩: ∃ids,ids=List.range (zaZ R)++P.map (·.1):=⟨_,rfl⟩
 have hb:(((P.map λ(p:Nat × List Val)=>V.arr p.1 p.2.length)++List.replicate k V.nilS).flatMap V.ids1)=P.map (·.1):=by
  rw[ydy];have e1:(List.replicate k V.nilS).flatMap V.ids1=[]:=by
   rw[List.flatMap_eq_nil_iff];intro x hx;rw[(List.mem_replicate.1 hx).2];rfl
  rw[e1,yaq];clear hids hp hn hh hk
  induction P with
  |nil=>rfl
  |cons p P ih=>rw[yaO,ya3,ih];rfl
 have hnd:ids.Nodup:=by
  rw[hids,ydN];refine⟨ydl,hn,λa ha b hb e=> ?_⟩
  obtain⟨p,hp1,rfl⟩:=List.mem_map.1 hb;have:=(hp p hp1).1;rw[yd2]at ha;omega
 have hlen:5<=h.length+1:=by rw[hh];simp[zcs]
 obtain⟨fu,hfu⟩: ∃fu,h.length+1=fu+4:=⟨h.length - 3,by omega⟩
 have g0:h[0]? =some (.box [.d a0,.d a1]):=by rw[hh];rfl
 have g1:h[1]? =some (.box [.d b0,.d b1]):=by rw[hh];rfl
 have g3:h[3]? =some (.box ((P.map λp=> .arr p.1 p.2.length)++List.replicate k .nilS)):=by rw[hh];rfl
 have hflat: ∀ (j id:Nat),4<=j->ids[j]? =some id->zcH h id=[]:=by
  intro j id hj e;rw[hids]at e;rcases ybr j (zaZ R) with hlt | hge
  ·rw[yap (by simpa using hlt),ybl hlt]at e
   obtain rfl:=ya8 e;cases R with
   |none=>exact absurd hlt (by simp only[zaZ];omega)
   |some q=>
    have:j=4:=by simp[zaZ]at hlt;omega
    subst this;have:h[4]? =some (.arr 1 q.1 q.2):=by rw[hh];rfl
    simp only[zcH,this,Obj.ids]
  ·rw[yak (by simpa using hge)]at e
   obtain⟨p,hp1,rfl⟩:=List.mem_map.1 (yaE e);simp only[zcH,(hp p hp1).2,zhF,Obj.ids]
 have hreach:zbw h [0,1,2,3]=ids:=by
  unfold zbw;rw[hfu,zcA (i:=0) rfl,zcA (i:=1) (by rw[zcH,g0];rfl)]
  have i0:zcH h 0=[]:=by rw[zcH,g0];rfl
  have i1:zcH h 1=[]:=by rw[zcH,g1];rfl
  have i3:zcH h 3=P.map (·.1):=by rw[zcH,g3];exact hb
  rw[i0,i1];simp only[zan];rw[zcA (i:=2) rfl];cases R with
  |none=>
   have i2:zcH h 2=[]:=by rw[zcH,hh];rfl
   rw[i2];simp only[zan];rw[zcA (i:=3) rfl,i3,zfW _ _ hn λi hi=> ?_]
   ·have:[0,1,2,3]++P.map (·.1)=ids:=by rw[hids];rfl
    rw[this];exact zfV h _ _ _ hflat
   ·obtain⟨p,hp1,rfl⟩:=List.mem_map.1 hi
    have:=(hp p hp1).1;simp only[zaZ]at this;simp;omega
  |some q=>
   have i2:zcH h 2=[4]:=by rw[zcH,hh];rfl
   rw[i2,show zan [0,1,2,3] [4]=[0,1,2,3,4] from rfl,zcA (i:=3) rfl,i3,zfW _ _ hn λi hi=> ?_]
   ·have:[0,1,2,3,4]++P.map (·.1)=ids:=by rw[hids];rfl
    rw[this];exact zfV h _ _ _ hflat
   ·obtain⟨p,hp1,rfl⟩:=List.mem_map.1 hi
    have:=(hp p hp1).1;simp only[zaZ]at this;simp;omega
 have hpl: ∀j,j<zaZ R->zay ids j=some j:=λj hj=>zes hnd (by rw[hids,yap (by simpa using hj),ybl hj])
 have hr4:4<=zaZ R:=by cases R <;> simp[zaZ]
 have hpr: ∀ (j:Nat) (p:Nat × List Val),P[j]? =some p->zay ids p.1=some (zaZ R+j):=λj p hj=>zes hnd (by
  rw[hids,yak (by simp),ycg,yaR,yaA,hj];rfl)
 have hcs:((P.map λ(p:Nat × List Val)=>V.arr p.1 p.2.length)++List.replicate k V.nilS).mapM (V.ren1 (zay ids))=some (tcs (zaZ R) (P.map (·.2))++List.replicate k .nilS):=by
  refine zis (by simp[zcd]) λj a b ha hb=> ?_
  rcases ybr j P.length with hlt | hge
  ·rw[yap (by simpa using hlt),yaA]at ha
   rw[yap (by simpa[zcd]using hlt),zk1,yaA]at hb
   obtain⟨p,hp1,rfl⟩:=Option.map_eq_some_iff.1 ha;rw[hp1]at hb;simp only[yaP,yaa]at hb;subst hb;simp only[V.ren1,V.ren0,hpr j p hp1,yaP]
  ·rw[yak (by simpa using hge)]at ha
   rw[yak (by simpa[zcd]using hge)]at hb
   rw[(List.mem_replicate.1 (yaE ha)).2,(List.mem_replicate.1 (yaE hb)).2];rfl
 have hrows:(P.map (·.1)).mapM (λi=>(h[i]?).bind (Obj.ren (zay ids)))=some ((P.map (·.2)).map zhF):=by
  refine zis (by simp) λj a b ha hb=> ?_
  rw[yaA]at ha;rw[yaA,yaA]at hb;obtain⟨p,hp1,rfl⟩:=Option.map_eq_some_iff.1 ha;rw[hp1]at hb;simp only[yaP,yaa]at hb;subst hb;rw[(hp p (yaE hp1)).2];rfl
 have hbox: ∀ (l:List D) (f:Nat->Option Nat),Obj.ren f (.box (l.map .d))=some (.box (l.map .d)):=λl f=>by
  show (Option.map Obj.box ((l.map V.d).mapM (V.ren1 f)))=_
  rw[zis (r:=l.map V.d) rfl λj a b ha hb=>by
   rw[ha]at hb;obtain rfl:=ya8 hb;rw[yaA]at ha;obtain⟨x,_,rfl⟩:=Option.map_eq_some_iff.1 ha;rfl]
  rfl
 have q0:Obj.ren (zay ids) (.box [.d a0,.d a1])=some (.box [.d a0,.d a1]):=hbox [a0,a1] _;have q1:Obj.ren (zay ids) (.box [.d b0,.d b1])=some (.box [.d b0,.d b1]):=hbox [b0,b1] _;have q3:Obj.ren (zay ids) (.box ((P.map λp=> .arr p.1 p.2.length)++List.replicate k .nilS))=some (.box (tcs (zaZ R) (P.map (·.2))++List.replicate k .nilS)):=by
  show Option.map Obj.box (List.mapM _ _)=_
  rw[hcs];rfl
 have htake:zaO h (zay ids) ids=some (zcs a0 a1 b0 b1 gg R (tcs (zaZ R) (P.map (·.2))++List.replicate k .nilS)++(P.map (·.2)).map zhF):=by
  unfold zaO;cases R with
  |none=>
   have g2:h[2]? =some (.box [.d a0,.d a1,.nilS,.d gg,.nilS]):=by rw[hh];rfl
   have e:ids=0::1::2::3::P.map (·.1):=by rw[hids];rfl
   rw[e]at hrows q0 q1 q3 ⊢;simp only[ya2,g0,g1,g2,g3,ydj,q0,q1,q3,hrows];rfl
  |some q=>
   have g2:h[2]? =some (.box [.d a0,.d a1,.arr 4 q.1.length,.d gg,.nilS]):=by rw[hh];rfl
   have g4:h[4]? =some (.arr 1 q.1 q.2):=by rw[hh];rfl
   have e:ids=0::1::2::3::4::P.map (·.1):=by rw[hids];rfl
   have q2:Obj.ren (zay ids) (.box [.d a0,.d a1,.arr 4 q.1.length,.d gg,.nilS])=some (.box [.d a0,.d a1,.arr 4 q.1.length,.d gg,.nilS]):=by
    have:=hpl 4 (Nat.lt_succ_self 4)
    show Option.map Obj.box (List.mapM _ _)=_
    simp only[ya2,List.mapM_nil,V.ren1,V.ren0,this,yaP];rfl
   rw[e]at hrows q0 q1 q2 q3 ⊢;simp only[ya2,g0,g1,g2,g3,g4,ydj,q0,q1,q2,q3,hrows,ren_arr];rfl
 unfold zf4;rw[hk];simp only;rw[show List.range 0=[] from rfl,h0,hreach,hs (zay ids) (hpl 0 (by omega)) (hpl 1 (by omega)) (hpl 2 (by omega)) (hpl 3 (by omega)),htake]
def zrd: ∀ (n:Nat) (T:List (List Val)) (i:Nat) (r:List Val),tcs n (T.set i r)=(tcs n T).set i (.arr (n+i) r.length)
 |_,[],_,_=>rfl
 |n,_::T,0,r=>rfl
 |n,x::T,i+1,r=>by
  show _::tcs (n+1) (T.set i r)=_::(tcs (n+1) T).set i _
  rw[zrd (n+1) T i r,show n+1+i=n+(i+1) by omega]
def pz:Nat->List (List Val)->List (Nat × List Val)
 |_,[]=>[]
 |n,r::T=>(n,r)::pz (n+1) T
def zwu: ∀ (n:Nat) (T:List (List Val)),((pz n T).map λp=>V.arr p.1 p.2.length)=tcs n T
 |_,[]=>rfl
 |n,r::T=>by show _::_=_::_;rw[zwu (n+1) T]
def zwv: ∀ (n:Nat) (T:List (List Val)),(pz n T).map (·.2)=T
 |_,[]=>rfl
 |n,r::T=>by show _::_=_;rw[zwv (n+1) T]
def zww: ∀ (n:Nat) (T:List (List Val)),(pz n T).map (·.1)=List.range' n T.length
 |_,[]=>rfl
 |n,r::T=>by show _::_=_;rw[zww (n+1) T];rfl
def zwx: ∀ {n:Nat} {T:List (List Val)} {p:Nat × List Val},p∈pz n T-> ∃j,p.1=n+j/\T[j]? =some p.2
 |_,[],_,h=>by simp[pz]at h
 |n,r::T,p,h=>by
  rcases List.mem_cons.1 h with rfl | h
  ·exact⟨0,rfl,rfl⟩
  ·obtain⟨j,h1,h2⟩:=zwx h
   exact⟨j+1,by omega,h2⟩
def zcB (a0 a1 b0 b1 gg:D) (R:Option (List D × Nat)) (cs:List V):(zcs a0 a1 b0 b1 gg R cs).length=zaZ R:=by cases R <;> rfl
def zeg {a0 a1 b0 b1 gg:D} (R:Option (List D × Nat)) (T:List (List Val)) (k:Nat) {keep:List (Nat × Nat)} {s s1:Slots} {h zaF:List Obj}
 (hh:h=zcs a0 a1 b0 b1 gg R (tcs (zaZ R) T++List.replicate k .nilS)++(T.map zhF++zaF))
 (hk:zaf s h keep=(s1,h)) (h0:zan [] (s1.flatMap λq=>q.2.ids)=[0,1,2,3])
 (hs: ∀f:Nat->Option Nat,f 0=some 0->f 1=some 1->f 2=some 2->f 3=some 3->zaP f s1=some s1):
 zf4 0 keep s h=some (s1,zcs a0 a1 b0 b1 gg R (tcs (zaZ R) T++List.replicate k .nilS)++T.map zhF):=by
 have e:=zsI (k:=k) (pz (zaZ R) T) (by rw[zwu];exact hh) (by rw[zww];exact List.nodup_range') (λp hp=> ?_) hk h0 hs
 ·rw[zwv]at e
  exact e
 ·obtain⟨j,h1,h2⟩:=zwx hp
  refine⟨by omega, ?_⟩
  have hj:j<T.length:=lt_of_getElem? h2;rw[hh,yak (by rw[zcB];omega),zcB,h1,yaR,yap (by simpa using hj),yaA,h2]
  rfl
def zsJ {a0 a1 b0 b1 gg:D} (R:Option (List D × Nat)) (T:List (List Val)) (r:List Val) (k:Nat) {keep:List (Nat × Nat)} {s s1:Slots} {h zaF:List Obj} {o:Obj}
 (hh:h=zcs a0 a1 b0 b1 gg R (tcs (zaZ R) T++ .arr (zaZ R+T.length+1) r.length::List.replicate k .nilS)++(T.map zhF++o::zhF r::zaF))
 (hk:zaf s h keep=(s1,h)) (h0:zan [] (s1.flatMap λq=>q.2.ids)=[0,1,2,3])
 (hs: ∀f:Nat->Option Nat,f 0=some 0->f 1=some 1->f 2=some 2->f 3=some 3->zaP f s1=some s1):
 zf4 0 keep s h=some (s1,zcs a0 a1 b0 b1 gg R (tcs (zaZ R) (T++[r])++List.replicate k .nilS)++(T++[r]).map zhF):=by
 have e:=zsI (k:=k) (pz (zaZ R) T++[(zaZ R+T.length+1,r)]) (by rw[ybf,zwu,yal];exact hh) ?_ (λp hp=> ?_) hk h0 hs
 ·rw[ybf,zwv]at e
  exact e
 ·rw[ybf,zww,ydN]
  refine⟨List.nodup_range',by simp,λa ha b hb e=> ?_⟩
  simp at hb;rw[List.mem_range'_1]at ha;omega
 ·rcases List.mem_append.1 hp with hp | hp
  ·obtain⟨j,h1,h2⟩:=zwx hp
   refine⟨by omega, ?_⟩
   have hj:j<T.length:=lt_of_getElem? h2;rw[hh,yak (by rw[zcB];omega),zcB,h1,yaR,yap (by simpa using hj),yaA,h2]
   rfl
  ·obtain rfl:=List.mem_singleton.1 hp
   refine⟨by simp only;omega, ?_⟩
   rw[hh,yak (by rw[zcB];simp only;omega),zcB]
   simp only;rw[show zaZ R+T.length+1 - zaZ R=T.length+1 by omega,yak (by simp),yah,yaR]
   rfl
def zwy (m:Nat):(List.replicate m V.nilS).flatMap V.ids1=[]:=by
 rw[List.flatMap_eq_nil_iff];intro x hx;rw[(List.mem_replicate.1 hx).2];rfl
def zwz (f:Nat->Option Nat) (m:Nat):(List.replicate m V.nilS).mapM (V.ren1 f)=some (List.replicate m V.nilS):=zis rfl λj a b ha hb=>by
 rw[(List.mem_replicate.1 (yaE ha)).2,(List.mem_replicate.1 (yaE hb)).2];rfl
def zuC (r:List Val):Obj:= .arr 1 (vs r) r.length
def zk2: ∀ (todo done:List (List Val)) (pre:List Obj),zbe (pre++(done.map zuC++todo.map zhF)) (tcs (pre.length+done.length) todo)=some (zaU todo,pre++(done++todo).map zuC)
 |[],done,pre=>by simp[tcs,zbe]
 |r::todo,done,pre=>by
  have h1:(pre++(done.map zuC++(r::todo).map zhF))[pre.length+done.length]? =some (zhF r):=by
   rw[yak (ycc _ _),yaR,yak (by rw[yah];exact yaf _),yah,ybb]
   rfl
  have h2:(pre++(done.map zuC++(r::todo).map zhF)).set (pre.length+done.length) (zuC r)=pre++((done++[r]).map zuC++todo.map zhF):=by
   rw[ybn _ _ (ycc _ _),yaR,ybn _ _ (by rw[yah];exact yaf _),yah,ybb]
   simp
  have h3:zbh (pre++(done.map zuC++(r::todo).map zhF)) (.arr (pre.length+done.length) r.length)=some (.list (vs r),pre++((done++[r]).map zuC++todo.map zhF)):=by
   unfold zbh;simp only;rw[h1];simp only[zhF];rw[yaj (by rw[yah]),yah,<- h2]
   rfl
  have ih:=zk2 todo (done++[r]) pre;rw[yab,ya5]at ih
  show (match zbh _ (.arr (pre.length+done.length) r.length) with | some (x,h1)=>_ | none=>_)=_
  rw[h3];simp only;rw[show pre.length+done.length+1=pre.length+(done.length+1) from rfl,ih]
  simp
def zpG (pre:List Obj) (T:List (List Val)) (zaF:List Obj):(tcs pre.length T).mapM (zuE (pre++(T.map zuC++zaF)))=some (zaU T):=by
 refine zis (by rw[zcd,yah]) λj a b ha hb=> ?_
 rw[zk1]at ha;rw[yaA]at hb;obtain⟨r,hr,rfl⟩:=Option.map_eq_some_iff.1 ha;rw[hr]at hb;obtain rfl:=ya8 hb;have hj:j<T.length:=lt_of_getElem? hr;unfold zuE;simp only;rw[yak (ycc _ _),yaR,yap (by rw[yah];exact hj),yaA,hr]
 simp[zuC]
end Go.Am.Ab
