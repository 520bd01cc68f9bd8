/- Predicates: places, sizes, checks. -/
import Derived.Test.YtibdiacpdmhmnaaGreatDoorCellsA
import Derived.Test.YtibdiacpdmhmnaaGreatDoorSchemaA
import Derived.Test.YtibdiacpdmhmnaaGreatDoorStatA
set_option linter.all false
namespace Go.Am.Ab
open Go.Proofs
set_option maxHeartbeats 8000000
set_option maxRecDepth 4000
def plc (x:Int):List Fld->Nat->Int
 |[],_=> -1
 |f::fs,k=>if f.id=x then k else plc x fs (k+1)
def zrC {x:Int} {fs:List Fld} {i:Nat} (h:i<fs.length):plc x (fs.drop i) i=if fs[i].id=x then (i:Int) else plc x (fs.drop (i+1)) (i+1):=by
 rw[yao h];rfl
def zvG {x:Int} {fs:List Fld} {i:Nat} (h: ¬ i<fs.length):plc x (fs.drop i) i= -1:=by
 rw[yaJ (by omega)];rfl
def zrD (x:Int): ∀ (fs:List Fld) (k:Nat),plc x fs k= -1\/ ∃j:Nat,plc x fs k=((k+j:Nat):Int)/\j<fs.length
 |[],_=> .inl rfl
 |f::fs,k=>by
  unfold plc;split
  ·exact .inr ⟨0,rfl,by simp⟩
  ·rcases zrD x fs (k+1) with h | ⟨j,h1,h2⟩
   ·exact .inl h
   ·exact .inr ⟨j+1,by rw[h1];omega,by simp only[yaf];omega⟩
def zgn (s:Sch) (x:Int) (hl:s.fields.length<1000000000):R 69 [.d s.d,.d (.int .u32 x)] []=some ([.d (.int .i64 (plc x s.fields 0))],[]):=by
 obtain⟨sid,fs⟩:=s;simp only at hl ⊢;simp only[Sch.d];refine rg b69 rfl ?_;intro T hT;simp -dsimp -implicitDefEqProofs (disch:=omega)
 generalize hz:zaf _ _ _ _ _ _=z;revert z;refine zaa (σ:=Nat) (λi=>[(1,.d (.int .u32 x)),(2,.ptr 0 0),(5,.d (.int .i64 i))]) (λ_=>[.box [.d (.int .u32 sid),.d (.list (fs.map Fld.d))]]) (λi=>i<=fs.length/\plc x fs 0=plc x (fs.drop i) i) (λi=>fs.length - i) 0 ?_ ?_ ?_
 ·exact⟨yai _,rfl⟩
 ·simp -dsimp -implicitDefEqProofs (disch:=omega)
 intro T' f hT' i ⟨hi,hp⟩ ih
 by_cases h1:i<fs.length
 ·rw[zrC h1]at hp
  obtain⟨y,hy⟩: ∃y,fs[i]=y:=⟨_,rfl⟩;rw[hy]at hp;obtain⟨yi,yn,yk,yd⟩:=y;simp only at hp
  by_cases h2:yi=x
  ·rw[yag h2]at hp
   subst hT';rw[hp]at hT;simp -dsimp -implicitDefEqProofs (disch:=omega) [h1,hy,h2]
   simpa -dsimp -implicitDefEqProofs (disch:=omega) using hT
  ·rw[yac h2]at hp
   simp -dsimp -implicitDefEqProofs (disch:=omega) [h1,hy,h2]
   refine ih (i+1) _ _ ⟨h1,hp⟩ (by omega) ?_
   simp -dsimp -implicitDefEqProofs (disch:=omega)
 ·rw[zvG h1]at hp
  subst hT';rw[hp]at hT;simp -dsimp -implicitDefEqProofs (disch:=omega) [h1]
  simpa -dsimp -implicitDefEqProofs (disch:=omega) using hT
def zyl (f:Fld) (x:Int):R 155 [.d f.d,.ptr 0 0] [.box [.d (.int .u32 x)]]=some ([.d (.bool (decide (f.id=x)))],[.box [.d (.int .u32 x)]]):=by
 simp only[Fld.d];refine rg zJ9 rfl ?_;intro T hT;simp -dsimp -implicitDefEqProofs (disch:=omega)
 simpa -dsimp -implicitDefEqProofs (disch:=omega) using hT
def zoE (fs:List Fld) (x:Int) (hl:fs.length<1000000000):R 124 [.d (.list (fs.map Fld.d)),.clo 155 [.ptr 0 0]] [.box [.d (.int .u32 x)]]=some ([.d (.int .i64 (plc x fs 0))],[.box [.d (.int .u32 x)]]):=by
 refine rg zIU rfl ?_;intro T hT;simp -dsimp -implicitDefEqProofs (disch:=omega)
 generalize hz:zaf _ _ _ _ _ _=z;revert z;refine zaa (σ:=Nat) (λi=>[(0,.d (.list (fs.map Fld.d))),(1,.clo 155 [.ptr 0 0]),(7,.d (.int .i64 fs.length)),(8,.d (.int .i64 i))]) (λ_=>[.box [.d (.int .u32 x)]]) (λi=>i<=fs.length/\plc x fs 0=plc x (fs.drop i) i) (λi=>fs.length - i) 0 ?_ ?_ ?_
 ·exact⟨yai _,rfl⟩
 ·simp -dsimp -implicitDefEqProofs (disch:=omega)
 intro T' f hT' i ⟨hi,hp⟩ ih
 by_cases h1:i<fs.length
 ·rw[zrC h1]at hp
  obtain⟨y,hy⟩: ∃y,fs[i]=y:=⟨_,rfl⟩;rw[hy]at hp;obtain⟨yi,yn,yk,yd⟩:=y;simp only at hp;have hc:=zyl ⟨yi,yn,yk,yd⟩ x;simp only[Fld.d]at hc
  by_cases h2:yi=x
  ·rw[yag h2]at hp
   subst hT' h2;rw[hp]at hT;rw[yaI rfl]at hc;simp -dsimp -implicitDefEqProofs (disch:=omega) [h1,hy,hc]
   simpa -dsimp -implicitDefEqProofs (disch:=omega) using hT
  ·rw[yac h2]at hp
   simp -dsimp -implicitDefEqProofs (disch:=omega) [h1,hy,h2,hc]
   refine ih (i+1) _ _ ⟨h1,hp⟩ (by omega) ?_
   simp -dsimp -implicitDefEqProofs (disch:=omega)
 ·rw[zvG h1]at hp
  subst hT';rw[hp]at hT;simp -dsimp -implicitDefEqProofs (disch:=omega) [h1]
  simpa -dsimp -implicitDefEqProofs (disch:=omega) using hT
def zgo (s:Sch) (x:Int) (hl:s.fields.length<1000000000):R 116 [.d s.d,.d (.int .u32 x)] []=some ([.d (.int .i64 (if plc x s.fields 0<0 then 0 else plc x s.fields 0)),.d (.bool (decide (0<=plc x s.fields 0)))],[]):=by
 obtain⟨sid,fs⟩:=s;simp only at hl ⊢;have h:=zoE fs x hl;simp only[Sch.d];generalize fs.map Fld.d=fl at*;refine rg zJX rfl ?_;intro T hT;simp -dsimp -implicitDefEqProofs (disch:=omega) [h]
 simpa -dsimp -implicitDefEqProofs (disch:=omega) using hT
end Go.Am.Ab
namespace Go.Am.Ab
open Go.Proofs
set_option maxHeartbeats 8000000
set_option maxRecDepth 4000
inductive Prd where
 |node (op:Nat) (fld:Int) (v:Cel) (kids:List Prd)
mutual
def Prd.d:Prd->D
 |.node op f v ks=> .agg [.int .u8 op,.int .u32 f,.int .u8 v.kind,.int .i64 v.n,.str v.s,.list (dL ks)]
def dL:List Prd->List D
 |[]=>[]
 |k::ks=>k.d::dL ks
end
def zzy: ∀ks:List Prd,dL ks=ks.map Prd.d
 |[]=>rfl
 |k::ks=>by rw[dL,zzy ks];rfl
def zar (op:Nat) (f:Int) (v:Cel) (ks:List Prd):(Prd.node op f v ks).d= .agg [.int .u8 op,.int .u32 f,.int .u8 v.kind,.int .i64 v.n,.str v.s,.list (ks.map Prd.d)]:=by
 rw[Prd.d,zzy]
@[simp] def zEt (p:Prd):p.d.cells.length=6:=by
 obtain⟨op,f,v,ks⟩:=p;rw[zar];rfl
def Prd.ind {Q:Prd->Prop} (h: ∀op f v ks,(∀k∈ks,Q k)->Q (.node op f v ks)): ∀p,Q p
 |.node op f v ks=>h op f v ks λk hk=>Prd.ind h k
termination_by p=>SizeOf.sizeOf p
decreasing_by
 have:=List.sizeOf_lt_of_mem hk;simp;omega
mutual
def Prd.wf:Prd->Prop
 |.node op f v ks=>(op<256/\0<=f/\f<=4294967295/\v.kind<256/\zah v.n/\v.s.size<=9223372036854775807/\ks.length<=9223372036854775807)/\wfL ks
def wfL:List Prd->Prop
 |[]=>True
 |k::ks=>k.wf/\wfL ks
end
def zvH: ∀ {ks:List Prd},wfL ks-> ∀k∈ks,k.wf
 |[],_,_,h=>by simp at h
 |k::ks,hw,k',h=>by
  rw[wfL]at hw;rcases List.mem_cons.1 h with rfl | h
  ·exact hw.1
  ·exact zvH hw.2 k' h
def Prd.indW {Q:Prd->Prop} (h: ∀op f v ks,op<256->0<=f->f<=4294967295->v.kind<256->zah v.n->v.s.size<=9223372036854775807->ks.length<=9223372036854775807->(∀k∈ks,Q k)->Q (.node op f v ks)): ∀p:Prd,p.wf->Q p:=by
 refine Prd.ind λop f v ks ih hw=> ?_
 rw[Prd.wf]at hw;obtain⟨⟨a,b,c,d,e,g,i⟩,j⟩:=hw;exact h op f v ks a b c d e g i λk hk=>ih k hk (zvH j k hk)
mutual
def szP:Prd->Nat->Nat->Bool × Nat
 |.node _ _ _ ks,d,n=>if 32<n+1\/8<d then (false,n+1) else szL ks (d+1) (n+1)
def szL:List Prd->Nat->Nat->Bool × Nat
 |[],_,n=>(true,n)
 |k::ks,d,n=>if (szP k d n).1=true then szL ks d (szP k d n).2 else (false,(szP k d n).2)
end
mutual
def szR:Prd->Nat->Nat
 |.node _ _ _ ks,d=>if 8<d then 33 else min (zuf ks (d+1) 1) 33
def zuf:List Prd->Nat->Nat->Nat
 |[],_,n=>n
 |k::ks,d,n=>if n<33 then zuf ks d (n+szR k d) else n
end
def zEu: ∀ (p:Prd) (d n:Nat),n<=32->(szP p d n).2<=33/\((szP p d n).1=true->(szP p d n).2<=32):=by
 refine Prd.ind λop f v ks ih d n hn=> ?_
 rw[szP];split
 ·exact⟨by simp only;omega,λh=>by cases h⟩
 ·rename_i h
  have key: ∀ (ks:List Prd) (d n:Nat),(∀k∈ks, ∀ (d n:Nat),n<=32->(szP k d n).2<=33/\((szP k d n).1=true->(szP k d n).2<=32))->n<=32->(szL ks d n).2<=33/\((szL ks d n).1=true->(szL ks d n).2<=32):=by
   intro ks
   induction ks with
   |nil=>intro d n _ hn;rw[szL];exact⟨by simp only;omega,λ_=>hn⟩
   |cons k ks ih2=>
    intro d n hk hn;obtain⟨a,b⟩:=hk k (by simp) d n hn
    rw[szL];split
    ·rename_i h1
     exact ih2 d _ (λk' hk'=>hk k' (by simp[hk'])) (b h1)
    ·exact⟨a,λh=>by cases h⟩
  exact key ks _ _ ih (by omega)
def zEv (p:Prd) (d:Nat):szR p d<=33:=by
 obtain⟨op,f,v,ks⟩:=p;rw[szR];split <;> omega
def zvI: ∀ (p:Prd),p.wf-> ∀ (d n:Nat),d<=9->n<=32->R 111 [.d p.d,.d (.int .i64 d),.ptr 0 0] [.box [.d (.int .i64 n)]]=some ([.d (.bool (szP p d n).1)],[.box [.d (.int .i64 (szP p d n).2)]]):=by
 refine Prd.indW λop f v ks q1 q2 q3 q4 q5 q6 hkm ih d n hd hn=> ?_
 rw[zar,szP]
 by_cases h1:32<n+1\/8<d
 ·rw[yag h1]
  have h1':(32:Int)<n+1\/(8:Int)<d:=by omega
  by_cases h2:(32:Int)<n+1
  ·refine rg zH3 rfl ?_
   intro T hT;simp -dsimp -implicitDefEqProofs (disch:=omega) [h2]
   simpa -dsimp -implicitDefEqProofs (disch:=omega) using hT
  ·have h3:(8:Int)<d:=by omega
   refine rg zH3 rfl ?_;intro T hT;simp -dsimp -implicitDefEqProofs (disch:=omega) [h2,h3]
   simpa -dsimp -implicitDefEqProofs (disch:=omega) using hT
 rw[yac h1];have h2: ¬ (32:Int)<n+1:=by omega
 have h3: ¬ (8:Int)<d:=by omega
 have hkl:((ks.map Prd.d).length:Int)=ks.length:=by rw[yah]
 refine rg zH3 rfl ?_;intro T hT;simp -dsimp -implicitDefEqProofs (disch:=omega) [h2,h3]
 generalize hz:zaf _ _ _ _ _ _=z;revert z;refine zaa (σ:=Nat × Nat) (λx=>[(1,.d (.int .i64 d)),(2,.ptr 0 0),(23,.d (.list (ks.map Prd.d))),(24,.d (.int .i64 ks.length)),(25,.d (.int .i64 x.1))]) (λx=>[.box [.d (.int .i64 x.2)]]) (λx=>x.1<=ks.length/\x.2<=32/\szL ks (d+1) (n+1)=szL (ks.drop x.1) (d+1) x.2) (λx=>ks.length - x.1) (0,n+1) ?_ ?_ ?_
 ·exact⟨yai _,by simp only;omega,rfl⟩
 ·simp -dsimp -implicitDefEqProofs (disch:=omega)
 intro T' f' hT' ⟨i,m⟩ ⟨hi,hm,hs⟩ ih2;simp only at hi hm hs ih2
 by_cases h4:i<ks.length
 ·rw[yao h4,szL]at hs
  obtain⟨k,hk⟩: ∃k,ks[i]=k:=⟨_,rfl⟩;have hr:=ih k (hk ▸ yam h4) (d+1) m (by omega) hm
  have hle:=zEu k (d+1) m hm;rw[hk]at hs;obtain⟨op',f1,v',ks'⟩:=k;rw[zar,show ((d+1:Nat):Int)=(d:Int)+1 from rfl]at hr
  generalize szP (.node op' f1 v' ks') (d+1) m=z at*;obtain⟨zb,zn⟩:=z;simp only at hr hle hs;cases zb with
  |false=>
   rw[yac (by simp)]at hs
   subst hT';rw[hs]at hT;simp -dsimp -implicitDefEqProofs (disch:=omega) [h4,hk,hr,zar]
   simpa -dsimp -implicitDefEqProofs (disch:=omega) using hT
  |true=>
   rw[yag rfl]at hs;simp -dsimp -implicitDefEqProofs (disch:=omega) [h4,hk,hr,zar]
   exact ih2 (i+1,zn) _ _ ⟨h4,hle.2 rfl,hs⟩ (by simp only;omega) (by simp -dsimp -implicitDefEqProofs (disch:=omega))
 ·rw[yaJ (by omega),szL]at hs
  subst hT';rw[hs]at hT;simp -dsimp -implicitDefEqProofs (disch:=omega) [h4]
  simpa -dsimp -implicitDefEqProofs (disch:=omega) using hT
def ztu: ∀ (p:Prd),p.wf-> ∀ (d:Nat),d<=9->R 67 [.d p.d,.d (.int .i64 d)] []=some ([.d (.int .i64 (szR p d))],[]):=by
 refine Prd.indW λop f v ks q1 q2 q3 q4 q5 q6 hkm ih d hd=> ?_
 rw[zar,szR];obtain⟨vk,vn,vs0⟩:=v;simp only at q4 q5 q6 ⊢
 by_cases h1:8<d
 ·rw[yag h1]
  have h1':(8:Int)<d:=by omega
  refine rg b67 rfl ?_;intro T hT;simp -dsimp -implicitDefEqProofs (disch:=omega) [h1']
  simpa -dsimp -implicitDefEqProofs (disch:=omega) using hT
 rw[yac h1];have h1': ¬ (8:Int)<d:=by omega
 have hkl:((ks.map Prd.d).length:Int)=ks.length:=by rw[yah]
 refine rg b67 rfl ?_;intro T hT;simp -dsimp -implicitDefEqProofs (disch:=omega) [h1']
 generalize hz:zaf _ _ _ _ _ _=z;revert z;refine zaa (σ:=Nat × Nat) (λx=>[(1,.d (.int .i64 d)),(2,.ptr 0 0),(5,.d (.int .i64 x.2)),(6,.d (.int .i64 x.1))]) (λx=>[.box [.d (.int .u8 op),.d (.int .u32 f),.d (.int .u8 vk),.d (.int .i64 vn),.d (.str vs0),.d (.list (ks.map Prd.d))]]) (λx=>x.1<=ks.length/\x.2<=66/\zuf ks (d+1) 1=zuf (ks.drop x.1) (d+1) x.2) (λx=>ks.length - x.1) (0,1) ?_ ?_ ?_
 ·exact⟨yai _,by simp only;omega,rfl⟩
 ·simp -dsimp -implicitDefEqProofs (disch:=omega)
 intro T' f' hT' ⟨i,m⟩ ⟨hi,hm,hs⟩ ih2;simp only at hi hm hs ih2
 by_cases h4:i<ks.length
 ·rw[yao h4,zuf]at hs
  obtain⟨k,hk⟩: ∃k,ks[i]=k:=⟨_,rfl⟩;rw[hk]at hs
  by_cases h5:m<33
  ·rw[yag h5]at hs
   have hr:=ih k (hk ▸ yam h4) (d+1) (by omega)
   have hle:=zEv k (d+1);obtain⟨op',f1,v',ks'⟩:=k;rw[zar,show ((d+1:Nat):Int)=(d:Int)+1 from rfl]at hr
   generalize szR (.node op' f1 v' ks') (d+1)=z at*;have h5':(m:Int)<33:=by omega
   simp -dsimp -implicitDefEqProofs (disch:=omega) [h4,h5',hk,hr,zar]
   exact ih2 (i+1,m+z) _ _ ⟨h4,by simp only;omega,hs⟩ (by simp only;omega) (by simp -dsimp -implicitDefEqProofs (disch:=omega))
  ·rw[yac h5]at hs
   have h5': ¬ (m:Int)<33:=by omega
   subst hT';rw[hs]at hT
   by_cases h7:(33:Int)<m
   ·rw[ych (by omega)]at hT
    simp -dsimp -implicitDefEqProofs (disch:=omega) [h4,h5',h7]
    simpa -dsimp -implicitDefEqProofs (disch:=omega) using hT
   ·rw[ybM (by omega)]at hT
    simp -dsimp -implicitDefEqProofs (disch:=omega) [h4,h5',h7]
    simpa -dsimp -implicitDefEqProofs (disch:=omega) using hT
 ·rw[yaJ (by omega),zuf]at hs
  subst hT';rw[hs]at hT
  by_cases h7:(33:Int)<m
  ·rw[ych (by omega)]at hT
   simp -dsimp -implicitDefEqProofs (disch:=omega) [h4,h7]
   simpa -dsimp -implicitDefEqProofs (disch:=omega) using hT
  ·rw[ybM (by omega)]at hT
   simp -dsimp -implicitDefEqProofs (disch:=omega) [h4,h7]
   simpa -dsimp -implicitDefEqProofs (disch:=omega) using hT
mutual
def ndR:Prd->Nat->Nat
 |.node _ _ v ks,d=>if 20<d\/300<v.s.size then 200 else min (zBV ks (d+1) 1) 200
def zBV:List Prd->Nat->Nat->Nat
 |[],_,n=>n
 |k::ks,d,n=>if n<200 then zBV ks d (n+ndR k d) else n
end
def zEw (p:Prd) (d:Nat):ndR p d<=200:=by
 obtain⟨op,f,v,ks⟩:=p;rw[ndR];split <;> omega
def zqk: ∀ (p:Prd),p.wf-> ∀ (d:Nat),d<=21->R 58 [.d p.d,.d (.int .i64 d)] []=some ([.d (.int .i64 (ndR p d))],[]):=by
 refine Prd.indW λop f v ks q1 q2 q3 q4 q5 q6 hkm ih d hd=> ?_
 rw[zar,ndR];obtain⟨vk,vn,vs0⟩:=v;simp only at q4 q5 q6 ⊢
 by_cases h1:20<d\/300<vs0.size
 ·rw[yag h1]
  by_cases h2:(20:Int)<d
  ·refine rg b58 rfl ?_
   intro T hT;simp -dsimp -implicitDefEqProofs (disch:=omega) [h2]
   simpa -dsimp -implicitDefEqProofs (disch:=omega) using hT
  ·have h3:(300:Int)<vs0.size:=by omega
   refine rg b58 rfl ?_;intro T hT;simp -dsimp -implicitDefEqProofs (disch:=omega) [h2,h3]
   simpa -dsimp -implicitDefEqProofs (disch:=omega) using hT
 rw[yac h1];have h2: ¬ (20:Int)<d:=by omega
 have h3: ¬ (300:Int)<vs0.size:=by omega
 have hkl:((ks.map Prd.d).length:Int)=ks.length:=by rw[yah]
 refine rg b58 rfl ?_;intro T hT;simp -dsimp -implicitDefEqProofs (disch:=omega) [h2,h3]
 generalize hz:zaf _ _ _ _ _ _=z;revert z;refine zaa (σ:=Nat × Nat) (λx=>[(1,.d (.int .i64 d)),(2,.ptr 0 0),(5,.d (.int .i64 x.2)),(6,.d (.int .i64 x.1))]) (λx=>[.box [.d (.int .u8 op),.d (.int .u32 f),.d (.int .u8 vk),.d (.int .i64 vn),.d (.str vs0),.d (.list (ks.map Prd.d))]]) (λx=>x.1<=ks.length/\x.2<=400/\zBV ks (d+1) 1=zBV (ks.drop x.1) (d+1) x.2) (λx=>ks.length - x.1) (0,1) ?_ ?_ ?_
 ·exact⟨yai _,by simp only;omega,rfl⟩
 ·simp -dsimp -implicitDefEqProofs (disch:=omega)
 intro T' f' hT' ⟨i,m⟩ ⟨hi,hm,hs⟩ ih2;simp only at hi hm hs ih2
 by_cases h4:i<ks.length
 ·rw[yao h4,zBV]at hs
  obtain⟨k,hk⟩: ∃k,ks[i]=k:=⟨_,rfl⟩;rw[hk]at hs
  by_cases h5:m<200
  ·rw[yag h5]at hs
   have hr:=ih k (hk ▸ yam h4) (d+1) (by omega)
   have hle:=zEw k (d+1);obtain⟨op',f1,v',ks'⟩:=k;rw[zar,show ((d+1:Nat):Int)=(d:Int)+1 from rfl]at hr
   generalize ndR (.node op' f1 v' ks') (d+1)=z at*;have h5':(m:Int)<200:=by omega
   simp -dsimp -implicitDefEqProofs (disch:=omega) [h4,h5',hk,hr,zar]
   exact ih2 (i+1,m+z) _ _ ⟨h4,by simp only;omega,hs⟩ (by simp only;omega) (by simp -dsimp -implicitDefEqProofs (disch:=omega))
  ·rw[yac h5]at hs
   have h5': ¬ (m:Int)<200:=by omega
   subst hT';rw[hs]at hT
   by_cases h7:(200:Int)<m
   ·rw[ych (by omega)]at hT
    simp -dsimp -implicitDefEqProofs (disch:=omega) [h4,h5',h7]
    simpa -dsimp -implicitDefEqProofs (disch:=omega) using hT
   ·rw[ybM (by omega)]at hT
    simp -dsimp -implicitDefEqProofs (disch:=omega) [h4,h5',h7]
    simpa -dsimp -implicitDefEqProofs (disch:=omega) using hT
 ·rw[yaJ (by omega),zBV]at hs
  subst hT';rw[hs]at hT
  by_cases h7:(200:Int)<m
  ·rw[ych (by omega)]at hT
   simp -dsimp -implicitDefEqProofs (disch:=omega) [h4,h7]
   simpa -dsimp -implicitDefEqProofs (disch:=omega) using hT
  ·rw[ybM (by omega)]at hT
   simp -dsimp -implicitDefEqProofs (disch:=omega) [h4,h7]
   simpa -dsimp -implicitDefEqProofs (disch:=omega) using hT
def zoF (p:Prd) (hp:p.wf):R 16 [.d p.d] []=some ([.d (.bool (decide ((200:Int)<=ndR p 1)))],[]):=by
 have h:R 58 [.d p.d,.d (.int .i64 1)] []=_:=zqk p hp 1 (by omega)
 obtain⟨op,f,v,ks⟩:=p;rw[zar]at h ⊢;generalize ndR (.node op f v ks) 1=z at*;refine rg b16 rfl ?_;intro T hT;simp -dsimp -implicitDefEqProofs (disch:=omega) [h]
 simpa -dsimp -implicitDefEqProofs (disch:=omega) using hT
def zql: ∀ (ks:List Prd) (d n:Nat),n<=zuf ks d n
 |[],_,_=>yaj _
 |k::ks,d,n=>by
  rw[zuf];split
  ·exact ya4 (yb0 _ _) (zql ks d _)
  ·exact yaj _
def zAG: ∀ (p:Prd) (d n:Nat),n<=32->((szP p d n).1=true↔n+szR p d<=32)/\((szP p d n).1=true->(szP p d n).2=n+szR p d):=by
 refine Prd.ind λop f v ks ih d n hn=> ?_
 have key: ∀ (ks:List Prd) (d n m:Nat),(∀k∈ks, ∀ (d n:Nat),n<=32->((szP k d n).1=true↔n+szR k d<=32)/\((szP k d n).1=true->(szP k d n).2=n+szR k d))->n+m<=32->
  ((szL ks d (n+m)).1=true↔n+zuf ks d m<=32)/\((szL ks d (n+m)).1=true->(szL ks d (n+m)).2=n+zuf ks d m):=by
  intro ks
  induction ks with
  |nil=>intro d n m _ h;rw[szL,zuf];exact⟨⟨λ_=>h,λ_=>rfl⟩,λ_=>rfl⟩
  |cons k ks ih2=>
   intro d n m hk h;obtain⟨a,b⟩:=hk k (by simp) d (n+m) h
   rw[szL,zuf,yag (show m<33 by omega)]
   by_cases h1:(szP k d (n+m)).1=true
   ·rw[yag h1,b h1,yaY]
    exact ih2 d n _ (λk' hk'=>hk k' (by simp[hk'])) (by have:=a.1 h1;omega)
   ·rw[yac h1]
    have h2: ¬ n+m+szR k d<=32:=λh=>h1 (a.2 h)
    have h3:=zql ks d (m+szR k d);exact⟨⟨λh=>(by cases h),λh=>(by omega)⟩,λh=>(by cases h)⟩
 rw[szP,szR]
 by_cases h1:8<d
 ·rw[yag (.inr h1),yag h1]
  exact⟨⟨λh=>(by cases h),λh=>(by omega)⟩,λh=>(by cases h)⟩
 rw[yac h1];have hge:=zql ks (d+1) 1
 by_cases h2:32<n+1
 ·rw[yag (.inl h2)]
  exact⟨⟨λh=>(by cases h),λh=>(by omega)⟩,λh=>(by cases h)⟩
 rw[yac (by omega)]
 obtain⟨a,b⟩:=key ks (d+1) n 1 ih (by omega)
 exact⟨a.trans ⟨λh=>(by omega),λh=>(by omega)⟩,λh=>(by rw[b h];have:=a.1 h;omega)⟩
end Go.Am.Ab
namespace Go.Am.Ab
open Go.Proofs
set_option maxHeartbeats 8000000
set_option maxRecDepth 4000
def zmW (c:Cel) (hc:c.kind<256) (hs:c.s.size<=9223372036854775807):R 156 [.d c.d] []=some ([.d (zaA c).d,.d (.int .i64 (chk c))],[]):=by
 obtain⟨k,n,s⟩:=c;simp only at hc hs;simp only[Cel.d];have hk:k=0\/k=1\/k=2\/k=3\/3<k:=by omega
 rcases hk with rfl | rfl | rfl | rfl | hk
 ·by_cases h1:n=0
  ·by_cases h2:s=noS
   ·subst h1 h2
    refine rg zsN rfl ?_;intro T hT;simp -dsimp -implicitDefEqProofs (disch:=omega) [zaS]
    simpa -dsimp -implicitDefEqProofs (disch:=omega) [zaA,fix,chk,Val.d]using hT
   ·have e:chk ⟨0,n,s⟩=1:=by simp[chk,h2]
    have h4:s.toList.isEmpty=false:=by rw[zdY];simp[h2]
    rw[show zaA ⟨0,n,s⟩= .null by simp[zaA,fix,e,Cel.none],e,vd0]
    refine rg zsN rfl ?_;intro T hT;simp -dsimp -implicitDefEqProofs (disch:=omega) [h1,h4]
    simpa -dsimp -implicitDefEqProofs (disch:=omega) using hT
  ·have e:chk ⟨0,n,s⟩=1:=by simp[chk,h1]
   rw[show zaA ⟨0,n,s⟩= .null by simp[zaA,fix,e,Cel.none],e,vd0]
   refine rg zsN rfl ?_;intro T hT;simp -dsimp -implicitDefEqProofs (disch:=omega) [h1,zaS]
   simpa -dsimp -implicitDefEqProofs (disch:=omega) using hT
 ·by_cases h2:s=noS
  ·subst h2
   have e:chk ⟨1,n,noS⟩=0:=by simp[chk]
   rw[show zaA ⟨1,n,noS⟩= .whole n by simp[zaA,fix,e],e,vd1]
   refine rg zsN rfl ?_;intro T hT;simp -dsimp -implicitDefEqProofs (disch:=omega) [zaS]
   simpa -dsimp -implicitDefEqProofs (disch:=omega) using hT
  ·have e:chk ⟨1,n,s⟩=1:=by simp[chk,h2]
   have h4:s.toList.isEmpty=false:=by rw[zdY];simp[h2]
   rw[show zaA ⟨1,n,s⟩= .null by simp[zaA,fix,e,Cel.none],e,vd0]
   refine rg zsN rfl ?_;intro T hT;simp -dsimp -implicitDefEqProofs (disch:=omega) [h4]
   simpa -dsimp -implicitDefEqProofs (disch:=omega) using hT
 ·by_cases h2:s=noS
  ·subst h2
   by_cases h1:n=0
   ·subst h1
    rw[show zaA ⟨2,0,noS⟩= .truth false by simp[zaA,fix,chk],show chk ⟨2,0,noS⟩=0 by simp[chk],vd2]
    refine rg zsN rfl ?_;intro T hT;simp -dsimp -implicitDefEqProofs (disch:=omega) [zaS]
    simpa -dsimp -implicitDefEqProofs (disch:=omega) using hT
   ·by_cases h3:n=1
    ·subst h3
     rw[show zaA ⟨2,1,noS⟩= .truth true by simp[zaA,fix,chk],show chk ⟨2,1,noS⟩=0 by simp[chk],vd2]
     refine rg zsN rfl ?_;intro T hT;simp -dsimp -implicitDefEqProofs (disch:=omega) [zaS]
     simpa -dsimp -implicitDefEqProofs (disch:=omega) using hT
    ·have e:chk ⟨2,n,noS⟩=1:=by simp[chk,h1,h3]
     rw[show zaA ⟨2,n,noS⟩= .null by simp[zaA,fix,e,Cel.none],e,vd0]
     refine rg zsN rfl ?_;intro T hT;simp -dsimp -implicitDefEqProofs (disch:=omega) [h1,h3,zaS]
     simpa -dsimp -implicitDefEqProofs (disch:=omega) using hT
  ·have e:chk ⟨2,n,s⟩=1:=by simp[chk,h2]
   have h4:s.toList.isEmpty=false:=by rw[zdY];simp[h2]
   rw[show zaA ⟨2,n,s⟩= .null by simp[zaA,fix,e,Cel.none],e,vd0]
   refine rg zsN rfl ?_;intro T hT;simp -dsimp -implicitDefEqProofs (disch:=omega) [h4]
   simpa -dsimp -implicitDefEqProofs (disch:=omega) using hT
 ·by_cases h1:n=0
  ·subst h1
   by_cases h2:s.size<=64
   ·have e:chk ⟨3,0,s⟩=0:=by simp[chk,h2]
    rw[show zaA ⟨3,0,s⟩= .text s by simp[zaA,fix,e],e,vd3]
    have h2':(s.size:Int)<=64:=by omega
    refine rg zsN rfl ?_;intro T hT;simp -dsimp -implicitDefEqProofs (disch:=omega) [h2']
    simpa -dsimp -implicitDefEqProofs (disch:=omega) using hT
   ·have h3:64<s.size:=by omega
    have e:chk ⟨3,0,s⟩=5:=by simp[chk,h3]
    rw[show zaA ⟨3,0,s⟩= .null by simp[zaA,fix,e,Cel.none],e,vd0]
    have h2': ¬ (s.size:Int)<=64:=by omega
    refine rg zsN rfl ?_;intro T hT;simp -dsimp -implicitDefEqProofs (disch:=omega) [h2']
    simpa -dsimp -implicitDefEqProofs (disch:=omega) using hT
  ·have e:chk ⟨3,n,s⟩=1:=by simp[chk,h1]
   rw[show zaA ⟨3,n,s⟩= .null by simp[zaA,fix,e,Cel.none],e,vd0]
   refine rg zsN rfl ?_;intro T hT;simp -dsimp -implicitDefEqProofs (disch:=omega) [h1]
   simpa -dsimp -implicitDefEqProofs (disch:=omega) using hT
 ·have e:chk ⟨k,n,s⟩=10:=by simp[chk,hk]
  rw[show zaA ⟨k,n,s⟩= .null by simp[zaA,fix,e,Cel.none],e,vd0]
  have h0: ¬ (k:Int)=0:=by omega
  have h1: ¬ (k:Int)=1:=by omega
  have h2: ¬ (k:Int)=2:=by omega
  have h3: ¬ (k:Int)=3:=by omega
  have k0: ¬ k=0:=by omega
  have k1: ¬ k=1:=by omega
  have k2: ¬ k=2:=by omega
  have k3: ¬ k=3:=by omega
  refine rg zsN rfl ?_;intro T hT;simp -dsimp -implicitDefEqProofs (disch:=omega) [h0,h1,h2,h3,k0,k1,k2,k3]
  simpa -dsimp -implicitDefEqProofs (disch:=omega) using hT
def zl1 {c:Cel} (h:chk c=0):(zaA c).kind=c.kind:=by
 have hk:=(zbv h).1;unfold zaA fix;rw[yag h];have hk4:c.kind=0\/c.kind=1\/c.kind=2\/c.kind=3:=by omega
 rcases hk4 with e | e | e | e <;> rw[e] <;> rfl
def kdI (fs:List Fld) (i:Nat):Int:=(fs.map (·.kind)).getD i 0
def zvJ {fs:List Fld} {i:Nat} (h:i<fs.length):fs[i].kind=kdI fs i:=by simp[kdI,h]
def ztv (op:Nat) (f:Int) (v:Cel) (fs:List Fld):Nat:=
 if plc f fs 0<0 then 81 else if op=5 then (if v=Cel.none then 0 else 90) else if chk v=1 then 90 else if chk v≠0 then chk v else
 if v.kind=0\/(v.kind:Int)≠kdI fs (plc f fs 0).toNat\/(op=4/\v.kind≠3) then 10 else 0
def zvK (op:Nat) (f:Int) (v:Cel) (ks:List Prd) (s:Sch) (hl:s.fields.length<1000000000) (hv:v.kind<256) (hs:v.s.size<=9223372036854775807):
 R 153 [.d (Prd.node op f v ks).d,.d s.d] []=some ([.d (.int .i64 ((if ks=[] then ztv op f v s.fields else 90:Nat):Int))],[]):=by
 have hp:=zgo s f hl;have ho:=zmW v hv hs;have hkd:=zbw (zaA v);obtain⟨sid,fs⟩:=s
 try simp only at hl
 simp only[Sch.d]at hp;simp only[Sch.d];rw[zar];rcases ks with _ | ⟨k,ks⟩
 case cons=>
  have h0: ¬ (((k::ks).length:Nat):Int)=0:=by simp only[yaf];omega
  refine rg zsM rfl ?_;intro T hT;simp -dsimp -implicitDefEqProofs (disch:=omega)
  simpa -dsimp -implicitDefEqProofs (disch:=omega) using hT
 rw[yag rfl];unfold ztv;rcases zrD f fs 0 with h1 | ⟨j,h1,h2⟩
 ·rw[h1]at hp ⊢
  refine rg zsM rfl ?_;intro T hT;simp -dsimp -implicitDefEqProofs (disch:=omega) [hp]
  simpa -dsimp -implicitDefEqProofs (disch:=omega) using hT
 rw[yaX]at h1;rw[h1]at hp ⊢;have h3: ¬ (j:Int)<0:=by omega
 have h4:(0:Int)<=j:=by omega
 rw[yac h3]at hp;rw[yac h3,yat];obtain⟨vk,vn,vs0⟩:=v;simp only[Cel.d]at hv hs ho ⊢
 by_cases h5:op=5
 ·subst h5
  rw[yag rfl]
  by_cases a:vk=0
  ·by_cases b:vn=0
   ·by_cases c:vs0=noS
    ·subst a b c
     rw[yag (show (⟨0,0,noS⟩:Cel)=Cel.none from rfl)]
     refine rg zsM rfl ?_;intro T hT;simp -dsimp -implicitDefEqProofs (disch:=omega) [hp,h4,zaS]
     simpa -dsimp -implicitDefEqProofs (disch:=omega) using hT
    ·rw[yac (by simp[Cel.none,c])]
     have c':vs0.toList.isEmpty=false:=by rw[zdY];simp[c]
     refine rg zsM rfl ?_;intro T hT;simp -dsimp -implicitDefEqProofs (disch:=omega) [hp,h4,c',zaS,c]
     simpa -dsimp -implicitDefEqProofs (disch:=omega) using hT
   ·rw[yac (by simp[Cel.none,b])]
    refine rg zsM rfl ?_;intro T hT;simp -dsimp -implicitDefEqProofs (disch:=omega) [hp,h4,b]
    simpa -dsimp -implicitDefEqProofs (disch:=omega) using hT
  ·rw[yac (by simp[Cel.none,a])]
   have a': ¬ (vk:Int)=0:=by omega
   refine rg zsM rfl ?_;intro T hT;simp -dsimp -implicitDefEqProofs (disch:=omega) [hp,h4,a,a']
   simpa -dsimp -implicitDefEqProofs (disch:=omega) using hT
 rw[yac h5];have h5': ¬ (op:Int)=5:=by omega
 by_cases c1:chk ⟨vk,vn,vs0⟩=1
 ·rw[yag c1]
  rw[c1]at ho;refine rg zsM rfl ?_;intro T hT;simp -dsimp -implicitDefEqProofs (disch:=omega) [hp,h4,h5',ho]
  simpa -dsimp -implicitDefEqProofs (disch:=omega) using hT
 rw[yac c1]
 by_cases c2:chk ⟨vk,vn,vs0⟩=0
 case neg=>
  rw[yag c2];generalize chk ⟨vk,vn,vs0⟩=e at*;have c1': ¬ (e:Int)=1:=by omega
  have c2': ¬ (e:Int)=0:=by omega
  refine rg zsM rfl ?_;intro T hT;simp -dsimp -implicitDefEqProofs (disch:=omega) [hp,h4,h5',ho,c1,c2,c1',c2']
  simpa -dsimp -implicitDefEqProofs (disch:=omega) using hT
 rw[yac (by omega)]
 rw[c2]at ho;rw[zl1 c2]at hkd;simp only at hkd;have hvk:=(zbv c2).1;simp only at hvk;obtain⟨y,hy⟩: ∃y,fs[j]=y:=⟨_,rfl⟩;rw[<- zvJ h2,hy];obtain⟨yi,yn,yk,yd⟩:=y;simp only;generalize zaA ⟨vk,vn,vs0⟩=w at*
 by_cases k0:yk=0
 ·rw[yag (by omega)]
  refine rg zsM rfl ?_;intro T hT;simp -dsimp -implicitDefEqProofs (disch:=omega) [hp,h2,h4,h5',ho,hy,k0]
  simpa -dsimp -implicitDefEqProofs (disch:=omega) using hT
 by_cases k1:(vk:Int)=yk
 case neg=>
  rw[yag (.inr (.inl k1))];refine rg zsM rfl ?_;intro T hT;simp -dsimp -implicitDefEqProofs (disch:=omega) [hp,h2,h4,h5',ho,hy,k0,hkd,k1]
  simpa -dsimp -implicitDefEqProofs (disch:=omega) using hT
 obtain rfl:yk=vk:=k1.symm;clear k1;have k4: ¬ vk=0:=by omega
 by_cases k2:op=4
 case neg=>
  rw[yac (by omega)]
  have k2': ¬ (op:Int)=4:=by omega
  refine rg zsM rfl ?_;intro T hT;simp -dsimp -implicitDefEqProofs (disch:=omega) [hp,h2,h4,h5',ho,hy,k0,hkd,k4,k2']
  simpa -dsimp -implicitDefEqProofs (disch:=omega) using hT
 subst k2
 by_cases k3:vk=3
 ·rw[yac (by omega)]
  subst k3;simp only[i3]at ho hkd hy;refine rg zsM rfl ?_;intro T hT;simp -dsimp -implicitDefEqProofs (disch:=omega) [hp,h2,h4,ho,hy,hkd]
  simpa -dsimp -implicitDefEqProofs (disch:=omega) using hT
 ·rw[yag (by omega)]
  have k3': ¬ (vk:Int)=3:=by omega
  refine rg zsM rfl ?_;intro T hT;simp -dsimp -implicitDefEqProofs (disch:=omega) [hp,h2,h4,ho,hy,k0,hkd,k4,k3,k3']
  simpa -dsimp -implicitDefEqProofs (disch:=omega) using hT
end Go.Am.Ab
namespace Go.Am.Ab
open Go.Proofs
set_option maxHeartbeats 16000000
set_option maxRecDepth 4000
mutual
def ziU (fs:List Fld):Prd->Nat
 |.node op f v ks=>if op=0\/8<op then 90 else if op<6 then (if ks=[] then ztv op f v fs else 90) else if f≠0\/v≠Cel.none\/(op=8/\ks.length≠1) then 90 else ziV fs ks
def ziV (fs:List Fld):List Prd->Nat
 |[]=>0
 |k::ks=>if ziU fs k=0 then ziV fs ks else ziU fs k
end
def zvL {s:ByteArray} (h:s≠noS):s.toList.isEmpty=false:=by rw[zdY];simp[h]
def ztw (s:Sch) (hl:s.fields.length<1000000000): ∀ (p:Prd),p.wf->R 112 [.d p.d,.d s.d] []=some ([.d (.int .i64 (ziU s.fields p))],[]):=by
 refine Prd.indW λop f v ks q1 q2 q3 q4 q5 q6 hkm ih=> ?_
 have hlf:=zvK op f v ks s hl q4 q6;obtain⟨sid,fs⟩:=s
 try simp only at hl ih hlf
 simp only[Sch.d]at hlf ih ⊢;rw[zar]at hlf ⊢;rw[ziU];obtain⟨vk,vn,vs0⟩:=v;simp only at q4 q5 q6 hlf ⊢
 by_cases h1:op=0\/8<op
 ·rw[yag h1]
  have o0: ¬ (op:Int)=1:=by omega
  have o1: ¬ (op:Int)=2:=by omega
  have o2: ¬ (op:Int)=3:=by omega
  have o3: ¬ (op:Int)=4:=by omega
  have o4: ¬ (op:Int)=5:=by omega
  have o5: ¬ (op:Int)=6:=by omega
  have o6: ¬ (op:Int)=7:=by omega
  have o7: ¬ (op:Int)=8:=by omega
  refine rg zzm rfl ?_;intro T hT;simp -dsimp -implicitDefEqProofs (disch:=omega) [o0,o1,o2,o3,o4,o5,o6,o7]
  simpa -dsimp -implicitDefEqProofs (disch:=omega) using hT
 rw[yac h1]
 by_cases h2:op<6
 ·rw[yag h2]
  generalize (if ks=[] then ztv op f ⟨vk,vn,vs0⟩ fs else 90)=e at*
  generalize ho:(op:Int)=o at*;have h3:o=1\/o=2\/o=3\/o=4\/o=5:=by omega
  rcases h3 with rfl | rfl | rfl | rfl | rfl
  all_goals
   refine rg zzm rfl ?_;intro T hT;simp -dsimp -implicitDefEqProofs (disch:=omega) [hlf]
   simpa -dsimp -implicitDefEqProofs (disch:=omega) using hT
 rw[yac h2];clear hlf;have h3:op=6\/op=7\/op=8:=by omega
 by_cases c0:f=0
 case neg=>
  rw[yag (.inl c0)];rcases h3 with rfl | rfl | rfl
  all_goals
   refine rg zzm rfl ?_;intro T hT;simp -dsimp -implicitDefEqProofs (disch:=omega) [c0]
   simpa -dsimp -implicitDefEqProofs (disch:=omega) using hT
 by_cases c1:vk=0
 case neg=>
  rw[yag (.inr (.inl (by simp[Cel.none,c1])))]
  have c1': ¬ (vk:Int)=0:=by omega
  rcases h3 with rfl | rfl | rfl
  all_goals
   refine rg zzm rfl ?_;intro T hT;simp -dsimp -implicitDefEqProofs (disch:=omega) [c0,c1,c1']
   simpa -dsimp -implicitDefEqProofs (disch:=omega) using hT
 by_cases c2:vn=0
 case neg=>
  rw[yag (.inr (.inl (by simp[Cel.none,c2])))]
  rcases h3 with rfl | rfl | rfl
  all_goals
   refine rg zzm rfl ?_;intro T hT;simp -dsimp -implicitDefEqProofs (disch:=omega) [c0,c1,c2]
   simpa -dsimp -implicitDefEqProofs (disch:=omega) using hT
 by_cases c3:vs0=noS
 case neg=>
  rw[yag (.inr (.inl (by simp[Cel.none,c3])))]
  have c3':=zvL c3;rcases h3 with rfl | rfl | rfl
  all_goals
   refine rg zzm rfl ?_;intro T hT;simp -dsimp -implicitDefEqProofs (disch:=omega) [c0,c1,c2,c3,c3',zaS]
   simpa -dsimp -implicitDefEqProofs (disch:=omega) using hT
 subst c0 c1 c2 c3
 by_cases c4:op=8/\ks.length≠1
 ·rw[yag (.inr (.inr c4))]
  obtain⟨rfl,c4⟩:=c4;have c4': ¬ (ks.length:Int)=1:=by omega
  refine rg zzm rfl ?_;intro T hT;simp -dsimp -implicitDefEqProofs (disch:=omega) [c4,c4',zaS]
  simpa -dsimp -implicitDefEqProofs (disch:=omega) using hT
 rw[yac (by rintro (h | h | h);exact h rfl;exact h rfl;exact c4 h)]
 have c5:op≠8\/ks.length=1:=by omega
 have c6:op=8->((ks.length:Int)=1)=True:=λh=>by
  have:ks.length=1:=by omega
  simp[this]
 rcases h3 with rfl | rfl | rfl
 all_goals
  try replace c6:=c6 rfl
  refine rg zzm rfl ?_;intro T hT;simp -dsimp -implicitDefEqProofs (disch:=omega) [zaS,c6]
  generalize hz:zaf _ _ _ _ _ _=z;revert z;refine zaa (σ:=Nat) (λi=>[(3,.ptr 0 0),(44,.d (.list (ks.map Prd.d))),(45,.d (.int .i64 ks.length)),(46,.d (.int .i64 i))]) (λ_=>[.box [.d (.int .u32 sid),.d (.list (fs.map Fld.d))]]) (λi=>i<=ks.length/\ziV fs ks=ziV fs (ks.drop i)) (λi=>ks.length - i) 0 ?_ ?_ ?_
  ·exact⟨yai _,rfl⟩
  ·simp -dsimp -implicitDefEqProofs (disch:=omega)
  intro T' f' hT' i ⟨hi,hs⟩ ih2
  by_cases h4:i<ks.length
  ·rw[yao h4,ziV]at hs
   obtain⟨k,hk⟩: ∃k,ks[i]=k:=⟨_,rfl⟩;have hr:=ih k (hk ▸ yam h4);rw[hk]at hs;obtain⟨op',f1,v',ks'⟩:=k;rw[zar]at hr;generalize ziU fs (.node op' f1 v' ks')=z at*
   by_cases hz:z=0
   ·rw[yag hz]at hs
    subst hz;simp -dsimp -implicitDefEqProofs (disch:=omega) [h4,hk,hr,zar]
    refine ih2 (i+1) _ _ ⟨h4,hs⟩ (by omega) ?_
    simp -dsimp -implicitDefEqProofs (disch:=omega)
   ·rw[yac hz]at hs
    have hz': ¬ (z:Int)=0:=by omega
    subst hT';rw[hs]at hT;simp -dsimp -implicitDefEqProofs (disch:=omega) [h4,hk,hr,zar,hz,hz']
    simpa -dsimp -implicitDefEqProofs (disch:=omega) using hT
  ·rw[yaJ (by omega),ziV]at hs
   subst hT';rw[hs]at hT;simp -dsimp -implicitDefEqProofs (disch:=omega) [h4]
   simpa -dsimp -implicitDefEqProofs (disch:=omega) using hT
end Go.Am.Ab
namespace Go.Am.Ab
open Go.Proofs
set_option maxHeartbeats 16000000
set_option maxRecDepth 4000
def zoG (s:Sch) (hl:s.fields.length<1000000000): ∀ (p:Prd),p.wf->R 68 [.d p.d,.d s.d] []=some ([.d (.int .i64 (ziU s.fields p))],[]):=by
 refine Prd.indW λop f v ks q1 q2 q3 q4 q5 q6 hkm ih=> ?_
 have hp:=zgn s f hl;have ho:=zj4 v q4 q6;obtain⟨sid,fs⟩:=s
 try simp only at hl ih
 simp only[Sch.d]at hp ih ⊢;rw[zar];rw[ziU];obtain⟨vk,vn,vs0⟩:=v;simp only[Cel.d]at q4 q5 q6 ho ⊢;have b0:op=0↔(op:Int)=0:=by omega
 have b1:8<op↔(8:Int)<op:=by omega
 have b2:op<6↔ ¬ (6:Int)<=op:=by omega
 by_cases h1:op=0\/8<op
 ·rw[yag h1]
  by_cases h2:op=0
  ·refine rg b68 rfl ?_
   intro T hT;simp -dsimp -implicitDefEqProofs (disch:=omega) [h2]
   simpa -dsimp -implicitDefEqProofs (disch:=omega) using hT
  ·rw[b1]at h1
   have h3:=h1.resolve_left h2;refine rg b68 rfl ?_;intro T hT;simp -dsimp -implicitDefEqProofs (disch:=omega) [h2,h3]
   simpa -dsimp -implicitDefEqProofs (disch:=omega) using hT
 rw[yac h1];have h0: ¬ op=0:=λh=>h1 (.inl h)
 replace h1: ¬ (8:Int)<op:=by omega
 by_cases h2:op<6
 ·rw[yag h2]
  rw[b2]at h2;rcases ks with _ | ⟨k,ks⟩
  case cons=>
   refine rg b68 rfl ?_;intro T hT;simp -dsimp -implicitDefEqProofs (disch:=omega) [h0,h1,h2]
   simpa -dsimp -implicitDefEqProofs (disch:=omega) using hT
  rw[yag rfl];clear ih;unfold ztv;rcases zrD f fs 0 with h3 | ⟨j,h3,h4⟩
  ·rw[h3]at hp ⊢
   refine rg b68 rfl ?_;intro T hT;simp -dsimp -implicitDefEqProofs (disch:=omega) [h0,h1,h2,hp]
   simpa -dsimp -implicitDefEqProofs (disch:=omega) using hT
  rw[yaX]at h3;rw[h3]at hp ⊢;have h5: ¬ (j:Int)<0:=by omega
  rw[yac h5,yat]
  by_cases h6:op=5
  ·subst h6
   rw[yag rfl]
   by_cases a:vk=0
   ·by_cases b:vn=0
    ·by_cases c:vs0=noS
     ·subst a b c
      rw[yag (show (⟨0,0,noS⟩:Cel)=Cel.none from rfl)]
      refine rg b68 rfl ?_;intro T hT;simp -dsimp -implicitDefEqProofs (disch:=omega) [hp,h5,zaS]
      simpa -dsimp -implicitDefEqProofs (disch:=omega) using hT
     ·rw[yac (by simp[Cel.none,c])]
      have c':=zvL c;refine rg b68 rfl ?_;intro T hT;simp -dsimp -implicitDefEqProofs (disch:=omega) [hp,h5,a,b,c',zaS,c]
      simpa -dsimp -implicitDefEqProofs (disch:=omega) using hT
    ·rw[yac (by simp[Cel.none,b])]
     refine rg b68 rfl ?_;intro T hT;simp -dsimp -implicitDefEqProofs (disch:=omega) [hp,h5,a,b]
     simpa -dsimp -implicitDefEqProofs (disch:=omega) using hT
   ·rw[yac (by simp[Cel.none,a])]
    have a': ¬ (vk:Int)=0:=by omega
    refine rg b68 rfl ?_;intro T hT;simp -dsimp -implicitDefEqProofs (disch:=omega) [hp,h5,a,a']
    simpa -dsimp -implicitDefEqProofs (disch:=omega) using hT
  rw[yac h6];have h6': ¬ (op:Int)=5:=by omega
  by_cases c1:chk ⟨vk,vn,vs0⟩=1
  ·rw[yag c1]
   rw[c1]at ho;refine rg b68 rfl ?_;intro T hT;simp -dsimp -implicitDefEqProofs (disch:=omega) [h0,h1,h2,hp,h5,h6',ho]
   simpa -dsimp -implicitDefEqProofs (disch:=omega) using hT
  rw[yac c1]
  by_cases c2:chk ⟨vk,vn,vs0⟩=0
  case neg=>
   rw[yag c2];generalize chk ⟨vk,vn,vs0⟩=e at*;have c1': ¬ (e:Int)=1:=by omega
   have c2': ¬ (e:Int)=0:=by omega
   refine rg b68 rfl ?_;intro T hT;simp -dsimp -implicitDefEqProofs (disch:=omega) [h0,h1,h2,hp,h5,h6',ho,c1,c2,c1',c2']
   simpa -dsimp -implicitDefEqProofs (disch:=omega) using hT
  rw[yac (by omega)]
  rw[c2]at ho;obtain⟨y,hy⟩: ∃y,fs[j]=y:=⟨_,rfl⟩;rw[<- zvJ h4,hy];obtain⟨yi,yn,yk,yd⟩:=y;simp only
  by_cases k0:vk=0
  ·rw[yag (by omega)]
   subst k0;simp only[show ((0:Nat):Int)=0 from rfl]at ho
   refine rg b68 rfl ?_;intro T hT;simp -dsimp -implicitDefEqProofs (disch:=omega) [h0,h1,h2,hp,h5,h6',ho]
   simpa -dsimp -implicitDefEqProofs (disch:=omega) using hT
  have k0': ¬ (vk:Int)=0:=by omega
  by_cases k1:(vk:Int)=yk
  case neg=>
   rw[yag (.inr (.inl k1))];refine rg b68 rfl ?_;intro T hT;simp -dsimp -implicitDefEqProofs (disch:=omega) [h0,h1,h2,hp,h4,h5,h6',ho,hy,k0,k0',k1]
   simpa -dsimp -implicitDefEqProofs (disch:=omega) using hT
  obtain rfl:yk=vk:=k1.symm;clear k1
  by_cases k2:op=4
  case neg=>
   rw[yac (by omega)]
   have k2': ¬ (op:Int)=4:=by omega
   refine rg b68 rfl ?_;intro T hT;simp -dsimp -implicitDefEqProofs (disch:=omega) [h0,h1,h2,hp,h4,h5,h6',ho,hy,k0,k0',k2']
   simpa -dsimp -implicitDefEqProofs (disch:=omega) using hT
  subst k2
  by_cases k3:vk=3
  ·rw[yac (by omega)]
   subst k3;simp only[i3]at ho hy;refine rg b68 rfl ?_;intro T hT;simp -dsimp -implicitDefEqProofs (disch:=omega) [hp,h4,h5,ho,hy]
   simpa -dsimp -implicitDefEqProofs (disch:=omega) using hT
  ·rw[yag (by omega)]
   have k3': ¬ (vk:Int)=3:=by omega
   refine rg b68 rfl ?_;intro T hT;simp -dsimp -implicitDefEqProofs (disch:=omega) [hp,h4,h5,ho,hy,k0,k0',k3,k3']
   simpa -dsimp -implicitDefEqProofs (disch:=omega) using hT
 rw[yac h2];rw[b2,yc6]at h2;clear hp ho
 by_cases c0:f=0
 case neg=>
  rw[yag (.inl c0)];refine rg b68 rfl ?_;intro T hT;simp -dsimp -implicitDefEqProofs (disch:=omega) [h0,h1,h2,c0]
  simpa -dsimp -implicitDefEqProofs (disch:=omega) using hT
 by_cases c1:vk=0
 case neg=>
  rw[yag (.inr (.inl (by simp[Cel.none,c1])))]
  have c1': ¬ (vk:Int)=0:=by omega
  refine rg b68 rfl ?_;intro T hT;simp -dsimp -implicitDefEqProofs (disch:=omega) [h0,h1,h2,c0,c1,c1']
  simpa -dsimp -implicitDefEqProofs (disch:=omega) using hT
 by_cases c2:vn=0
 case neg=>
  rw[yag (.inr (.inl (by simp[Cel.none,c2])))]
  refine rg b68 rfl ?_;intro T hT;simp -dsimp -implicitDefEqProofs (disch:=omega) [h0,h1,h2,c0,c1,c2]
  simpa -dsimp -implicitDefEqProofs (disch:=omega) using hT
 by_cases c3:vs0=noS
 case neg=>
  rw[yag (.inr (.inl (by simp[Cel.none,c3])))]
  have c3':=zvL c3;refine rg b68 rfl ?_;intro T hT;simp -dsimp -implicitDefEqProofs (disch:=omega) [h0,h1,h2,c0,c1,c2,c3,c3',zaS]
  simpa -dsimp -implicitDefEqProofs (disch:=omega) using hT
 subst c0 c1 c2 c3
 by_cases c4:op=8/\ks.length≠1
 ·rw[yag (.inr (.inr c4))]
  obtain⟨rfl,c4⟩:=c4;have c4': ¬ (ks.length:Int)=1:=by omega
  refine rg b68 rfl ?_;intro T hT;simp -dsimp -implicitDefEqProofs (disch:=omega) [c4,c4',zaS]
  simpa -dsimp -implicitDefEqProofs (disch:=omega) using hT
 rw[yac (by rintro (h | h | h);exact h rfl;exact h rfl;exact c4 h)]
 generalize ho:(op:Int)=o at*;have c6:o=8->((ks.length:Int)=1)=True:=λh=>by
  have:ks.length=1:=by omega
  simp[this]
 have h3:o=6\/o=7\/o=8:=by omega
 clear ho;rcases h3 with h3 | h3 | h3
 all_goals
  try replace c6:=c6 h3
  refine rg b68 rfl ?_;intro T hT;simp -dsimp -implicitDefEqProofs (disch:=omega) [zaS,h3,c6]
  generalize hz:zaf _ _ _ _ _ _=z;revert z;refine zaa (σ:=Nat) (λi=>[(2,.ptr 0 0),(3,.ptr 1 0),(5,.d (.int .i64 i))]) (λ_=>[.box [.d (.int .u8 o),.d (.int .u32 0),.d (.int .u8 0),.d (.int .i64 0),.d (.str noS),.d (.list (ks.map Prd.d))],.box [.d (.int .u32 sid),.d (.list (fs.map Fld.d))]]) (λi=>i<=ks.length/\ziV fs ks=ziV fs (ks.drop i)) (λi=>ks.length - i) 0 ?_ ?_ ?_
  ·exact⟨yai _,rfl⟩
  ·simp -dsimp -implicitDefEqProofs (disch:=omega) [h3]
  intro T' f' hT' i ⟨hi,hs⟩ ih2
  by_cases h4:i<ks.length
  ·rw[yao h4,ziV]at hs
   obtain⟨k,hk⟩: ∃k,ks[i]=k:=⟨_,rfl⟩;have hr:=ih k (hk ▸ yam h4);rw[hk]at hs;obtain⟨op',f1,v',ks'⟩:=k;rw[zar]at hr;generalize ziU fs (.node op' f1 v' ks')=z at*
   by_cases hz:z=0
   ·rw[yag hz]at hs
    subst hz;simp -dsimp -implicitDefEqProofs (disch:=omega) [h3,h4,hk,hr,zar]
    refine ih2 (i+1) _ _ ⟨h4,hs⟩ (by omega) ?_
    simp -dsimp -implicitDefEqProofs (disch:=omega) [h3]
   ·rw[yac hz]at hs
    have hz': ¬ (z:Int)=0:=by omega
    subst hT';rw[hs]at hT;simp -dsimp -implicitDefEqProofs (disch:=omega) [h3,h4,hk,hr,zar,hz,hz']
    simpa -dsimp -implicitDefEqProofs (disch:=omega) using hT
  ·rw[yaJ (by omega),ziV]at hs
   subst hT';rw[hs]at hT;simp -dsimp -implicitDefEqProofs (disch:=omega) [h3,h4]
   simpa -dsimp -implicitDefEqProofs (disch:=omega) using hT
def ztx (fs:List Fld) (p:Prd):Nat:=if szR p 1<=32 then ziU fs p else 90
def zqm (s:Sch) (hl:s.fields.length<1000000000) (p:Prd) (hp:p.wf):R 62 [.d p.d,.d s.d] []=some ([.d (.int .i64 (ztx s.fields p))],[]):=by
 have h1:R 111 [.d p.d,.d (.int .i64 1),.ptr 0 0] [.box [.d (.int .i64 0)]]=_:=zvI p hp 1 0 (by omega) (by omega)
 have h2:=ztw s hl p hp;have h3:=(zAG p 1 0 (by omega)).1
 rw[yaX]at h3;obtain⟨op,f,v,ks⟩:=p;obtain⟨sid,fs⟩:=s;unfold ztx;simp only[Sch.d]at h2 ⊢;generalize (szP (.node op f v ks) 1 0)=z at*;generalize szR (.node op f v ks) 1=y at*;generalize ziU fs (.node op f v ks)=c at*;rw[zar]at h1 h2 ⊢;obtain⟨zb,zn⟩:=z;simp only at h1 h3;cases zb with
 |true=>
  rw[yag (h3.1 rfl)];refine rg b62 rfl ?_;intro T hT;simp -dsimp -implicitDefEqProofs (disch:=omega) [h1,h2]
  simpa -dsimp -implicitDefEqProofs (disch:=omega) using hT
 |false=>
  rw[yac λh=>by have:=h3.2 h;cases this]
  refine rg b62 rfl ?_;intro T hT;simp -dsimp -implicitDefEqProofs (disch:=omega) [h1]
  simpa -dsimp -implicitDefEqProofs (disch:=omega) using hT
def zmX (s:Sch) (hl:s.fields.length<1000000000) (p:Prd) (hp:p.wf):R 21 [.d p.d,.d s.d] []=some ([.d (.int .i64 (ztx s.fields p))],[]):=by
 have h1:R 67 [.d p.d,.d (.int .i64 1)] []=_:=ztu p hp 1 (by omega)
 have h2:=zoG s hl p hp;obtain⟨op,f,v,ks⟩:=p;obtain⟨sid,fs⟩:=s;unfold ztx;simp only[Sch.d]at h2 ⊢;generalize szR (.node op f v ks) 1=y at*;generalize ziU fs (.node op f v ks)=c at*;rw[zar]at h1 h2 ⊢
 by_cases hy:y<=32
 ·rw[yag hy]
  have hy': ¬ (32:Int)<y:=by omega
  refine rg b21 rfl ?_;intro T hT;simp -dsimp -implicitDefEqProofs (disch:=omega) [h1,h2,hy']
  simpa -dsimp -implicitDefEqProofs (disch:=omega) using hT
 ·rw[yac hy]
  have hy':(32:Int)<y:=by omega
  refine rg b21 rfl ?_;intro T hT;simp -dsimp -implicitDefEqProofs (disch:=omega) [h1,hy']
  simpa -dsimp -implicitDefEqProofs (disch:=omega) using hT
end Go.Am.Ab
