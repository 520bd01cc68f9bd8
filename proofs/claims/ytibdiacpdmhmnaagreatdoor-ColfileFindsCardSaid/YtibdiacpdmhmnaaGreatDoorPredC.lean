/- What may be of a group. -/
import Derived.Test.YtibdiacpdmhmnaaGreatDoorPredB
import Derived.Test.YtibdiacpdmhmnaaGreatDoorBackA
set_option linter.all false
namespace Go.Am.Ab
open Go.Proofs
set_option maxHeartbeats 16000000
set_option maxRecDepth 4000
structure M3 where
 n:Bool
 u:Bool
 y:Bool
def M3.d (m:M3):D:= .agg [.bool m.n,.bool m.u,.bool m.y]
def boA (a b:M3):M3:=⟨(a.n && (b.n || b.u || b.y)) || ((a.u || a.y) && b.n),(a.u && (b.u || b.y)) || (a.y && b.u),a.y && b.y⟩
def boO (a b:M3):M3:=⟨a.n && b.n,(a.u && (b.n || b.u)) || (a.n && b.u),(a.y && (b.n || b.u || b.y)) || ((a.n || a.u) && b.y)⟩
def zt4 (a b:M3):R 115 [.d a.d,.d b.d,.d (.fn 113)] []=some ([.d (boA a b).d],[]):=by
 obtain⟨a1,a2,a3⟩:=a;obtain⟨b1,b2,b3⟩:=b;cases a1 <;> cases a2 <;> cases a3 <;> cases b1 <;> cases b2 <;> cases b3 <;> exact zae t0 100000 60 (by kernel_rfl)
def zt5 (a b:M3):R 115 [.d a.d,.d b.d,.d (.fn 114)] []=some ([.d (boO a b).d],[]):=by
 obtain⟨a1,a2,a3⟩:=a;obtain⟨b1,b2,b3⟩:=b;cases a1 <;> cases a2 <;> cases a3 <;> cases b1 <;> cases b2 <;> cases b3 <;> exact zae t0 100000 60 (by kernel_rfl)
structure Bd where
 nu:Nat
 has:Bool
 hi:Bool
 lo:Val
 hg:Val
def Bd.sta (b:Bd) (n:Nat):Sta:=⟨n,b.nu,b.has,b.hi,cellOf b.lo,cellOf b.hg⟩
structure BdOk (b:Bd):Prop where
 lo:chk (cellOf b.lo)=0
 hg:chk (cellOf b.hg)=0
def sgC:Val->Nat
 |.text s=>(sgs s).length
 |_=>0
def myL (op:Nat) (w:Val) (b:Bd):M3:=
 if op=5 then ⟨b.has,false,decide (0<b.nu)⟩ else
 if b.has=false then ⟨false,decide (0<b.nu),false⟩ else
 if op=1 then ⟨(!decide (w=b.lo) || (!b.hi || !decide (b.hg=w))) || decide ((4:Int)<=sgC w),decide (0<b.nu), !ltV w b.lo && (!b.hi || !ltV b.hg w)⟩ else
 if op=2 then ⟨!b.hi || !ltV b.hg w,decide (0<b.nu),ltV b.lo w⟩ else
 if op=3 then ⟨!b.hi || ltV w b.hg,decide (0<b.nu), !ltV w b.lo⟩ else ⟨true,decide (0<b.nu),true⟩
def zwJ (a b:Val):(0<=zht a b)=(ltV a b=false):=by
 have:=zmV a b;rw[<- ycb,<- this,Int.not_lt]
def zwK (a b:Val):(zht a b=0)=(a=b):=propext zoC
def zt6 {v:Val} (h:chk (cellOf v)=0):zaA (cellOf v)=v:=zfB (zky h)
def zng {v:Val} (h:chk (cellOf v)=0):R 156 [.d (cellOf v).d] []=some ([.d v.d,.d (.int .i64 0)],[]):=by
 have hk:=zbv h;have:=zmW (cellOf v) (by omega) (by omega)
 rw[zt6 h,h]at this;exact this
def zt7 (f:Int) (b:Bd) (n:Nat):R 117 [.d (Prd.node 5 f Cel.none []).d,.d (b.sta n).d] []=some ([.d (myL 5 .null b).d],[]):=by
 rw[myL,yag rfl,zar];obtain⟨nu,has,hi,lo,hg⟩:=b;simp only[Bd.sta,Sta.d,M3.d];refine rg zzn rfl ?_;intro T hT;simp -dsimp -implicitDefEqProofs (disch:=omega)
 simpa -dsimp -implicitDefEqProofs (disch:=omega) using hT
def zwL (op:Nat) (f:Int) (w:Val) (b:Bd) (n:Nat) (ho:op=1\/op=2\/op=3\/op=4) (hw:chk (cellOf w)=0) (hb:BdOk b):
 R 117 [.d (Prd.node op f (cellOf w) []).d,.d (b.sta n).d] []=some ([.d (myL op w b).d],[]):=by
 obtain⟨nu,has,hi,lo,hg⟩:=b;obtain⟨q1,q2⟩:=hb;simp only at q1 q2;have e5: ¬ op=5:=by omega
 have hof:=zng hw;have hlo:=zng q1;have hhg:=zng q2;have hwt:(∃s,w= .text s/\R 141 [.d (.str s)] []=some ([.d (.int .i64 (sgC w))],[])/\w.d= .iface 9 (.str s))\/(sgC w=0/\(w.d= .nilI\/ ∃t x,w.d= .iface t x/\t≠9)):=by
  cases w with
  |text s=>exact .inl ⟨s,rfl,zlD s (by have:=(zbv hw).2.2.2.2;have:s.size<=64:=this;omega),rfl⟩
  |null=>exact .inr ⟨rfl,.inl rfl⟩
  |whole m=>exact .inr ⟨rfl,.inr ⟨_,_,rfl,by decide⟩⟩
  |truth m=>exact .inr ⟨rfl,.inr ⟨_,_,rfl,by decide⟩⟩
 have hc1:=zc2 w lo;have hc2:=zc2 hg w;have z1:=zwJ w lo;have z2:=zjb w lo;have z3:=zwK w lo;have y1:=zwJ hg w;have y2:=zjb hg w;have y3:=zwK hg w;unfold myL;simp only;rw[yac e5,zar];simp only[Bd.sta,Sta.d,Cel.d]at hof hlo hhg ⊢;generalize (cellOf w).kind=ck at*;generalize (cellOf w).n=cn at*;generalize (cellOf w).s=cs at*;generalize (cellOf lo).kind=lk at*;generalize (cellOf lo).n=ln at*;generalize (cellOf lo).s=ls at*;generalize (cellOf hg).kind=hk at*;generalize (cellOf hg).n=hn at*;generalize (cellOf hg).s=hs at*;cases has with
 |false=>
  rw[yag rfl];simp only[M3.d];rcases ho with rfl | rfl | rfl | rfl
  all_goals
   refine rg zzn rfl ?_;intro T hT;simp -dsimp -implicitDefEqProofs (disch:=omega)
   simpa -dsimp -implicitDefEqProofs (disch:=omega) using hT
 |true=>
 rw[yac (by decide)]
 generalize zht w lo=c1 at*;generalize zht hg w=c2 at*;generalize hd1:decide (w=lo)=d1 at*;generalize hd2:decide (hg=w)=d2 at*;replace z3:(c1=0)=(d1=true):=by rw[z3,<- hd1];simp
 replace y3:(c2=0)=(d2=true):=by rw[y3,<- hd2];simp
 generalize ltV w lo=l1 at*;generalize ltV lo w=l2 at*;generalize ltV hg w=l3 at*;generalize ltV w hg=l4 at*;generalize lo.d=lod at*;generalize hg.d=hgd at*;generalize hsc:sgC w=sc at*;rcases hwt with ⟨s,-,hct,hwd⟩ | ⟨hz,hwd⟩
 ·rw[hwd]at hof hc1 hc2
  rcases ho with rfl | rfl | rfl | rfl
  ·cases l1
   all_goals cases d1
   all_goals cases hi
   all_goals try cases d2
   all_goals
    simp only[M3.d];refine rg zzn rfl ?_;intro T hT;simp -dsimp -implicitDefEqProofs (disch:=omega) [hof,hlo,hhg,hc1,hc2,hct,z1,z2,z3,y1,y2,y3]
    simpa -dsimp -implicitDefEqProofs (disch:=omega) using hT
  all_goals cases hi
  all_goals
   simp only[M3.d];refine rg zzn rfl ?_;intro T hT;simp -dsimp -implicitDefEqProofs (disch:=omega) [hof,hlo,hhg,hc1,hc2,hct,z1,z2,z3,y1,y2,y3]
   simpa -dsimp -implicitDefEqProofs (disch:=omega) using hT
 ·subst hz
  obtain⟨y,hy,hyd⟩: ∃y,y=w.d/\((y= .nilI/\ ¬ (1:Nat)=2)\/ ∃t x,y= .iface t x/\t≠9):=⟨_,rfl,hwd.imp (λh=>⟨h,by decide⟩) id⟩
  rw[<- hy]at hof hc1 hc2;clear hwd hy;rcases hyd with ⟨rfl,ht⟩ | ⟨t,x,rfl,ht⟩
  ·rcases ho with rfl | rfl | rfl | rfl
   ·cases l1
    all_goals cases d1
    all_goals cases hi
    all_goals try cases d2
    all_goals
     simp only[M3.d];refine rg zzn rfl ?_;intro T hT;simp -dsimp -implicitDefEqProofs (disch:=omega) [hof,hlo,hhg,hc1,hc2,ht,z1,z2,z3,y1,y2,y3]
     simpa -dsimp -implicitDefEqProofs (disch:=omega) using hT
   all_goals cases hi
   all_goals
    simp only[M3.d];refine rg zzn rfl ?_;intro T hT;simp -dsimp -implicitDefEqProofs (disch:=omega) [hof,hlo,hhg,hc1,hc2,ht,z1,z2,z3,y1,y2,y3]
    simpa -dsimp -implicitDefEqProofs (disch:=omega) using hT
  ·rcases ho with rfl | rfl | rfl | rfl
   ·cases l1
    all_goals cases d1
    all_goals cases hi
    all_goals try cases d2
    all_goals
     simp only[M3.d];refine rg zzn rfl ?_;intro T hT;simp -dsimp -implicitDefEqProofs (disch:=omega) [hof,hlo,hhg,hc1,hc2,ht,z1,z2,z3,y1,y2,y3]
     simpa -dsimp -implicitDefEqProofs (disch:=omega) using hT
   all_goals cases hi
   all_goals
    simp only[M3.d];refine rg zzn rfl ?_;intro T hT;simp -dsimp -implicitDefEqProofs (disch:=omega) [hof,hlo,hhg,hc1,hc2,ht,z1,z2,z3,y1,y2,y3]
    simpa -dsimp -implicitDefEqProofs (disch:=omega) using hT
end Go.Am.Ab
namespace Go.Am.Ab
open Go.Proofs
set_option maxHeartbeats 16000000
set_option maxRecDepth 4000
def M3.flip (m:M3):M3:=⟨m.y,m.u,m.n⟩
def bd0:Bd:=⟨0,false,false,.null,.null⟩
mutual
def myP (fs:List Fld) (B:List Bd):Prd->M3
 |.node op f v ks=>if op=6 then myA fs B ks ⟨false,false,true⟩ else if op=7 then myO fs B ks ⟨true,false,false⟩ else if op=8 then (myH fs B ks).flip else myL op (zaA v) (B.getD (plc f fs 0).toNat bd0)
def myA (fs:List Fld) (B:List Bd):List Prd->M3->M3
 |[],n=>n
 |k::ks,n=>myA fs B ks (boA n (myP fs B k))
def myO (fs:List Fld) (B:List Bd):List Prd->M3->M3
 |[],n=>n
 |k::ks,n=>myO fs B ks (boO n (myP fs B k))
def myH (fs:List Fld) (B:List Bd):List Prd->M3
 |[]=>⟨false,true,false⟩
 |k::_=>myP fs B k
end
def zyJ (s:Sch) (hl:s.fields.length<1000000000) (B:List Bd) (hB:B.length=s.fields.length) (hbd: ∀b∈B,BdOk b) (n:Nat):
 ∀p:Prd,p.wf->ziU s.fields p=0->R 63 [.d p.d,.d s.d,.d (.list (B.map λb=>(b.sta n).d))] []=some ([.d (myP s.fields B p).d],[]):=by
 have hp:=λf=>zgo s f hl
 obtain⟨sid,fs⟩:=s;simp only at hl hB;simp only[Sch.d]at hp ⊢;obtain⟨Y,hY⟩: ∃Y,Y=B.map λb=>(b.sta n).d:=⟨_,rfl⟩
 have hYl:Y.length=B.length:=by rw[hY,yah]
 have hat: ∀j (h:j<B.length),Y[j]? =some ((B.getD j bd0).sta n).d:=λj h=>by
  rw[hY,yau,yak h,show B.getD j bd0=B[j] by simp[yas,h]];rfl
 have hok: ∀j (h:j<B.length),BdOk (B.getD j bd0):=λj h=>by
  rw[show B.getD j bd0=B[j] by simp[yas,h]];exact hbd _ (yam h)
 rw[<- hY];refine Prd.indC (λks hkm ih=> ?_) (λks hkm ih=> ?_) (λk ih=> ?_) (λf j h1 h2=> ?_) (λop f j w ho h1 h2 hw0 hwk h4 hv hc=> ?_)
 ·rw[zar,myP,yag rfl]
  simp only[Cel.none];refine rg b63 rfl ?_;intro T hT;simp -dsimp -implicitDefEqProofs (disch:=omega)
  generalize hz:zaf _ _ _ _ _ _=z;revert z;refine zaa (σ:=Nat × M3) (λx=>[(2,.d (.list Y)),(4,.ptr 0 0),(6,.ptr 1 0),(7,.d (.fn 113)),(9,.ptr 2 0),(26,.d (.list (ks.map Prd.d))),(27,.d (.int .i64 ks.length)),(28,.d (.int .i64 x.1))]) (λx=>[.box [.d (.int .u32 sid),.d (.list (fs.map Fld.d))],.box [.d (.bool false),.d (.bool false),.d (.bool false)],.box [.d (.bool x.2.n),.d (.bool x.2.u),.d (.bool x.2.y)]]) (λx=>x.1<=ks.length/\myA fs B ks ⟨false,false,true⟩=myA fs B (ks.drop x.1) x.2) (λx=>ks.length - x.1) (0,⟨false,false,true⟩) ?_ ?_ ?_
  ·exact⟨yai _,rfl⟩
  ·simp -dsimp -implicitDefEqProofs (disch:=omega)
  intro T' f' hT' ⟨i,m⟩ ⟨hi,hs⟩ ih2;simp only at hi hs ih2
  by_cases h4:i<ks.length
  ·rw[yao h4,myA]at hs
   obtain⟨k,hk⟩: ∃k,ks[i]=k:=⟨_,rfl⟩;have hr1:=ih k (hk ▸ yam h4);rw[hk]at hs;obtain⟨op',f1,v',ks'⟩:=k;rw[zar]at hr1;generalize myP fs B (.node op' f1 v' ks')=e at*;have hop:=zt4 m e;generalize boA m e=m' at*;obtain⟨a1,a2,a3⟩:=m;obtain⟨b1,b2,b3⟩:=e;obtain⟨c1,c2,c3⟩:=m';simp only[M3.d]at hop hr1;simp -dsimp -implicitDefEqProofs (disch:=omega) [h4,hk,hr1,zar,hop]
   refine ih2 (i+1,⟨c1,c2,c3⟩) _ _ ⟨h4,hs⟩ (by simp only;omega) ?_
   simp -dsimp -implicitDefEqProofs (disch:=omega)
  ·rw[yaJ (by omega),myA]at hs
   subst hT';rw[hs]at hT;simp only[M3.d]at hT;simp -dsimp -implicitDefEqProofs (disch:=omega) [h4]
   simpa -dsimp -implicitDefEqProofs (disch:=omega) using hT
 ·rw[zar,myP,yac (by omega),yag rfl]
  simp only[Cel.none];refine rg b63 rfl ?_;intro T hT;simp -dsimp -implicitDefEqProofs (disch:=omega)
  generalize hz:zaf _ _ _ _ _ _=z;revert z;refine zaa (σ:=Nat × M3) (λx=>[(2,.d (.list Y)),(4,.ptr 0 0),(6,.ptr 1 0),(7,.d (.fn 114)),(9,.ptr 2 0),(26,.d (.list (ks.map Prd.d))),(27,.d (.int .i64 ks.length)),(28,.d (.int .i64 x.1))]) (λx=>[.box [.d (.int .u32 sid),.d (.list (fs.map Fld.d))],.box [.d (.bool false),.d (.bool false),.d (.bool false)],.box [.d (.bool x.2.n),.d (.bool x.2.u),.d (.bool x.2.y)]]) (λx=>x.1<=ks.length/\myO fs B ks ⟨true,false,false⟩=myO fs B (ks.drop x.1) x.2) (λx=>ks.length - x.1) (0,⟨true,false,false⟩) ?_ ?_ ?_
  ·exact⟨yai _,rfl⟩
  ·simp -dsimp -implicitDefEqProofs (disch:=omega)
  intro T' f' hT' ⟨i,m⟩ ⟨hi,hs⟩ ih2;simp only at hi hs ih2
  by_cases h4:i<ks.length
  ·rw[yao h4,myO]at hs
   obtain⟨k,hk⟩: ∃k,ks[i]=k:=⟨_,rfl⟩;have hr1:=ih k (hk ▸ yam h4);rw[hk]at hs;obtain⟨op',f1,v',ks'⟩:=k;rw[zar]at hr1;generalize myP fs B (.node op' f1 v' ks')=e at*;have hop:=zt5 m e;generalize boO m e=m' at*;obtain⟨a1,a2,a3⟩:=m;obtain⟨b1,b2,b3⟩:=e;obtain⟨c1,c2,c3⟩:=m';simp only[M3.d]at hop hr1;simp -dsimp -implicitDefEqProofs (disch:=omega) [h4,hk,hr1,zar,hop]
   refine ih2 (i+1,⟨c1,c2,c3⟩) _ _ ⟨h4,hs⟩ (by simp only;omega) ?_
   simp -dsimp -implicitDefEqProofs (disch:=omega)
  ·rw[yaJ (by omega),myO]at hs
   subst hT';rw[hs]at hT;simp only[M3.d]at hT;simp -dsimp -implicitDefEqProofs (disch:=omega) [h4]
   simpa -dsimp -implicitDefEqProofs (disch:=omega) using hT
 ·rw[zar,myP,yac (by omega),yac (by omega),yag rfl,myH]
  simp only[Cel.none];obtain⟨op',f1,v',ks'⟩:=k;rw[zar]at ih;generalize myP fs B (.node op' f1 v' ks')=e at*;obtain⟨b1,b2,b3⟩:=e;simp only[M3.flip,M3.d]at ih ⊢;refine rg b63 rfl ?_;intro T hT;simp -dsimp -implicitDefEqProofs (disch:=omega) [ih,zar]
  simpa -dsimp -implicitDefEqProofs (disch:=omega) using hT
 ·have hp:=hp f
  have ha:=hat j (by omega)
  have hm:=zt7 f (B.getD j bd0) n;rw[h1]at hp;have e1: ¬ (j:Int)<0:=by omega
  have e2:(0:Int)<=j:=by omega
  have e3:j<Y.length:=by omega
  have e4: ¬ B.length<=j:=by omega
  have e5: ¬ fs.length<=j:=by omega
  rw[yac e1]at hp;rw[myP,yac (by omega),yac (by omega),yac (by omega),h1,yat,show zaA Cel.none= .null from rfl]
  have ha2:Y[j]=((B.getD j bd0).sta n).d:=by rw[yak e3]at ha;exact yaN ha
  generalize B.getD j bd0=b at*;generalize myL 5 .null b=e at*;obtain⟨b1,b2,b3⟩:=e;obtain⟨nu,has,hi,lo,hg⟩:=b;rw[zar]at hm ⊢;simp only[Bd.sta,Sta.d,M3.d,Cel.none,ybX,show ((5:Nat):Int)=5 from rfl,show ((0:Nat):Int)=0 from rfl]at hm ha2 ⊢
  refine rg b63 rfl ?_;intro T hT;simp -dsimp -implicitDefEqProofs (disch:=omega) [hp,e2,e3,e4,e5,hB,hYl,ha2,hm]
  simpa -dsimp -implicitDefEqProofs (disch:=omega) using hT
 ·have hp:=hp f
  have ha:=hat j (by omega)
  have hm:=zwL op f w (B.getD j bd0) n ho hc (hok j (by omega))
  rw[h1]at hp;have e1: ¬ (j:Int)<0:=by omega
  have e2:(0:Int)<=j:=by omega
  have e3:j<Y.length:=by omega
  have e4: ¬ B.length<=j:=by omega
  have e5: ¬ fs.length<=j:=by omega
  rw[yac e1]at hp;rw[myP,yac (by omega),yac (by omega),yac (by omega),h1,yat,hv]
  have ha2:Y[j]=((B.getD j bd0).sta n).d:=by rw[yak e3]at ha;exact yaN ha
  generalize B.getD j bd0=b at*;generalize myL op w b=e at*;obtain⟨b1,b2,b3⟩:=e;obtain⟨nu,has,hi,lo,hg⟩:=b;rw[zar]at hm ⊢;simp only[Bd.sta,Sta.d,M3.d,ybX]at hm ha2 ⊢;generalize ho':(op:Int)=o at*;have n6: ¬ o=6:=by omega
  have n7: ¬ o=7:=by omega
  have n8: ¬ o=8:=by omega
  refine rg b63 rfl ?_;intro T hT;simp -dsimp -implicitDefEqProofs (disch:=omega) [hp,e2,e3,e4,e5,hB,hYl,ha2,hm,n6,n7,n8]
  simpa -dsimp -implicitDefEqProofs (disch:=omega) using hT
end Go.Am.Ab
namespace Go.Am.Ab
open Go.Proofs
set_option maxHeartbeats 16000000
set_option maxRecDepth 4000
def M3.at (m:M3):Nat->Bool
 |0=>m.n
 |1=>m.u
 |_=>m.y
def M3.put (m:M3):Nat->M3
 |0=>⟨true,m.u,m.y⟩
 |1=>⟨m.n,true,m.y⟩
 |_=>⟨m.n,m.u,true⟩
def stQ (f:Nat->Nat->Nat) (m e:M3):Nat->M3
 |0=>⟨false,false,false⟩
 |q+1=>if m.at (q / 3) && e.at (q % 3) then (stQ f m e q).put (f (q / 3) (q % 3)) else stQ f m e q
def zIh (m e:M3):stQ min m e 9=boA m e:=by
 obtain⟨a1,a2,a3⟩:=m;obtain⟨b1,b2,b3⟩:=e;cases a1 <;> cases a2 <;> cases a3 <;> cases b1 <;> cases b2 <;> cases b3 <;> rfl
def zIi (m e:M3):stQ max m e 9=boO m e:=by
 obtain⟨a1,a2,a3⟩:=m;obtain⟨b1,b2,b3⟩:=e;cases a1 <;> cases a2 <;> cases a3 <;> cases b1 <;> cases b2 <;> cases b3 <;> rfl
def zyK (s:Sch) (hl:s.fields.length<1000000000) (B:List Bd) (hB:B.length=s.fields.length) (hbd: ∀b∈B,BdOk b) (n:Nat):
 ∀p:Prd,p.wf->ziU s.fields p=0->R 66 [.d p.d,.d s.d,.d (.list (B.map λb=>(b.sta n).d))] []=some ([.d (myP s.fields B p).d],[]):=by
 have hp:=λf=>zgn s f hl
 obtain⟨sid,fs⟩:=s;simp only at hl hB;simp only[Sch.d]at hp ⊢;obtain⟨Y,hY⟩: ∃Y,Y=B.map λb=>(b.sta n).d:=⟨_,rfl⟩
 have hYl:Y.length=B.length:=by rw[hY,yah]
 have hat: ∀j (h:j<B.length),Y[j]? =some ((B.getD j bd0).sta n).d:=λj h=>by
  rw[hY,yau,yak h,show B.getD j bd0=B[j] by simp[yas,h]];rfl
 have hok: ∀j (h:j<B.length),BdOk (B.getD j bd0):=λj h=>by
  rw[show B.getD j bd0=B[j] by simp[yas,h]];exact hbd _ (yam h)
 rw[<- hY];refine Prd.indC (λks hkm ih=> ?_) (λks hkm ih=> ?_) (λk ih=> ?_) (λf j h1 h2=> ?_) (λop f j w ho h1 h2 hw0 hwk h4 hv hc=> ?_)
 ·rw[zar,myP,yag rfl]
  simp only[Cel.none];refine rg b66 rfl ?_;intro T hT;simp -dsimp -implicitDefEqProofs (disch:=omega)
  generalize hz:zaf _ _ _ _ _ _=z;revert z;refine zaa (σ:=Nat × M3) (λx=>[(2,.d (.list Y)),(3,.ptr 0 0),(4,.ptr 1 0),(6,.ptr 2 0),(7,.ptr 3 0),(8,.d (.int .i64 x.1))]) (λx=>[.box [.d (.int .u8 6),.d (.int .u32 0),.d (.int .u8 0),.d (.int .i64 0),.d (.str noS),.d (.list (ks.map Prd.d))],.box [.d (.int .u32 sid),.d (.list (fs.map Fld.d))],.box [.d (.bool false),.d (.bool false),.d (.bool false)],.box [.d (.bool x.2.n),.d (.bool x.2.u),.d (.bool x.2.y)]]) (λx=>x.1<=ks.length/\myA fs B ks ⟨false,false,true⟩=myA fs B (ks.drop x.1) x.2) (λx=>ks.length - x.1) (0,⟨false,false,true⟩) ?_ ?_ ?_
  ·exact⟨yai _,rfl⟩
  ·simp -dsimp -implicitDefEqProofs (disch:=omega)
  intro T' f' hT' ⟨i,m⟩ ⟨hi,hs⟩ ih2;simp only at hi hs ih2
  by_cases h4:i<ks.length
  case neg=>
   rw[yaJ (by omega),myA]at hs
   subst hT';rw[hs]at hT;simp only[M3.d]at hT;simp -dsimp -implicitDefEqProofs (disch:=omega) [h4]
   simpa -dsimp -implicitDefEqProofs (disch:=omega) using hT
  rw[yao h4,myA]at hs;obtain⟨k,hk⟩: ∃k,ks[i]=k:=⟨_,rfl⟩;have hr1:=ih k (hk ▸ yam h4);rw[hk]at hs;obtain⟨op',f1,v',ks'⟩:=k;rw[zar]at hr1;generalize myP fs B (.node op' f1 v' ks')=e at*;rw[<- zIh]at hs;obtain⟨m1,m2,m3⟩:=m;obtain⟨e1,e2,e3⟩:=e;simp only[M3.d]at hr1;simp -dsimp -implicitDefEqProofs (disch:=omega) [h4,hk,hr1,zar]
  generalize hz:zaf _ _ _ _ _ _=z;revert z;refine zaa (σ:=Nat × M3) (λa=>[(2,.d (.list Y)),(3,.ptr 0 0),(4,.ptr 1 0),(6,.ptr 2 0),(7,.ptr 3 0),(8,.d (.int .i64 i)),(9,.ptr 4 0),(10,.ptr 5 0),(11,.d (.int .i64 a.1))]) (λa=>[.box [.d (.int .u8 6),.d (.int .u32 0),.d (.int .u8 0),.d (.int .i64 0),.d (.str noS),.d (.list (ks.map Prd.d))],.box [.d (.int .u32 sid),.d (.list (fs.map Fld.d))],.box [.d (.bool false),.d (.bool false),.d (.bool false)],.box [.d (.bool m1),.d (.bool m2),.d (.bool m3)],.box [.d (.bool e1),.d (.bool e2),.d (.bool e3)],.box [.d (.bool a.2.n),.d (.bool a.2.u),.d (.bool a.2.y)]]) (λa=>a.1<=3/\a.2=(stQ min ⟨m1,m2,m3⟩ ⟨e1,e2,e3⟩ (3*a.1))) (λa=>3 - a.1) (0,⟨false,false,false⟩) ?_ ?_ ?_
  ·exact⟨yai _,rfl⟩
  ·simp -dsimp -implicitDefEqProofs (disch:=omega)
  intro T2 f2 hT2 ⟨a,x⟩ ⟨ha,hx⟩ ih3;simp only at ha hx ih3
  by_cases ha3:a=3
  ·subst ha3 hT2
   rw[show 3*3=9 from rfl]at hx
   rw[<- hx]at hs;obtain⟨x1,x2,x3⟩:=x;simp -dsimp -implicitDefEqProofs (disch:=omega)
   refine ih2 (i+1,⟨x1,x2,x3⟩) _ _ ⟨h4,hs⟩ (by simp only;omega) ?_
   simp -dsimp -implicitDefEqProofs (disch:=omega)
  have ha4:a=0\/a=1\/a=2:=by omega
  clear hs hr1;rcases ha4 with rfl | rfl | rfl
  ·obtain⟨x1,x2,x3⟩:=x
   simp -dsimp -implicitDefEqProofs (disch:=omega)
   generalize hz:zaf _ _ _ _ _ _=z;revert z;refine zaa (σ:=Nat × M3) (λb=>[(2,.d (.list Y)),(3,.ptr 0 0),(4,.ptr 1 0),(6,.ptr 2 0),(7,.ptr 3 0),(8,.d (.int .i64 i)),(9,.ptr 4 0),(10,.ptr 5 0),(11,.d (.int .i64 0)),(12,.d (.int .i64 b.1))]) (λb=>[.box [.d (.int .u8 6),.d (.int .u32 0),.d (.int .u8 0),.d (.int .i64 0),.d (.str noS),.d (.list (ks.map Prd.d))],.box [.d (.int .u32 sid),.d (.list (fs.map Fld.d))],.box [.d (.bool false),.d (.bool false),.d (.bool false)],.box [.d (.bool m1),.d (.bool m2),.d (.bool m3)],.box [.d (.bool e1),.d (.bool e2),.d (.bool e3)],.box [.d (.bool b.2.n),.d (.bool b.2.u),.d (.bool b.2.y)]]) (λb=>b.1<=3/\b.2=(stQ min ⟨m1,m2,m3⟩ ⟨e1,e2,e3⟩ (0+b.1))) (λb=>3 - b.1) (0,⟨x1,x2,x3⟩) ?_ ?_ ?_
   ·exact⟨yai _,hx⟩
   ·simp -dsimp -implicitDefEqProofs (disch:=omega)
   intro T4 f4 hT4 ⟨b,y⟩ ⟨hb,hy⟩ ih4;simp only at hb hy ih4;obtain⟨y1,y2,y3⟩:=y;have hy2: ∀q,q=0+b->stQ min ⟨m1,m2,m3⟩ ⟨e1,e2,e3⟩ (q+1)=if M3.at ⟨m1,m2,m3⟩ (q / 3) && M3.at ⟨e1,e2,e3⟩ (q % 3) then M3.put ⟨y1,y2,y3⟩ (min (q / 3) (q % 3)) else ⟨y1,y2,y3⟩:=λq h=>by rw[hy,<- h];rfl
   have hb4:b=0\/b=1\/b=2\/b=3:=by omega
   rcases hb4 with rfl | rfl | rfl | rfl
   case inr.inr.inr=>
    subst hT4;simp -dsimp -implicitDefEqProofs (disch:=omega)
    refine ih3 (1,⟨y1,y2,y3⟩) _ _ ⟨by simp only;omega,hy⟩ (by simp only;omega) ?_
    simp -dsimp -implicitDefEqProofs (disch:=omega)
   ·have hy3:=hy2 0 rfl
    cases m1 with
    |false=>
     simp -dsimp -implicitDefEqProofs (disch:=omega)
     refine ih4 (1,⟨y1,y2,y3⟩) _ _ ⟨by simp only;omega,hy3.symm⟩ (by simp only;omega) ?_
     simp -dsimp -implicitDefEqProofs (disch:=omega)
    |true=>
     cases e1 with
     |false=>
      simp -dsimp -implicitDefEqProofs (disch:=omega)
      refine ih4 (1,⟨y1,y2,y3⟩) _ _ ⟨by simp only;omega,hy3.symm⟩ (by simp only;omega) ?_
      simp -dsimp -implicitDefEqProofs (disch:=omega)
     |true=>
      simp -dsimp -implicitDefEqProofs (disch:=omega)
      refine ih4 (1,M3.put ⟨y1,y2,y3⟩ 0) _ _ ⟨by simp only;omega,hy3.symm⟩ (by simp only;omega) ?_
      simp -dsimp -implicitDefEqProofs (disch:=omega) [M3.put]
   ·have hy3:=hy2 1 rfl
    cases m1 with
    |false=>
     simp -dsimp -implicitDefEqProofs (disch:=omega)
     refine ih4 (2,⟨y1,y2,y3⟩) _ _ ⟨by simp only;omega,hy3.symm⟩ (by simp only;omega) ?_
     simp -dsimp -implicitDefEqProofs (disch:=omega)
    |true=>
     cases e2 with
     |false=>
      simp -dsimp -implicitDefEqProofs (disch:=omega)
      refine ih4 (2,⟨y1,y2,y3⟩) _ _ ⟨by simp only;omega,hy3.symm⟩ (by simp only;omega) ?_
      simp -dsimp -implicitDefEqProofs (disch:=omega)
     |true=>
      simp -dsimp -implicitDefEqProofs (disch:=omega)
      refine ih4 (2,M3.put ⟨y1,y2,y3⟩ 0) _ _ ⟨by simp only;omega,hy3.symm⟩ (by simp only;omega) ?_
      simp -dsimp -implicitDefEqProofs (disch:=omega) [M3.put]
   ·have hy3:=hy2 2 rfl
    cases m1 with
    |false=>
     simp -dsimp -implicitDefEqProofs (disch:=omega)
     refine ih4 (3,⟨y1,y2,y3⟩) _ _ ⟨by simp only;omega,hy3.symm⟩ (by simp only;omega) ?_
     simp -dsimp -implicitDefEqProofs (disch:=omega)
    |true=>
     cases e3 with
     |false=>
      simp -dsimp -implicitDefEqProofs (disch:=omega)
      refine ih4 (3,⟨y1,y2,y3⟩) _ _ ⟨by simp only;omega,hy3.symm⟩ (by simp only;omega) ?_
      simp -dsimp -implicitDefEqProofs (disch:=omega)
     |true=>
      simp -dsimp -implicitDefEqProofs (disch:=omega)
      refine ih4 (3,M3.put ⟨y1,y2,y3⟩ 0) _ _ ⟨by simp only;omega,hy3.symm⟩ (by simp only;omega) ?_
      simp -dsimp -implicitDefEqProofs (disch:=omega) [M3.put]
  ·obtain⟨x1,x2,x3⟩:=x
   simp -dsimp -implicitDefEqProofs (disch:=omega)
   generalize hz:zaf _ _ _ _ _ _=z;revert z;refine zaa (σ:=Nat × M3) (λb=>[(2,.d (.list Y)),(3,.ptr 0 0),(4,.ptr 1 0),(6,.ptr 2 0),(7,.ptr 3 0),(8,.d (.int .i64 i)),(9,.ptr 4 0),(10,.ptr 5 0),(11,.d (.int .i64 1)),(12,.d (.int .i64 b.1))]) (λb=>[.box [.d (.int .u8 6),.d (.int .u32 0),.d (.int .u8 0),.d (.int .i64 0),.d (.str noS),.d (.list (ks.map Prd.d))],.box [.d (.int .u32 sid),.d (.list (fs.map Fld.d))],.box [.d (.bool false),.d (.bool false),.d (.bool false)],.box [.d (.bool m1),.d (.bool m2),.d (.bool m3)],.box [.d (.bool e1),.d (.bool e2),.d (.bool e3)],.box [.d (.bool b.2.n),.d (.bool b.2.u),.d (.bool b.2.y)]]) (λb=>b.1<=3/\b.2=(stQ min ⟨m1,m2,m3⟩ ⟨e1,e2,e3⟩ (3+b.1))) (λb=>3 - b.1) (0,⟨x1,x2,x3⟩) ?_ ?_ ?_
   ·exact⟨yai _,hx⟩
   ·simp -dsimp -implicitDefEqProofs (disch:=omega)
   intro T4 f4 hT4 ⟨b,y⟩ ⟨hb,hy⟩ ih4;simp only at hb hy ih4;obtain⟨y1,y2,y3⟩:=y;have hy2: ∀q,q=3+b->stQ min ⟨m1,m2,m3⟩ ⟨e1,e2,e3⟩ (q+1)=if M3.at ⟨m1,m2,m3⟩ (q / 3) && M3.at ⟨e1,e2,e3⟩ (q % 3) then M3.put ⟨y1,y2,y3⟩ (min (q / 3) (q % 3)) else ⟨y1,y2,y3⟩:=λq h=>by rw[hy,<- h];rfl
   have hb4:b=0\/b=1\/b=2\/b=3:=by omega
   rcases hb4 with rfl | rfl | rfl | rfl
   case inr.inr.inr=>
    subst hT4;simp -dsimp -implicitDefEqProofs (disch:=omega)
    refine ih3 (2,⟨y1,y2,y3⟩) _ _ ⟨by simp only;omega,hy⟩ (by simp only;omega) ?_
    simp -dsimp -implicitDefEqProofs (disch:=omega)
   ·have hy3:=hy2 3 rfl
    cases m2 with
    |false=>
     simp -dsimp -implicitDefEqProofs (disch:=omega)
     refine ih4 (1,⟨y1,y2,y3⟩) _ _ ⟨by simp only;omega,hy3.symm⟩ (by simp only;omega) ?_
     simp -dsimp -implicitDefEqProofs (disch:=omega)
    |true=>
     cases e1 with
     |false=>
      simp -dsimp -implicitDefEqProofs (disch:=omega)
      refine ih4 (1,⟨y1,y2,y3⟩) _ _ ⟨by simp only;omega,hy3.symm⟩ (by simp only;omega) ?_
      simp -dsimp -implicitDefEqProofs (disch:=omega)
     |true=>
      simp -dsimp -implicitDefEqProofs (disch:=omega)
      refine ih4 (1,M3.put ⟨y1,y2,y3⟩ 0) _ _ ⟨by simp only;omega,hy3.symm⟩ (by simp only;omega) ?_
      simp -dsimp -implicitDefEqProofs (disch:=omega) [M3.put]
   ·have hy3:=hy2 4 rfl
    cases m2 with
    |false=>
     simp -dsimp -implicitDefEqProofs (disch:=omega)
     refine ih4 (2,⟨y1,y2,y3⟩) _ _ ⟨by simp only;omega,hy3.symm⟩ (by simp only;omega) ?_
     simp -dsimp -implicitDefEqProofs (disch:=omega)
    |true=>
     cases e2 with
     |false=>
      simp -dsimp -implicitDefEqProofs (disch:=omega)
      refine ih4 (2,⟨y1,y2,y3⟩) _ _ ⟨by simp only;omega,hy3.symm⟩ (by simp only;omega) ?_
      simp -dsimp -implicitDefEqProofs (disch:=omega)
     |true=>
      simp -dsimp -implicitDefEqProofs (disch:=omega)
      refine ih4 (2,M3.put ⟨y1,y2,y3⟩ 1) _ _ ⟨by simp only;omega,hy3.symm⟩ (by simp only;omega) ?_
      simp -dsimp -implicitDefEqProofs (disch:=omega) [M3.put]
   ·have hy3:=hy2 5 rfl
    cases m2 with
    |false=>
     simp -dsimp -implicitDefEqProofs (disch:=omega)
     refine ih4 (3,⟨y1,y2,y3⟩) _ _ ⟨by simp only;omega,hy3.symm⟩ (by simp only;omega) ?_
     simp -dsimp -implicitDefEqProofs (disch:=omega)
    |true=>
     cases e3 with
     |false=>
      simp -dsimp -implicitDefEqProofs (disch:=omega)
      refine ih4 (3,⟨y1,y2,y3⟩) _ _ ⟨by simp only;omega,hy3.symm⟩ (by simp only;omega) ?_
      simp -dsimp -implicitDefEqProofs (disch:=omega)
     |true=>
      simp -dsimp -implicitDefEqProofs (disch:=omega)
      refine ih4 (3,M3.put ⟨y1,y2,y3⟩ 1) _ _ ⟨by simp only;omega,hy3.symm⟩ (by simp only;omega) ?_
      simp -dsimp -implicitDefEqProofs (disch:=omega) [M3.put]
  ·obtain⟨x1,x2,x3⟩:=x
   simp -dsimp -implicitDefEqProofs (disch:=omega)
   generalize hz:zaf _ _ _ _ _ _=z;revert z;refine zaa (σ:=Nat × M3) (λb=>[(2,.d (.list Y)),(3,.ptr 0 0),(4,.ptr 1 0),(6,.ptr 2 0),(7,.ptr 3 0),(8,.d (.int .i64 i)),(9,.ptr 4 0),(10,.ptr 5 0),(11,.d (.int .i64 2)),(12,.d (.int .i64 b.1))]) (λb=>[.box [.d (.int .u8 6),.d (.int .u32 0),.d (.int .u8 0),.d (.int .i64 0),.d (.str noS),.d (.list (ks.map Prd.d))],.box [.d (.int .u32 sid),.d (.list (fs.map Fld.d))],.box [.d (.bool false),.d (.bool false),.d (.bool false)],.box [.d (.bool m1),.d (.bool m2),.d (.bool m3)],.box [.d (.bool e1),.d (.bool e2),.d (.bool e3)],.box [.d (.bool b.2.n),.d (.bool b.2.u),.d (.bool b.2.y)]]) (λb=>b.1<=3/\b.2=(stQ min ⟨m1,m2,m3⟩ ⟨e1,e2,e3⟩ (6+b.1))) (λb=>3 - b.1) (0,⟨x1,x2,x3⟩) ?_ ?_ ?_
   ·exact⟨yai _,hx⟩
   ·simp -dsimp -implicitDefEqProofs (disch:=omega)
   intro T4 f4 hT4 ⟨b,y⟩ ⟨hb,hy⟩ ih4;simp only at hb hy ih4;obtain⟨y1,y2,y3⟩:=y;have hy2: ∀q,q=6+b->stQ min ⟨m1,m2,m3⟩ ⟨e1,e2,e3⟩ (q+1)=if M3.at ⟨m1,m2,m3⟩ (q / 3) && M3.at ⟨e1,e2,e3⟩ (q % 3) then M3.put ⟨y1,y2,y3⟩ (min (q / 3) (q % 3)) else ⟨y1,y2,y3⟩:=λq h=>by rw[hy,<- h];rfl
   have hb4:b=0\/b=1\/b=2\/b=3:=by omega
   rcases hb4 with rfl | rfl | rfl | rfl
   case inr.inr.inr=>
    subst hT4;simp -dsimp -implicitDefEqProofs (disch:=omega)
    refine ih3 (3,⟨y1,y2,y3⟩) _ _ ⟨by simp only;omega,hy⟩ (by simp only;omega) ?_
    simp -dsimp -implicitDefEqProofs (disch:=omega)
   ·have hy3:=hy2 6 rfl
    cases m3 with
    |false=>
     simp -dsimp -implicitDefEqProofs (disch:=omega)
     refine ih4 (1,⟨y1,y2,y3⟩) _ _ ⟨by simp only;omega,hy3.symm⟩ (by simp only;omega) ?_
     simp -dsimp -implicitDefEqProofs (disch:=omega)
    |true=>
     cases e1 with
     |false=>
      simp -dsimp -implicitDefEqProofs (disch:=omega)
      refine ih4 (1,⟨y1,y2,y3⟩) _ _ ⟨by simp only;omega,hy3.symm⟩ (by simp only;omega) ?_
      simp -dsimp -implicitDefEqProofs (disch:=omega)
     |true=>
      simp -dsimp -implicitDefEqProofs (disch:=omega)
      refine ih4 (1,M3.put ⟨y1,y2,y3⟩ 0) _ _ ⟨by simp only;omega,hy3.symm⟩ (by simp only;omega) ?_
      simp -dsimp -implicitDefEqProofs (disch:=omega) [M3.put]
   ·have hy3:=hy2 7 rfl
    cases m3 with
    |false=>
     simp -dsimp -implicitDefEqProofs (disch:=omega)
     refine ih4 (2,⟨y1,y2,y3⟩) _ _ ⟨by simp only;omega,hy3.symm⟩ (by simp only;omega) ?_
     simp -dsimp -implicitDefEqProofs (disch:=omega)
    |true=>
     cases e2 with
     |false=>
      simp -dsimp -implicitDefEqProofs (disch:=omega)
      refine ih4 (2,⟨y1,y2,y3⟩) _ _ ⟨by simp only;omega,hy3.symm⟩ (by simp only;omega) ?_
      simp -dsimp -implicitDefEqProofs (disch:=omega)
     |true=>
      simp -dsimp -implicitDefEqProofs (disch:=omega)
      refine ih4 (2,M3.put ⟨y1,y2,y3⟩ 1) _ _ ⟨by simp only;omega,hy3.symm⟩ (by simp only;omega) ?_
      simp -dsimp -implicitDefEqProofs (disch:=omega) [M3.put]
   ·have hy3:=hy2 8 rfl
    cases m3 with
    |false=>
     simp -dsimp -implicitDefEqProofs (disch:=omega)
     refine ih4 (3,⟨y1,y2,y3⟩) _ _ ⟨by simp only;omega,hy3.symm⟩ (by simp only;omega) ?_
     simp -dsimp -implicitDefEqProofs (disch:=omega)
    |true=>
     cases e3 with
     |false=>
      simp -dsimp -implicitDefEqProofs (disch:=omega)
      refine ih4 (3,⟨y1,y2,y3⟩) _ _ ⟨by simp only;omega,hy3.symm⟩ (by simp only;omega) ?_
      simp -dsimp -implicitDefEqProofs (disch:=omega)
     |true=>
      simp -dsimp -implicitDefEqProofs (disch:=omega)
      refine ih4 (3,M3.put ⟨y1,y2,y3⟩ 2) _ _ ⟨by simp only;omega,hy3.symm⟩ (by simp only;omega) ?_
      simp -dsimp -implicitDefEqProofs (disch:=omega) [M3.put]
 ·rw[zar,myP,yac (by omega),yag rfl]
  simp only[Cel.none];refine rg b66 rfl ?_;intro T hT;simp -dsimp -implicitDefEqProofs (disch:=omega)
  generalize hz:zaf _ _ _ _ _ _=z;revert z;refine zaa (σ:=Nat × M3) (λx=>[(2,.d (.list Y)),(3,.ptr 0 0),(4,.ptr 1 0),(6,.ptr 2 0),(7,.ptr 3 0),(8,.d (.int .i64 x.1))]) (λx=>[.box [.d (.int .u8 7),.d (.int .u32 0),.d (.int .u8 0),.d (.int .i64 0),.d (.str noS),.d (.list (ks.map Prd.d))],.box [.d (.int .u32 sid),.d (.list (fs.map Fld.d))],.box [.d (.bool false),.d (.bool false),.d (.bool false)],.box [.d (.bool x.2.n),.d (.bool x.2.u),.d (.bool x.2.y)]]) (λx=>x.1<=ks.length/\myO fs B ks ⟨true,false,false⟩=myO fs B (ks.drop x.1) x.2) (λx=>ks.length - x.1) (0,⟨true,false,false⟩) ?_ ?_ ?_
  ·exact⟨yai _,rfl⟩
  ·simp -dsimp -implicitDefEqProofs (disch:=omega)
  intro T' f' hT' ⟨i,m⟩ ⟨hi,hs⟩ ih2;simp only at hi hs ih2
  by_cases h4:i<ks.length
  case neg=>
   rw[yaJ (by omega),myO]at hs
   subst hT';rw[hs]at hT;simp only[M3.d]at hT;simp -dsimp -implicitDefEqProofs (disch:=omega) [h4]
   simpa -dsimp -implicitDefEqProofs (disch:=omega) using hT
  rw[yao h4,myO]at hs;obtain⟨k,hk⟩: ∃k,ks[i]=k:=⟨_,rfl⟩;have hr1:=ih k (hk ▸ yam h4);rw[hk]at hs;obtain⟨op',f1,v',ks'⟩:=k;rw[zar]at hr1;generalize myP fs B (.node op' f1 v' ks')=e at*;rw[<- zIi]at hs;obtain⟨m1,m2,m3⟩:=m;obtain⟨e1,e2,e3⟩:=e;simp only[M3.d]at hr1;simp -dsimp -implicitDefEqProofs (disch:=omega) [h4,hk,hr1,zar]
  generalize hz:zaf _ _ _ _ _ _=z;revert z;refine zaa (σ:=Nat × M3) (λa=>[(2,.d (.list Y)),(3,.ptr 0 0),(4,.ptr 1 0),(6,.ptr 2 0),(7,.ptr 3 0),(8,.d (.int .i64 i)),(9,.ptr 4 0),(10,.ptr 5 0),(11,.d (.int .i64 a.1))]) (λa=>[.box [.d (.int .u8 7),.d (.int .u32 0),.d (.int .u8 0),.d (.int .i64 0),.d (.str noS),.d (.list (ks.map Prd.d))],.box [.d (.int .u32 sid),.d (.list (fs.map Fld.d))],.box [.d (.bool false),.d (.bool false),.d (.bool false)],.box [.d (.bool m1),.d (.bool m2),.d (.bool m3)],.box [.d (.bool e1),.d (.bool e2),.d (.bool e3)],.box [.d (.bool a.2.n),.d (.bool a.2.u),.d (.bool a.2.y)]]) (λa=>a.1<=3/\a.2=(stQ max ⟨m1,m2,m3⟩ ⟨e1,e2,e3⟩ (3*a.1))) (λa=>3 - a.1) (0,⟨false,false,false⟩) ?_ ?_ ?_
  ·exact⟨yai _,rfl⟩
  ·simp -dsimp -implicitDefEqProofs (disch:=omega)
  intro T2 f2 hT2 ⟨a,x⟩ ⟨ha,hx⟩ ih3;simp only at ha hx ih3
  by_cases ha3:a=3
  ·subst ha3 hT2
   rw[show 3*3=9 from rfl]at hx
   rw[<- hx]at hs;obtain⟨x1,x2,x3⟩:=x;simp -dsimp -implicitDefEqProofs (disch:=omega)
   refine ih2 (i+1,⟨x1,x2,x3⟩) _ _ ⟨h4,hs⟩ (by simp only;omega) ?_
   simp -dsimp -implicitDefEqProofs (disch:=omega)
  have ha4:a=0\/a=1\/a=2:=by omega
  clear hs hr1;rcases ha4 with rfl | rfl | rfl
  ·obtain⟨x1,x2,x3⟩:=x
   simp -dsimp -implicitDefEqProofs (disch:=omega)
   generalize hz:zaf _ _ _ _ _ _=z;revert z;refine zaa (σ:=Nat × M3) (λb=>[(2,.d (.list Y)),(3,.ptr 0 0),(4,.ptr 1 0),(6,.ptr 2 0),(7,.ptr 3 0),(8,.d (.int .i64 i)),(9,.ptr 4 0),(10,.ptr 5 0),(11,.d (.int .i64 0)),(12,.d (.int .i64 b.1))]) (λb=>[.box [.d (.int .u8 7),.d (.int .u32 0),.d (.int .u8 0),.d (.int .i64 0),.d (.str noS),.d (.list (ks.map Prd.d))],.box [.d (.int .u32 sid),.d (.list (fs.map Fld.d))],.box [.d (.bool false),.d (.bool false),.d (.bool false)],.box [.d (.bool m1),.d (.bool m2),.d (.bool m3)],.box [.d (.bool e1),.d (.bool e2),.d (.bool e3)],.box [.d (.bool b.2.n),.d (.bool b.2.u),.d (.bool b.2.y)]]) (λb=>b.1<=3/\b.2=(stQ max ⟨m1,m2,m3⟩ ⟨e1,e2,e3⟩ (0+b.1))) (λb=>3 - b.1) (0,⟨x1,x2,x3⟩) ?_ ?_ ?_
   ·exact⟨yai _,hx⟩
   ·simp -dsimp -implicitDefEqProofs (disch:=omega)
   intro T4 f4 hT4 ⟨b,y⟩ ⟨hb,hy⟩ ih4;simp only at hb hy ih4;obtain⟨y1,y2,y3⟩:=y;have hy2: ∀q,q=0+b->stQ max ⟨m1,m2,m3⟩ ⟨e1,e2,e3⟩ (q+1)=if M3.at ⟨m1,m2,m3⟩ (q / 3) && M3.at ⟨e1,e2,e3⟩ (q % 3) then M3.put ⟨y1,y2,y3⟩ (max (q / 3) (q % 3)) else ⟨y1,y2,y3⟩:=λq h=>by rw[hy,<- h];rfl
   have hb4:b=0\/b=1\/b=2\/b=3:=by omega
   rcases hb4 with rfl | rfl | rfl | rfl
   case inr.inr.inr=>
    subst hT4;simp -dsimp -implicitDefEqProofs (disch:=omega)
    refine ih3 (1,⟨y1,y2,y3⟩) _ _ ⟨by simp only;omega,hy⟩ (by simp only;omega) ?_
    simp -dsimp -implicitDefEqProofs (disch:=omega)
   ·have hy3:=hy2 0 rfl
    cases m1 with
    |false=>
     simp -dsimp -implicitDefEqProofs (disch:=omega)
     refine ih4 (1,⟨y1,y2,y3⟩) _ _ ⟨by simp only;omega,hy3.symm⟩ (by simp only;omega) ?_
     simp -dsimp -implicitDefEqProofs (disch:=omega)
    |true=>
     cases e1 with
     |false=>
      simp -dsimp -implicitDefEqProofs (disch:=omega)
      refine ih4 (1,⟨y1,y2,y3⟩) _ _ ⟨by simp only;omega,hy3.symm⟩ (by simp only;omega) ?_
      simp -dsimp -implicitDefEqProofs (disch:=omega)
     |true=>
      simp -dsimp -implicitDefEqProofs (disch:=omega)
      refine ih4 (1,M3.put ⟨y1,y2,y3⟩ 0) _ _ ⟨by simp only;omega,hy3.symm⟩ (by simp only;omega) ?_
      simp -dsimp -implicitDefEqProofs (disch:=omega) [M3.put]
   ·have hy3:=hy2 1 rfl
    cases m1 with
    |false=>
     simp -dsimp -implicitDefEqProofs (disch:=omega)
     refine ih4 (2,⟨y1,y2,y3⟩) _ _ ⟨by simp only;omega,hy3.symm⟩ (by simp only;omega) ?_
     simp -dsimp -implicitDefEqProofs (disch:=omega)
    |true=>
     cases e2 with
     |false=>
      simp -dsimp -implicitDefEqProofs (disch:=omega)
      refine ih4 (2,⟨y1,y2,y3⟩) _ _ ⟨by simp only;omega,hy3.symm⟩ (by simp only;omega) ?_
      simp -dsimp -implicitDefEqProofs (disch:=omega)
     |true=>
      simp -dsimp -implicitDefEqProofs (disch:=omega)
      refine ih4 (2,M3.put ⟨y1,y2,y3⟩ 1) _ _ ⟨by simp only;omega,hy3.symm⟩ (by simp only;omega) ?_
      simp -dsimp -implicitDefEqProofs (disch:=omega) [M3.put]
   ·have hy3:=hy2 2 rfl
    cases m1 with
    |false=>
     simp -dsimp -implicitDefEqProofs (disch:=omega)
     refine ih4 (3,⟨y1,y2,y3⟩) _ _ ⟨by simp only;omega,hy3.symm⟩ (by simp only;omega) ?_
     simp -dsimp -implicitDefEqProofs (disch:=omega)
    |true=>
     cases e3 with
     |false=>
      simp -dsimp -implicitDefEqProofs (disch:=omega)
      refine ih4 (3,⟨y1,y2,y3⟩) _ _ ⟨by simp only;omega,hy3.symm⟩ (by simp only;omega) ?_
      simp -dsimp -implicitDefEqProofs (disch:=omega)
     |true=>
      simp -dsimp -implicitDefEqProofs (disch:=omega)
      refine ih4 (3,M3.put ⟨y1,y2,y3⟩ 2) _ _ ⟨by simp only;omega,hy3.symm⟩ (by simp only;omega) ?_
      simp -dsimp -implicitDefEqProofs (disch:=omega) [M3.put]
  ·obtain⟨x1,x2,x3⟩:=x
   simp -dsimp -implicitDefEqProofs (disch:=omega)
   generalize hz:zaf _ _ _ _ _ _=z;revert z;refine zaa (σ:=Nat × M3) (λb=>[(2,.d (.list Y)),(3,.ptr 0 0),(4,.ptr 1 0),(6,.ptr 2 0),(7,.ptr 3 0),(8,.d (.int .i64 i)),(9,.ptr 4 0),(10,.ptr 5 0),(11,.d (.int .i64 1)),(12,.d (.int .i64 b.1))]) (λb=>[.box [.d (.int .u8 7),.d (.int .u32 0),.d (.int .u8 0),.d (.int .i64 0),.d (.str noS),.d (.list (ks.map Prd.d))],.box [.d (.int .u32 sid),.d (.list (fs.map Fld.d))],.box [.d (.bool false),.d (.bool false),.d (.bool false)],.box [.d (.bool m1),.d (.bool m2),.d (.bool m3)],.box [.d (.bool e1),.d (.bool e2),.d (.bool e3)],.box [.d (.bool b.2.n),.d (.bool b.2.u),.d (.bool b.2.y)]]) (λb=>b.1<=3/\b.2=(stQ max ⟨m1,m2,m3⟩ ⟨e1,e2,e3⟩ (3+b.1))) (λb=>3 - b.1) (0,⟨x1,x2,x3⟩) ?_ ?_ ?_
   ·exact⟨yai _,hx⟩
   ·simp -dsimp -implicitDefEqProofs (disch:=omega)
   intro T4 f4 hT4 ⟨b,y⟩ ⟨hb,hy⟩ ih4;simp only at hb hy ih4;obtain⟨y1,y2,y3⟩:=y;have hy2: ∀q,q=3+b->stQ max ⟨m1,m2,m3⟩ ⟨e1,e2,e3⟩ (q+1)=if M3.at ⟨m1,m2,m3⟩ (q / 3) && M3.at ⟨e1,e2,e3⟩ (q % 3) then M3.put ⟨y1,y2,y3⟩ (max (q / 3) (q % 3)) else ⟨y1,y2,y3⟩:=λq h=>by rw[hy,<- h];rfl
   have hb4:b=0\/b=1\/b=2\/b=3:=by omega
   rcases hb4 with rfl | rfl | rfl | rfl
   case inr.inr.inr=>
    subst hT4;simp -dsimp -implicitDefEqProofs (disch:=omega)
    refine ih3 (2,⟨y1,y2,y3⟩) _ _ ⟨by simp only;omega,hy⟩ (by simp only;omega) ?_
    simp -dsimp -implicitDefEqProofs (disch:=omega)
   ·have hy3:=hy2 3 rfl
    cases m2 with
    |false=>
     simp -dsimp -implicitDefEqProofs (disch:=omega)
     refine ih4 (1,⟨y1,y2,y3⟩) _ _ ⟨by simp only;omega,hy3.symm⟩ (by simp only;omega) ?_
     simp -dsimp -implicitDefEqProofs (disch:=omega)
    |true=>
     cases e1 with
     |false=>
      simp -dsimp -implicitDefEqProofs (disch:=omega)
      refine ih4 (1,⟨y1,y2,y3⟩) _ _ ⟨by simp only;omega,hy3.symm⟩ (by simp only;omega) ?_
      simp -dsimp -implicitDefEqProofs (disch:=omega)
     |true=>
      simp -dsimp -implicitDefEqProofs (disch:=omega)
      refine ih4 (1,M3.put ⟨y1,y2,y3⟩ 1) _ _ ⟨by simp only;omega,hy3.symm⟩ (by simp only;omega) ?_
      simp -dsimp -implicitDefEqProofs (disch:=omega) [M3.put]
   ·have hy3:=hy2 4 rfl
    cases m2 with
    |false=>
     simp -dsimp -implicitDefEqProofs (disch:=omega)
     refine ih4 (2,⟨y1,y2,y3⟩) _ _ ⟨by simp only;omega,hy3.symm⟩ (by simp only;omega) ?_
     simp -dsimp -implicitDefEqProofs (disch:=omega)
    |true=>
     cases e2 with
     |false=>
      simp -dsimp -implicitDefEqProofs (disch:=omega)
      refine ih4 (2,⟨y1,y2,y3⟩) _ _ ⟨by simp only;omega,hy3.symm⟩ (by simp only;omega) ?_
      simp -dsimp -implicitDefEqProofs (disch:=omega)
     |true=>
      simp -dsimp -implicitDefEqProofs (disch:=omega)
      refine ih4 (2,M3.put ⟨y1,y2,y3⟩ 1) _ _ ⟨by simp only;omega,hy3.symm⟩ (by simp only;omega) ?_
      simp -dsimp -implicitDefEqProofs (disch:=omega) [M3.put]
   ·have hy3:=hy2 5 rfl
    cases m2 with
    |false=>
     simp -dsimp -implicitDefEqProofs (disch:=omega)
     refine ih4 (3,⟨y1,y2,y3⟩) _ _ ⟨by simp only;omega,hy3.symm⟩ (by simp only;omega) ?_
     simp -dsimp -implicitDefEqProofs (disch:=omega)
    |true=>
     cases e3 with
     |false=>
      simp -dsimp -implicitDefEqProofs (disch:=omega)
      refine ih4 (3,⟨y1,y2,y3⟩) _ _ ⟨by simp only;omega,hy3.symm⟩ (by simp only;omega) ?_
      simp -dsimp -implicitDefEqProofs (disch:=omega)
     |true=>
      simp -dsimp -implicitDefEqProofs (disch:=omega)
      refine ih4 (3,M3.put ⟨y1,y2,y3⟩ 2) _ _ ⟨by simp only;omega,hy3.symm⟩ (by simp only;omega) ?_
      simp -dsimp -implicitDefEqProofs (disch:=omega) [M3.put]
  ·obtain⟨x1,x2,x3⟩:=x
   simp -dsimp -implicitDefEqProofs (disch:=omega)
   generalize hz:zaf _ _ _ _ _ _=z;revert z;refine zaa (σ:=Nat × M3) (λb=>[(2,.d (.list Y)),(3,.ptr 0 0),(4,.ptr 1 0),(6,.ptr 2 0),(7,.ptr 3 0),(8,.d (.int .i64 i)),(9,.ptr 4 0),(10,.ptr 5 0),(11,.d (.int .i64 2)),(12,.d (.int .i64 b.1))]) (λb=>[.box [.d (.int .u8 7),.d (.int .u32 0),.d (.int .u8 0),.d (.int .i64 0),.d (.str noS),.d (.list (ks.map Prd.d))],.box [.d (.int .u32 sid),.d (.list (fs.map Fld.d))],.box [.d (.bool false),.d (.bool false),.d (.bool false)],.box [.d (.bool m1),.d (.bool m2),.d (.bool m3)],.box [.d (.bool e1),.d (.bool e2),.d (.bool e3)],.box [.d (.bool b.2.n),.d (.bool b.2.u),.d (.bool b.2.y)]]) (λb=>b.1<=3/\b.2=(stQ max ⟨m1,m2,m3⟩ ⟨e1,e2,e3⟩ (6+b.1))) (λb=>3 - b.1) (0,⟨x1,x2,x3⟩) ?_ ?_ ?_
   ·exact⟨yai _,hx⟩
   ·simp -dsimp -implicitDefEqProofs (disch:=omega)
   intro T4 f4 hT4 ⟨b,y⟩ ⟨hb,hy⟩ ih4;simp only at hb hy ih4;obtain⟨y1,y2,y3⟩:=y;have hy2: ∀q,q=6+b->stQ max ⟨m1,m2,m3⟩ ⟨e1,e2,e3⟩ (q+1)=if M3.at ⟨m1,m2,m3⟩ (q / 3) && M3.at ⟨e1,e2,e3⟩ (q % 3) then M3.put ⟨y1,y2,y3⟩ (max (q / 3) (q % 3)) else ⟨y1,y2,y3⟩:=λq h=>by rw[hy,<- h];rfl
   have hb4:b=0\/b=1\/b=2\/b=3:=by omega
   rcases hb4 with rfl | rfl | rfl | rfl
   case inr.inr.inr=>
    subst hT4;simp -dsimp -implicitDefEqProofs (disch:=omega)
    refine ih3 (3,⟨y1,y2,y3⟩) _ _ ⟨by simp only;omega,hy⟩ (by simp only;omega) ?_
    simp -dsimp -implicitDefEqProofs (disch:=omega)
   ·have hy3:=hy2 6 rfl
    cases m3 with
    |false=>
     simp -dsimp -implicitDefEqProofs (disch:=omega)
     refine ih4 (1,⟨y1,y2,y3⟩) _ _ ⟨by simp only;omega,hy3.symm⟩ (by simp only;omega) ?_
     simp -dsimp -implicitDefEqProofs (disch:=omega)
    |true=>
     cases e1 with
     |false=>
      simp -dsimp -implicitDefEqProofs (disch:=omega)
      refine ih4 (1,⟨y1,y2,y3⟩) _ _ ⟨by simp only;omega,hy3.symm⟩ (by simp only;omega) ?_
      simp -dsimp -implicitDefEqProofs (disch:=omega)
     |true=>
      simp -dsimp -implicitDefEqProofs (disch:=omega)
      refine ih4 (1,M3.put ⟨y1,y2,y3⟩ 2) _ _ ⟨by simp only;omega,hy3.symm⟩ (by simp only;omega) ?_
      simp -dsimp -implicitDefEqProofs (disch:=omega) [M3.put]
   ·have hy3:=hy2 7 rfl
    cases m3 with
    |false=>
     simp -dsimp -implicitDefEqProofs (disch:=omega)
     refine ih4 (2,⟨y1,y2,y3⟩) _ _ ⟨by simp only;omega,hy3.symm⟩ (by simp only;omega) ?_
     simp -dsimp -implicitDefEqProofs (disch:=omega)
    |true=>
     cases e2 with
     |false=>
      simp -dsimp -implicitDefEqProofs (disch:=omega)
      refine ih4 (2,⟨y1,y2,y3⟩) _ _ ⟨by simp only;omega,hy3.symm⟩ (by simp only;omega) ?_
      simp -dsimp -implicitDefEqProofs (disch:=omega)
     |true=>
      simp -dsimp -implicitDefEqProofs (disch:=omega)
      refine ih4 (2,M3.put ⟨y1,y2,y3⟩ 2) _ _ ⟨by simp only;omega,hy3.symm⟩ (by simp only;omega) ?_
      simp -dsimp -implicitDefEqProofs (disch:=omega) [M3.put]
   ·have hy3:=hy2 8 rfl
    cases m3 with
    |false=>
     simp -dsimp -implicitDefEqProofs (disch:=omega)
     refine ih4 (3,⟨y1,y2,y3⟩) _ _ ⟨by simp only;omega,hy3.symm⟩ (by simp only;omega) ?_
     simp -dsimp -implicitDefEqProofs (disch:=omega)
    |true=>
     cases e3 with
     |false=>
      simp -dsimp -implicitDefEqProofs (disch:=omega)
      refine ih4 (3,⟨y1,y2,y3⟩) _ _ ⟨by simp only;omega,hy3.symm⟩ (by simp only;omega) ?_
      simp -dsimp -implicitDefEqProofs (disch:=omega)
     |true=>
      simp -dsimp -implicitDefEqProofs (disch:=omega)
      refine ih4 (3,M3.put ⟨y1,y2,y3⟩ 2) _ _ ⟨by simp only;omega,hy3.symm⟩ (by simp only;omega) ?_
      simp -dsimp -implicitDefEqProofs (disch:=omega) [M3.put]
 ·rw[zar,myP,yac (by omega),yac (by omega),yag rfl,myH]
  simp only[Cel.none];obtain⟨op',f1,v',ks'⟩:=k;rw[zar]at ih;generalize myP fs B (.node op' f1 v' ks')=e at*;obtain⟨b1,b2,b3⟩:=e;simp only[M3.flip,M3.d]at ih ⊢;refine rg b66 rfl ?_;intro T hT;simp -dsimp -implicitDefEqProofs (disch:=omega) [ih,zar]
  simpa -dsimp -implicitDefEqProofs (disch:=omega) using hT
 ·have hp:=hp f
  have ha:=hat j (by omega)
  rw[h1]at hp;have e1: ¬ (j:Int)<0:=by omega
  have e3:j<Y.length:=by omega
  have e4: ¬ B.length<=j:=by omega
  have e5: ¬ fs.length<=j:=by omega
  rw[myP,yac (by omega),yac (by omega),yac (by omega),h1,yat,show zaA Cel.none= .null from rfl,myL,yag rfl]
  have ha2:Y[j]=((B.getD j bd0).sta n).d:=by rw[yak e3]at ha;exact yaN ha
  generalize B.getD j bd0=b at*;obtain⟨nu,has,hi,lo,hg⟩:=b;rw[zar];simp only[Bd.sta,Sta.d,M3.d,Cel.none,ybX]at ha2 ⊢;refine rg b66 rfl ?_;intro T hT;simp -dsimp -implicitDefEqProofs (disch:=omega) [hp,e1,e3,e4,e5,hB,hYl,ha2]
  simpa -dsimp -implicitDefEqProofs (disch:=omega) using hT
 ·have hp:=hp f
  have ha:=hat j (by omega)
  have e55: ¬ op=5:=by omega
  obtain⟨q1,q2⟩:=hok j (by omega)
  rw[h1]at hp;have e1: ¬ (j:Int)<0:=by omega
  have e3:j<Y.length:=by omega
  have e4: ¬ B.length<=j:=by omega
  have e5: ¬ fs.length<=j:=by omega
  rw[myP,yac (by omega),yac (by omega),yac (by omega),h1,yat,hv]
  have ha2:Y[j]=((B.getD j bd0).sta n).d:=by rw[yak e3]at ha;exact yaN ha
  generalize B.getD j bd0=b at*;obtain⟨nu,has,hi,lo,hg⟩:=b;simp only at q1 q2;have fx: ∀v:Val,chk (cellOf v)=0->R 71 [.d (cellOf v).d] []=some ([.d (cellOf v).d],[]):=λv h=>by
   have hk:=zbv h;have:=zg6 (cellOf v) (by omega) (by omega)
   rw[zm2 h]at this;exact this
  have f1:=fx w hc;have f2:=fx lo q1;have f3:=fx hg q2;have g1:=zcl (cellOf w) (cellOf lo);have g2:=zcl (cellOf lo) (cellOf w);have g3:=zcl (cellOf hg) (cellOf w);have g4:=zcl (cellOf w) (cellOf hg);rw[zmU]at g1 g2 g3 g4;have d1:=znd w lo;have d2:=znd w hg;rw[show decide (w=hg)=decide (hg=w) from decide_eq_decide.2 ⟨Eq.symm,Eq.symm⟩]at d2
  have hsg:(cellOf w).kind=3-> ∃L K:List D,R 78 [.d (.str (cellOf w).s)] []=some ([.arr 0 (sgC w),.arr 1 (sgC w),.d (.bool (cln (cellOf w).s))],[.arr 1 L 0,.arr 1 K 0])/\L.length=sgC w:=λh=>by
   cases w with
   |text s=>exact⟨_,_,by
    have h2:=zck s (by have:=(zbv hc).2.2.2.2;have:s.size<=64:=this;omega)
    exact h2,by simp[sgC]⟩
   |_=>simp[cellOf,Cel.none]at h
  have hsg0:(cellOf w).kind≠3->decide ((4:Int)<=sgC w)=false:=λh=>by
   cases w with
   |text s=>exact absurd rfl h
   |_=>rfl
  unfold myL;simp only;rw[yac e55,zar];simp only[Bd.sta,Sta.d,M3.d,Cel.d,ybX]at f1 f2 f3 ha2 g1 g2 g3 g4 ⊢;generalize decide (w=lo)=x1 at*;generalize decide (hg=w)=x2 at*;generalize ltV w lo=l1 at*;generalize ltV lo w=l2 at*;generalize ltV hg w=l3 at*;generalize ltV w hg=l4 at*;generalize sgC w=sc at*;clear q1 q2 fx hok hat hbd hwk hv hc hw0 h4;generalize cellOf w=cw at*;generalize cellOf lo=cl at*;generalize cellOf hg=ch at*;obtain⟨wk,wn,ws'⟩:=cw;obtain⟨lk,ln,ls⟩:=cl;obtain⟨hk,hn,hs⟩:=ch;simp only at f1 f2 f3 g1 g2 g3 g4 d1 d2 hsg hsg0 ha2 ⊢;cases has with
  |false=>
   rw[yag rfl];rcases ho with rfl | rfl | rfl | rfl
   all_goals
    refine rg b66 rfl ?_;intro T hT;simp -dsimp -implicitDefEqProofs (disch:=omega) [hp,e1,e3,e4,e5,hB,hYl,ha2]
    simpa -dsimp -implicitDefEqProofs (disch:=omega) using hT
  |true=>
  rw[yac (by decide)]
  rcases ho with rfl | rfl | rfl | rfl
  ·rw[yag rfl]
   by_cases h3:wk=3
   ·obtain⟨L,K,hsr,hL⟩:=hsg h3
    have h3':((wk:Int)=3)↔True:=iff_true_intro (by omega)
    clear hsg hsg0;have hx:hi=true->x1=true->x2=true\/x2=false:=λ_ _=>by cases x2 <;> simp
    cases hi
    all_goals cases l1
    all_goals cases x1
    all_goals try rcases hx rfl rfl with rfl | rfl
    all_goals
     refine rg b66 rfl ?_;intro T hT;simp -dsimp -implicitDefEqProofs (disch:=omega) [hp,e1,e3,e4,e5,hB,hYl,ha2,f1,f2,f3,g1,g3,d1,d2,hsr,h3',zaS]
     simpa -dsimp -implicitDefEqProofs (disch:=omega) using hT
   ·rw[hsg0 h3]
    have h3': ¬ (wk:Int)=3:=by omega
    have hx:hi=true->x1=true->x2=true\/x2=false:=λ_ _=>by cases x2 <;> simp
    cases hi
    all_goals cases l1
    all_goals cases x1
    all_goals try rcases hx rfl rfl with rfl | rfl
    all_goals
     refine rg b66 rfl ?_;intro T hT;simp -dsimp -implicitDefEqProofs (disch:=omega) [hp,e1,e3,e4,e5,hB,hYl,ha2,f1,f2,f3,g1,g3,d1,d2,h3',zaS]
     simpa -dsimp -implicitDefEqProofs (disch:=omega) using hT
  ·rw[yac (by omega),yag rfl]
   cases hi
   all_goals
    refine rg b66 rfl ?_;intro T hT;simp -dsimp -implicitDefEqProofs (disch:=omega) [hp,e1,e3,e4,e5,hB,hYl,ha2,f1,f2,f3,g2,g3]
    simpa -dsimp -implicitDefEqProofs (disch:=omega) using hT
  ·rw[yac (by omega),yac (by omega),yag rfl]
   cases hi
   all_goals
    refine rg b66 rfl ?_;intro T hT;simp -dsimp -implicitDefEqProofs (disch:=omega) [hp,e1,e3,e4,e5,hB,hYl,ha2,f1,f2,f3,g1,g4]
    simpa -dsimp -implicitDefEqProofs (disch:=omega) using hT
  ·rw[yac (by omega),yac (by omega),yac (by omega)]
   refine rg b66 rfl ?_;intro T hT;simp -dsimp -implicitDefEqProofs (disch:=omega) [hp,e1,e3,e4,e5,hB,hYl,ha2,f1,f2,f3]
   simpa -dsimp -implicitDefEqProofs (disch:=omega) using hT
end Go.Am.Ab
