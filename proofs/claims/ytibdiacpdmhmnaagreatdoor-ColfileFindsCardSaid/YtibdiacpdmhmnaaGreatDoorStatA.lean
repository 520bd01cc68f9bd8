/- Statistics of values. -/
import Derived.Test.YtibdiacpdmhmnaaGreatDoorSignsB
import Derived.Test.YtibdiacpdmhmnaaGreatDoorValsA
set_option linter.all false
namespace Go.Am.Ab
open Go.Proofs
set_option maxHeartbeats 4000000
def cln (s:ByteArray):Bool:=(sgs s).all (·.2.2)
structure Sta where
 rows:Nat
 nulls:Nat
 has:Bool
 high:Bool
 mn:Cel
 mx:Cel
def Sta.d (x:Sta):D:= .agg [.int .i64 x.rows,.int .i64 x.nulls,.bool x.has,.bool x.high,.int .u8 x.mn.kind,.int .i64 x.mn.n,.str x.mn.s,.int .u8 x.mx.kind,.int .i64 x.mx.n,.str x.mx.s]
structure Stp1 where
 nu:Nat
 has:Bool
 le:Val
 mo:Val
 cl:Bool
def vcl:Val->Bool
 |.text s=>cln s
 |_=>true
def stp (x:Stp1) (v:Val):Stp1:=
 if v= .null then { x with nu:=x.nu+1 } else
 ⟨x.nu,true,if x.has=false\/ltV v x.le=true then v else x.le,if x.has=false\/ltV x.mo v=true then v else x.mo,x.cl && vcl v⟩
def st0:Stp1:=⟨0,false,.null,.null,true⟩
def zd2:Val->ByteArray
 |.text s=>s
 |_=>noS
def zcG (n:Nat) (x:Stp1):Sta:=
 if x.has=false then ⟨n,x.nu,false,false,Cel.none,Cel.none⟩ else
 match x.le with
 |.text s=>
  if x.cl=false then ⟨n,x.nu,true,false,cellOf (.text noS),Cel.none⟩ else
  if (abv (zd2 x.mo) 4).2=true then ⟨n,x.nu,true,true,cellOf (.text (frs s 4)),cellOf (.text (abv (zd2 x.mo) 4).1)⟩
  else ⟨n,x.nu,true,false,cellOf (.text (frs s 4)),Cel.none⟩
 |v=>⟨n,x.nu,true,true,cellOf v,cellOf x.mo⟩
def zaW (l:List Val):Sta:=zcG l.length (l.foldl stp st0)
def zh8 {α β:Type} (f:β->α->β) (b:β) (l:List α) (i:Nat) (h:i<l.length):(l.take (i+1)).foldl f b=f ((l.take i).foldl f b) l[i]:=by
 rw[ya3 h,yc4];rfl
structure StpOk (x:Stp1) (i:Nat) (p:Val->Prop):Prop where
 nu:x.nu<=i
 le:x.has=true->x.le.kind<=x.mo.kind/\p x.le/\p x.mo/\x.le≠ .null
def zEr {x:Stp1} {i:Nat} {p:Val->Prop} (h:StpOk x i p) {v:Val} (hv:p v):StpOk (stp x v) (i+1) p:=by
 unfold stp
 by_cases h0:v= .null
 ·rw[yag h0]
  exact⟨by have:=h.nu;simp only;omega,h.le⟩
 ·rw[yac h0]
  refine⟨by have:=h.nu;simp only;omega,λ_=> ?_⟩
  simp only;cases hh:x.has with
  |false=>simp only[true_or,ybk];exact⟨yaj _,hv,hv,h0⟩
  |true=>
   obtain⟨a,b,c,d⟩:=h.le hh;simp only[reduceCtorEq,false_or];have e1:ltV v x.le=true->v.kind<=x.le.kind:=zhi;have e2:ltV x.mo v=true->x.mo.kind<=v.kind:=zhi;have e3:ltV x.mo v=false->v.kind<=x.mo.kind:=λe=>by
    rcases ybL x.mo.kind v.kind with q | q
    ·have:=zcS q;rw[e]at this;cases this
    ·exact q
   cases h1:ltV v x.le <;> cases h2:ltV x.mo v <;> simp only[yaD,ybd,ybk]
   ·exact⟨a,b,c,d⟩
   ·exact⟨ya4 a (e2 h2),b,hv,d⟩
   ·exact⟨e3 h2,hv,c,h0⟩
   ·exact⟨yaj _,hv,hv,h0⟩
def zEs (p:Val->Prop):StpOk st0 0 p:=⟨yaj _,λh=>by cases h⟩
def zer {l:List Val} {p:Val->Prop} (hp: ∀v∈l,p v): ∀i,i<=l.length->StpOk ((l.take i).foldl stp st0) i p
 |0,_=>zEs p
 |i+1,h=>by
  rw[zh8 stp st0 l i h];exact zEr (zer hp i (by omega)) (hp _ (yam _))
def vd0:Val.null.d= .nilI:=rfl
def vd1 (n:Int):(Val.whole n).d= .iface 2 (.int .i64 n):=rfl
def vd2 (b:Bool):(Val.truth b).d= .iface 4 (.bool b):=rfl
def vd3 (s:ByteArray):(Val.text s).d= .iface 9 (.str s):=rfl
def vc0:cellOf .null=⟨0,0,noS⟩:=rfl
def vc1 (n:Int):cellOf (.whole n)=⟨1,n,noS⟩:=rfl
def vc2 (b:Bool):cellOf (.truth b)=⟨2,if b then 1 else 0,noS⟩:=rfl
def vc3 (s:ByteArray):cellOf (.text s)=⟨3,0,s⟩:=rfl
def i1:((1:Nat):Int)=1:=rfl
def i2:((2:Nat):Int)=2:=rfl
def i3:((3:Nat):Int)=3:=rfl
def zmV (a b:Val):(zht a b<0)=(ltV a b=true):=by
 unfold zht
 by_cases h:ltV a b=true
 ·simp[h]
 ·rw[yac h]
  split <;> simp[h]
def zjb (a b:Val):(0<zht a b)=(ltV b a=true):=by
 unfold zht
 by_cases h:ltV a b=true
 ·rw[yag h]
  have:ltV b a=false:=by
   cases e:ltV b a with
   |false=>rfl
   |true=>have:=zcF h e;rw[zfA]at this;cases this
  simp[this]
 ·rw[yac h]
  split
  ·rename_i h2;simp[h2]
  ·rename_i h2;simp[h2]
end Go.Am.Ab
namespace Go.Am.Ab
open Go.Proofs
set_option maxHeartbeats 8000000
set_option maxRecDepth 4000
def zd3 (v:Val):R 98 [.d v.d] []=some ([.d (cellOf v).d,.d (.bool true)],[]):=by
 rcases v with _ | n | b | s
 ·simp only[Val.d,cellOf,Cel.none,Cel.d]
  refine rg b98 rfl ?_;intro T hT;simp -dsimp -implicitDefEqProofs (disch:=omega)
  simpa -dsimp -implicitDefEqProofs (disch:=omega) using hT
 ·simp only[Val.d,cellOf,Cel.none,Cel.d]
  refine rg b98 rfl ?_;intro T hT;simp -dsimp -implicitDefEqProofs (disch:=omega)
  simpa -dsimp -implicitDefEqProofs (disch:=omega) using hT
 ·simp only[Val.d,cellOf,Cel.none,Cel.d]
  cases b
  all_goals
   refine rg b98 rfl ?_;intro T hT;simp -dsimp -implicitDefEqProofs (disch:=omega)
   simpa -dsimp -implicitDefEqProofs (disch:=omega) using hT
 ·simp only[Val.d,cellOf,Cel.none,Cel.d]
  refine rg b98 rfl ?_;intro T hT;simp -dsimp -implicitDefEqProofs (disch:=omega)
  simpa -dsimp -implicitDefEqProofs (disch:=omega) using hT
def zgm (l:List Val) (hn:l.length<=1000000) (ht: ∀s,Val.text s∈l->s.size<1000000000):R 47 [.d (.list (vs l))] []=some ([.d (zaW l).d],[]):=by
 refine rg b47 rfl ?_;intro T hT;simp -dsimp -implicitDefEqProofs (disch:=omega)
 generalize hz:zaf _ _ _ _ _ _=z;revert z;refine zaa (σ:=Nat × Stp1) (λx=>[(2,.ptr 0 0),(3,.ptr 1 0),(4,.d x.2.le.d),(5,.d x.2.mo.d),(6,.d (.bool x.2.cl)),(18,.d (.list (vs l))),(19,.d (.int .i64 l.length)),(20,.d (.int .i64 x.1))]) (λx=>[.box [.d (.int .i64 0),.d (.int .i64 0),.d (.bool false),.d (.bool false),.d (.int .u8 0),.d (.int .i64 0),.d (.str ⟨#[]⟩),.d (.int .u8 0),.d (.int .i64 0),.d (.str ⟨#[]⟩)],.box [.d (.int .i64 l.length),.d (.int .i64 x.2.nu),.d (.bool x.2.has),.d (.bool false),.d (.int .u8 0),.d (.int .i64 0),.d (.str ⟨#[]⟩),.d (.int .u8 0),.d (.int .i64 0),.d (.str ⟨#[]⟩)]]) (λx=>x.1<=l.length/\x.2=(l.take x.1).foldl stp st0) (λx=>l.length - x.1) (0,st0) ?_ ?_ ?_
 ·exact⟨yai _,rfl⟩
 ·simp -dsimp -implicitDefEqProofs (disch:=omega) [st0,vd0]
 intro T' f hT' ⟨i,x⟩ ⟨h1,h2⟩ ih;simp only at h1 h2 ih;have hok:StpOk x i (λv=> ∀s,v= .text s->s.size<1000000000):=by
  rw[h2];exact zer (λv hv s e=>ht s (by rw[<- e];exact hv)) i h1
 by_cases hi:i<l.length
 ·obtain⟨v,hv⟩: ∃v,l[i]=v:=⟨_,rfl⟩
  have hstep:(l.take (i+1)).foldl stp st0=stp x v:=by rw[zh8 stp st0 l i hi,<- h2,hv]
  have hnu:=hok.nu;have hcl: ∀s,v= .text s->R 94 [.d (.str s)] []=some ([.d (.bool (cln s))],[]):=λs e=>zhR s (ht s (by rw[<- e,<- hv];exact yam _))
  have hc1:=zc2 v x.le;have hc2:=zc2 v x.mo;have d1:=zmV v x.le;have d2:=zjb v x.mo;have hn2:(x.nu:Int)+1<=9223372036854775807:=by omega
  clear h2 hok;obtain⟨nu,has,le,mo,cl⟩:=x;simp only at hc1 hc2 d1 d2 hnu hn2
  by_cases h0:v= .null
  ·subst h0
   have e:stp ⟨nu,has,le,mo,cl⟩ .null=⟨nu+1,has,le,mo,cl⟩:=rfl;rw[e]at hstep;simp -dsimp -implicitDefEqProofs (disch:=omega) [hi,hv,vd0,vd1,vd2,vd3]
   refine ih (i+1,⟨nu+1,has,le,mo,cl⟩) _ _ ⟨hi,hstep.symm⟩ (by simp only;omega) ?_
   simp -dsimp -implicitDefEqProofs (disch:=omega)
  ·have e:stp ⟨nu,has,le,mo,cl⟩ v=⟨nu,true,if has=false\/ltV v le=true then v else le,if has=false\/ltV mo v=true then v else mo,cl && vcl v⟩:=yac h0
   rw[e]at hstep;generalize zht v le=k1 at*;generalize zht v mo=k2 at*;have hcal: ∀s,v= .text s->(cl && vcl v)=(cl && cln s):=λs e=>by rw[e];rfl
   cases has with
   |false=>
    simp only[true_or,ybk]at hstep;rcases v with _ | n | b | s
    ·exact absurd rfl h0
    ·simp only[vcl,ybY]at hstep
     simp -dsimp -implicitDefEqProofs (disch:=omega) [hi,hv,vd0,vd1,vd2,vd3]
     refine ih (i+1,_) _ _ ⟨hi,hstep.symm⟩ (by simp only;omega) ?_
     simp -dsimp -implicitDefEqProofs (disch:=omega) [vd1,vd2,vd3]
    ·simp only[vcl,ybY]at hstep
     simp -dsimp -implicitDefEqProofs (disch:=omega) [hi,hv,vd0,vd1,vd2,vd3]
     refine ih (i+1,_) _ _ ⟨hi,hstep.symm⟩ (by simp only;omega) ?_
     simp -dsimp -implicitDefEqProofs (disch:=omega) [vd1,vd2,vd3]
    ·have hcl1:=hcl s rfl
     simp only[vcl]at hstep;cases cl
     ·rw[yc8]at hstep
      simp -dsimp -implicitDefEqProofs (disch:=omega) [hi,hv,vd0,vd1,vd2,vd3]
      refine ih (i+1,_) _ _ ⟨hi,hstep.symm⟩ (by simp only;omega) ?_
      simp -dsimp -implicitDefEqProofs (disch:=omega) [vd1,vd2,vd3]
     ·rw[ybK]at hstep
      simp -dsimp -implicitDefEqProofs (disch:=omega) [hi,hv,vd0,vd1,vd2,vd3,hcl1]
      refine ih (i+1,_) _ _ ⟨hi,hstep.symm⟩ (by simp only;omega) ?_
      simp -dsimp -implicitDefEqProofs (disch:=omega) [vd1,vd2,vd3]
   |true=>
    simp only[Bool.true_eq_false,false_or]at hstep;rcases v with _ | n | b | s
    ·exact absurd rfl h0
    ·simp only[vcl,ybY]at hstep
     simp only[vd1,vd2,vd3]at hc1 hc2
     by_cases f1:k1<0
     all_goals
      by_cases f2:0<k2
      all_goals
       have f1':=f1;have f2':=f2;rw[d1]at f1';rw[d2]at f2';simp only[f1',f2',ybk,ybd,yaD]at hstep;simp -dsimp -implicitDefEqProofs (disch:=omega) [hi,hv,vd0,vd1,vd2,vd3,hc1,hc2,f1,f2]
       refine ih (i+1,_) _ _ ⟨hi,hstep.symm⟩ (by simp only;omega) ?_
       simp -dsimp -implicitDefEqProofs (disch:=omega) [vd1,vd2,vd3]
    ·simp only[vcl,ybY]at hstep
     simp only[vd1,vd2,vd3]at hc1 hc2
     by_cases f1:k1<0
     all_goals
      by_cases f2:0<k2
      all_goals
       have f1':=f1;have f2':=f2;rw[d1]at f1';rw[d2]at f2';simp only[f1',f2',ybk,ybd,yaD]at hstep;simp -dsimp -implicitDefEqProofs (disch:=omega) [hi,hv,vd0,vd1,vd2,vd3,hc1,hc2,f1,f2]
       refine ih (i+1,_) _ _ ⟨hi,hstep.symm⟩ (by simp only;omega) ?_
       simp -dsimp -implicitDefEqProofs (disch:=omega) [vd1,vd2,vd3]
    ·have hcl1:=hcl s rfl
     simp only[vcl]at hstep;simp only[vd1,vd2,vd3]at hc1 hc2;cases cl
     all_goals
      by_cases f1:k1<0
      all_goals
       by_cases f2:0<k2
       all_goals
        have f1':=f1;have f2':=f2;rw[d1]at f1';rw[d2]at f2';simp only[f1',f2',ybk,ybd,yaD,yc8,ybK]at hstep;simp -dsimp -implicitDefEqProofs (disch:=omega) [hi,hv,vd0,vd1,vd2,vd3,hc1,hc2,f1,f2,hcl1]
        refine ih (i+1,_) _ _ ⟨hi,hstep.symm⟩ (by simp only;omega) ?_
        simp -dsimp -implicitDefEqProofs (disch:=omega) [vd1,vd2,vd3]
 ·have:i=l.length:=by omega
  subst this;rw[yaW]at h2;have hst:zaW l=zcG l.length x:=by unfold zaW;rw[h2]
  rw[hst]at hT;clear h2 hst;obtain⟨nu,has,le,mo,cl⟩:=x;have hle:=hok.le;clear hok ih;simp only at hle;subst hT';cases has with
  |false=>
   rw[show zcG l.length ⟨nu,false,le,mo,cl⟩=⟨l.length,nu,false,false,Cel.none,Cel.none⟩ from rfl]at hT
   simp -dsimp -implicitDefEqProofs (disch:=omega)
   simpa -dsimp -implicitDefEqProofs (disch:=omega) [Sta.d,Cel.none]using hT
  |true=>
  obtain⟨k1,p1,p2,k2⟩:=hle rfl;have hcm:=zd3 mo;have hcl:=zd3 le;rcases le with _ | n | b | s
  ·exact absurd rfl k2
  ·rw[show zcG l.length ⟨nu,true,.whole n,mo,cl⟩=⟨l.length,nu,true,true,cellOf (.whole n),cellOf mo⟩ from rfl]at hT
   simp only[vd1,Cel.d]at hcm hcl;simp -dsimp -implicitDefEqProofs (disch:=omega) [hcm,hcl,vd1]
   simpa -dsimp -implicitDefEqProofs (disch:=omega) [Sta.d]using hT
  ·rw[show zcG l.length ⟨nu,true,.truth b,mo,cl⟩=⟨l.length,nu,true,true,cellOf (.truth b),cellOf mo⟩ from rfl]at hT
   simp only[vd2,Cel.d]at hcm hcl;simp -dsimp -implicitDefEqProofs (disch:=omega) [hcm,hcl,vd2]
   simpa -dsimp -implicitDefEqProofs (disch:=omega) [Sta.d]using hT
  ·clear hcm hcl
   obtain⟨m,rfl⟩: ∃m,mo= .text m:=by
    cases mo <;> simp only[Val.kind]at k1 <;> first | omega | exact⟨_,rfl⟩
   have he:=zd3 (.text noS);rw[vd3]at he;cases cl with
   |false=>
    rw[show zcG l.length ⟨nu,true,.text s,.text m,false⟩=⟨l.length,nu,true,false,cellOf (.text noS),Cel.none⟩ from rfl]at hT
    simp only[Cel.d]at he;simp -dsimp -implicitDefEqProofs (disch:=omega) [he,vd3]
    simpa -dsimp -implicitDefEqProofs (disch:=omega) [Sta.d,Cel.none]using hT
   |true=>
    have hfi:R 96 [.d (.str s),.d (.int .i64 4)] []=some ([.d (.str (frs s 4))],[]):=zlE s (p1 s rfl) 4 (by omega)
    have hab:R 97 [.d (.str m),.d (.int .i64 4)] []=some (zrc (abv m 4),[]):=zsR m (p2 m rfl) 4 (by omega) (by omega)
    have hse:zcG l.length ⟨nu,true,.text s,.text m,true⟩=if (abv m 4).2=true then ⟨l.length,nu,true,true,cellOf (.text (frs s 4)),cellOf (.text (abv m 4).1)⟩ else ⟨l.length,nu,true,false,cellOf (.text (frs s 4)),Cel.none⟩:=rfl
    have hf:=zd3 (.text (frs s 4));have hg:=zd3 (.text (abv m 4).1);rw[vd3]at hf hg;rw[hse]at hT;clear hse he;generalize frs s 4=F at*;generalize abv m 4=A at*;obtain⟨A,hi⟩:=A;simp only[Cel.d]at hf hg
    try simp only at hab
    try simp only at hT
    try simp only at hg
    cases hi with
    |true=>
     rw[yag rfl]at hT;simp -dsimp -implicitDefEqProofs (disch:=omega) [vd3,hfi,hab,hf,hg]
     simpa -dsimp -implicitDefEqProofs (disch:=omega) [Sta.d]using hT
    |false=>
     rw[yac (by decide)]at hT
     simp -dsimp -implicitDefEqProofs (disch:=omega) [vd3,hfi,hab,hf]
     simpa -dsimp -implicitDefEqProofs (disch:=omega) [Sta.d,Cel.none]using hT
end Go.Am.Ab
namespace Go.Am.Ab
open Go.Proofs
set_option maxHeartbeats 8000000
set_option maxRecDepth 4000
def zqj (l:List Val) (hn:l.length<=1000000) (ht: ∀s,Val.text s∈l->s.size<1000000000):R 33 [.d (.list (ce (l.map cellOf)))] []=some ([.d (zaW l).d],[]):=by
 refine rg b33 rfl ?_;intro T hT;simp -dsimp -implicitDefEqProofs (disch:=omega)
 generalize hz:zaf _ _ _ _ _ _=z;revert z;refine zaa (σ:=Nat × Stp1) (λx=>[(0,.d (.list (ce (l.map cellOf)))),(2,.ptr 0 0),(3,.ptr 1 0),(4,.ptr 2 0),(5,.ptr 3 0),(6,.d (.bool x.2.cl)),(7,.d (.int .i64 x.1))]) (λx=>[.box [.d (.int .i64 0),.d (.int .i64 0),.d (.bool false),.d (.bool false),.d (.int .u8 0),.d (.int .i64 0),.d (.str ⟨#[]⟩),.d (.int .u8 0),.d (.int .i64 0),.d (.str ⟨#[]⟩)],.box [.d (.int .i64 l.length),.d (.int .i64 x.2.nu),.d (.bool x.2.has),.d (.bool false),.d (.int .u8 0),.d (.int .i64 0),.d (.str ⟨#[]⟩),.d (.int .u8 0),.d (.int .i64 0),.d (.str ⟨#[]⟩)],.box [.d (.int .u8 (cellOf x.2.le).kind),.d (.int .i64 (cellOf x.2.le).n),.d (.str (cellOf x.2.le).s)],.box [.d (.int .u8 (cellOf x.2.mo).kind),.d (.int .i64 (cellOf x.2.mo).n),.d (.str (cellOf x.2.mo).s)]]) (λx=>x.1<=l.length/\x.2=(l.take x.1).foldl stp st0) (λx=>l.length - x.1) (0,st0) ?_ ?_ ?_
 ·exact⟨yai _,rfl⟩
 ·simp -dsimp -implicitDefEqProofs (disch:=omega) [st0,vc0]
 intro T' f hT' ⟨i,x⟩ ⟨h1,h2⟩ ih;simp only at h1 h2 ih;have hok:StpOk x i (λv=> ∀s,v= .text s->s.size<1000000000):=by
  rw[h2];exact zer (λv hv s e=>ht s (by rw[<- e];exact hv)) i h1
 by_cases hi:i<l.length
 ·obtain⟨v,hv⟩: ∃v,l[i]=v:=⟨_,rfl⟩
  have hstep:(l.take (i+1)).foldl stp st0=stp x v:=by rw[zh8 stp st0 l i hi,<- h2,hv]
  have hnu:=hok.nu;have hcl: ∀s,v= .text s->s.size<1000000000:=λs e=>ht s (by rw[<- e,<- hv];exact yam _)
  have hc1:=zcl (cellOf v) (cellOf x.le);have hc2:=zcl (cellOf x.mo) (cellOf v);rw[zmU]at hc1 hc2;have hn2:(x.nu:Int)+1<=9223372036854775807:=by omega
  clear h2 hok;obtain⟨nu,has,le,mo,cl⟩:=x;simp only[Cel.d]at hc1 hc2;simp only at hnu hn2
  by_cases h0:v= .null
  ·subst h0
   have e:stp ⟨nu,has,le,mo,cl⟩ .null=⟨nu+1,has,le,mo,cl⟩:=rfl;rw[e]at hstep;simp -dsimp -implicitDefEqProofs (disch:=omega) [hi,hv,vc0,Cel.d]
   refine ih (i+1,⟨nu+1,has,le,mo,cl⟩) _ _ ⟨hi,hstep.symm⟩ (by simp only;omega) ?_
   simp -dsimp -implicitDefEqProofs (disch:=omega)
  ·have e:stp ⟨nu,has,le,mo,cl⟩ v=⟨nu,true,if has=false\/ltV v le=true then v else le,if has=false\/ltV mo v=true then v else mo,cl && vcl v⟩:=yac h0
   rw[e]at hstep;cases has with
   |false=>
    simp only[true_or,ybk]at hstep;rcases v with _ | n | b | s
    ·exact absurd rfl h0
    ·simp only[vcl,ybY]at hstep
     simp -dsimp -implicitDefEqProofs (disch:=omega) [hi,hv,vc1,vc2,vc3,Cel.d]
     refine ih (i+1,_) _ _ ⟨hi,hstep.symm⟩ (by simp only;omega) ?_
     simp -dsimp -implicitDefEqProofs (disch:=omega) [vc1,vc2,vc3]
    ·simp only[vcl,ybY]at hstep
     simp -dsimp -implicitDefEqProofs (disch:=omega) [hi,hv,vc1,vc2,vc3,Cel.d]
     refine ih (i+1,_) _ _ ⟨hi,hstep.symm⟩ (by simp only;omega) ?_
     simp -dsimp -implicitDefEqProofs (disch:=omega) [vc1,vc2,vc3]
    ·have hcl1:=zck s (hcl s rfl)
     simp only[vcl,cln]at hstep;cases cl
     all_goals
      simp -dsimp -implicitDefEqProofs (disch:=omega) [hi,hv,vc1,vc2,vc3,Cel.d,hcl1]
      refine ih (i+1,_) _ _ ⟨hi,hstep.symm⟩ (by simp only;omega) ?_
      simp -dsimp -implicitDefEqProofs (disch:=omega) [vc1,vc2,vc3]
   |true=>
    simp only[Bool.true_eq_false,false_or]at hstep;cases f1:ltV v le
    all_goals
     rw[f1]at hc1 hstep;cases f2:ltV mo v
     all_goals
      rw[f2]at hc2 hstep;rcases v with _ | n | b | s
      ·exact absurd rfl h0
      ·simp only[vcl,ybY,ybk,ybd,yaD]at hstep
       simp only[vc1,vc2,vc3,i1,i2,i3]at hc1 hc2;simp -dsimp -implicitDefEqProofs (disch:=omega) [hi,hv,vc1,vc2,vc3,Cel.d,hc1,hc2]
       refine ih (i+1,_) _ _ ⟨hi,hstep.symm⟩ (by simp only;omega) ?_
       simp -dsimp -implicitDefEqProofs (disch:=omega) [vc1,vc2,vc3]
      ·simp only[vcl,ybY,ybk,ybd,yaD]at hstep
       simp only[vc1,vc2,vc3,i1,i2,i3]at hc1 hc2;simp -dsimp -implicitDefEqProofs (disch:=omega) [hi,hv,vc1,vc2,vc3,Cel.d,hc1,hc2]
       refine ih (i+1,_) _ _ ⟨hi,hstep.symm⟩ (by simp only;omega) ?_
       simp -dsimp -implicitDefEqProofs (disch:=omega) [vc1,vc2,vc3]
      ·have hcl1:=zck s (hcl s rfl)
       simp only[vcl,cln,ybk,ybd,yaD]at hstep;simp only[vc1,vc2,vc3,i1,i2,i3]at hc1 hc2;cases cl
       all_goals
        simp -dsimp -implicitDefEqProofs (disch:=omega) [hi,hv,vc1,vc2,vc3,Cel.d,hc1,hc2,hcl1]
        refine ih (i+1,_) _ _ ⟨hi,hstep.symm⟩ (by simp only;omega) ?_
        simp -dsimp -implicitDefEqProofs (disch:=omega) [vc1,vc2,vc3]
 ·have:i=l.length:=by omega
  subst this;rw[yaW]at h2;have hst:zaW l=zcG l.length x:=by unfold zaW;rw[h2]
  rw[hst]at hT;clear h2 hst;obtain⟨nu,has,le,mo,cl⟩:=x;have hle:=hok.le;clear hok ih;simp only at hle;subst hT';cases has with
  |false=>
   rw[show zcG l.length ⟨nu,false,le,mo,cl⟩=⟨l.length,nu,false,false,Cel.none,Cel.none⟩ from rfl]at hT
   simp -dsimp -implicitDefEqProofs (disch:=omega)
   simpa -dsimp -implicitDefEqProofs (disch:=omega) [Sta.d,Cel.none]using hT
  |true=>
  obtain⟨k1,p1,p2,k2⟩:=hle rfl;rcases le with _ | n | b | s
  ·exact absurd rfl k2
  ·rw[show zcG l.length ⟨nu,true,.whole n,mo,cl⟩=⟨l.length,nu,true,true,cellOf (.whole n),cellOf mo⟩ from rfl]at hT
   simp -dsimp -implicitDefEqProofs (disch:=omega) [vc1,vc2,vc3]
   simpa -dsimp -implicitDefEqProofs (disch:=omega) [Sta.d,vc1,vc2,vc3]using hT
  ·rw[show zcG l.length ⟨nu,true,.truth b,mo,cl⟩=⟨l.length,nu,true,true,cellOf (.truth b),cellOf mo⟩ from rfl]at hT
   simp -dsimp -implicitDefEqProofs (disch:=omega) [vc1,vc2,vc3]
   simpa -dsimp -implicitDefEqProofs (disch:=omega) [Sta.d,vc1,vc2,vc3]using hT
  ·obtain⟨m,rfl⟩: ∃m,mo= .text m:=by
    cases mo <;> simp only[Val.kind]at k1 <;> first | omega | exact⟨_,rfl⟩
   have hfi:R 79 [.d (.str s),.d (.int .i64 4)] []=some ([.d (.str (frs s 4))],[]):=zpY s (p1 s rfl) 4 (by omega) (by omega)
   cases cl with
   |false=>
    rw[show zcG l.length ⟨nu,true,.text s,.text m,false⟩=⟨l.length,nu,true,false,cellOf (.text noS),Cel.none⟩ from rfl]at hT
    simp -dsimp -implicitDefEqProofs (disch:=omega) [vc1,vc2,vc3,hfi]
    simpa -dsimp -implicitDefEqProofs (disch:=omega) [Sta.d,Cel.none,vc1,vc2,vc3]using hT
   |true=>
    have hab:R 80 [.d (.str m),.d (.int .i64 4)] []=some (zrc (abv m 4),[]):=zp2 m (p2 m rfl) 4 (by omega) (by omega)
    have hse:zcG l.length ⟨nu,true,.text s,.text m,true⟩=if (abv m 4).2=true then ⟨l.length,nu,true,true,cellOf (.text (frs s 4)),cellOf (.text (abv m 4).1)⟩ else ⟨l.length,nu,true,false,cellOf (.text (frs s 4)),Cel.none⟩:=rfl
    rw[hse]at hT;clear hse;generalize frs s 4=F at*;generalize abv m 4=A at*;obtain⟨A,hi⟩:=A
    try simp only at hab
    try simp only at hT
    cases hi with
    |true=>
     rw[yag rfl]at hT;simp -dsimp -implicitDefEqProofs (disch:=omega) [vc1,vc2,vc3,hfi,hab]
     simpa -dsimp -implicitDefEqProofs (disch:=omega) [Sta.d,vc1,vc2,vc3]using hT
    |false=>
     rw[yac (by decide)]at hT
     simp -dsimp -implicitDefEqProofs (disch:=omega) [vc1,vc2,vc3,hfi,hab]
     simpa -dsimp -implicitDefEqProofs (disch:=omega) [Sta.d,Cel.none,vc1,vc2,vc3]using hT
end Go.Am.Ab
