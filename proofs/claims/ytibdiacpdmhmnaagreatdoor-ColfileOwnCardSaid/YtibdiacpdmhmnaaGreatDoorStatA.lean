/- Statistics of values. -/
import Derived.Test.YtibdiacpdmhmnaaGreatDoorSignsB
import Derived.Test.YtibdiacpdmhmnaaGreatDoorValsA
set_option linter.all false
namespace Go.Am.Ab
open Go.Proofs
set_option maxHeartbeats 4000000
def cln (s:ByteArray):Bool:=(sgs s).all (·.2.2)
structure Sta where
 rows:Nat
 nulls:Nat
 has:Bool
 high:Bool
 mn:Cel
 mx:Cel
def Sta.d (x:Sta):D:= .agg [.int .i64 x.rows,.int .i64 x.nulls,.bool x.has,.bool x.high,.int .u8 x.mn.kind,.int .i64 x.mn.n,.str x.mn.s,.int .u8 x.mx.kind,.int .i64 x.mx.n,.str x.mx.s]
structure Stp1 where
 nu:Nat
 has:Bool
 le:Val
 mo:Val
 cl:Bool
def vcl:Val->Bool
 |.text s=>cln s
 |_=>true
def stp (x:Stp1) (v:Val):Stp1:=
 if v= .null then { x with nu:=x.nu+1 } else
 ⟨x.nu,true,if x.has=false\/ltV v x.le=true then v else x.le,if x.has=false\/ltV x.mo v=true then v else x.mo,x.cl && vcl v⟩
def st0:Stp1:=⟨0,false,.null,.null,true⟩
def ziv:Val->ByteArray
 |.text s=>s
 |_=>noS
def zeW (n:Nat) (x:Stp1):Sta:=
 if x.has=false then ⟨n,x.nu,false,false,Cel.none,Cel.none⟩ else
 match x.le with
 |.text s=>
  if x.cl=false then ⟨n,x.nu,true,false,zah (.text noS),Cel.none⟩ else
  if (abv (ziv x.mo) 4).2=true then ⟨n,x.nu,true,true,zah (.text (frs s 4)),zah (.text (abv (ziv x.mo) 4).1)⟩
  else ⟨n,x.nu,true,false,zah (.text (frs s 4)),Cel.none⟩
 |v=>⟨n,x.nu,true,true,zah v,zah x.mo⟩
def za3 (l:List Val):Sta:=zeW l.length (l.foldl stp st0)
def zlK {α β:Type} (f:β->α->β) (b:β) (l:List α) (i:Nat) (h:i<l.length):(l.take (i+1)).foldl f b=f ((l.take i).foldl f b) l[i]:=by
 rw[ybj h,yc3];rfl
structure StpOk (x:Stp1) (i:Nat) (p:Val->Prop):Prop where
 nu:x.nu<=i
 le:x.has=true->x.le.kind<=x.mo.kind/\p x.le/\p x.mo/\x.le≠ .null
def zDs {x:Stp1} {i:Nat} {p:Val->Prop} (h:StpOk x i p) {v:Val} (hv:p v):StpOk (stp x v) (i+1) p:=by
 unfold stp
 by_cases h0:v= .null
 ·rw[yai h0]
  exact⟨by have:=h.nu;simp only;omega,h.le⟩
 ·rw[yaf h0]
  refine⟨by have:=h.nu;simp only;omega,λ_=> ?_⟩
  simp only;cases hh:x.has with
  |false=>simp only[true_or,ybm];exact⟨yag _,hv,hv,h0⟩
  |true=>
   obtain⟨a,b,c,d⟩:=h.le hh;simp only[reduceCtorEq,false_or];have e1:ltV v x.le=true->v.kind<=x.le.kind:=zg6;have e2:ltV x.mo v=true->x.mo.kind<=v.kind:=zg6;have e3:ltV x.mo v=false->v.kind<=x.mo.kind:=λe=>by
    rcases ybF x.mo.kind v.kind with q | q
    ·have:=zeq q;rw[e]at this;cases this
    ·exact q
   cases h1:ltV v x.le <;> cases h2:ltV x.mo v <;> simp only[yaD,ybg,ybm]
   ·exact⟨a,b,c,d⟩
   ·exact⟨ybc a (e2 h2),b,hv,d⟩
   ·exact⟨e3 h2,hv,c,h0⟩
   ·exact⟨yag _,hv,hv,h0⟩
def zDt (p:Val->Prop):StpOk st0 0 p:=⟨yag _,λh=>by cases h⟩
def zg7 {l:List Val} {p:Val->Prop} (hp: ∀v∈l,p v): ∀i,i<=l.length->StpOk ((l.take i).foldl stp st0) i p
 |0,_=>zDt p
 |i+1,h=>by
  rw[zlK stp st0 l i h];exact zDs (zg7 hp i (by omega)) (hp _ (yar _))
def vd0:Val.null.d= .nilI:=rfl
def vd1 (n:Int):(Val.whole n).d= .iface 2 (.int .i64 n):=rfl
def vd2 (b:Bool):(Val.truth b).d= .iface 4 (.bool b):=rfl
def vd3 (s:ByteArray):(Val.text s).d= .iface 9 (.str s):=rfl
def vc0:zah .null=⟨0,0,noS⟩:=rfl
def vc1 (n:Int):zah (.whole n)=⟨1,n,noS⟩:=rfl
def vc2 (b:Bool):zah (.truth b)=⟨2,if b then 1 else 0,noS⟩:=rfl
def vc3 (s:ByteArray):zah (.text s)=⟨3,0,s⟩:=rfl
def i1:((1:Nat):Int)=1:=rfl
def i2:((2:Nat):Int)=2:=rfl
def i3:((3:Nat):Int)=3:=rfl
def zxu (a b:Val):(zpG a b<0)=(ltV a b=true):=by
 unfold zpG
 by_cases h:ltV a b=true
 ·simp[h]
 ·rw[yaf h]
  split <;> simp[h]
def zxv (a b:Val):(0<zpG a b)=(ltV b a=true):=by
 unfold zpG
 by_cases h:ltV a b=true
 ·rw[yai h]
  have:ltV b a=false:=by
   cases e:ltV b a with
   |false=>rfl
   |true=>have:=zuU h e;rw[zsO]at this;cases this
  simp[this]
 ·rw[yaf h]
  split
  ·rename_i h2;simp[h2]
  ·rename_i h2;simp[h2]
end Go.Am.Ab
namespace Go.Am.Ab
open Go.Proofs
set_option maxHeartbeats 8000000
set_option maxRecDepth 4000
def zd0 (v:Val):R 98 [.d v.d] []=some ([.d (zah v).d,.d (.bool true)],[]):=by
 rcases v with _ | n | b | s
 ·simp only[Val.d,zah,Cel.none,Cel.d]
  refine rg b98 rfl ?_;intro T hT;simp -dsimp -implicitDefEqProofs (disch:=first|omega|assumption)
  simpa -dsimp -implicitDefEqProofs (disch:=first|omega|assumption) using hT
 ·simp only[Val.d,zah,Cel.none,Cel.d]
  refine rg b98 rfl ?_;intro T hT;simp -dsimp -implicitDefEqProofs (disch:=first|omega|assumption)
  simpa -dsimp -implicitDefEqProofs (disch:=first|omega|assumption) using hT
 ·simp only[Val.d,zah,Cel.none,Cel.d]
  cases b
  all_goals
   refine rg b98 rfl ?_;intro T hT;simp -dsimp -implicitDefEqProofs (disch:=first|omega|assumption)
   simpa -dsimp -implicitDefEqProofs (disch:=first|omega|assumption) using hT
 ·simp only[Val.d,zah,Cel.none,Cel.d]
  refine rg b98 rfl ?_;intro T hT;simp -dsimp -implicitDefEqProofs (disch:=first|omega|assumption)
  simpa -dsimp -implicitDefEqProofs (disch:=first|omega|assumption) using hT
def zgc (l:List Val) (hn:l.length<=1000000) (ht: ∀s,Val.text s∈l->s.size<1000000000):R 47 [.d (.list (vs l))] []=some ([.d (za3 l).d],[]):=by
 refine rg b47 rfl ?_;intro T hT;simp -dsimp -implicitDefEqProofs (disch:=first|omega|assumption)
 generalize hz:zak _ _ _ _ _ _=z;revert z;refine zaa (σ:=Nat × Stp1) (λx=>[(2,.ptr 0 0),(3,.ptr 1 0),(4,.d x.2.le.d),(5,.d x.2.mo.d),(6,.d (.bool x.2.cl)),(18,.d (.list (vs l))),(19,.d (.int .i64 l.length)),(20,.d (.int .i64 x.1))]) (λx=>[.box [.d (.int .i64 0),.d (.int .i64 0),.d (.bool false),.d (.bool false),.d (.int .u8 0),.d (.int .i64 0),.d (.str ⟨#[]⟩),.d (.int .u8 0),.d (.int .i64 0),.d (.str ⟨#[]⟩)],.box [.d (.int .i64 l.length),.d (.int .i64 x.2.nu),.d (.bool x.2.has),.d (.bool false),.d (.int .u8 0),.d (.int .i64 0),.d (.str ⟨#[]⟩),.d (.int .u8 0),.d (.int .i64 0),.d (.str ⟨#[]⟩)]]) (λx=>x.1<=l.length/\x.2=(l.take x.1).foldl stp st0) (λx=>l.length - x.1) (0,st0) ?_ ?_ ?_
 ·exact⟨yaj _,rfl⟩
 ·simp -dsimp -implicitDefEqProofs (disch:=first|omega|assumption) [st0,vd0]
 intro T' f hT' ⟨i,x⟩ ⟨h1,h2⟩ ih;simp only at h1 h2 ih;have hok:StpOk x i (λv=> ∀s,v= .text s->s.size<1000000000):=by
  rw[h2];exact zg7 (λv hv s e=>ht s (by rw[<- e];exact hv)) i h1
 by_cases hi:i<l.length
 ·obtain⟨v,hv⟩: ∃v,l[i]=v:=⟨_,rfl⟩
  have hstep:(l.take (i+1)).foldl stp st0=stp x v:=by rw[zlK stp st0 l i hi,<- h2,hv]
  have hnu:=hok.nu;have hcl: ∀s,v= .text s->R 94 [.d (.str s)] []=some ([.d (.bool (cln s))],[]):=λs e=>zhI s (ht s (by rw[<- e,<- hv];exact yar _))
  have hc1:=ziu v x.le;have hc2:=ziu v x.mo;have d1:=zxu v x.le;have d2:=zxv v x.mo;have hn2:(x.nu:Int)+1<=9223372036854775807:=by omega
  clear h2 hok;obtain⟨nu,has,le,mo,cl⟩:=x;simp only at hc1 hc2 d1 d2 hnu hn2
  by_cases h0:v= .null
  ·subst h0
   have e:stp ⟨nu,has,le,mo,cl⟩ .null=⟨nu+1,has,le,mo,cl⟩:=rfl;rw[e]at hstep;simp -dsimp -implicitDefEqProofs (disch:=first|omega|assumption) [hi,hv,vd0,vd1,vd2,vd3]
   refine ih (i+1,⟨nu+1,has,le,mo,cl⟩) _ _ ⟨hi,hstep.symm⟩ (by simp only;omega) ?_
   simp -dsimp -implicitDefEqProofs (disch:=first|omega|assumption)
  ·have e:stp ⟨nu,has,le,mo,cl⟩ v=⟨nu,true,if has=false\/ltV v le=true then v else le,if has=false\/ltV mo v=true then v else mo,cl && vcl v⟩:=yaf h0
   rw[e]at hstep;generalize zpG v le=k1 at*;generalize zpG v mo=k2 at*;have hcal: ∀s,v= .text s->(cl && vcl v)=(cl && cln s):=λs e=>by rw[e];rfl
   cases has with
   |false=>
    simp only[true_or,ybm]at hstep;rcases v with _ | n | b | s
    ·exact absurd rfl h0
    ·simp only[vcl,yce]at hstep
     simp -dsimp -implicitDefEqProofs (disch:=first|omega|assumption) [hi,hv,vd0,vd1,vd2,vd3]
     refine ih (i+1,_) _ _ ⟨hi,hstep.symm⟩ (by simp only;omega) ?_
     simp -dsimp -implicitDefEqProofs (disch:=first|omega|assumption) [vd1,vd2,vd3]
    ·simp only[vcl,yce]at hstep
     simp -dsimp -implicitDefEqProofs (disch:=first|omega|assumption) [hi,hv,vd0,vd1,vd2,vd3]
     refine ih (i+1,_) _ _ ⟨hi,hstep.symm⟩ (by simp only;omega) ?_
     simp -dsimp -implicitDefEqProofs (disch:=first|omega|assumption) [vd1,vd2,vd3]
    ·have hcl1:=hcl s rfl
     simp only[vcl]at hstep;cases cl
     ·rw[ydI]at hstep
      simp -dsimp -implicitDefEqProofs (disch:=first|omega|assumption) [hi,hv,vd0,vd1,vd2,vd3]
      refine ih (i+1,_) _ _ ⟨hi,hstep.symm⟩ (by simp only;omega) ?_
      simp -dsimp -implicitDefEqProofs (disch:=first|omega|assumption) [vd1,vd2,vd3]
     ·rw[ycA]at hstep
      simp -dsimp -implicitDefEqProofs (disch:=first|omega|assumption) [hi,hv,vd0,vd1,vd2,vd3,hcl1]
      refine ih (i+1,_) _ _ ⟨hi,hstep.symm⟩ (by simp only;omega) ?_
      simp -dsimp -implicitDefEqProofs (disch:=first|omega|assumption) [vd1,vd2,vd3]
   |true=>
    simp only[Bool.true_eq_false,false_or]at hstep;rcases v with _ | n | b | s
    ·exact absurd rfl h0
    ·simp only[vcl,yce]at hstep
     simp only[vd1,vd2,vd3]at hc1 hc2
     by_cases f1:k1<0
     all_goals
      by_cases f2:0<k2
      all_goals
       have f1':=f1;have f2':=f2;rw[d1]at f1';rw[d2]at f2';simp only[f1',f2',ybm,ybg,yaD]at hstep;simp -dsimp -implicitDefEqProofs (disch:=first|omega|assumption) [hi,hv,vd0,vd1,vd2,vd3,hc1,hc2,f1,f2]
       refine ih (i+1,_) _ _ ⟨hi,hstep.symm⟩ (by simp only;omega) ?_
       simp -dsimp -implicitDefEqProofs (disch:=first|omega|assumption) [vd1,vd2,vd3]
    ·simp only[vcl,yce]at hstep
     simp only[vd1,vd2,vd3]at hc1 hc2
     by_cases f1:k1<0
     all_goals
      by_cases f2:0<k2
      all_goals
       have f1':=f1;have f2':=f2;rw[d1]at f1';rw[d2]at f2';simp only[f1',f2',ybm,ybg,yaD]at hstep;simp -dsimp -implicitDefEqProofs (disch:=first|omega|assumption) [hi,hv,vd0,vd1,vd2,vd3,hc1,hc2,f1,f2]
       refine ih (i+1,_) _ _ ⟨hi,hstep.symm⟩ (by simp only;omega) ?_
       simp -dsimp -implicitDefEqProofs (disch:=first|omega|assumption) [vd1,vd2,vd3]
    ·have hcl1:=hcl s rfl
     simp only[vcl]at hstep;simp only[vd1,vd2,vd3]at hc1 hc2;cases cl
     all_goals
      by_cases f1:k1<0
      all_goals
       by_cases f2:0<k2
       all_goals
        have f1':=f1;have f2':=f2;rw[d1]at f1';rw[d2]at f2';simp only[f1',f2',ybm,ybg,yaD,ydI,ycA]at hstep;simp -dsimp -implicitDefEqProofs (disch:=first|omega|assumption) [hi,hv,vd0,vd1,vd2,vd3,hc1,hc2,f1,f2,hcl1]
        refine ih (i+1,_) _ _ ⟨hi,hstep.symm⟩ (by simp only;omega) ?_
        simp -dsimp -implicitDefEqProofs (disch:=first|omega|assumption) [vd1,vd2,vd3]
 ·have:i=l.length:=by omega
  subst this;rw[ybf]at h2;have hst:za3 l=zeW l.length x:=by unfold za3;rw[h2]
  rw[hst]at hT;clear h2 hst;obtain⟨nu,has,le,mo,cl⟩:=x;have hle:=hok.le;clear hok ih;simp only at hle;subst hT';cases has with
  |false=>
   rw[show zeW l.length ⟨nu,false,le,mo,cl⟩=⟨l.length,nu,false,false,Cel.none,Cel.none⟩ from rfl]at hT
   simp -dsimp -implicitDefEqProofs (disch:=first|omega|assumption)
   simpa -dsimp -implicitDefEqProofs (disch:=first|omega|assumption) [Sta.d,Cel.none]using hT
  |true=>
  obtain⟨k1,p1,p2,k2⟩:=hle rfl;have hcm:=zd0 mo;have hcl:=zd0 le;rcases le with _ | n | b | s
  ·exact absurd rfl k2
  ·rw[show zeW l.length ⟨nu,true,.whole n,mo,cl⟩=⟨l.length,nu,true,true,zah (.whole n),zah mo⟩ from rfl]at hT
   simp only[vd1,Cel.d]at hcm hcl;simp -dsimp -implicitDefEqProofs (disch:=first|omega|assumption) [hcm,hcl,vd1]
   simpa -dsimp -implicitDefEqProofs (disch:=first|omega|assumption) [Sta.d]using hT
  ·rw[show zeW l.length ⟨nu,true,.truth b,mo,cl⟩=⟨l.length,nu,true,true,zah (.truth b),zah mo⟩ from rfl]at hT
   simp only[vd2,Cel.d]at hcm hcl;simp -dsimp -implicitDefEqProofs (disch:=first|omega|assumption) [hcm,hcl,vd2]
   simpa -dsimp -implicitDefEqProofs (disch:=first|omega|assumption) [Sta.d]using hT
  ·clear hcm hcl
   obtain⟨m,rfl⟩: ∃m,mo= .text m:=by
    cases mo <;> simp only[Val.kind]at k1 <;> first | omega | exact⟨_,rfl⟩
   have he:=zd0 (.text noS);rw[vd3]at he;cases cl with
   |false=>
    rw[show zeW l.length ⟨nu,true,.text s,.text m,false⟩=⟨l.length,nu,true,false,zah (.text noS),Cel.none⟩ from rfl]at hT
    simp only[Cel.d]at he;simp -dsimp -implicitDefEqProofs (disch:=first|omega|assumption) [he,vd3]
    simpa -dsimp -implicitDefEqProofs (disch:=first|omega|assumption) [Sta.d,Cel.none]using hT
   |true=>
    have hfi:R 96 [.d (.str s),.d (.int .i64 4)] []=some ([.d (.str (frs s 4))],[]):=zln s (p1 s rfl) 4 (by omega)
    have hab:R 97 [.d (.str m),.d (.int .i64 4)] []=some (zzE (abv m 4),[]):=zsg m (p2 m rfl) 4 (by omega) (by omega)
    have hse:zeW l.length ⟨nu,true,.text s,.text m,true⟩=if (abv m 4).2=true then ⟨l.length,nu,true,true,zah (.text (frs s 4)),zah (.text (abv m 4).1)⟩ else ⟨l.length,nu,true,false,zah (.text (frs s 4)),Cel.none⟩:=rfl
    have hf:=zd0 (.text (frs s 4));have hg:=zd0 (.text (abv m 4).1);rw[vd3]at hf hg;rw[hse]at hT;clear hse he;generalize frs s 4=F at*;generalize abv m 4=A at*;obtain⟨A,hi⟩:=A;simp only[Cel.d]at hf hg
    try simp only at hab
    try simp only at hT
    try simp only at hg
    cases hi with
    |true=>
     rw[yai rfl]at hT;simp -dsimp -implicitDefEqProofs (disch:=first|omega|assumption) [vd3,hfi,hab,hf,hg]
     simpa -dsimp -implicitDefEqProofs (disch:=first|omega|assumption) [Sta.d]using hT
    |false=>
     rw[yaf (by decide)]at hT
     simp -dsimp -implicitDefEqProofs (disch:=first|omega|assumption) [vd3,hfi,hab,hf]
     simpa -dsimp -implicitDefEqProofs (disch:=first|omega|assumption) [Sta.d,Cel.none]using hT
end Go.Am.Ab
namespace Go.Am.Ab
open Go.Proofs
set_option maxHeartbeats 8000000
set_option maxRecDepth 4000
end Go.Am.Ab
