/- Files of rows, read back: the walk. -/
import Derived.Test.YtibdiacpdmhmnaaGreatDoorFileC
import Derived.Test.YtibdiacpdmhmnaaGreatDoorBackA
set_option linter.all false
namespace Go.Am.Ab
open Go.Proofs
set_option maxHeartbeats 8000000
set_option maxRecDepth 4000
def ztl (L:List (List Cel)) (hl:L.length<=1000000) (hr: ∀r∈L,r.length<=1000000):R 74 [.d (.list (zdL L)),.d (.list (zdL L))] []=some ([.d (.bool true)],[]):=by
 obtain⟨Y,hY⟩: ∃Y,Y=zdL L:=⟨_,rfl⟩;have hYl:Y.length=L.length:=by rw[hY,yak]
 rw[<- hY];refine rg b74 rfl ?_;intro T hT;simp -dsimp -implicitDefEqProofs (disch:=first|omega|assumption)
 generalize hz:zak _ _ _ _ _ _=z;revert z;refine zaa (σ:=Nat) (λi=>[(0,.d (.list Y)),(1,.d (.list Y)),(5,.d (.int .i64 i))]) (λ_=>[]) (λi=>i<=L.length) (λi=>L.length - i) 0 ?_ ?_ ?_
 ·exact yaj _
 ·simp -dsimp -implicitDefEqProofs (disch:=first|omega|assumption)
 intro T' f hT' i hi ih
 by_cases h1:i<L.length
 ·have h2:i<Y.length:=by omega
  obtain⟨r,hr1⟩: ∃r,L[i]=r:=⟨_,rfl⟩;have hYi:Y[i]= .list (ce r):=by simp only[hY,ybE,hr1]
  have hs:=znU r r (hr r (hr1 ▸ yar h1));rw[yaQ rfl]at hs;generalize ce r=z at*;simp -dsimp -implicitDefEqProofs (disch:=first|omega|assumption) [h1,h2,hYi,hs]
  refine ih (i+1) _ _ h1 (by omega) (by simp -dsimp -implicitDefEqProofs (disch:=first|omega|assumption))
 ·subst hT'
  have h2: ¬ i<Y.length:=by omega
  simp -dsimp -implicitDefEqProofs (disch:=first|omega|assumption) [h2]
  simpa -dsimp -implicitDefEqProofs (disch:=first|omega|assumption) using hT
def zxT (X:List (List Val)) (hX:X.length<=1000000) (hr: ∀r∈X,r.length<=1000000):R 23 [.d (.list (za6 X)),.d (.list (zdL (X.map (·.map zah))))] []=some ([.d (.bool true)],[]):=by
 have h1:=zvK X hX hr;have h2:=ztl (X.map (·.map zah)) (by rw[yak];exact hX) λr hr'=>by
  obtain⟨q,hq,rfl⟩:=List.mem_map.1 hr';rw[yak];exact hr q hq
 have hl:(zdL (X.map (·.map zah))).length=X.length:=by rw[yak,yak]
 generalize zdL (X.map (·.map zah))=Z at*
 generalize za6 X=Y at*;refine rg b23 rfl ?_;intro T hT;simp -dsimp -implicitDefEqProofs (disch:=first|omega|assumption) [h1,h2,hl]
 simpa -dsimp -implicitDefEqProofs (disch:=first|omega|assumption) using hT
def ztm (s:Sch) (hl:s.fields.length<=1000000):R 30 [.d s.d,.d s.d] []=some ([.d (.bool true)],[]):=by
 obtain⟨sid,fs⟩:=s;simp only[Sch.d]at hl ⊢;obtain⟨Y,hY⟩: ∃Y,Y=fs.map Fld.d:=⟨_,rfl⟩;have hYl:Y.length=fs.length:=by rw[hY,yak]
 rw[<- hY];refine rg b30 rfl ?_;intro T hT;simp -dsimp -implicitDefEqProofs (disch:=first|omega|assumption)
 generalize hz:zak _ _ _ _ _ _=z;revert z;refine zaa (σ:=Nat) (λi=>[(2,.ptr 0 0),(3,.ptr 1 0),(5,.d (.int .i64 i))]) (λ_=>[.box [.d (.int .u32 sid),.d (.list Y)],.box [.d (.int .u32 sid),.d (.list Y)]]) (λi=>i<=fs.length) (λi=>fs.length - i) 0 ?_ ?_ ?_
 ·exact yaj _
 ·simp -dsimp -implicitDefEqProofs (disch:=first|omega|assumption)
 intro T' f hT' i hi ih
 by_cases h1:i<fs.length
 ·have h2:i<Y.length:=by omega
  obtain⟨⟨a,b,c,d⟩,hr1⟩: ∃r,fs[i]=r:=⟨_,rfl⟩;have hYi:Y[i]=Fld.d ⟨a,b,c,d⟩:=by simp only[hY,ybE,hr1]
  simp only[Fld.d]at hYi;simp -dsimp -implicitDefEqProofs (disch:=first|omega|assumption) [h1,h2,hYi,zdH]
  refine ih (i+1) _ _ h1 (by omega) (by simp -dsimp -implicitDefEqProofs (disch:=first|omega|assumption))
 ·subst hT'
  have h2: ¬ i<Y.length:=by omega
  simp -dsimp -implicitDefEqProofs (disch:=first|omega|assumption) [h2]
  simpa -dsimp -implicitDefEqProofs (disch:=first|omega|assumption) using hT
end Go.Am.Ab
