/- The reading of the document. -/
import Derived.Test.YtlgdomajdebbdaaGreatDoorReadB
set_option linter.all false
namespace Go.Am.Ab
open Go.Proofs
set_option maxHeartbeats 4000000
set_option maxRecDepth 4000
def zod (r0:List UInt8) (m:Nat) (hm256:m<=256) (hr0:r0.length<1000000):RP (zfQ false m 0 r0) (R 192 [.ptr 0 0,.d (.int .i64 0),.d (.int .i64 m)] [.box [B r0,Z]]):=by
 refine ra znN rfl zb5 ?_;simp -dsimp -implicitDefEqProofs (disch:=first|omega|assumption)
 generalize hT0:RP (zfQ false m 0 r0)=T0;generalize hz:zac _ _ _ _ _ _=z;revert z;refine zaa (σ:=List Int × List UInt8 × Nat × Int) (λx=>[(0,.ptr 0 0),(2,.d (.int .i64 m)),(7,.arr 1 x.1.length),(8,.d (.int .i64 x.1.length))]) (λx=>[.box [B x.2.1,E x.2.2.1],.arr 1 (cs x.1) 0]) (zAT false m r0) (λx=>m - x.1.length+(if x.2.2.1=0 then 1 else 0)) ([],r0,0,0) ?_ ?_ ?_
 ·exact⟨Nat.zero_le _,hr0,by simp,by unfold zah;simp only;omega,λ_=>(PR.map_id (λa=>rfl) _).symm,λh=>absurd rfl h⟩
 ·simp -dsimp -implicitDefEqProofs (disch:=first|omega|assumption) [B,E]
 intro T' f hT' ⟨l,b,e,a⟩ ⟨hl,hb,hli,hai,hok,hbad⟩ ih;simp only at hl hb hli hai hok hbad ih
 by_cases he:e=0
 case neg=>
  have hh:=hbad he;have fin:=zb6 hh b l (by omega) hli
  rw[hT0]at fin;subst hT'
  by_cases h1:l.length<m
  ·have h1':(l.length:Int)<m:=by omega
   simp -dsimp -implicitDefEqProofs (disch:=first|omega|assumption) [h1,h1',he]
   exact fin
  ·have h1': ¬ (l.length:Int)<m:=by omega
   simp -dsimp -implicitDefEqProofs (disch:=first|omega|assumption) [h1,h1',he]
   exact fin
 subst he;have hh:=hok rfl;clear hok hbad
 by_cases h1:l.length<m
 case neg=>
  have h1': ¬ (l.length:Int)<m:=by omega
  rw[show m - l.length=0 by omega,zfQ,PR.map_ok,List.append_nil]at hh
  have fin:=zmM hh;rw[hT0]at fin;subst hT';simp -dsimp -implicitDefEqProofs (disch:=first|omega|assumption) [h1,h1']
  exact fin
 have h1':(l.length:Int)<m:=by omega
 rw[show m - l.length=m - (l.length+1)+1 by omega]at hh
 have w1:=zeW b (by omega)
 have hz:=zeU (zbq b);obtain⟨r2,hr2⟩: ∃r2,r2=b.drop (get b).2.1:=⟨_,rfl⟩;have hr2l:r2.length<1000000:=by rw[hr2,List.length_drop];omega
 by_cases he2:(get b).2.2=0
 ·have hI:=zcj he2
  rw[<- hr2]at hI w1;rw[he2,zcz]at w1;obtain⟨x,hx⟩: ∃x,x=zag (get b).1:=⟨_,rfl⟩;rw[<- hx]at hI w1 hz;rw[zh2 hI]at hh;simp only[Bool.false_eq_true,if_false]at hh;obtain⟨y,hyx⟩: ∃y,y=x:=⟨_,rfl⟩;have hyi:zah y:=by rw[hyx];exact hz
  have hyy:=hyx.symm
  try rw[<- hyx]at hh
  simp -dsimp -implicitDefEqProofs (disch:=first|omega|assumption) [h1,h1',w1,hyy]
  refine ih (l++[y],r2,0,y) _ _ ⟨by simp;omega,hr2l,zca hli hyi,hyi,λ_=>by simp only[List.length_append,List.length_singleton];exact hh,λh=>absurd rfl h⟩ (by simp;omega) (by simp -dsimp -implicitDefEqProofs (disch:=first|omega|assumption) [B,E])
 ·have hI:=zc2 he2
  rw[<- hr2]at w1;obtain⟨e2,hee⟩: ∃e2,e2=(get b).2.2:=⟨_,rfl⟩;rw[<- hee]at hI w1 he2;obtain⟨x,hx⟩: ∃x,x=zag (get b).1:=⟨_,rfl⟩;rw[<- hx]at w1 hz;rw[zlt hI]at hh;obtain⟨y,hyx⟩: ∃y,y=x:=⟨_,rfl⟩;have hyi:zah y:=by rw[hyx];exact hz
  have hyy:=hyx.symm
  try rw[<- hyx]at hh
  simp -dsimp -implicitDefEqProofs (disch:=first|omega|assumption) [h1,h1',w1,hyy]
  refine ih (l++[y],r2,e2,y) _ _ ⟨by simp;omega,hr2l,zca hli hyi,hyi,λh=>absurd h he2,λ_=>hh⟩ (by simp[he2];omega) (by simp -dsimp -implicitDefEqProofs (disch:=first|omega|assumption) [B,E])
def zoe (r0:List UInt8) (m:Nat) (hm256:m<=256) (hr0:r0.length<1000000):RP (zfQ true m 0 r0) (R 192 [.ptr 0 0,.d (.int .i64 1),.d (.int .i64 m)] [.box [B r0,Z]]):=by
 refine ra znN rfl zb5 ?_;simp -dsimp -implicitDefEqProofs (disch:=first|omega|assumption)
 generalize hT0:RP (zfQ true m 0 r0)=T0;generalize hz:zac _ _ _ _ _ _=z;revert z;refine zaa (σ:=List Int × List UInt8 × Nat × Int) (λx=>[(0,.ptr 0 0),(2,.d (.int .i64 m)),(7,.arr 1 x.1.length),(9,.d (.int .u64 (IntKind.u64.wrap x.2.2.2))),(10,.d (.int .i64 x.1.length))]) (λx=>[.box [B x.2.1,E x.2.2.1],.arr 1 (cs x.1) 0]) (zAT true m r0) (λx=>m - x.1.length+(if x.2.2.1=0 then 1 else 0)) ([],r0,0,0) ?_ ?_ ?_
 ·exact⟨Nat.zero_le _,hr0,by simp,by unfold zah;simp only;omega,λ_=>(PR.map_id (λa=>rfl) _).symm,λh=>absurd rfl h⟩
 ·simp -dsimp -implicitDefEqProofs (disch:=first|omega|assumption) [B,E]
 intro T' f hT' ⟨l,b,e,a⟩ ⟨hl,hb,hli,hai,hok,hbad⟩ ih;simp only at hl hb hli hai hok hbad ih
 by_cases he:e=0
 case neg=>
  have hh:=hbad he;have fin:=zb6 hh b l (by omega) hli
  rw[hT0]at fin;subst hT'
  by_cases h1:l.length<m
  ·have h1':(l.length:Int)<m:=by omega
   simp -dsimp -implicitDefEqProofs (disch:=first|omega|assumption) [h1,h1',he]
   exact fin
  ·have h1': ¬ (l.length:Int)<m:=by omega
   simp -dsimp -implicitDefEqProofs (disch:=first|omega|assumption) [h1,h1',he]
   exact fin
 subst he;have hh:=hok rfl;clear hok hbad
 by_cases h1:l.length<m
 case neg=>
  have h1': ¬ (l.length:Int)<m:=by omega
  rw[show m - l.length=0 by omega,zfQ,PR.map_ok,List.append_nil]at hh
  have fin:=zmM hh;rw[hT0]at fin;subst hT';simp -dsimp -implicitDefEqProofs (disch:=first|omega|assumption) [h1,h1']
  exact fin
 have h1':(l.length:Int)<m:=by omega
 rw[show m - l.length=m - (l.length+1)+1 by omega]at hh
 have w1:=zeW b (by omega)
 have hz:=zeU (zbq b);obtain⟨r2,hr2⟩: ∃r2,r2=b.drop (get b).2.1:=⟨_,rfl⟩;have hr2l:r2.length<1000000:=by rw[hr2,List.length_drop];omega
 by_cases he2:(get b).2.2=0
 ·have hI:=zcj he2
  rw[<- hr2]at hI w1;rw[he2,zcz]at w1;obtain⟨x,hx⟩: ∃x,x=zag (get b).1:=⟨_,rfl⟩;rw[<- hx]at hI w1 hz;rw[zh2 hI]at hh;simp only[if_true]at hh;obtain⟨y,hy⟩: ∃y,y=IntKind.i64.wrap (x+a):=⟨_,rfl⟩;have hyi:zah y:=by rw[hy];exact zcS _
  have hy1:IntKind.u64.wrap (IntKind.u64.wrap a+IntKind.u64.wrap x)=IntKind.u64.wrap y:=by
   rw[hy];simp only[zab,zat];split <;> omega
  have hy2:IntKind.i64.wrap (IntKind.u64.wrap y)=y:=by
   unfold zah at hyi;simp only[zab,zat];split <;> omega
  try rw[<- hy]at hh
  simp -dsimp -implicitDefEqProofs (disch:=first|omega|assumption) [h1,h1',w1,hy1,hy2]
  refine ih (l++[y],r2,0,y) _ _ ⟨by simp;omega,hr2l,zca hli hyi,hyi,λ_=>by simp only[List.length_append,List.length_singleton];exact hh,λh=>absurd rfl h⟩ (by simp;omega) (by simp -dsimp -implicitDefEqProofs (disch:=first|omega|assumption) [B,E])
 ·have hI:=zc2 he2
  rw[<- hr2]at w1;obtain⟨e2,hee⟩: ∃e2,e2=(get b).2.2:=⟨_,rfl⟩;rw[<- hee]at hI w1 he2;obtain⟨x,hx⟩: ∃x,x=zag (get b).1:=⟨_,rfl⟩;rw[<- hx]at w1 hz;rw[zlt hI]at hh;obtain⟨y,hy⟩: ∃y,y=IntKind.i64.wrap (x+a):=⟨_,rfl⟩;have hyi:zah y:=by rw[hy];exact zcS _
  have hy1:IntKind.u64.wrap (IntKind.u64.wrap a+IntKind.u64.wrap x)=IntKind.u64.wrap y:=by
   rw[hy];simp only[zab,zat];split <;> omega
  have hy2:IntKind.i64.wrap (IntKind.u64.wrap y)=y:=by
   unfold zah at hyi;simp only[zab,zat];split <;> omega
  try rw[<- hy]at hh
  simp -dsimp -implicitDefEqProofs (disch:=first|omega|assumption) [h1,h1',w1,hy1,hy2]
  refine ih (l++[y],r2,e2,y) _ _ ⟨by simp;omega,hr2l,zca hli hyi,hyi,λh=>absurd h he2,λ_=>hh⟩ (by simp[he2];omega) (by simp -dsimp -implicitDefEqProofs (disch:=first|omega|assumption) [B,E])
def zqN (m:Nat): ∀ (f g:Nat) (b:List UInt8),m<=f->m<=g->zcr f m b=zcr g m b:=by
 induction m using Nat.strongRecOn with
 |_ m ih=>
 intro f g b hf hg;cases m with
 |zero=>cases f <;> cases g <;> rfl
 |succ m=>
  obtain⟨f,rfl⟩: ∃k,f=k+1:=⟨f - 1,by omega⟩
  obtain⟨g,rfl⟩: ∃k,g=k+1:=⟨g - 1,by omega⟩
  rw[zcr,zcr];cases zld b with
  |err e=>rfl
  |ok x r=>
   simp only;cases zni r with
   |err e=>rfl
   |ok k r2=>
    simp only;split
    ·rfl
    ·rw[ih (m+1 - k) (by omega) f g r2 (by omega) (by omega)]
def zFl (n:Nat) (b0:List UInt8) (x:List Int × List UInt8 × Nat):Prop:=x.1.length<=n/\x.2.1.length<1000000/\(∀n∈x.1,zah n)/\(x.2.2=0->zcr n n b0=(zcr (n - x.1.length) (n - x.1.length) x.2.1).map (x.1++ ·))/\(x.2.2≠0->zcr n n b0= .err x.2.2)
def zof (b0:List UInt8) (n:Nat) (hn:n<=256) (hb0:b0.length<1000000):RP (zcr n n b0) (R 192 [.ptr 0 0,.d (.int .i64 2),.d (.int .i64 n)] [.box [B b0,Z]]):=by
 refine ra znN rfl zb5 ?_;simp -dsimp -implicitDefEqProofs (disch:=first|omega|assumption)
 generalize hT0:RP (zcr n n b0)=T0;generalize hz:zac _ _ _ _ _ _=z;revert z;refine zaa (σ:=List Int × List UInt8 × Nat) (λx=>[(0,.ptr 0 0),(2,.d (.int .i64 n)),(7,.arr 1 x.1.length)]) (λx=>[.box [B x.2.1,E x.2.2],.arr 1 (cs x.1) 0]) (zFl n b0) (λx=>n - x.1.length+(if x.2.2=0 then 1 else 0)) ([],b0,0) ?_ ?_ ?_
 ·exact⟨Nat.zero_le _,hb0,by simp,λ_=>(PR.map_id (λa=>rfl) _).symm,λh=>absurd rfl h⟩
 ·simp -dsimp -implicitDefEqProofs (disch:=first|omega|assumption) [B,E]
 intro T' f hT' ⟨l,b,e⟩ ⟨hl,hb,hli,hok,hbad⟩ ih;simp only at hl hb hli hok hbad ih
 by_cases he:e=0
 case neg=>
  have hh:=hbad he;have fin:=zb6 hh b l (by omega) hli
  rw[hT0]at fin;subst hT'
  by_cases h1:l.length<n
  ·have h1':(l.length:Int)<n:=by omega
   simp -dsimp -implicitDefEqProofs (disch:=first|omega|assumption) [h1,h1',he]
   exact fin
  ·have h1': ¬ (l.length:Int)<n:=by omega
   simp -dsimp -implicitDefEqProofs (disch:=first|omega|assumption) [h1,h1',he]
   exact fin
 subst he;have hp:=hok rfl;clear hok hbad
 by_cases h1:l.length<n
 case neg=>
  have h1': ¬ (l.length:Int)<n:=by omega
  rw[show n - l.length=0 by omega,zcr,PR.map_ok,List.append_nil]at hp
  have fin:=zmM hp;rw[hT0]at fin;subst hT';simp -dsimp -implicitDefEqProofs (disch:=first|omega|assumption) [h1,h1']
  exact fin
 have h1':(l.length:Int)<n:=by omega
 obtain⟨m,hm⟩: ∃m,n - l.length=m+1:=⟨n - l.length - 1,by omega⟩
 have hmi:IntKind.u64.wrap ((n:Int) - l.length)=((m+1:Nat):Int):=by rw[zae (by omega) (by omega)];omega
 rw[hm,zcr]at hp;have w1:=zeW b (by omega)
 have hz:=zeU (zbq b);obtain⟨x,hx⟩: ∃x,x=zag (get b).1:=⟨_,rfl⟩;obtain⟨r,hr⟩: ∃r,r=b.drop (get b).2.1:=⟨_,rfl⟩;have hrl:r.length<1000000:=by rw[hr,List.length_drop];omega
 rw[<- hx]at hz w1;rw[<- hr]at w1
 /- an inner loop that does nothing -/
 have idle: ∀ (T2:Res->Prop) (f2:Slots->List Obj->Res) (k:Nat) (b':List UInt8) (e':Nat),(k=0\/e'≠0)->(∀s,zak s 0= .ptr 0 0->zak s 2= .d (.int .i64 n)->zak s 7= .arr 1 l.length->T2 (some (.exit 9,s,[.box [B b',E e'],.arr 1 (cs l) 0])))->True:=λ_ _ _ _ _ _ _=>trivial
 clear idle
 by_cases he:(get b).2.2=0
 case neg=>
  rw[zc2 he,PR.map_err]at hp;obtain⟨e,hee⟩: ∃e,e=(get b).2.2:=⟨_,rfl⟩;rw[<- hee]at w1 hp he;have w2:=zpf (.list (bytes r)) e he;simp -dsimp -implicitDefEqProofs (disch:=first|omega|assumption) [h1,h1',w1,w2,he]
  generalize hz:zac _ _ _ _ _ _=z;revert z;refine zaa (σ:=Unit) (λ_=>[(0,.ptr 0 0),(2,.d (.int .i64 n)),(7,.arr 1 l.length),(11,.d (.int .i64 x)),(12,.d (.int .u64 0)),(13,.d (.int .u64 0))]) (λ_=>[.box [B r,E e],.arr 1 (cs l) 0]) (λ_=>True) (λ_=>0) () ?_ ?_ ?_
  ·trivial
  ·simp -dsimp -implicitDefEqProofs (disch:=first|omega|assumption) [B,E]
  intro T2 f2 hT2 _ _ ih2;subst hT2;simp -dsimp -implicitDefEqProofs (disch:=first|omega|assumption)
  exact ih (l,r,e) _ _ ⟨hl,hrl,hli,λh=>absurd h he,λ_=>hp⟩ (by simp[he]) (by simp -dsimp -implicitDefEqProofs (disch:=first|omega|assumption) [B,E])
 rw[zcj he,<- hx,<- hr]at hp;simp only at hp;rw[he,zcz]at w1;have w2:=zlh r (by omega)
 obtain⟨s,hs⟩: ∃s,s=r.drop (get r).2.1:=⟨_,rfl⟩;have hsl:s.length<1000000:=by rw[hs,List.length_drop];omega
 by_cases he2:(get r).2.2=0
 case neg=>
  rw[zdK he2,PR.map_err]at hp;rw[zbo he2,zbl]at w2;obtain⟨e,hee⟩: ∃e,e=(get r).2.2:=⟨_,rfl⟩;rw[<- hs,<- hee]at w2;rw[<- hee]at hp he2;simp -dsimp -implicitDefEqProofs (disch:=first|omega|assumption) [h1,h1',w1,w2,he2]
  generalize hz:zac _ _ _ _ _ _=z;revert z;refine zaa (σ:=Unit) (λ_=>[(0,.ptr 0 0),(2,.d (.int .i64 n)),(7,.arr 1 l.length),(11,.d (.int .i64 x)),(12,.d (.int .u64 0)),(13,.d (.int .u64 0))]) (λ_=>[.box [B s,E e],.arr 1 (cs l) 0]) (λ_=>True) (λ_=>0) () ?_ ?_ ?_
  ·trivial
  ·simp -dsimp -implicitDefEqProofs (disch:=first|omega|assumption) [B,E]
  intro T2 f2 hT2 _ _ ih2;subst hT2;simp -dsimp -implicitDefEqProofs (disch:=first|omega|assumption)
  exact ih (l,s,e) _ _ ⟨hl,hsl,hli,λh=>absurd h he2,λ_=>hp⟩ (by simp[he2]) (by simp -dsimp -implicitDefEqProofs (disch:=first|omega|assumption) [B,E])
 rw[zdd he2]at hp;simp only at hp;have hq:=zbq r;obtain⟨q,hqq⟩: ∃q,q=(get r).1:=⟨_,rfl⟩;rw[he2,zcz,<- hs,<- hqq]at w2;rw[<- hs,<- hqq]at hp;rw[<- hqq]at hq
 by_cases hc:q=0\/m+1<q
 ·rw[if_pos hc,PR.map_err]at hp
  by_cases hq0:q=0
  ·subst hq0
   rw[zbl]at w2;simp -dsimp -implicitDefEqProofs (disch:=first|omega|assumption) [h1,h1',w1,w2]
   generalize hz:zac _ _ _ _ _ _=z;revert z;refine zaa (σ:=Unit) (λ_=>[(0,.ptr 0 0),(2,.d (.int .i64 n)),(7,.arr 1 l.length),(11,.d (.int .i64 x)),(12,.d (.int .u64 0)),(13,.d (.int .u64 0))]) (λ_=>[.box [B s,E 40],.arr 1 (cs l) 0]) (λ_=>True) (λ_=>0) () ?_ ?_ ?_
   ·trivial
   ·simp -dsimp -implicitDefEqProofs (disch:=first|omega|assumption) [B,E]
   intro T2 f2 hT2 _ _ ih2;subst hT2;simp -dsimp -implicitDefEqProofs (disch:=first|omega|assumption)
   exact ih (l,s,40) _ _ ⟨hl,hsl,hli,λh=>by simp at h,λ_=>hp⟩ (by simp) (by simp -dsimp -implicitDefEqProofs (disch:=first|omega|assumption) [B,E])
  ·have hq2:(m:Int)+1<q:=by omega
   have hq3:0<q:=by omega
   simp -dsimp -implicitDefEqProofs (disch:=first|omega|assumption) [h1,h1',w1,w2,hq0,hmi,hq2]
   generalize hz:zac _ _ _ _ _ _=z;revert z;refine zaa (σ:=Unit) (λ_=>[(0,.ptr 0 0),(2,.d (.int .i64 n)),(7,.arr 1 l.length),(11,.d (.int .i64 x)),(12,.d (.int .u64 q)),(13,.d (.int .u64 0))]) (λ_=>[.box [B s,E 40],.arr 1 (cs l) 0]) (λ_=>True) (λ_=>0) () ?_ ?_ ?_
   ·trivial
   ·simp -dsimp -implicitDefEqProofs (disch:=first|omega|assumption) [B,E]
   intro T2 f2 hT2 _ _ ih2;subst hT2;simp -dsimp -implicitDefEqProofs (disch:=first|omega|assumption) [hq3]
   exact ih (l,s,40) _ _ ⟨hl,hsl,hli,λh=>by simp at h,λ_=>hp⟩ (by simp) (by simp -dsimp -implicitDefEqProofs (disch:=first|omega|assumption) [B,E])
 ·rw[if_neg hc,PR.map_map]at hp
  have hq0: ¬ q=0:=by omega
  have hq2: ¬ (m:Int)+1<q:=by omega
  simp -dsimp -implicitDefEqProofs (disch:=first|omega|assumption) [h1,h1',w1,w2,hq0,hmi,hq2]
  generalize hz:zac _ _ _ _ _ _=z;revert z;refine zaa (σ:=Nat) (λi=>[(0,.ptr 0 0),(2,.d (.int .i64 n)),(7,.arr 1 (l.length+i)),(11,.d (.int .i64 x)),(12,.d (.int .u64 q)),(13,.d (.int .u64 i))]) (λi=>[.box [B s,Z],.arr 1 (cs (l++List.replicate i x)) 0]) (λi=>i<=q) (λi=>q - i) 0 ?_ ?_ ?_
  ·exact Nat.zero_le _
  ·simp -dsimp -implicitDefEqProofs (disch:=first|omega|assumption) [B,E]
  intro T2 f2 hT2 i hi ih2
  by_cases h3:i<q
  ·have h3':(i:Int)<q:=by omega
   have hiw:IntKind.u64.wrap ((i:Int)+1)=(i:Int)+1:=zae (by omega) (by omega)
   simp -dsimp -implicitDefEqProofs (disch:=first|omega|assumption) [h3,h3',hiw]
   refine ih2 (i+1) _ _ h3 (by omega) ?_
   rw[List.replicate_succ'];simp -dsimp -implicitDefEqProofs (disch:=first|omega|assumption) [B,E,Nat.add_assoc]
  ·have hiq:i=q:=by omega
   subst hT2;rw[hiq];simp -dsimp -implicitDefEqProofs (disch:=first|omega|assumption)
   refine ih (l++List.replicate q x,s,0) _ _ ⟨by simp only[List.length_append,List.length_replicate];omega,hsl,λz hz2=> ?_,λ_=> ?_,λh=>absurd rfl h⟩ (by simp only[List.length_append,List.length_replicate,if_true];omega) ?_
   ·rcases List.mem_append.1 hz2 with h | h
    ·exact hli z h
    ·rw[(List.mem_replicate.1 h).2];exact hz
   ·simp only[List.length_append,List.length_replicate]
    rw[hp,show n - (l.length+q)=m+1 - q by omega,zqN (m+1 - q) m (m+1 - q) s (by omega) (Nat.le_refl _)]
    congr 1;funext z;simp
   ·simp -dsimp -implicitDefEqProofs (disch:=first|omega|assumption) [B,E]
end Go.Am.Ab
namespace Go.Am.Ab
open Go.Proofs
set_option maxHeartbeats 4000000
set_option maxRecDepth 4000
def zog (b0:List UInt8) (n:Nat) (hn:n<=256) (hb0:b0.length<1000000):RP (zcy n b0) (R 192 [.ptr 0 0,.d (.int .i64 4),.d (.int .i64 n)] [.box [B b0,Z]]):=by
 by_cases h0:n=0
 ·subst h0
  have hp:zcy 0 b0= .ok [] b0:=rfl;have fin:=zmM hp;have e:R 192 [.ptr 0 0,.d (.int .i64 4),.d (.int .i64 0)] [.box [B b0,Z]]=some ([.arr 1 0],[.box [B b0,Z],.arr 1 [] 0]):=by
   refine rg znN rfl ?_;intro T hT;simp -dsimp -implicitDefEqProofs (disch:=first|omega|assumption)
   simpa -dsimp -implicitDefEqProofs (disch:=first|omega|assumption) [B,E]using hT
  rw[zbl,e];exact fin
 have hni: ¬ (n:Int)=0:=by omega
 have w1:=zeW b0 (by omega)
 generalize hP:zcy n b0=pr;unfold zcy at hP;rw[if_neg h0]at hP
 by_cases he:(get b0).2.2=0
 case neg=>
  rw[zc2 he]at hP;obtain⟨s,hs⟩: ∃s,s=b0.drop (get b0).2.1:=⟨_,rfl⟩;obtain⟨e1,hee⟩: ∃e1,e1=(get b0).2.2:=⟨_,rfl⟩;rw[<- hs,<- hee]at w1;rw[<- hee]at hP he;have w2:=zpf (.list (bytes s)) e1 he;have g:=zfS (.list (bytes s)) n 0 e1 he;have fin:=zb6 hP.symm s [] (by simp) (by simp)
  have hz0:IntKind.i64.wrap 0=0:=wI (by omega) (by omega)
  refine ra znN rfl zb5 ?_;simp -dsimp -implicitDefEqProofs (disch:=first|omega|assumption) [h0,hni,w1,w2,he,hz0,g]
  generalize hT0:RP pr=T0;rw[hT0]at fin;generalize zag (get b0).1=x;generalize hz:zac _ _ _ _ _ _=z;revert z;refine zaa (σ:=Unit) (λ_=>[(7,.arr 1 0),(21,.d (.int .i64 x)),(23,.arr 2 0),(24,.d (.int .i64 0))]) (λ_=>[.box [B s,E e1],.arr 1 [] 0,.arr 1 [] 0]) (λ_=>True) (λ_=>0) () ?_ ?_ ?_
  ·trivial
  ·simp -dsimp -implicitDefEqProofs (disch:=first|omega|assumption) [B,E]
  intro T' f hT' _ _ ih;subst hT';simp -dsimp -implicitDefEqProofs (disch:=first|omega|assumption)
  exact fin
 rw[zcj he]at hP;simp only at hP;rw[he,zcz]at w1;obtain⟨r,hr⟩: ∃r,r=b0.drop (get b0).2.1:=⟨_,rfl⟩;have hrl:r.length<1000000:=by rw[hr,List.length_drop];omega
 have hz:=zeU (zbq b0);obtain⟨x,hx⟩: ∃x,x=zag (get b0).1:=⟨_,rfl⟩;rw[<- hr,<- hx]at hP w1;rw[<- hx]at hz;clear hr hx he;have w2:=zlh r (by omega)
 by_cases he2:(get r).2.2=0
 case neg=>
  rw[zdK he2]at hP;rw[zbo he2,zbl]at w2;obtain⟨s,hs⟩: ∃s,s=r.drop (get r).2.1:=⟨_,rfl⟩;obtain⟨e1,hee⟩: ∃e1,e1=(get r).2.2:=⟨_,rfl⟩;rw[<- hs,<- hee]at w2;rw[<- hee]at hP he2;have g:=zfS (.list (bytes s)) n 0 e1 he2;have fin:=zb6 hP.symm s [] (by simp) (by simp)
  have hz0:IntKind.i64.wrap 0=0:=wI (by omega) (by omega)
  refine ra znN rfl zb5 ?_;simp -dsimp -implicitDefEqProofs (disch:=first|omega|assumption) [h0,hni,w1,w2,he2,hz0,g]
  generalize hT0:RP pr=T0;rw[hT0]at fin;generalize hz:zac _ _ _ _ _ _=z;revert z;refine zaa (σ:=Unit) (λ_=>[(7,.arr 1 0),(21,.d (.int .i64 x)),(23,.arr 2 0),(24,.d (.int .i64 0))]) (λ_=>[.box [B s,E e1],.arr 1 [] 0,.arr 1 [] 0]) (λ_=>True) (λ_=>0) () ?_ ?_ ?_
  ·trivial
  ·simp -dsimp -implicitDefEqProofs (disch:=first|omega|assumption) [B,E]
  intro T' f hT' _ _ ih;subst hT';simp -dsimp -implicitDefEqProofs (disch:=first|omega|assumption)
  exact fin
 rw[zdd he2]at hP;simp only at hP;rw[he2,zcz]at w2;obtain⟨s,hs⟩: ∃s,s=r.drop (get r).2.1:=⟨_,rfl⟩;have hsl:s.length<1000000:=by rw[hs,List.length_drop];omega
 have hq:=zbq r;obtain⟨w,hw⟩: ∃w,w=(get r).1:=⟨_,rfl⟩;rw[<- hs,<- hw]at hP w2;rw[<- hw]at hq;clear hs hw he2
 by_cases hw64:64<w
 ·rw[if_pos hw64]at hP
  have hw64':(64:Int)<w:=by omega
  obtain⟨wi,hwi⟩: ∃wi,wi=IntKind.i64.wrap (w:Int):=⟨_,rfl⟩;have hwi':=hwi.symm;have g:=zfS (.list (bytes s)) n wi 40 (by decide)
  have fin:=zb6 hP.symm s [] (by simp) (by simp)
  rw[show E 40= .d (.int .i64 40) from rfl]at g
  refine ra znN rfl zb5 ?_;simp -dsimp -implicitDefEqProofs (disch:=first|omega|assumption) [h0,hni,w1,w2,hw64,hw64',hwi',g]
  generalize hT0:RP pr=T0;rw[hT0]at fin;generalize hz:zac _ _ _ _ _ _=z;revert z;refine zaa (σ:=Unit) (λ_=>[(7,.arr 1 0),(21,.d (.int .i64 x)),(23,.arr 2 0),(24,.d (.int .i64 0))]) (λ_=>[.box [B s,.d (.int .i64 40)],.arr 1 [] 0,.arr 1 [] 0]) (λ_=>True) (λ_=>0) () ?_ ?_ ?_
  ·trivial
  ·simp -dsimp -implicitDefEqProofs (disch:=first|omega|assumption) [B,E]
  intro T' f hT' _ _ ih;subst hT';simp -dsimp -implicitDefEqProofs (disch:=first|omega|assumption)
  exact fin
 rw[if_neg hw64]at hP;have hw64': ¬ (64:Int)<w:=by omega
 have hwi:IntKind.i64.wrap (w:Int)=w:=wI (by omega) (by omega)
 cases hpk:za6 n w s with
 |err e=>
  rw[hpk,PR.map_err]at hP;have he:=zcV hpk;obtain⟨v,hv,g⟩:=ziZ hpk hn (by omega) (by omega)
  rcases hv with rfl | rfl
  ·have fin:=zb6 hP.symm s [] (by simp) (by simp)
   refine ra znN rfl zb5 ?_;simp -dsimp -implicitDefEqProofs (disch:=first|omega|assumption) [h0,hni,w1,w2,hw64,hw64',hwi,g]
   generalize hT0:RP pr=T0;rw[hT0]at fin;generalize hz:zac _ _ _ _ _ _=z;revert z;refine zaa (σ:=Unit) (λ_=>[(7,.arr 1 0),(21,.d (.int .i64 x)),(23,.arr 2 0),(24,.d (.int .i64 0))]) (λ_=>[.box [B s,E e],.arr 1 [] 0,.arr 1 [] 0]) (λ_=>True) (λ_=>0) () ?_ ?_ ?_
   ·trivial
   ·simp -dsimp -implicitDefEqProofs (disch:=first|omega|assumption) [B,E]
   intro T' f hT' _ _ ih;subst hT';simp -dsimp -implicitDefEqProofs (disch:=first|omega|assumption)
   exact fin
  ·have fin:=zls hP.symm [] (by simp) (by simp)
   refine ra znN rfl zb5 ?_;simp -dsimp -implicitDefEqProofs (disch:=first|omega|assumption) [h0,hni,w1,w2,hw64,hw64',hwi,g]
   generalize hT0:RP pr=T0;rw[hT0]at fin;generalize hz:zac _ _ _ _ _ _=z;revert z;refine zaa (σ:=Unit) (λ_=>[(7,.arr 1 0),(21,.d (.int .i64 x)),(23,.arr 2 0),(24,.d (.int .i64 0))]) (λ_=>[.box [.nilS,E e],.arr 1 [] 0,.arr 1 [] 0]) (λ_=>True) (λ_=>0) () ?_ ?_ ?_
   ·trivial
   ·simp -dsimp -implicitDefEqProofs (disch:=first|omega|assumption) [B,E]
   intro T' f hT' _ _ ih;subst hT';simp -dsimp -implicitDefEqProofs (disch:=first|omega|assumption)
   exact fin
 |ok p r2=>
  obtain⟨rfl,hpl,hplt,_⟩:=zgn hpk hn (by omega) (by omega)
  have g:=zks hpk hn (by omega) (by omega)
  rw[hpk,PR.map_ok]at hP;refine ra znN rfl zb5 ?_;simp -dsimp -implicitDefEqProofs (disch:=first|omega|assumption) [h0,hni,w1,w2,hw64,hw64',hwi,g]
  generalize hT0:RP pr=T0;generalize hz:zac _ _ _ _ _ _=z;revert z;refine zaa (σ:=Nat) (λi=>[(7,.arr 1 i),(21,.d (.int .i64 x)),(23,.arr 2 n),(24,.d (.int .i64 i))]) (λi=>[.box [.nilS,Z],.arr 1 (cs (zrd (λ(q:Nat)=>IntKind.i64.wrap (x+q)) p i)) 0,.arr 1 (us p) 0]) (λi=>i<=n) (λi=>n - i) 0 ?_ ?_ ?_
  ·exact Nat.zero_le _
  ·simp -dsimp -implicitDefEqProofs (disch:=first|omega|assumption) [E,zgq]
  intro T' f hT' i hi ih;have hti:=zer (g:=λ(q:Nat)=>IntKind.i64.wrap (x+q)) (p:=p) (i:=i) (by omega)
  by_cases h1:i<n
  ·have h1':(i:Int)<n:=by omega
   have h1p:i<p.length:=by omega
   have hy:IntKind.i64.wrap (IntKind.u64.wrap (IntKind.u64.wrap x+(p[i]:Nat)))=IntKind.i64.wrap (x+(p[i]:Nat)):=by
    rw[zab,zab,zat,zat];have e:((x % 18446744073709551616+(p[i]:Nat)) % 18446744073709551616) % 18446744073709551616=(x+(p[i]:Nat)) % 18446744073709551616:=by omega
    rw[e]
   simp -dsimp -implicitDefEqProofs (disch:=first|omega|assumption) [h1,h1',h1p,hy,hti]
   refine ih (i+1) _ _ h1 (by omega) ?_
   rw[zgr h1p];simp -dsimp -implicitDefEqProofs (disch:=first|omega|assumption) [E,hti]
  ·have hin:i=n:=by omega
   have fin:=zpm hP.symm;rw[hT0,List.length_map,hpl,<- zh1 (i:=n) (by omega)]at fin
   rw[hin]at hti;subst hT';rw[hin];simp -dsimp -implicitDefEqProofs (disch:=first|omega|assumption) [hti]
   exact fin
end Go.Am.Ab
namespace Go.Am.Ab
open Go.Proofs
set_option maxHeartbeats 4000000
set_option maxRecDepth 4000
def zoh (b0:List UInt8) (n:Nat) (hn:n<=256) (hb0:b0.length<1000000):RP (zeA n b0) (R 192 [.ptr 0 0,.d (.int .i64 3),.d (.int .i64 n)] [.box [B b0,Z]]):=by
 have hni:IntKind.u64.wrap (n:Int)=n:=zae (by omega) (by omega)
 have w1:=zlh b0 (by omega)
 generalize hP:zeA n b0=pr;unfold zeA at hP
 by_cases he:(get b0).2.2=0
 case neg=>
  rw[zdK he]at hP;simp only at hP;rw[zbo he,zbl]at w1;obtain⟨e1,he1⟩: ∃e1,e1=(get b0).2.2:=⟨_,rfl⟩;obtain⟨r,hr⟩: ∃r,r=b0.drop (get b0).2.1:=⟨_,rfl⟩;rw[<- he1,<- hr]at w1;rw[<- he1]at hP he;have fin:=zb6 hP.symm r [] (by simp) (by simp)
  refine ra znN rfl zb5 ?_;simp -dsimp -implicitDefEqProofs (disch:=first|omega|assumption) [hni,w1,he]
  generalize hT0:RP pr=T0;rw[hT0]at fin;generalize hz:zac _ _ _ _ _ _=z;revert z;refine zaa (σ:=Unit) (λx=>[(0,.ptr 0 0),(2,.d (.int .i64 n)),(7,.arr 1 0),(14,.d (.int .u64 0)),(15,.arr 2 0),(16,.d (.int .u64 0))]) (λx=>[.box [B r,E e1],.arr 1 [] 0,.arr 1 [] 0]) (λx=>True) (λx=>0) () ?_ ?_ ?_
  ·trivial
  ·simp -dsimp -implicitDefEqProofs (disch:=first|omega|assumption) [B,E]
  intro T' f hT' x _ ih;subst hT'
  by_cases hnn:n=0
  ·simp -dsimp -implicitDefEqProofs (disch:=first|omega|assumption) [he,hnn]
   exact fin
  ·simp -dsimp -implicitDefEqProofs (disch:=first|omega|assumption) [he,hnn]
   exact fin
 rw[zdd he]at hP;simp only at hP;rw[he,zcz]at w1;obtain⟨r,hr⟩: ∃r,r=b0.drop (get b0).2.1:=⟨_,rfl⟩;have hrl:r.length<1000000:=by rw[hr,List.length_drop];omega
 have hq:=zbq b0;obtain⟨many,hmn⟩: ∃many,many=(get b0).1:=⟨_,rfl⟩;rw[<- hr,<- hmn]at hP w1;rw[<- hmn]at hq;clear hr hmn he
 by_cases hc:n<many\/many=0/\0<n
 ·rw[if_pos hc]at hP
  have fin:=zb6 hP.symm r [] (by simp) (by simp)
  by_cases hc1:n<many
  ·have hc1':(n:Int)<many:=by omega
   refine ra znN rfl zb5 ?_;simp -dsimp -implicitDefEqProofs (disch:=first|omega|assumption) [hni,w1,hc1,hc1']
   generalize hT0:RP pr=T0;rw[hT0]at fin;generalize hz:zac _ _ _ _ _ _=z;revert z;refine zaa (σ:=Unit) (λx=>[(0,.ptr 0 0),(2,.d (.int .i64 n)),(7,.arr 1 0),(14,.d (.int .u64 many)),(15,.arr 2 0),(16,.d (.int .u64 0))]) (λx=>[.box [B r,E 40],.arr 1 [] 0,.arr 1 [] 0]) (λx=>True) (λx=>0) () ?_ ?_ ?_
   ·trivial
   ·simp -dsimp -implicitDefEqProofs (disch:=first|omega|assumption) [B,E]
   intro T' f hT' x _ ih;have hm0:0<many:=by omega
   subst hT'
   by_cases hnn:n=0
   ·simp -dsimp -implicitDefEqProofs (disch:=first|omega|assumption) [hm0,hnn]
    exact fin
   ·simp -dsimp -implicitDefEqProofs (disch:=first|omega|assumption) [hm0,hnn]
    exact fin
  ·have hm0:many=0:=by omega
   subst hm0;have hn0:0<n:=by omega
   have hn0':(0:Int)<n:=by omega
   have hc1': ¬ (n:Int)<0:=by omega
   refine ra znN rfl zb5 ?_;simp -dsimp -implicitDefEqProofs (disch:=first|omega|assumption) [hni,w1,hc1',hn0,hn0']
   generalize hT0:RP pr=T0;rw[hT0]at fin;generalize hz:zac _ _ _ _ _ _=z;revert z;refine zaa (σ:=Unit) (λx=>[(0,.ptr 0 0),(2,.d (.int .i64 n)),(7,.arr 1 0),(14,.d (.int .u64 0)),(15,.arr 2 0),(16,.d (.int .u64 0))]) (λx=>[.box [B r,E 40],.arr 1 [] 0,.arr 1 [] 0]) (λx=>True) (λx=>0) () ?_ ?_ ?_
   ·trivial
   ·simp -dsimp -implicitDefEqProofs (disch:=first|omega|assumption) [B,E]
   intro T' f hT' x _ ih;have hnn: ¬ n=0:=by omega
   subst hT';simp -dsimp -implicitDefEqProofs (disch:=first|omega|assumption) [hnn]
   exact fin
 rw[if_neg hc]at hP;have hc1: ¬ n<many:=by omega
 have hc1': ¬ (n:Int)<many:=by omega
 by_cases hm0:many=0
 ·subst hm0
  have hn0:n=0:=by omega
  subst hn0;rw[zbl]at w1 hc1';have hP2:pr= .ok [] r:=by rw[<- hP];simp[zeT,zg1]
  have fin:=zmM hP2;rw[zbl];refine ra znN rfl zb5 ?_;simp -dsimp -implicitDefEqProofs (disch:=first|omega|assumption) [w1]
  generalize hT0:RP pr=T0;rw[hT0]at fin;generalize hz:zac _ _ _ _ _ _=z;revert z;refine zaa (σ:=Unit) (λx=>[(0,.ptr 0 0),(2,.d (.int .i64 0)),(7,.arr 1 0),(14,.d (.int .u64 0)),(15,.arr 2 0),(16,.d (.int .u64 0))]) (λx=>[.box [B r,Z],.arr 1 [] 0,.arr 1 [] 0]) (λx=>True) (λx=>0) () ?_ ?_ ?_
  ·trivial
  ·simp -dsimp -implicitDefEqProofs (disch:=first|omega|assumption) [B,E]
  intro T' f hT' x _ ih;subst hT';simp -dsimp -implicitDefEqProofs (disch:=first|omega|assumption)
  exact fin
 have hm0': ¬ (many:Int)=0:=by omega
 have hmany:many<=256:=by omega
 have hn0: ¬ n=0:=by omega
 have hn0': ¬ (n:Int)=0:=by omega
 have hmm:IntKind.u64.wrap ((many:Int) - 1)=((many - 1:Nat):Int):=by rw[zae (by omega) (by omega)];omega
 have hwd:=zej [many - 1] (by simp;omega) (by simp)
 rw[zmN]at hwd;have hw64:=ziD (n:=many - 1) (by omega)
 obtain⟨w,hw⟩: ∃w,w=za9 (many - 1):=⟨_,rfl⟩;rw[<- hw]at hwd hw64;have hwd2:R 223 [.d (.list [.int .u64 ((many - 1:Nat):Int)])] []=some ([.d (.int .i64 w)],[]):=hwd;refine ra znN rfl zb5 ?_;simp -dsimp -implicitDefEqProofs (disch:=first|omega|assumption) [hni,w1,hc1',hm0,hm0']
 generalize hT0:RP pr=T0;generalize hz:zac _ _ _ _ _ _=z;revert z;refine zaa (σ:=List Int × List UInt8 × Nat) (λx=>[(0,.ptr 0 0),(2,.d (.int .i64 n)),(7,.arr 1 0),(14,.d (.int .u64 many)),(15,.arr 2 x.1.length),(16,.d (.int .u64 x.1.length))]) (λx=>[.box [B x.2.1,E x.2.2],.arr 1 [] 0,.arr 1 (cs x.1) 0]) (zDF n many r) (λx=>many - x.1.length+(if x.2.2=0 then 1 else 0)) ([],r,0) ?_ ?_ ?_
 ·exact⟨Nat.zero_le _,hrl,by simp,λ_=>by unfold zes;rw[if_pos rfl],λh=>absurd rfl h⟩
 ·simp -dsimp -implicitDefEqProofs (disch:=first|omega|assumption) [B,E]
 intro T' f hT' ⟨u,b,e⟩ ⟨hu,hb,hui,hok,hbad⟩ ih;simp only at hu hb hui hok hbad ih;have hul:IntKind.u64.wrap ((u.length:Int)+1)=(u.length:Int)+1:=zae (by omega) (by omega)
 by_cases he:e=0
 case neg=>
  have hh:=hbad he;rw[hh]at hP;have fin:=zb6 hP.symm b [] (by simp) (by simp)
  rw[hT0]at fin;subst hT'
  by_cases hu2:u.length<many
  ·have hu2':(u.length:Int)<many:=by omega
   simp -dsimp -implicitDefEqProofs (disch:=first|omega|assumption) [hul,hu2,hu2',he,hn0]
   exact fin
  ·have hu2': ¬ (u.length:Int)<many:=by omega
   simp -dsimp -implicitDefEqProofs (disch:=first|omega|assumption) [hul,hu2,hu2',he,hn0]
   exact fin
 subst he;have hh:=hok rfl;clear hok hbad
 try simp only[zcz]
 by_cases hu2:u.length<many
 case pos=>
  have hu2':(u.length:Int)<many:=by omega
  by_cases hu0:u=[]
  ·subst hu0
   have w2:=zeW b (by omega)
   have hz:=zeU (zbq b);obtain⟨r2,hr2⟩: ∃r2,r2=b.drop (get b).2.1:=⟨_,rfl⟩;have hr2l:r2.length<1000000:=by rw[hr2,List.length_drop];omega
   simp only[List.length_nil]at hu2 hu2' hul;have hu3:(0:Int)<many:=by omega
   have hul0:IntKind.u64.wrap 1=1:=zae (by omega) (by omega)
   by_cases he2:(get b).2.2=0
   ·have hI:=zcj he2
    rw[<- hr2]at hI w2;rw[he2,zcz]at w2;obtain⟨x,hx⟩: ∃x,x=zag (get b).1:=⟨_,rfl⟩;rw[<- hx]at hI w2 hz;simp -dsimp -implicitDefEqProofs (disch:=first|omega|assumption) [hul0,hu2,hu3,w2]
    refine ih ([x],r2,0) _ _ ⟨by simp;omega,hr2l,by simpa using hz,λ_=>by rw[hh];exact zjc hI hu2,λh=>absurd rfl h⟩ (by simp;omega) (by simp -dsimp -implicitDefEqProofs (disch:=first|omega|assumption) [B,E])
   ·have hI:=zc2 he2
    rw[<- hr2]at w2;obtain⟨e2,hee⟩: ∃e2,e2=(get b).2.2:=⟨_,rfl⟩;rw[<- hee]at hI w2 he2;obtain⟨x,hx⟩: ∃x,x=zag (get b).1:=⟨_,rfl⟩;rw[<- hx]at w2 hz;simp -dsimp -implicitDefEqProofs (disch:=first|omega|assumption) [hul0,hu2,hu3,w2]
    refine ih ([x],r2,e2) _ _ ⟨by simp;omega,hr2l,by simpa using hz,λh=>absurd h he2,λ_=>by rw[hh];exact zeZ hI hu2⟩ (by simp[he2];omega) (by simp -dsimp -implicitDefEqProofs (disch:=first|omega|assumption) [B,E])
  ·have hul0:0<u.length:=List.length_pos_iff.2 hu0
   have hul0': ¬ (u.length:Int)=0:=by omega
   have hul1: ¬ u.length=0:=by omega
   have w2:=zlh b (by omega)
   have hd:=zbq b;obtain⟨r2,hr2⟩: ∃r2,r2=b.drop (get b).2.1:=⟨_,rfl⟩;have hr2l:r2.length<1000000:=by rw[hr2,List.length_drop];omega
   obtain⟨v,hv⟩: ∃v,u.length=v+1:=⟨u.length - 1,by omega⟩
   have hv1:IntKind.u64.wrap ((u.length:Int) - 1)=v:=by rw[zae (by omega) (by omega)];omega
   have hvl:v<u.length:=by omega
   have gv:=get_at hvl;have hlast:=zvS hui hvl;have hvv:u.length - 1=v:=by omega
   obtain⟨la,hla⟩: ∃la,la=at' u v:=⟨_,rfl⟩;rw[<- hla]at gv hlast;obtain⟨mx,hmx⟩: ∃mx:Nat,(mx:Int)=9223372036854775807 - la:=⟨(9223372036854775807 - la).toNat,by unfold zah at hlast;omega⟩
   have hmxw:IntKind.u64.wrap (9223372036854775807 - IntKind.u64.wrap la)=mx:=by unfold zah at hlast;rw[zab,zab];omega
   obtain⟨y,hy⟩: ∃y,y=IntKind.i64.wrap (IntKind.u64.wrap (IntKind.u64.wrap la+(get b).1)):=⟨_,rfl⟩;have hyi:zah y:=by rw[hy];exact zcS _
   by_cases he2:(get b).2.2=0
   ·have hI:=zdd he2
    rw[<- hr2]at hI w2;rw[he2,zcz]at w2;obtain⟨d,hdd⟩: ∃d,d=(get b).1:=⟨_,rfl⟩;rw[<- hdd]at hI w2 hd hy
    by_cases hc2:d=0\/9223372036854775807<la+d
    ·have hst:zes many u b= .err 40:=zfA hI hu0 hu2 (by rw[hvv,<- hla];exact hc2)
     by_cases hd0:d=0
     ·subst hd0
      rw[zbl]at w2 hy;rw[Int.add_zero]at hy;simp -dsimp -implicitDefEqProofs (disch:=first|omega|assumption) [hul,hu2,hu2',hul0',hul1,hv1,hvl,gv,w2,hy.symm]
      refine ih (u++[y],r2,40) _ _ ⟨by simp;omega,hr2l,zca hui hyi,λh=>by simp at h,λ_=>by rw[hh];exact hst⟩ (by simp;omega) (by simp -dsimp -implicitDefEqProofs (disch:=first|omega|assumption) [B,E])
     ·have hd1:(mx:Int)<d:=by omega
      simp -dsimp -implicitDefEqProofs (disch:=first|omega|assumption) [hul,hu2,hu2',hul0',hul1,hv1,hvl,gv,w2,hy.symm,hd0,hmxw,hd1]
      refine ih (u++[y],r2,40) _ _ ⟨by simp;omega,hr2l,zca hui hyi,λh=>by simp at h,λ_=>by rw[hh];exact hst⟩ (by simp;omega) (by simp -dsimp -implicitDefEqProofs (disch:=first|omega|assumption) [B,E])
    ·have hd0: ¬ d=0:=by omega
     have hd1: ¬ (mx:Int)<d:=by omega
     have hst:=zky hI hu0 hu2 (by rw[hvv,<- hla];exact hc2)
     have hyl:y=la+d:=by
      unfold zah at hlast;rw[hy,zab,zab,zat];split <;> omega
     rw[hvv,<- hla,<- hyl]at hst;simp -dsimp -implicitDefEqProofs (disch:=first|omega|assumption) [hul,hu2,hu2',hul0',hul1,hv1,hvl,gv,w2,hy.symm,hd0,hmxw,hd1]
     refine ih (u++[y],r2,0) _ _ ⟨by simp;omega,hr2l,zca hui hyi,λ_=>by rw[hh];exact hst,λh=>absurd rfl h⟩ (by simp;omega) (by simp -dsimp -implicitDefEqProofs (disch:=first|omega|assumption) [B,E])
   ·have hI:=zdK he2
    have hst:=zfz hI hu0 hu2;rw[zbo he2,zbl,<- hr2]at w2;rw[zbo he2,zbl,Int.add_zero]at hy;obtain⟨e2,hee⟩: ∃e2,e2=(get b).2.2:=⟨_,rfl⟩;rw[<- hee]at hst w2 he2;simp -dsimp -implicitDefEqProofs (disch:=first|omega|assumption) [hul,hu2,hu2',hul0',hul1,hv1,hvl,gv,w2,hy.symm,he2]
    refine ih (u++[y],r2,e2) _ _ ⟨by simp;omega,hr2l,zca hui hyi,λh=>absurd h he2,λ_=>by rw[hh];exact hst⟩ (by simp[he2];omega) (by simp -dsimp -implicitDefEqProofs (disch:=first|omega|assumption) [B,E])
 have hum:u.length=many:=by omega
 have hu2': ¬ (u.length:Int)<many:=by omega
 rw[zkx hum]at hh;rw[hh]at hP;simp only[zg1,if_neg hn0]at hP;rw[<- hw]at hP;have hu0l:0<u.length:=by omega
 have gu0:=get_at hu0l;clear hh ih hc w1;cases hpk:za6 n w b with
 |err e=>
  rw[hpk]at hP;have he:=zcV hpk;obtain⟨v,hv,g⟩:=ziZ hpk hn hw64 (by omega)
  subst hT';rcases hv with rfl | rfl
  ·have fin:=zb6 hP.symm b [] (by simp) (by simp)
   rw[hT0]at fin;simp -dsimp -implicitDefEqProofs (disch:=first|omega|assumption) [hul,hu2,hu2',hn0,hn0',hmm,hwd2,g]
   generalize hz:zac _ _ _ _ _ _=z;revert z;refine zaa (σ:=Unit) (λ_=>[(0,.ptr 0 0),(7,.arr 1 0),(14,.d (.int .u64 many)),(15,.arr 2 u.length),(19,.arr 3 0),(20,.d (.int .i64 0))]) (λ_=>[.box [B b,E e],.arr 1 [] 0,.arr 1 (cs u) 0,.arr 1 [] 0]) (λ_=>True) (λ_=>0) () ?_ ?_ ?_
   ·trivial
   ·simp -dsimp -implicitDefEqProofs (disch:=first|omega|assumption) [B,E]
   intro T2 f2 hT2 _ _ ih;subst hT2;simp -dsimp -implicitDefEqProofs (disch:=first|omega|assumption)
   exact fin
  ·have fin:=zls hP.symm [] (by simp) (by simp)
   rw[hT0]at fin;simp -dsimp -implicitDefEqProofs (disch:=first|omega|assumption) [hul,hu2,hu2',hn0,hn0',hmm,hwd2,g]
   generalize hz:zac _ _ _ _ _ _=z;revert z;refine zaa (σ:=Unit) (λ_=>[(0,.ptr 0 0),(7,.arr 1 0),(14,.d (.int .u64 many)),(15,.arr 2 u.length),(19,.arr 3 0),(20,.d (.int .i64 0))]) (λ_=>[.box [.nilS,E e],.arr 1 [] 0,.arr 1 (cs u) 0,.arr 1 [] 0]) (λ_=>True) (λ_=>0) () ?_ ?_ ?_
   ·trivial
   ·simp -dsimp -implicitDefEqProofs (disch:=first|omega|assumption) [B,E]
   intro T2 f2 hT2 _ _ ih;subst hT2;simp -dsimp -implicitDefEqProofs (disch:=first|omega|assumption)
   exact fin
 |ok p r2=>
  obtain⟨rfl,hpl,hplt,_⟩:=zgn hpk hn hw64 (by omega)
  have g:=zks hpk hn hw64 (by omega)
  rw[hpk]at hP;simp only at hP;subst hT';simp -dsimp -implicitDefEqProofs (disch:=first|omega|assumption) [hul,hu2,hu2',hn0,hn0',hmm,hwd2,g]
  generalize hz:zac _ _ _ _ _ _=z;revert z;refine zaa (σ:=Nat) (λi=>[(0,.ptr 0 0),(7,.arr 1 i),(14,.d (.int .u64 many)),(15,.arr 2 u.length),(19,.arr 3 n),(20,.d (.int .i64 i))]) (λi=>[.box [.nilS,Z],.arr 1 (cs (zrd (at' u) p i)) 0,.arr 1 (cs u) 0,.arr 1 (us p) 0]) (λi=>i<=n/\ ∀q∈p.take i,q<many) (λi=>n - i) 0 ?_ ?_ ?_
  ·exact⟨Nat.zero_le _,by simp⟩
  ·simp -dsimp -implicitDefEqProofs (disch:=first|omega|assumption) [E,zgq]
  intro T2 f2 hT2 i ⟨hi,hall⟩ ih;have hti:=zer (g:=at' u) (p:=p) (i:=i) (by omega)
  by_cases h1:i<n
  ·have h1':(i:Int)<n:=by omega
   have h1p:i<p.length:=by omega
   have hts:=zam h1p
   by_cases h3:p[i]<many
   ·have h3': ¬ (many:Int)<=(p[i]:Nat):=by omega
    have h3l:p[i]<u.length:=by omega
    have gp:=get_at h3l;simp -dsimp -implicitDefEqProofs (disch:=first|omega|assumption) [h1,h1',h1p,h3,h3',h3l,gp,hti]
    refine ih (i+1) _ _ ⟨h1,λq hq=> ?_⟩ (by omega) ?_
    ·rw[hts]at hq
     rcases List.mem_append.1 hq with hq | hq
     ·exact hall q hq
     ·rw[List.mem_singleton.1 hq];exact h3
    ·rw[zgr h1p]
     simp -dsimp -implicitDefEqProofs (disch:=first|omega|assumption) [E,hti]
   ·have h3':(many:Int)<=(p[i]:Nat):=by omega
    rw[if_neg (λh=>h3 (h _ (List.getElem_mem h1p)))]at hP
    have fin:=zls hP.symm [] (by simp) (by simp)
    rw[hT0]at fin;subst hT2;simp -dsimp -implicitDefEqProofs (disch:=first|omega|assumption) [h1,h1',h1p,h3,h3']
    exact fin
  ·have hin:i=n:=by omega
   rw[hin,List.take_of_length_le (by omega)]at hall
   rw[if_pos hall]at hP;have fin:=zpm hP.symm;rw[hT0,List.length_map,hpl,<- zh1 (i:=n) (by omega)]at fin
   rw[hin]at hti;subst hT2;rw[hin];simp -dsimp -implicitDefEqProofs (disch:=first|omega|assumption) [hti]
   exact fin
end Go.Am.Ab
namespace Go.Am.Ab
open Go.Proofs
set_option maxHeartbeats 4000000
set_option maxRecDepth 4000
def zqO (c n:Nat) (hc:c<5) (b0:List UInt8) (hn:n<=256) (hb0:b0.length<1000000):RP (zen c n b0) (R 192 [.ptr 0 0,.d (.int .i64 c),.d (.int .i64 n)] [.box [B b0,Z]]):=by
 have hcc:c=0\/c=1\/c=2\/c=3\/c=4:=by omega
 rcases hcc with rfl | rfl | rfl | rfl | rfl
 ·exact zod b0 n hn hb0
 ·exact zoe b0 n hn hb0
 ·exact zof b0 n hn hb0
 ·exact zoh b0 n hn hb0
 ·exact zog b0 n hn hb0
def zha (b:List UInt8) (n:Int) (hb:b.length<1000000) (hn:zah n):R 134 [B b,.d (.int .i64 n)] []=some ([.arr 0 (zaV b n).1.length,E (zaV b n).2],[.arr 1 (cs (zaV b n).1) (zaV b n).1.length]):=by
 unfold zaV
 by_cases h1:n<0\/256<n
 ·rw[if_pos h1]
  by_cases h2:n<0
  ·refine rg zrG rfl ?_
   intro T hT;simp -dsimp -implicitDefEqProofs (disch:=first|omega|assumption) [h2]
   simpa -dsimp -implicitDefEqProofs (disch:=first|omega|assumption) [E]using hT
  ·have h3:256<n:=by omega
   refine rg zrG rfl ?_;intro T hT;simp -dsimp -implicitDefEqProofs (disch:=first|omega|assumption) [h2,h3]
   simpa -dsimp -implicitDefEqProofs (disch:=first|omega|assumption) [E]using hT
 rw[if_neg h1];have h2: ¬ n<0:=by omega
 have h3: ¬ 256<n:=by omega
 cases b with
 |nil=>
  refine rg zrG rfl ?_;intro T hT;simp -dsimp -implicitDefEqProofs (disch:=first|omega|assumption) [h2,h3]
  simpa -dsimp -implicitDefEqProofs (disch:=first|omega|assumption) [E]using hT
 |cons c0 r0=>
 simp only;simp only[List.length_cons]at hb;have hr0:r0.length<1000000:=by omega
 have hlen: ¬ ((r0.length:Int)+1=0):=by omega
 by_cases h4:4<c0.toNat
 ·rw[if_pos h4]
  have h4':(4:Int)<c0.toNat:=by omega
  refine rg zrG rfl ?_;intro T hT;simp -dsimp -implicitDefEqProofs (disch:=first|omega|assumption) [h2,h3,h4,h4',hlen]
  simpa -dsimp -implicitDefEqProofs (disch:=first|omega|assumption) [E]using hT
 rw[if_neg h4];have h4': ¬ (4:Int)<c0.toNat:=by omega
 obtain⟨m,hm⟩: ∃m:Nat,n=m:=⟨n.toNat,by omega⟩
 subst hm;have hm256:m<=256:=by omega
 rw[Int.toNat_natCast];have he0:c0.toNat<5:=by omega
 have hci:IntKind.i64.wrap (c0.toNat:Int)=c0.toNat:=wI (by omega) (by omega)
 have hlist:=zqO c0.toNat m he0 r0 hm256 hr0;unfold zuc;cases hpl:zen c0.toNat m r0 with
 |err e=>
  rw[hpl]at hlist;have he:=ziY hpl;obtain⟨x,l,hx,hl,hli,g⟩:=hlist;simp only;rcases hx with rfl | ⟨b,rfl⟩
  ·refine rg zrG rfl ?_
   intro T hT;simp -dsimp -implicitDefEqProofs (disch:=first|omega|assumption) [h2,h3,h4,h4',hlen,hci,g,he]
   simpa -dsimp -implicitDefEqProofs (disch:=first|omega|assumption) [E]using hT
  ·refine rg zrG rfl ?_
   intro T hT;simp -dsimp -implicitDefEqProofs (disch:=first|omega|assumption) [h2,h3,h4,h4',hlen,hci,g,he]
   simpa -dsimp -implicitDefEqProofs (disch:=first|omega|assumption) [E]using hT
 |ok l r=>
  rw[hpl]at hlist;obtain⟨hl,hli⟩:=zhX hpl;obtain⟨x,hx,g⟩:=hlist;have enc:=ziT c0.toNat l hli (by omega) he0
  simp only
  by_cases hr:r=[]
  ·subst hr
   rw[if_neg (λh=>h rfl)]
   obtain⟨w,hw⟩: ∃w,w=zdu c0.toNat l:=⟨_,rfl⟩;rw[<- hw]at enc ⊢
   by_cases hq:w=r0
   ·rw[if_pos hq]
    rcases hx with rfl | ⟨_,rfl⟩
    ·refine rg zrG rfl ?_
     intro T hT;simp -dsimp -implicitDefEqProofs (disch:=first|omega|assumption) [h2,h3,h4,h4',hlen,hci,g,enc,hq]
     simpa -dsimp -implicitDefEqProofs (disch:=first|omega|assumption) [E]using hT
    ·refine rg zrG rfl ?_
     intro T hT;simp -dsimp -implicitDefEqProofs (disch:=first|omega|assumption) [h2,h3,h4,h4',hlen,hci,g,enc,hq]
     simpa -dsimp -implicitDefEqProofs (disch:=first|omega|assumption) [E]using hT
   ·rw[if_neg hq]
    have hqb:(w == r0)=false:=beq_false_of_ne hq;rcases hx with rfl | ⟨_,rfl⟩
    ·refine rg zrG rfl ?_
     intro T hT;simp -dsimp -implicitDefEqProofs (disch:=first|omega|assumption) [h2,h3,h4,h4',hlen,hci,g,enc,hqb]
     simpa -dsimp -implicitDefEqProofs (disch:=first|omega|assumption) [E]using hT
    ·refine rg zrG rfl ?_
     intro T hT;simp -dsimp -implicitDefEqProofs (disch:=first|omega|assumption) [h2,h3,h4,h4',hlen,hci,g,enc,hqb]
     simpa -dsimp -implicitDefEqProofs (disch:=first|omega|assumption) [E]using hT
  ·rw[if_pos hr]
   rcases hx with rfl | ⟨h,_⟩
   ·have hb0:0<r.length:=List.length_pos_iff.2 hr
    refine rg zrG rfl ?_;intro T hT;simp -dsimp -implicitDefEqProofs (disch:=first|omega|assumption) [h2,h3,h4,h4',hlen,hci,g,hb0]
    simpa -dsimp -implicitDefEqProofs (disch:=first|omega|assumption) [E]using hT
   ·exact absurd h hr
end Go.Am.Ab
