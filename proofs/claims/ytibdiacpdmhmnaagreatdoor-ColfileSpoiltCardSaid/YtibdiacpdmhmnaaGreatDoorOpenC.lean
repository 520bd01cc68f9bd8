/- Files of rows, opened. -/
import Derived.Test.YtibdiacpdmhmnaaGreatDoorOpenA
import Derived.Test.YtibdiacpdmhmnaaGreatDoorFileC
import Derived.Test.YtibdiacpdmhmnaaGreatDoorOpenB
set_option linter.all false
namespace Go.Am.Ab
open Go.Proofs
set_option maxHeartbeats 4000000
def okR (n:Nat) (r:List Val):Prop:=r.length<=n/\ ∀x,Val.whole x∈r->zai x
def zAy {n:Nat} {T:List (List Val)} {l:List Val} {k:Nat} (hT: ∀r∈T,okR n r) (hl:zgh k l): ∀r∈zrc T l,okR (n+1) r:=by
 intro r hr;obtain⟨j,hj⟩:=ybt hr;unfold zrc at hj;rw[List.getElem?_zipWith]at hj;cases e1:T[j]? with
 |none=>rw[e1]at hj;simp at hj
 |some a=>
  cases e2:l[j]? with
  |none=>rw[e1,e2]at hj;simp at hj
  |some v=>
   rw[e1,e2]at hj;simp only[yaa]at hj;subst hj;obtain⟨h1,h2⟩:=hT a (yaE e1);refine⟨by simp only[yab,ya5];omega,λx hx=> ?_⟩
   rcases List.mem_append.1 hx with hx | hx
   ·exact h2 x hx
   ·have:=List.mem_singleton.1 hx
    rcases hl v (yaE e2) with h | ⟨_,h,_⟩
    ·rw[h]at this;cases this
    ·exact h x this.symm
def zsN {many:Nat}: ∀ {ks:List Nat} {r:List UInt8 × Bool} {e:List UInt8} {T:List (List Val)} {n:Nat} {r':List UInt8 × Bool} {e':List UInt8} {T':List (List Val)},zgJ many ks r e T=some (r',e',T')->T.length=many->(∀q∈T,okR n q)->T'.length=many/\ ∀q∈T',okR (n+ks.length) q
 |[],r,e,T,n,r',e',T',h,h1,h2=>by
  simp only[zgJ,yaa,yae]at h;obtain⟨_,_,rfl⟩:=h;exact⟨h1,h2⟩
 |k::ks,r,e,T,n,r',e',T',h,h1,h2=>by
  rw[zfU]at h;split at h
  ·cases h
  ·split at h
   ·cases h
   ·rename_i h3
    obtain⟨g1,g2,_⟩:=zgI (Decidable.not_not.1 h3);obtain⟨a,b⟩:=zsN (n:=n+1) h (by rw[zgK,h1,g2,Nat.min_self]) (zAy h2 g1)
    exact⟨a,λq hq=>by rw[yad,show n+(ks.length+1)=n+1+ks.length by omega];exact b q hq⟩
def zsO {ks:List Nat} {g:Nat}: ∀ {f n:Nat} {r:List UInt8 × Bool} {e:List UInt8} {acc X:List (List Val)},zjc ks g f n r e acc=some X->acc.length+n<=256->(∀q∈acc,okR ks.length q)->X.length<=256/\ ∀q∈X,okR ks.length q
 |0,n,r,e,acc,X,h,_,_=>by simp[zjc]at h
 |f+1,n,r,e,acc,X,h,h1,h2=>by
  unfold zjc at h;split at h
  ·obtain rfl:=ya8 h
   exact⟨by omega,h2⟩
  ·split at h
   ·cases h
   ·rename_i r' e' T hc
    obtain⟨a,b⟩:=zsN (n:=0) hc (by simp) λq hq=>by
     rw[(List.mem_replicate.1 hq).2];exact⟨yaf _,λx hx=>by simp at hx⟩
    refine zsO h (by rw[yab,a];omega) λq hq=> ?_
    rcases List.mem_append.1 hq with hq | hq
    ·exact h2 q hq
    ·have:=b q hq;rwa [yaW]at this
def zsP {b:List UInt8} {s:Sch} {X:List (List Val)} {g:Nat} (h:zls b=some (s,X,g)):SchOk s/\SchIs s/\1<=g/\g<=64/\X.length<=256/\ ∀q∈X,okR 8 q:=by
 unfold zls at h;split at h
 ·cases h
 ·split at h
  ·cases h
  ·simp only at h
   split at h
   ·cases h
   ·rename_i h3
    obtain⟨h4,h5,_⟩:=zmM (Decidable.not_not.1 h3);split at h
    ·cases h
    ·rename_i h6
     split at h
     ·cases h
     ·rename_i Y hY
      simp only[yaa,yae]at h;obtain⟨rfl,rfl,rfl⟩:=h;have hs:=zdU h4;have l1:=(zdV 256 ((zcR (List.drop ((List.take (b.length - 4) b).length - zAr (List.drop (b.length - 4) b)) (List.take (b.length - 4) b))).2.1,false)).1;have l2:=(zdV 64 (zeM 256 ((zcR (List.drop ((List.take (b.length - 4) b).length - zAr (List.drop (b.length - 4) b)) (List.take (b.length - 4) b))).2.1,false)).2).1;obtain⟨a,c⟩:=zsO hY (by simp only[yat];omega) λq hq=>by simp at hq
      refine⟨h5,hs,by simp only[not_or]at h6;omega,l2,a,λq hq=> ?_⟩
      obtain⟨c1,c2⟩:=c q hq;have:=hs.len;rw[yah]at c1;exact⟨by omega,c2⟩
end Go.Am.Ab
namespace Go.Am.Ab
open Go.Proofs
set_option maxHeartbeats 8000000
set_option maxRecDepth 4000
def zrk (l:List Val) (hn:l.length<1000000000):R 65 [.d (.list (vs l))] []=some ([.arr 0 l.length],[.arr 1 (vs l) 0]):=by
 cases l with
 |nil=>
  refine ze3 (rs:=[.tmp 2]) (ts:=[71]) Tryz.func65 rfl rfl rfl (by kernel_rfl) (by kernel_rfl) zCj (by simp[Tryz.f65]) ?_
  intro T hT a ha;rcases ha with rfl | rfl
  all_goals simp -dsimp -implicitDefEqProofs (disch:=first|omega|assumption)
  all_goals exact hT
 |cons x r=>
  simp only[yad]at hn;refine zfx (rs:=[.tmp 2]) (ts:=[71]) Tryz.func65 rfl rfl rfl (by kernel_rfl) (by kernel_rfl) (.inr ⟨(zCj).2,by intro zaF h;simp at h⟩) (by simp[Tryz.f65]) ?_
  intro T hT;simp -dsimp -implicitDefEqProofs (disch:=first|omega|assumption)
  simpa -dsimp -implicitDefEqProofs (disch:=first|omega|assumption) using hT
@[simp] def zAz (l:List Fld):zaq 4 (l.map Fld.d)=true:=zaS l λ_=>rfl
def zrl (l:List Fld) (hn:l.length<1000000000):R 77 [.d (.list (l.map Fld.d))] []=some ([.arr 0 l.length],[.arr 4 (l.map Fld.d) 0]):=by
 cases l with
 |nil=>
  refine ze3 (rs:=[.tmp 2]) (ts:=[23]) Tryz.func77 rfl rfl rfl (by kernel_rfl) (by kernel_rfl) zCk (by simp[Tryz.f77]) ?_
  intro T hT a ha;rcases ha with rfl | rfl
  all_goals simp -dsimp -implicitDefEqProofs (disch:=first|omega|assumption)
  all_goals exact hT
 |cons x r=>
  simp only[yad]at hn;refine zfx (rs:=[.tmp 2]) (ts:=[23]) Tryz.func77 rfl rfl rfl (by kernel_rfl) (by kernel_rfl) (.inr ⟨(zCk).2,by intro zaF h;simp at h⟩) (by simp[Tryz.f77]) ?_
  intro T hT;simp -dsimp -implicitDefEqProofs (disch:=first|omega|assumption)
  simpa -dsimp -implicitDefEqProofs (disch:=first|omega|assumption) using hT
def zzi (r:List Val):D:= .list (vs r)
@[simp] def zBv (r:List Val):(zzi r).cells=[zzi r]:=rfl
def zyu (X:List (List Val)) (hX:X.length<=1000000) (hr: ∀r∈X,r.length<=1000000):R 76 [.d (.list (zaU X))] []=some ([.arr 0 X.length],[.arr 1 (zaU X) 0]):=by
 have hend:zaU X=zcY zzi X X.length:=by rw[za2 (yaf _)];rfl
 obtain⟨Y,hY⟩: ∃Y,Y=zaU X:=⟨_,rfl⟩;have hYl:Y.length=X.length:=by rw[hY,yah]
 rw[show ([.arr 1 (zaU X) 0]:List Obj)=[.arr 1 (zcY zzi X X.length) 0] by rw[hend],<- hY]
 refine rg b76 rfl ?_;intro T hT;simp -dsimp -implicitDefEqProofs (disch:=first|omega|assumption)
 generalize hz:zaj _ _ _ _ _ _=z;revert z;refine zaa (σ:=Nat) (λj=>[(3,.arr 0 j),(6,.d (.list Y)),(7,.d (.int .i64 Y.length)),(8,.d (.int .i64 j))]) (λj=>[.arr 1 (zcY zzi X j) 0]) (λj=>j<=X.length) (λj=>X.length - j) 0 ?_ ?_ ?_
 ·exact yai _
 ·simp -dsimp -implicitDefEqProofs (disch:=first|omega|assumption) [zav]
 intro T' f hT' j hj ih
 by_cases h1:j<X.length
 ·have h2:j<Y.length:=by omega
  obtain⟨r,hr1⟩: ∃r,X[j]=r:=⟨_,rfl⟩;have hYj:Y[j]= .list (vs r):=by simp only[hY,ybo,hr1]
  have hc:=zrk r (by have:=hr r (hr1 ▸ yam h1);omega)
  have htk:=zaw (g:=zzi) h1;have hlen:=zah (g:=zzi) hj;rw[hr1,show zzi r= .list (vs r) from rfl]at htk
  obtain⟨w,hw⟩: ∃w,w=vs r:=⟨_,rfl⟩;have hwl:w.length=r.length:=by rw[hw,yah]
  rw[<- hw]at hYj hc htk;simp -dsimp -implicitDefEqProofs (disch:=first|omega|assumption) [h1,h2,hYj,hc,hlen,hwl]
  refine ih (j+1) _ _ h1 (by omega) ?_
  rw[htk];simp -dsimp -implicitDefEqProofs (disch:=first|omega|assumption)
 ·have e:j=X.length:=by omega
  subst e;subst hT';have h2: ¬ X.length<Y.length:=by omega
  simp -dsimp -implicitDefEqProofs (disch:=first|omega|assumption) [h2]
  simpa -dsimp -implicitDefEqProofs (disch:=first|omega|assumption) using hT
def zsQ (a0 a1 gg st:D) (X:List (List Val)) (hX:X.length<=1000000) (hr: ∀r∈X,r.length<=1000000):
 R 27 [.ptr 0 0] [.box [.d a0,.d a1,.d (.list (zaU X)),.d gg,.d st]]=some ([.arr 1 X.length],[.box [.d a0,.d a1,.d (.list (zaU X)),.d gg,.d st],.arr 1 (zaU X) 0]):=by
 have h:=zyu X hX hr;have hl:(zaU X).length=X.length:=yah _;generalize zaU X=Y at*;refine rg b27 rfl ?_;intro T hT;simp -dsimp -implicitDefEqProofs (disch:=first|omega|assumption) [h,hl]
 simpa -dsimp -implicitDefEqProofs (disch:=first|omega|assumption) using hT
def zmQ (a0 a1 gg st:D) (X:List (List Val)):
 R 29 [.ptr 0 0] [.box [.d a0,.d a1,.d (.list (zaU X)),.d gg,.d st]]=some ([.d (.int .i64 X.length)],[.box [.d a0,.d a1,.d (.list (zaU X)),.d gg,.d st]]):=by
 have hl:(zaU X).length=X.length:=yah _;generalize zaU X=Y at*;refine rg b29 rfl ?_;intro T hT;simp -dsimp -implicitDefEqProofs (disch:=first|omega|assumption) [hl]
 simpa -dsimp -implicitDefEqProofs (disch:=first|omega|assumption) using hT
def zi1 (s:Sch) (hs:s.fields.length<1000000) (x gg st:D):
 R 28 [.ptr 0 0] [.box [.d (.int .u32 s.id),.d (.list (s.fields.map Fld.d)),.d x,.d gg,.d st]]=some ([.agg [.d (.int .u32 s.id),.arr 1 s.fields.length]],[.box [.d (.int .u32 s.id),.d (.list (s.fields.map Fld.d)),.d x,.d gg,.d st],.arr 4 (s.fields.map Fld.d) 0]):=by
 have h:=zrl s.fields (by omega)
 have hl:(s.fields.map Fld.d).length=s.fields.length:=yah _;obtain⟨sid,fs⟩:=s;simp only at h hl ⊢;generalize fs.map Fld.d=Y at*;refine rg b28 rfl ?_;intro T hT;simp -dsimp -implicitDefEqProofs (disch:=first|omega|assumption) [h,hl]
 simpa -dsimp -implicitDefEqProofs (disch:=first|omega|assumption) using hT
def zpL (X:List (List Val)) (hX:X.length<=1000000) (hr: ∀r∈X,r.length<=1000000):R 26 [.d (.list (zaU X))] []=some ([.arr 0 X.length],[.arr 1 (zbr (X.map (·.map zac))) 0]):=by
 have hend:zbr (X.map (·.map zac))=zcY (λr=> .list (ce (r.map zac))) X X.length:=by
  rw[za2 (yaf _)];exact yaL
 obtain⟨cD,hcD⟩: ∃cD:List Val->D,cD=λr=> .list (ce (r.map zac)):=⟨_,rfl⟩
 have hcc: ∀r,(cD r).cells=[cD r]:=λr=>by rw[hcD];rfl
 obtain⟨Y,hY⟩: ∃Y,Y=zaU X:=⟨_,rfl⟩;have hYl:Y.length=X.length:=by rw[hY,yah]
 rw[hend,<- hcD,<- hY];refine rg b26 rfl ?_;intro T hT;simp -dsimp -implicitDefEqProofs (disch:=first|omega|assumption)
 generalize hz:zaj _ _ _ _ _ _=z;revert z;refine zaa (σ:=Nat) (λj=>[(0,.d (.list Y)),(3,.arr 0 j),(4,.d (.int .i64 j))]) (λj=>[.arr 1 (zcY cD X j) 0]) (λj=>j<=X.length) (λj=>X.length - j) 0 ?_ ?_ ?_
 ·exact yai _
 ·simp -dsimp -implicitDefEqProofs (disch:=first|omega|assumption) [zav]
 intro T' f hT' j hj ih
 by_cases h1:j<X.length
 ·have h2:j<Y.length:=by omega
  obtain⟨r,hr1⟩: ∃r,X[j]=r:=⟨_,rfl⟩;have hYj:Y[j]= .list (vs r):=by simp only[hY,ybo,hr1]
  have hc:=ztQ r (hr r (hr1 ▸ yam h1));have htk:=zaw (g:=cD) h1;have hlen:=zah (g:=cD) hj;rw[hr1,show cD r= .list (ce (r.map zac)) by rw[hcD]]at htk
  obtain⟨w,hw⟩: ∃w,w=vs r:=⟨_,rfl⟩;obtain⟨z,hz⟩: ∃z,z=ce (r.map zac):=⟨_,rfl⟩;have hzl:z.length=r.length:=by rw[hz,yah,yah]
  rw[<- hw]at hYj hc;rw[<- hz]at hc htk;simp -dsimp -implicitDefEqProofs (disch:=first|omega|assumption) [h1,h2,hYj,hc,hlen,hzl]
  refine ih (j+1) _ _ h1 (by omega) ?_
  rw[htk];simp -dsimp -implicitDefEqProofs (disch:=first|omega|assumption)
 ·have e:j=X.length:=by omega
  subst e;subst hT';have h2: ¬ X.length<Y.length:=by omega
  simp -dsimp -implicitDefEqProofs (disch:=first|omega|assumption) [h2]
  simpa -dsimp -implicitDefEqProofs (disch:=first|omega|assumption) using hT
end Go.Am.Ab
namespace Go.Am.Ab
open Go.Proofs
set_option maxHeartbeats 16000000
set_option maxRecDepth 4000
def zhz (g:List (List Val)) (i:Nat):List D:=(List.range i).map λj=>(zaW (col g j)).d
def zdi (n:Nat) (g:List (List Val)):D:= .list (zhz g n)
def zk4 (g:List (List Val)) (i:Nat):zhz g (i+1)=zhz g i++[(zaW (col g i)).d]:=by simp[zhz,yc3]
def zhA (g:List (List Val)) (i:Nat):(zhz g i).length=i:=by simp[zhz]
@[simp] def zzj (n:Nat) (g:List (List Val)):(zdi n g).cells=[zdi n g]:=rfl
def zwH {s:Sch} {X:List (List Val)} {n:Int} {c:List UInt8} (h:zcz s X n=(c,0)):znM s X=0/\zib s=0:=by
 unfold zcz at h;split at h
 ·rename_i h1;simp only[yae]at h;exact absurd h.2 h1
 ·rename_i h1
  split at h
  ·simp at h
  ·split at h
   ·simp at h
   ·split at h
    ·rename_i h2;simp only[yae]at h;exact absurd h.2 h2
    ·rename_i h2;exact⟨Decidable.not_not.1 h2,Decidable.not_not.1 h1⟩
def zmR (s:Sch) (X:List (List Val)) (n:Int):(zcz s X n).1.length<=65536:=by
 unfold zcz;split
 ·exact yai _
 ·split
  ·exact yai _
  ·split
   ·exact yai _
   ·split
    ·exact yai _
    ·split
     ·exact yai _
     ·simp only;omega
def zpM (id:Nat) (l:List D):V:=match l with | []=> .nilS | _=> .arr id l.length
def zpN (sz:Nat) (l:List D):List Obj:=match l with | []=>[] | _=>[.arr sz l 0]
def zlv (b:List UInt8):Nat ⊕ (Sch × List (List Val) × Nat):=
 match zgF b with
 |none=> .inl 101
 |some t=>if t.length<3\/t.take 3≠[67,70,49] then .inl 100 else
  match zls (t.drop 3) with
  |none=> .inl 102
  |some (s,X,g)=>if (zcz s X g).2=0/\(zcz s X g).1=b then .inr (s,X,g) else .inl 102
def zfp:Nat ⊕ (Sch × List (List Val) × Nat)->List V
 |.inl e=>[.d .nilP,E e]
 |.inr _=>[.ptr 0 0,E 0]
def zej:Nat ⊕ (Sch × List (List Val) × Nat)->List Obj
 |.inl _=>[]
 |.inr (s,X,g)=>match X with
  |[]=>[.box [.d (.int .u32 s.id),.d (.list (s.fields.map Fld.d)),.nilS,.d (.int .i64 g),.nilS]]
  |_=>[.box [.d (.int .u32 s.id),.d (.list (s.fields.map Fld.d)),.arr 1 X.length,.d (.int .i64 g),.arr 2 (cks g X.length X).length],.arr 1 (zaU X) X.length,.arr 1 ((cks g X.length X).map (zdi s.fields.length)) 0]
def zmS (b:List UInt8) (hb:b.length<1000000):R 18 [B b] []=some (zfp (zlv b),zej (zlv b)):=by
 have ho:=zue b hb;unfold zlv;cases hp:zgF b with
 |none=>
  rw[hp]at ho;simp only[OpR]at ho;refine rg b18 rfl ?_;intro T hT;simp -dsimp -implicitDefEqProofs (disch:=first|omega|assumption) [ho]
  simpa -dsimp -implicitDefEqProofs (disch:=first|omega|assumption) [zfp,zej,E]using hT
 |some t=>
  rw[hp]at ho;have htl:t.length<=b.length:=by
   have:=zpr hp;rw[<- this,za4];omega
  simp only[OpR]at ho ⊢
  by_cases h1:t.length<3
  ·rw[yaj (.inl h1)]
   have h1':(t.length:Int)<3:=by omega
   refine rg b18 rfl ?_;intro T hT;simp -dsimp -implicitDefEqProofs (disch:=first|omega|assumption) [ho,h1']
   simpa -dsimp -implicitDefEqProofs (disch:=first|omega|assumption) [zfp,zej,E]using hT
  have h1': ¬ (t.length:Int)<3:=by omega
  have h1b:(3:Int)<=t.length:=by omega
  obtain⟨t3,ht3⟩: ∃t3,t3=t.take 3:=⟨_,rfl⟩;have ht3':List.take 3 (bytes t)=bytes t3:=by rw[ht3];exact List.map_take.symm
  have hM3:=zbn t3
  by_cases h2:t3=[67,70,49]
  case neg=>
   rw[<- ht3,yaj (.inr h2)];have h2':(t3 == [67,70,49])=false:=by simpa using h2
   refine rg b18 rfl ?_;intro T hT;simp -dsimp -implicitDefEqProofs (disch:=first|omega|assumption) [ho,h1,h1',h1b,ht3',hM3,h2']
   simpa -dsimp -implicitDefEqProofs (disch:=first|omega|assumption) [zfp,zej,E]using hT
  have h2':(t3 == [67,70,49])=true:=by simpa using h2
  obtain⟨u,hu⟩: ∃u,u=t.drop 3:=⟨_,rfl⟩;have hu':List.drop 3 (bytes t)=bytes u:=by rw[hu];exact List.map_drop.symm
  have hul:u.length<1000000:=by rw[hu,yaw];omega
  rw[<- ht3,yag (by simp[h1,h2]),<- hu]
  have hrd:=zup u hul;cases hq:zls u with
  |none=>
   rw[hq]at hrd;simp only[rdV,rdH]at hrd;refine rg b18 rfl ?_;intro T hT;simp -dsimp -implicitDefEqProofs (disch:=first|omega|assumption) [ho,h1,h1',h1b,ht3',hM3,h2',hu',hrd]
   simpa -dsimp -implicitDefEqProofs (disch:=first|omega|assumption) [zfp,zej,E]using hT
  |some p=>
   obtain⟨s,X,g⟩:=p;obtain⟨hso,hsi,hg1,hg2,hXl,hXo⟩:=zsP hq;rw[hq]at hrd;simp only;have hwl:=zmR s X g;have hw:=zgL s X g hso (by omega) (λr hr=>by have:=(hXo r hr).1;omega) (λr hr=>(hXo r hr).2)
   generalize hwf:zcz s X g=w at*;obtain⟨c,e⟩:=w;simp only[WrR]at hw hwl ⊢;have heq:=zfI c b (by omega)
   obtain⟨sid,fs⟩:=s;simp only[Sch.d]at hw;obtain⟨fl,hfl⟩: ∃fl,fl=fs.map Fld.d:=⟨_,rfl⟩;obtain⟨Y,hY⟩: ∃Y,Y=zaU X:=⟨_,rfl⟩;have hYl:Y.length=X.length:=by rw[hY,yah]
   rw[<- hfl,<- hY]at hw
   by_cases c1:e=0
   case neg=>
    rw[yag (λh=>c1 h.1)]
    rcases X with _ | ⟨x0,X0⟩
    ·simp only[rdV,rdH,<- hfl]at hrd
     obtain rfl:Y=[]:=hY;refine rg b18 rfl ?_;intro T hT;simp -dsimp -implicitDefEqProofs (disch:=first|omega|assumption) [ho,h1,h1',h1b,ht3',hM3,h2',hu',hrd,hw,c1]
     simpa -dsimp -implicitDefEqProofs (disch:=first|omega|assumption) [zfp,zej,E]using hT
    ·simp only[rdV,rdH,<- hfl]at hrd
     rw[<- hY]at hrd;simp only[yad]at hYl;refine rg b18 rfl ?_;intro T hT;simp -dsimp -implicitDefEqProofs (disch:=first|omega|assumption) [ho,h1,h1',h1b,ht3',hM3,h2',hu',hrd,hw,c1,hYl]
     simpa -dsimp -implicitDefEqProofs (disch:=first|omega|assumption) [zfp,zej,E]using hT
   subst c1
   by_cases c2:c=b
   case neg=>
    rw[yag (λh=>c2 h.2)]
    rw[yaM c2]at heq;rcases X with _ | ⟨x0,X0⟩
    ·simp only[rdV,rdH,<- hfl]at hrd
     obtain rfl:Y=[]:=hY;refine rg b18 rfl ?_;intro T hT;simp -dsimp -implicitDefEqProofs (disch:=first|omega|assumption) [ho,h1,h1',h1b,ht3',hM3,h2',hu',hrd,hw,heq]
     simpa -dsimp -implicitDefEqProofs (disch:=first|omega|assumption) [zfp,zej,E]using hT
    ·simp only[rdV,rdH,<- hfl]at hrd
     rw[<- hY]at hrd;simp only[yad]at hYl;refine rg b18 rfl ?_;intro T hT;simp -dsimp -implicitDefEqProofs (disch:=first|omega|assumption) [ho,h1,h1',h1b,ht3',hM3,h2',hu',hrd,hw,heq,hYl]
     simpa -dsimp -implicitDefEqProofs (disch:=first|omega|assumption) [zfp,zej,E]using hT
   rw[yaj ⟨rfl,c2⟩];rw[yaK c2]at heq;subst c2;have hch:=zmO X g hg1;rw[<- hY]at hch;have hYs:zaq 1 Y=true:=by rw[hY];exact zeH X
   obtain⟨hfa0,_⟩:=zwH hwf;have hfa:=zjw hsi hfa0 λr hr=>(hXo r hr).2
   have hG:=znP hfa (n:=g) hg2;obtain⟨nf,hnf⟩: ∃n,n=fs.length:=⟨_,rfl⟩;have hnf8:nf<=8:=by rw[hnf];exact hsi.len
   have hfln:fl.length=nf:=by rw[hfl,hnf,yah]
   have hck:zcI g X.length Y=(cks g X.length X).map zaU:=by rw[hY];exact zio _ _ _ _
   have hGl:=zee (n:=g) X.length X;rcases X with _ | ⟨x0,X0⟩
   ·simp only[rdV,rdH,<- hfl]at hrd
    obtain rfl:Y=[]:=hY;refine rg b18 rfl ?_;intro T hT;simp -dsimp -implicitDefEqProofs (disch:=first|omega|assumption) [ho,h1,h1',h1b,ht3',hM3,h2',hu',hrd,hw,heq,hch]
    generalize hz:ze2 _ _ _ _ _ _ _=z;revert z;refine zkc (σ:=Unit) (λ_=>[(2,.d .nilP),(3,.d (.int .i64 0)),(6,.ptr 0 0)]) (λ_=>[.box [.ptr 1 0],.box [.d (.int .u32 sid),.d (.list fl),.nilS,.d (.int .i64 g),.nilS]]) (λl _=>l=[]) () ?_ ?_ ?_ ?_
    ·rfl
    ·simp -dsimp -implicitDefEqProofs (disch:=first|omega|assumption)
    ·intro T' f hT' z l _ h;cases h
    ·intro _ _
     simp -dsimp -implicitDefEqProofs (disch:=first|omega|assumption)
     simpa -dsimp -implicitDefEqProofs (disch:=first|omega|assumption) [zfp,zej,E,hfl]using hT
   ·simp only[rdV,rdH,<- hfl]at hrd
    rw[<- hY]at hrd;simp only[yad]at hYl hck hGl hXl;refine rg b18 rfl ?_;intro T hT;simp -dsimp -implicitDefEqProofs (disch:=first|omega|assumption) [ho,h1,h1',h1b,ht3',hM3,h2',hu',hrd,hw,heq,hYl,hch,hYs]
    generalize hz:ze2 _ _ _ _ _ _ _=z;revert z;generalize hGG:cks g (X0.length+1) (x0::X0)=GG at*;refine zkc (σ:=List D) (λ_=>[(2,.d .nilP),(3,.d (.int .i64 0)),(6,.ptr 0 0)]) (λS=> .box [.ptr 1 0]:: .box [.d (.int .u32 sid),.d (.list fl),.arr 2 (X0.length+1),.d (.int .i64 g),zpM 3 S]:: .arr 1 Y (X0.length+1)::zpN 1 S) (λl S=> ∃P Q,GG=P++Q/\l=Q.map zaU/\S=P.map (zdi nf)) [] ?_ ?_ ?_ ?_
    ·exact⟨[],GG,rfl,hck,rfl⟩
    ·simp -dsimp -implicitDefEqProofs (disch:=first|omega|assumption) [zpM,zpN]
    ·intro T' f hT' z l S ⟨P,Q,q1,q2,q3⟩ ih
     cases Q with
     |nil=>simp at q2
     |cons g0 Q=>
     simp only[yaO,ycz]at q2;obtain⟨rfl,rfl⟩:=q2;obtain⟨gl,gf⟩:=hG g0 (by rw[q1];simp)
     have hSl:S.length<=256:=by
      have:=congrArg List.length q1;rw[yab]at this;rw[q3,yah];omega
     have r3:List.range 3=[0,1,2]:=rfl;have r4:List.range 4=[0,1,2,3]:=rfl;have hend:zdi nf g0= .list (zhz g0 nf):=rfl;have hstep: ∀ (S:List D),S=P.map (zdi nf)->S++[zdi nf g0]=(P++[g0]).map (zdi nf):=λS h=>by rw[h,ybf];rfl
     rcases S with _ | ⟨s0,S⟩
     ·simp -dsimp -implicitDefEqProofs (disch:=first|omega|assumption) [zpM,zpN,r3]
      generalize hz:zaj _ _ _ _ _ _=z;revert z;refine zaa (σ:=Nat × List D) (λx=>[(2,.d .nilP),(3,.d (.int .i64 0)),(6,.ptr 0 0),(9,.d (.list (zaU g0))),(10,zpM 3 x.2),(75,.d (.int .i64 nf)),(76,.d (.int .i64 x.1))]) (λx=> .box [.ptr 1 0]:: .box [.d (.int .u32 sid),.d (.list fl),.arr 2 (X0.length+1),.d (.int .i64 g),.nilS]:: .arr 1 Y (X0.length+1)::zpN 10 x.2) (λx=>x.1<=nf/\x.2=zhz g0 x.1) (λx=>nf - x.1) (0,[]) ?_ ?_ ?_
      ·exact⟨yai _,rfl⟩
      ·simp -dsimp -implicitDefEqProofs (disch:=first|omega|assumption) [zpM,zpN,r3,hfln]
      intro T2 f2 hT2 ⟨i,L⟩ ⟨m1,m2⟩ ih2;simp only at m1 m2 ih2;have hLl:L.length=i:=by rw[m2,zhA]
      by_cases hi:i<nf
      ·have gd:=zdn gf (i:=i) (by rw[<- hnf];exact hi)
       have hcv:=zdH g0 i (λr hr'=>by have:=(gf r hr').1;simp only at this;omega) (by omega) (by omega)
       have hcl:(col g0 i).length=g0.length:=by simp[col]
       have hps:=zeG (col g0 i) (by omega) (λs hs'=>by
        rcases gd _ hs' with h | ⟨_,_,h⟩
        ·cases h
        ·have:=h s rfl;omega)
       have hsuc:=zk4 g0 i;have hsd:(zaW (col g0 i)).d.cells.length=10:=rfl;generalize (zaW (col g0 i)).d=sd at*;generalize col g0 i=cg at*;rw[<- m2]at hsuc;have hwi:IntKind.i64.wrap ((i:Int)+1)=(i:Int)+1:=wI (by omega) (by omega)
       rcases L with _ | ⟨l0,L⟩
       all_goals
        simp only[yat,yad]at hLl;simp -dsimp -implicitDefEqProofs (disch:=first|omega|assumption) [hi,hcv,hps,hcl,hsd,zpM,zpN,r3,hwi]
        refine ih2 (i+1,_) _ _ ⟨hi,hsuc.symm⟩ (by simp only;omega) ?_
        simp -dsimp -implicitDefEqProofs (disch:=first|omega|assumption) [zpM,zpN,r3]
      ·obtain rfl:i=nf:=by omega
       have hSt:zdi i g0= .list L:=by rw[m2];rfl
       have hst:=hstep (([]:List D)) q3;rw[hSt]at hst;subst hT2;rcases L with _ | ⟨l0,L⟩
       ·have:=hsi.one;simp only at this;simp only[yat]at hLl;omega
       simp only[yad]at hLl hSl;simp -dsimp -implicitDefEqProofs (disch:=first|omega|assumption) [hi,hfln,zpM,zpN,r3,hLl]
       refine ih ((([]:List D))++[.list (l0::L)]) _ ⟨P++[g0],Q,by simp[q1],rfl,hst⟩ ?_
       simp -dsimp -implicitDefEqProofs (disch:=first|omega|assumption) [zpM,zpN,r3]
     ·simp -dsimp -implicitDefEqProofs (disch:=first|omega|assumption) [zpM,zpN,r4]
      generalize hz:zaj _ _ _ _ _ _=z;revert z;refine zaa (σ:=Nat × List D) (λx=>[(2,.d .nilP),(3,.d (.int .i64 0)),(6,.ptr 0 0),(9,.d (.list (zaU g0))),(10,zpM 4 x.2),(75,.d (.int .i64 nf)),(76,.d (.int .i64 x.1))]) (λx=> .box [.ptr 1 0]:: .box [.d (.int .u32 sid),.d (.list fl),.arr 2 (X0.length+1),.d (.int .i64 g),.arr 3 (S.length+1)]:: .arr 1 Y (X0.length+1):: .arr 1 (s0::S) 0::zpN 10 x.2) (λx=>x.1<=nf/\x.2=zhz g0 x.1) (λx=>nf - x.1) (0,[]) ?_ ?_ ?_
      ·exact⟨yai _,rfl⟩
      ·simp -dsimp -implicitDefEqProofs (disch:=first|omega|assumption) [zpM,zpN,r4,hfln]
      intro T2 f2 hT2 ⟨i,L⟩ ⟨m1,m2⟩ ih2;simp only at m1 m2 ih2;have hLl:L.length=i:=by rw[m2,zhA]
      by_cases hi:i<nf
      ·have gd:=zdn gf (i:=i) (by rw[<- hnf];exact hi)
       have hcv:=zdH g0 i (λr hr'=>by have:=(gf r hr').1;simp only at this;omega) (by omega) (by omega)
       have hcl:(col g0 i).length=g0.length:=by simp[col]
       have hps:=zeG (col g0 i) (by omega) (λs hs'=>by
        rcases gd _ hs' with h | ⟨_,_,h⟩
        ·cases h
        ·have:=h s rfl;omega)
       have hsuc:=zk4 g0 i;have hsd:(zaW (col g0 i)).d.cells.length=10:=rfl;generalize (zaW (col g0 i)).d=sd at*;generalize col g0 i=cg at*;rw[<- m2]at hsuc;have hwi:IntKind.i64.wrap ((i:Int)+1)=(i:Int)+1:=wI (by omega) (by omega)
       rcases L with _ | ⟨l0,L⟩
       all_goals
        simp only[yat,yad]at hLl;simp -dsimp -implicitDefEqProofs (disch:=first|omega|assumption) [hi,hcv,hps,hcl,hsd,zpM,zpN,r4,hwi]
        refine ih2 (i+1,_) _ _ ⟨hi,hsuc.symm⟩ (by simp only;omega) ?_
        simp -dsimp -implicitDefEqProofs (disch:=first|omega|assumption) [zpM,zpN,r4]
      ·obtain rfl:i=nf:=by omega
       have hSt:zdi i g0= .list L:=by rw[m2];rfl
       have hst:=hstep (s0::S) q3;rw[hSt]at hst;subst hT2;rcases L with _ | ⟨l0,L⟩
       ·have:=hsi.one;simp only at this;simp only[yat]at hLl;omega
       simp only[yad]at hLl hSl;simp -dsimp -implicitDefEqProofs (disch:=first|omega|assumption) [hi,hfln,zpM,zpN,r4,hLl]
       refine ih ((s0::S)++[.list (l0::L)]) _ ⟨P++[g0],Q,by simp[q1],rfl,hst⟩ ?_
       simp -dsimp -implicitDefEqProofs (disch:=first|omega|assumption) [zpM,zpN,r4]
    ·intro S ⟨P,Q,q1,q2,q3⟩
     have hQ:Q=[]:=by
      cases Q with
      |nil=>rfl
      |cons _ _=>simp at q2
     subst hQ;rw[yaq]at q1;have hfile:zej (.inr (⟨sid,fs⟩,x0::X0,g))=[.box [.d (.int .u32 sid),.d (.list fl),.arr 1 (X0.length+1),.d (.int .i64 g),.arr 2 S.length],.arr 1 Y (X0.length+1),.arr 1 S 0]:=by
      simp only[zej,yad,hGG,q1,q3,yah];rw[hfl,hY,hnf]
     rw[hfile]at hT;simp only[zfp,E]at hT;rcases S with _ | ⟨s0,S⟩
     ·exfalso
      have:GG=[]:=by rw[q1];exact List.map_eq_nil_iff.1 q3.symm
      obtain⟨m',_,e⟩:=znL (n:=g) (m:=X0.length+1) (l:=x0::X0) (yaf _) (by simp) (by omega)
      rw[hGG,this]at e;cases e
     ·simp -dsimp -implicitDefEqProofs (disch:=first|omega|assumption) [zpM,zpN]
      simpa -dsimp -implicitDefEqProofs (disch:=first|omega|assumption) using hT
end Go.Am.Ab
namespace Go.Am.Ab
open Go.Proofs
set_option maxHeartbeats 16000000
set_option maxRecDepth 4000
attribute [local simp] zm0 zfr zjE zba V.isOwn
def zrm (c:List UInt8):(zgF c=none/\zlv c= .inl 101)\/ ∃t,zgF c=some t/\(((t.length<3\/t.take 3≠[67,70,49])/\zlv c= .inl 100)\/(¬ t.length<3/\t.take 3=[67,70,49]/\(zlv c= .inl 102\/ ∃s X g,zlv c= .inr (s,X,g)/\SchOk s/\SchIs s/\1<=g/\g<=64/\X.length<=256/\(∀q∈X,okR 8 q)/\zcz s X g=(c,0)))):=by
 unfold zlv;cases h:zgF c with
 |none=>exact .inl ⟨rfl,rfl⟩
 |some t=>
  right;refine⟨t,rfl, ?_⟩;simp only
  by_cases h1:t.length<3\/t.take 3≠[67,70,49]
  ·rw[yaj h1];exact .inl ⟨h1,rfl⟩
  ·rw[yag h1]
   right;refine⟨λe=>h1 (.inl e),Decidable.not_not.1 λe=>h1 (.inr e), ?_⟩
   cases hr:zls (t.drop 3) with
   |none=>exact .inl rfl
   |some p=>
    obtain⟨s,X,g⟩:=p;obtain⟨a1,a2,a3,a4,a5,a6⟩:=zsP hr;simp only
    by_cases h2:(zcz s X g).2=0/\(zcz s X g).1=c
    ·rw[yaj h2]
     exact .inr ⟨s,X,g,rfl,a1,a2,a3,a4,a5,a6,Prod.ext h2.2 h2.1⟩
    ·rw[yag h2];exact .inl rfl
def ziv (b:List UInt8) (sl:Bool) (hb:b.length<=9223372036854775807):R 5 [B b,.d (.bool sl)] []=some ([.d (.bool true)],[]):=by
 have al:=zHE
 by_cases h6:20000<b.length
 ·have h6':(20000:Int)<b.length:=by omega
  refine rg b5 rfl ?_;intro T hT;simp -dsimp -implicitDefEqProofs (disch:=first|omega|assumption) [al,h6']
  simpa -dsimp -implicitDefEqProofs (disch:=first|omega|assumption) using hT
 have h6': ¬ (20000:Int)<b.length:=by omega
 have hse:=zil b (by omega)
 obtain⟨c,hc⟩: ∃c,c=if sl=true then zdc b else b:=⟨_,rfl⟩
 have hcl:c.length<=20004:=by rw[hc];split <;> (try simp only[za4]) <;> omega
 have hM:=zbn c;have ho:=zmS c (by omega)
 have hro:=zmC c (by omega)
 rcases zrm c with ⟨e1,e2⟩ | ⟨t,e1,e2⟩
 ·rw[e1]at hro
  rw[e2]at ho;simp only[zAk]at hro;simp only[zfp,zej,E]at ho;cases sl
  all_goals
   simp only[ya6,yaY,yau]at hc;subst hc;refine rg b5 rfl ?_;intro T hT;simp -dsimp -implicitDefEqProofs (disch:=first|omega|assumption) [al,h6',hse,ho,hro]
   simpa -dsimp -implicitDefEqProofs (disch:=first|omega|assumption) using hT
 rw[e1]at hro;simp only[zAk]at hro;have htl:t.length<=c.length:=by
  have:=zpr e1;rw[<- this,za4];omega
 obtain⟨t3,ht3⟩: ∃t3,t3=t.take 3:=⟨_,rfl⟩;have ht3':List.take 3 (bytes t)=bytes t3:=by rw[ht3];exact List.map_take.symm
 have hM3:=zbn t3;rw[<- ht3]at e2;rcases e2 with ⟨e2,e3⟩ | ⟨e2,e3,e4⟩
 ·rw[e3]at ho
  simp only[zfp,zej,E]at ho
  by_cases h3:t.length<3
  ·have h3':(t.length:Int)<3:=by omega
   cases sl
   all_goals
    simp only[ya6,yaY,yau]at hc;subst hc;refine rg b5 rfl ?_;intro T hT;simp -dsimp -implicitDefEqProofs (disch:=first|omega|assumption) [al,h6',hse,ho,hro,h3']
    simpa -dsimp -implicitDefEqProofs (disch:=first|omega|assumption) using hT
  ·have h3': ¬ (t.length:Int)<3:=by omega
   have h3b:(3:Int)<=t.length:=by omega
   have h4:(t3 == [67,70,49])=false:=by
    rcases e2 with e2 | e2
    ·exact absurd e2 h3
    ·simpa using e2
   cases sl
   all_goals
    simp only[ya6,yaY,yau]at hc;subst hc;refine rg b5 rfl ?_;intro T hT;simp -dsimp -implicitDefEqProofs (disch:=first|omega|assumption) [al,h6',hse,ho,hro,h3',h3b,ht3',hM3,h4]
    simpa -dsimp -implicitDefEqProofs (disch:=first|omega|assumption) using hT
 have h3': ¬ (t.length:Int)<3:=by omega
 have h3b:(3:Int)<=t.length:=by omega
 have h4:(t3 == [67,70,49])=true:=by simpa using e3
 rcases e4 with e4 | ⟨s,X,g,e4,a1,a2,a3,a4,a5,a6,a7⟩
 ·rw[e4]at ho
  simp only[zfp,zej,E]at ho;cases sl
  all_goals
   simp only[ya6,yaY,yau]at hc;subst hc;refine rg b5 rfl ?_;intro T hT;simp -dsimp -implicitDefEqProofs (disch:=first|omega|assumption) [al,h6',hse,ho,hro,h3',h3b,ht3',hM3,h4]
   simpa -dsimp -implicitDefEqProofs (disch:=first|omega|assumption) using hT
 rw[e4]at ho;have hrl: ∀r∈X,r.length<=1000000:=λr hr=>by have:=(a6 r hr).1;omega
 have hall:=λst=>zsQ (.int .u32 s.id) (.list (s.fields.map Fld.d)) (.int .i64 g) st X (by omega) hrl
 have hrows:=λst=>zmQ (.int .u32 s.id) (.list (s.fields.map Fld.d)) (.int .i64 g) st X
 have hsch:=λst=>zi1 s (by have:=a2.len;omega) (.list (zaU X)) (.int .i64 g) st
 have hla:=zpL X (by omega) hrl
 have hwr: ∀j:Nat,R 14 [.d s.d,.d (.list (zbr (X.map (·.map zac)))),.d (.int .i64 j)] []=_:=λj=>zpH s X j a1 (by omega) (λr hr=>by have:=hrl r hr;have:=(a6 r hr).1;omega) (λr hr=>(a6 r hr).2)
 obtain⟨W,hW⟩: ∃W:Nat->List UInt8 × Int,W=λj:Nat=>zcz s X (j:Int):=⟨_,rfl⟩
 have hWg:W g=(c,0):=by rw[hW];exact a7
 have hwr': ∀j:Nat,R 14 [.d s.d,.d (.list (zbr (X.map (·.map zac)))),.d (.int .i64 j)] []=some ([.arr 0 (W j).1.length,.d (.int .i64 (W j).2)],[.arr 1 (bytes (W j).1) 0]):=λj=>by rw[hW];exact hwr j
 clear hwr hW;obtain⟨sid,fs⟩:=s;simp only[Sch.d]at hall hrows hsch hwr';obtain⟨fl,hfl⟩: ∃fl,fl=fs.map Fld.d:=⟨_,rfl⟩;have hfll:fl.length=fs.length:=by rw[hfl,yah]
 obtain⟨Y,hY⟩: ∃Y,Y=zaU X:=⟨_,rfl⟩;have hYl:Y.length=X.length:=by rw[hY,yah]
 obtain⟨Z,hZ⟩: ∃Z,Z=zbr (X.map (·.map zac)):=⟨_,rfl⟩
 have hZl:Z.length=X.length:=by rw[hZ,yah,yah]
 obtain⟨xl,hxl⟩: ∃n,n=X.length:=⟨_,rfl⟩;rw[<- hxl]at hYl hZl;simp only[<- hfl,<- hY,<- hZ,<- hxl]at hall hrows hsch hla hwr';rcases X with _ | ⟨x0,X0⟩
 ·obtain rfl:Y=[]:=hY
  obtain rfl:Z=[]:=hZ;obtain rfl:xl=0:=hxl;simp only[zfp,zej,E,<- hfl]at ho;cases sl
  ·simp only[ya6,yaY,yau]at hc
   subst hc;refine rg b5 rfl ?_;intro T hT;simp -dsimp -implicitDefEqProofs (disch:=first|omega|assumption) [al,h6',hse,ho,hro,h3',h3b,ht3',hM3,h4,hall,hla]
   generalize hz:zaj _ _ _ _ _ _=z;revert z;refine zaa (σ:=Nat × Nat) (λx=>[(0,B c),(5,.ptr 0 0),(9,.arr 1 0),(10,.d (.int .i64 x.1))]) (λx=>[.box [.d (.int .u32 sid),.d (.list fl),.d (.list []),.d (.int .i64 g),.d (.list [])],.arr 1 [] x.2]) (λx=>1<=x.1/\x.1<=g) (λx=>65 - x.1) (1,0) ?_ ?_ ?_
   ·exact⟨yaf _,a3⟩
   ·simp -dsimp -implicitDefEqProofs (disch:=first|omega|assumption)
   intro T' f hT' ⟨j,wm⟩ ⟨j1,j2⟩ ih;simp only at j1 j2 ih;have hj:(j:Int)<=64:=by omega
   have hwj:=hwr' j;have hWj:W j=(c,0)\/j<g:=by
    rcases ybr j g with h | h
    ·exact .inr h
    ·exact .inl (by rw[show j=g by omega];exact hWg)
   have hsc:=hsch (.list []);have hrw:=hrows (.list []);generalize W j=w at*;obtain⟨wb,we⟩:=w;simp only at hwj;have hMw:=zbn wb
   by_cases d1:we=0
   ·subst d1
    by_cases d2:wb=c
    ·subst d2
     subst hT';simp -dsimp -implicitDefEqProofs (disch:=first|omega|assumption) [hj,hsc,hwj,hrw,hfll,hM]
     simpa -dsimp -implicitDefEqProofs (disch:=first|omega|assumption) using hT
    ·have d2':(wb == c)=false:=by simpa using d2
     have hjg:j<g:=by
      rcases hWj with h | h
      ·exact absurd (congrArg Prod.fst h) d2
      ·exact h
     simp -dsimp -implicitDefEqProofs (disch:=first|omega|assumption) [hj,hsc,hwj,hfll,hM,hMw,d2']
     refine ih (j+1,0) _ _ ⟨by simp only;omega,by simp only;omega⟩ (by simp only;omega) ?_
     simp -dsimp -implicitDefEqProofs (disch:=first|omega|assumption)
   ·have hjg:j<g:=by
     rcases hWj with h | h
     ·exact absurd (congrArg Prod.snd h) d1
     ·exact h
    simp -dsimp -implicitDefEqProofs (disch:=first|omega|assumption) [hj,hsc,hwj,hfll,d1]
    refine ih (j+1,0) _ _ ⟨by simp only;omega,by simp only;omega⟩ (by simp only;omega) ?_
    simp -dsimp -implicitDefEqProofs (disch:=first|omega|assumption)
  ·simp only[ya6,yaY,yau]at hc
   rw[<- hc]at hse;refine rg b5 rfl ?_;intro T hT;simp -dsimp -implicitDefEqProofs (disch:=first|omega|assumption) [al,h6',hse,ho,hro,h3',h3b,ht3',hM3,h4,hall,hla]
   generalize hz:zaj _ _ _ _ _ _=z;revert z;refine zaa (σ:=Nat × Nat) (λx=>[(0,.arr 0 c.length),(5,.ptr 1 0),(9,.arr 2 0),(10,.d (.int .i64 x.1))]) (λx=>[.arr 1 (bytes c) c.length,.box [.d (.int .u32 sid),.d (.list fl),.d (.list []),.d (.int .i64 g),.d (.list [])],.arr 1 [] x.2]) (λx=>1<=x.1/\x.1<=g) (λx=>65 - x.1) (1,0) ?_ ?_ ?_
   ·exact⟨yaf _,a3⟩
   ·simp -dsimp -implicitDefEqProofs (disch:=first|omega|assumption)
   intro T' f hT' ⟨j,wm⟩ ⟨j1,j2⟩ ih;simp only at j1 j2 ih;have hj:(j:Int)<=64:=by omega
   have hwj:=hwr' j;have hWj:W j=(c,0)\/j<g:=by
    rcases ybr j g with h | h
    ·exact .inr h
    ·exact .inl (by rw[show j=g by omega];exact hWg)
   have hsc:=hsch (.list []);have hrw:=hrows (.list []);generalize W j=w at*;obtain⟨wb,we⟩:=w;simp only at hwj;have hMw:=zbn wb
   by_cases d1:we=0
   ·subst d1
    by_cases d2:wb=c
    ·subst d2
     subst hT';simp -dsimp -implicitDefEqProofs (disch:=first|omega|assumption) [hj,hsc,hwj,hrw,hfll,hM]
     simpa -dsimp -implicitDefEqProofs (disch:=first|omega|assumption) using hT
    ·have d2':(wb == c)=false:=by simpa using d2
     have hjg:j<g:=by
      rcases hWj with h | h
      ·exact absurd (congrArg Prod.fst h) d2
      ·exact h
     simp -dsimp -implicitDefEqProofs (disch:=first|omega|assumption) [hj,hsc,hwj,hfll,hM,hMw,d2']
     refine ih (j+1,0) _ _ ⟨by simp only;omega,by simp only;omega⟩ (by simp only;omega) ?_
     simp -dsimp -implicitDefEqProofs (disch:=first|omega|assumption)
   ·have hjg:j<g:=by
     rcases hWj with h | h
     ·exact absurd (congrArg Prod.snd h) d1
     ·exact h
    simp -dsimp -implicitDefEqProofs (disch:=first|omega|assumption) [hj,hsc,hwj,hfll,d1]
    refine ih (j+1,0) _ _ ⟨by simp only;omega,by simp only;omega⟩ (by simp only;omega) ?_
    simp -dsimp -implicitDefEqProofs (disch:=first|omega|assumption)
 ·simp only[zfp,zej,E,<- hfl,<- hY]at ho
  rw[show (cks g (x0::X0).length (x0::X0)).length=(List.map (zdi fs.length) (cks g (x0::X0).length (x0::X0))).length from (yah _).symm]at ho
  generalize List.map (zdi _) _=ST at*;simp only[yad]at hxl ho;rw[<- hxl]at ho;cases sl
  ·simp only[ya6,yaY,yau]at hc
   subst hc;refine rg b5 rfl ?_;intro T hT;simp -dsimp -implicitDefEqProofs (disch:=first|omega|assumption) [al,h6',hse,ho,hro,h3',h3b,ht3',hM3,h4,hall,hla,hYl,hZl]
   generalize hz:zaj _ _ _ _ _ _=z;revert z;refine zaa (σ:=Nat × Nat) (λx=>[(0,B c),(5,.ptr 0 0),(9,.arr 1 xl),(10,.d (.int .i64 x.1))]) (λx=>[.box [.d (.int .u32 sid),.d (.list fl),.d (.list Y),.d (.int .i64 g),.d (.list ST)],.arr 1 Z x.2]) (λx=>1<=x.1/\x.1<=g) (λx=>65 - x.1) (1,0) ?_ ?_ ?_
   ·exact⟨yaf _,a3⟩
   ·simp -dsimp -implicitDefEqProofs (disch:=first|omega|assumption) [hZl]
   intro T' f hT' ⟨j,wm⟩ ⟨j1,j2⟩ ih;simp only at j1 j2 ih;have hj:(j:Int)<=64:=by omega
   have hwj:=hwr' j;have hWj:W j=(c,0)\/j<g:=by
    rcases ybr j g with h | h
    ·exact .inr h
    ·exact .inl (by rw[show j=g by omega];exact hWg)
   have hsc:=hsch (.list ST);have hrw:=hrows (.list ST);generalize W j=w at*;obtain⟨wb,we⟩:=w;simp only at hwj;have hMw:=zbn wb
   by_cases d1:we=0
   ·subst d1
    by_cases d2:wb=c
    ·subst d2
     subst hT';simp -dsimp -implicitDefEqProofs (disch:=first|omega|assumption) [hj,hsc,hwj,hrw,hfll,hM,hYl,hZl]
     simpa -dsimp -implicitDefEqProofs (disch:=first|omega|assumption) using hT
    ·have d2':(wb == c)=false:=by simpa using d2
     have hjg:j<g:=by
      rcases hWj with h | h
      ·exact absurd (congrArg Prod.fst h) d2
      ·exact h
     simp -dsimp -implicitDefEqProofs (disch:=first|omega|assumption) [hj,hsc,hwj,hfll,hM,hMw,d2',hYl,hZl]
     refine ih (j+1,xl) _ _ ⟨by simp only;omega,by simp only;omega⟩ (by simp only;omega) ?_
     simp -dsimp -implicitDefEqProofs (disch:=first|omega|assumption) [hZl]
   ·have hjg:j<g:=by
     rcases hWj with h | h
     ·exact absurd (congrArg Prod.snd h) d1
     ·exact h
    simp -dsimp -implicitDefEqProofs (disch:=first|omega|assumption) [hj,hsc,hwj,hfll,d1,hYl,hZl]
    refine ih (j+1,xl) _ _ ⟨by simp only;omega,by simp only;omega⟩ (by simp only;omega) ?_
    simp -dsimp -implicitDefEqProofs (disch:=first|omega|assumption) [hZl]
  ·simp only[ya6,yaY,yau]at hc
   rw[<- hc]at hse;refine rg b5 rfl ?_;intro T hT;simp -dsimp -implicitDefEqProofs (disch:=first|omega|assumption) [al,h6',hse,ho,hro,h3',h3b,ht3',hM3,h4,hall,hla,hYl,hZl]
   generalize hz:zaj _ _ _ _ _ _=z;revert z;refine zaa (σ:=Nat × Nat) (λx=>[(0,.arr 0 c.length),(5,.ptr 1 0),(9,.arr 2 xl),(10,.d (.int .i64 x.1))]) (λx=>[.arr 1 (bytes c) c.length,.box [.d (.int .u32 sid),.d (.list fl),.d (.list Y),.d (.int .i64 g),.d (.list ST)],.arr 1 Z x.2]) (λx=>1<=x.1/\x.1<=g) (λx=>65 - x.1) (1,0) ?_ ?_ ?_
   ·exact⟨yaf _,a3⟩
   ·simp -dsimp -implicitDefEqProofs (disch:=first|omega|assumption) [hZl]
   intro T' f hT' ⟨j,wm⟩ ⟨j1,j2⟩ ih;simp only at j1 j2 ih;have hj:(j:Int)<=64:=by omega
   have hwj:=hwr' j;have hWj:W j=(c,0)\/j<g:=by
    rcases ybr j g with h | h
    ·exact .inr h
    ·exact .inl (by rw[show j=g by omega];exact hWg)
   have hsc:=hsch (.list ST);have hrw:=hrows (.list ST);generalize W j=w at*;obtain⟨wb,we⟩:=w;simp only at hwj;have hMw:=zbn wb
   by_cases d1:we=0
   ·subst d1
    by_cases d2:wb=c
    ·subst d2
     subst hT';simp -dsimp -implicitDefEqProofs (disch:=first|omega|assumption) [hj,hsc,hwj,hrw,hfll,hM,hYl,hZl]
     simpa -dsimp -implicitDefEqProofs (disch:=first|omega|assumption) using hT
    ·have d2':(wb == c)=false:=by simpa using d2
     have hjg:j<g:=by
      rcases hWj with h | h
      ·exact absurd (congrArg Prod.fst h) d2
      ·exact h
     simp -dsimp -implicitDefEqProofs (disch:=first|omega|assumption) [hj,hsc,hwj,hfll,hM,hMw,d2',hYl,hZl]
     refine ih (j+1,xl) _ _ ⟨by simp only;omega,by simp only;omega⟩ (by simp only;omega) ?_
     simp -dsimp -implicitDefEqProofs (disch:=first|omega|assumption) [hZl]
   ·have hjg:j<g:=by
     rcases hWj with h | h
     ·exact absurd (congrArg Prod.snd h) d1
     ·exact h
    simp -dsimp -implicitDefEqProofs (disch:=first|omega|assumption) [hj,hsc,hwj,hfll,d1,hYl,hZl]
    refine ih (j+1,xl) _ _ ⟨by simp only;omega,by simp only;omega⟩ (by simp only;omega) ?_
    simp -dsimp -implicitDefEqProofs (disch:=first|omega|assumption) [hZl]
end Go.Am.Ab
