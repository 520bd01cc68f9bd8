/- Files of keys. -/
import Derived.Test.YtlgdomajdebbdaaGreatDoorValsA
import Derived.Test.YtlgdomajdebbdaaGreatDoorVSortB
import Derived.Test.YtlgdomajdebbdaaGreatDoorSums
import Derived.Test.YtlgdomajdebbdaaGreatDoorColD
set_option linter.all false
namespace Go.Am.Ab
open Go.Proofs
set_option maxHeartbeats 8000000
set_option maxRecDepth 4000
def zm3 (wd:Nat->Val) (r:List Nat):vs (r.map wd)=Str.Vs.ws wd r:=by simp
def zd7 (k n:Nat) (c:List UInt8):List UInt8:=75::70::49::(put k++(put n++c))
def zoa (k:Nat) (hk:k<256) (h1: ¬ k=1) (h3: ¬ k=3) (X:List Val):R 15 [.d (.int .u8 k),.d (.list (vs X))] []=zdA 10:=by
 have h1': ¬ (k:Int)=1:=by omega
 have h3': ¬ (k:Int)=3:=by omega
 unfold zdA;refine rg b15 rfl ?_;intro T hT;simp -dsimp -implicitDefEqProofs (disch:=first|omega|assumption) [h1,h1',h3,h3']
 simpa -dsimp -implicitDefEqProofs (disch:=first|omega|assumption) [E]using hT
def zcY (l:List Val):(zdB l).length<=l.length:=by
 have h:=congrArg List.length (zlr l);have:=zfT (l.map zar);rw[List.length_map]at h this;omega
def zob (X:List Val) (hn:X.length<=1000000) (ho: ∃v∈X,v.kind≠1):R 15 [.d (.int .u8 1),.d (.list (vs X))] []=zdA 10:=by
 unfold zdA;refine rg b15 rfl ?_;intro T hT;simp -dsimp -implicitDefEqProofs (disch:=first|omega|assumption)
 generalize hz:zac _ _ _ _ _ _=z;revert z;refine zaa (σ:=Nat) (λi=>[(0,.d (.int .u8 1)),(1,.d (.list (vs X))),(17,.d (.list (vs X))),(18,.d (.int .i64 X.length)),(19,.d (.int .i64 i))]) (λi=>[]) (λi=>i<=X.length/\ ∀j,(hj:j<i)->(hl:j<X.length)->X[j].kind=1) (λi=>X.length - i) 0 ?_ ?_ ?_
 ·exact⟨Nat.zero_le _,λj hj=>by omega⟩
 ·simp -dsimp -implicitDefEqProofs (disch:=first|omega|assumption)
 intro T' f hT' i ⟨hi,hok⟩ ih
 by_cases h1:i<X.length
 ·have hkd:=zaO X[i]
  by_cases hv:X[i].kind=1
  ·rw[hv]at hkd
   simp -dsimp -implicitDefEqProofs (disch:=first|omega|assumption) [h1,hkd]
   refine ih (i+1) _ _ ⟨h1,λj hj hl=> ?_⟩ (by omega) (by simp -dsimp -implicitDefEqProofs (disch:=first|omega|assumption))
   by_cases c:j=i
   ·subst c;exact hv
   ·exact hok j (by omega) hl
  ·have hv': ¬ (X[i].kind:Int)=1:=by omega
   subst hT';simp -dsimp -implicitDefEqProofs (disch:=first|omega|assumption) [h1,hkd,hv,hv']
   simpa -dsimp -implicitDefEqProofs (disch:=first|omega|assumption) [E]using hT
 ·exfalso
  obtain⟨v,hv,hne⟩:=ho;obtain⟨j,hj,rfl⟩:=List.mem_iff_getElem.1 hv;exact hne (hok j (by omega) hj)
def zhD (X:List Val) (hn:X.length<=1024) (hX: ∀v∈X,v.kind=1) (c:List UInt8) (e:Nat) (hc:c.length<=200000)
 (hw:R 64 [.d (.int .u8 1),.d (.list (vs (zdB X)))] []=some ([.arr 0 c.length,E e],[.arr 1 (bytes c) 0])):
 R 15 [.d (.int .u8 1),.d (.list (vs X))] []=if e≠0 then zdA e else some ([.arr 0 (zbB (zd7 1 (zdB X).length c)).length,E 0],[.arr 1 (bytes (zbB (zd7 1 (zdB X).length c))) 0]):=by
 obtain⟨wd,r,hwd,hr⟩:=zsq X;have hrl:r.length=X.length:=by rw[<- hr];simp
 have hu:zdB X=(Str.uniq r).map wd:=by rw[<- hr];exact zpj hwd r
 have hul0:=zcY X;have hsu:vs (zdB X)=Str.Vs.ws wd (Str.uniq r):=by rw[hu];exact zm3 wd _
 have hulen:(zdB X).length=(Str.uniq r).length:=by rw[hu];simp
 have h1:=Str.Vs.clone_runs hwd r (by omega)
 obtain⟨s,h2,h3,h4⟩:=Str.Vs.sort_any hwd r (by omega)
 have hlen:=h3.len;have hus:Str.uniq s=Str.uniq r:=Str.rises_ext (Str.uniq_rises _) (Str.uniq_rises _) λy=>by rw[Str.uniq_mem,Str.uniq_mem];exact h3.perm.mem_iff
 rw[<- hlen]at h4;have hP:=Str.Vs.compact_any hwd s h4 (by omega)
 unfold Str.Vs.Packs at hP;rw[hus,hlen]at hP;rw[hsu]at hw;rw[hulen];obtain⟨u,hue⟩: ∃u,u=Str.uniq r:=⟨_,rfl⟩;have hul:u.length<=1024:=by rw[hue,<- hulen];omega
 have hp1:=zcl 1 (by omega)
 have hp2:=zcl u.length (by omega)
 have hpl1:=zaZ (n:=1) (by omega)
 have hpl2:=zaZ (n:=u.length) (by omega)
 have hsl:(zd7 1 u.length c).length<1000000000:=by simp only[zd7,List.length_cons,List.length_append];omega
 have hs:=zjg (zd7 1 u.length c) hsl;have hw1:IntKind.u64.wrap (1:Int)=1:=zae (by omega) (by omega)
 have hw2:IntKind.u64.wrap (u.length:Int)=u.length:=zae (by omega) (by omega)
 rw[<- hue]at hw hP ⊢;have hXr:vs X=Str.Vs.ws wd r:=by rw[<- hr];exact zm3 wd _
 have hkd: ∀i,(h:i<r.length)->(wd r[i]).kind=1:=λi h=>by
  have:X[i]'(by omega)=wd r[i]:=by simp only[<- hr,List.getElem_map]
  rw[<- this];exact hX _ (List.getElem_mem _)
 rw[hXr];obtain⟨sb,hsb⟩: ∃sb,sb=zbB (zd7 1 u.length c):=⟨_,rfl⟩;rw[<- hsb]at hs ⊢;unfold zd7 at hs;obtain⟨pk,hpk⟩: ∃p,p=put 1:=⟨_,rfl⟩;obtain⟨pn,hpn⟩: ∃p,p=put u.length:=⟨_,rfl⟩;rw[<- hpk]at hs hp1 hpl1;rw[<- hpn]at hs hp2 hpl2;have hp1':R 65 [.d (.int .u64 1)] []=some ([.arr 0 pk.length],[.arr 1 (bytes pk) 0]):=hp1;have hs':R 66 [.d (.list (.int .u8 75:: .int .u8 70:: .int .u8 49::(bytes pk++(bytes pn++bytes c))))] []=some ([.arr 0 sb.length],[.arr 1 (bytes sb) 0]):=by
  rw[<- hs];simp[B]
 clear hs hsb hpk hpn hu hsu hus h3 h4 hulen hue hsl hr;unfold zdA;obtain⟨rr,hrr⟩: ∃rr,some rr=(if e≠0 then some ([.arr 0 0,E e],[.arr 1 [] 0]) else some ([.arr 0 sb.length,E 0],[.arr 1 (bytes sb) 0]):Option (List V × List Obj)):=by
  by_cases e0:e≠0
  ·exact⟨_,by rw[if_pos e0]⟩
  ·exact⟨_,by rw[if_neg e0]⟩
 rw[<- hrr];refine rg b15 rfl ?_;intro T hT;simp -dsimp -implicitDefEqProofs (disch:=first|omega|assumption)
 rw[hrr]at hT;generalize hz:zac _ _ _ _ _ _=z;revert z;refine zaa (σ:=Nat) (λi=>[(0,.d (.int .u8 1)),(1,.d (.list (Str.Vs.ws wd r))),(17,.d (.list (Str.Vs.ws wd r))),(18,.d (.int .i64 r.length)),(19,.d (.int .i64 i))]) (λi=>[]) (λi=>i<=r.length) (λi=>r.length - i) 0 ?_ ?_ ?_
 ·exact Nat.zero_le _
 ·simp -dsimp -implicitDefEqProofs (disch:=first|omega|assumption)
 intro T' f hT' i hi ih
 by_cases h5:i<r.length
 ·have hk1:=hkd i h5
  have hk2:=zaO (wd r[i]);rw[hk1]at hk2;simp -dsimp -implicitDefEqProofs (disch:=first|omega|assumption) [h5,hk2]
  exact ih (i+1) _ _ h5 (by omega) (by simp -dsimp -implicitDefEqProofs (disch:=first|omega|assumption))
 obtain rfl:i=r.length:=by omega
 subst hT';clear ih hi h5
 by_cases e0:e≠0
 ·have e0': ¬ (e:Int)=0:=by omega
  rw[if_pos e0]at hT;rcases hP with hP | ⟨m,hm,hP⟩
  ·simp -dsimp -implicitDefEqProofs (disch:=first|omega|assumption) [h1,h2,hP,hw,e0,e0']
   simpa -dsimp -implicitDefEqProofs (disch:=first|omega|assumption) [E]using hT
  ·have hm2:(u.length+m.length)=r.length:=hm
   have hm3:List.take u.length (Str.Vs.ws wd u++m)=Str.Vs.ws wd u:=by rw[List.take_append_of_le_length (by simp),List.take_of_length_le (by simp)]
   simp -dsimp -implicitDefEqProofs (disch:=first|omega|assumption) [h1,h2,hP,hw,e0,e0',hm2,hm3]
   simpa -dsimp -implicitDefEqProofs (disch:=first|omega|assumption) [E]using hT
 ·obtain rfl:e=0:=by omega
  rw[if_neg e0]at hT;rcases hP with hP | ⟨m,hm,hP⟩
  ·simp -dsimp -implicitDefEqProofs (disch:=first|omega|assumption) [h1,h2,hP,hw,hw1,hw2,hp1',hp2,hs']
   simpa -dsimp -implicitDefEqProofs (disch:=first|omega|assumption) [E]using hT
  ·have hm2:(u.length+m.length)=r.length:=hm
   have hm3:List.take u.length (Str.Vs.ws wd u++m)=Str.Vs.ws wd u:=by rw[List.take_append_of_le_length (by simp),List.take_of_length_le (by simp)]
   simp -dsimp -implicitDefEqProofs (disch:=first|omega|assumption) [h1,h2,hP,hw,hw1,hw2,hp1',hp2,hs',hm2,hm3]
   simpa -dsimp -implicitDefEqProofs (disch:=first|omega|assumption) [E]using hT
def zoc (X:List Val) (hn:X.length<=1000000) (ho: ∃v∈X,v.kind≠3):R 15 [.d (.int .u8 3),.d (.list (vs X))] []=zdA 10:=by
 unfold zdA;refine rg b15 rfl ?_;intro T hT;simp -dsimp -implicitDefEqProofs (disch:=first|omega|assumption)
 generalize hz:zac _ _ _ _ _ _=z;revert z;refine zaa (σ:=Nat) (λi=>[(0,.d (.int .u8 3)),(1,.d (.list (vs X))),(17,.d (.list (vs X))),(18,.d (.int .i64 X.length)),(19,.d (.int .i64 i))]) (λi=>[]) (λi=>i<=X.length/\ ∀j,(hj:j<i)->(hl:j<X.length)->X[j].kind=3) (λi=>X.length - i) 0 ?_ ?_ ?_
 ·exact⟨Nat.zero_le _,λj hj=>by omega⟩
 ·simp -dsimp -implicitDefEqProofs (disch:=first|omega|assumption)
 intro T' f hT' i ⟨hi,hok⟩ ih
 by_cases h1:i<X.length
 ·have hkd:=zaO X[i]
  by_cases hv:X[i].kind=3
  ·rw[hv]at hkd
   simp -dsimp -implicitDefEqProofs (disch:=first|omega|assumption) [h1,hkd]
   refine ih (i+1) _ _ ⟨h1,λj hj hl=> ?_⟩ (by omega) (by simp -dsimp -implicitDefEqProofs (disch:=first|omega|assumption))
   by_cases c:j=i
   ·subst c;exact hv
   ·exact hok j (by omega) hl
  ·have hv': ¬ (X[i].kind:Int)=3:=by omega
   subst hT';simp -dsimp -implicitDefEqProofs (disch:=first|omega|assumption) [h1,hkd,hv,hv']
   simpa -dsimp -implicitDefEqProofs (disch:=first|omega|assumption) [E]using hT
 ·exfalso
  obtain⟨v,hv,hne⟩:=ho;obtain⟨j,hj,rfl⟩:=List.mem_iff_getElem.1 hv;exact hne (hok j (by omega) hj)
def zm4 (X:List Val) (hn:X.length<=1024) (hX: ∀v∈X,v.kind=3) (c:List UInt8) (e:Nat) (hc:c.length<=200000)
 (hw:R 64 [.d (.int .u8 3),.d (.list (vs (zdB X)))] []=some ([.arr 0 c.length,E e],[.arr 1 (bytes c) 0])):
 R 15 [.d (.int .u8 3),.d (.list (vs X))] []=if e≠0 then zdA e else some ([.arr 0 (zbB (zd7 3 (zdB X).length c)).length,E 0],[.arr 1 (bytes (zbB (zd7 3 (zdB X).length c))) 0]):=by
 obtain⟨wd,r,hwd,hr⟩:=zsq X;have hrl:r.length=X.length:=by rw[<- hr];simp
 have hu:zdB X=(Str.uniq r).map wd:=by rw[<- hr];exact zpj hwd r
 have hul0:=zcY X;have hsu:vs (zdB X)=Str.Vs.ws wd (Str.uniq r):=by rw[hu];exact zm3 wd _
 have hulen:(zdB X).length=(Str.uniq r).length:=by rw[hu];simp
 have h1:=Str.Vs.clone_runs hwd r (by omega)
 obtain⟨s,h2,h3,h4⟩:=Str.Vs.sort_any hwd r (by omega)
 have hlen:=h3.len;have hus:Str.uniq s=Str.uniq r:=Str.rises_ext (Str.uniq_rises _) (Str.uniq_rises _) λy=>by rw[Str.uniq_mem,Str.uniq_mem];exact h3.perm.mem_iff
 rw[<- hlen]at h4;have hP:=Str.Vs.compact_any hwd s h4 (by omega)
 unfold Str.Vs.Packs at hP;rw[hus,hlen]at hP;rw[hsu]at hw;rw[hulen];obtain⟨u,hue⟩: ∃u,u=Str.uniq r:=⟨_,rfl⟩;have hul:u.length<=1024:=by rw[hue,<- hulen];omega
 have hp1:=zcl 3 (by omega)
 have hp2:=zcl u.length (by omega)
 have hpl1:=zaZ (n:=3) (by omega)
 have hpl2:=zaZ (n:=u.length) (by omega)
 have hsl:(zd7 3 u.length c).length<1000000000:=by simp only[zd7,List.length_cons,List.length_append];omega
 have hs:=zjg (zd7 3 u.length c) hsl;have hw1:IntKind.u64.wrap (3:Int)=3:=zae (by omega) (by omega)
 have hw2:IntKind.u64.wrap (u.length:Int)=u.length:=zae (by omega) (by omega)
 rw[<- hue]at hw hP ⊢;have hXr:vs X=Str.Vs.ws wd r:=by rw[<- hr];exact zm3 wd _
 have hkd: ∀i,(h:i<r.length)->(wd r[i]).kind=3:=λi h=>by
  have:X[i]'(by omega)=wd r[i]:=by simp only[<- hr,List.getElem_map]
  rw[<- this];exact hX _ (List.getElem_mem _)
 rw[hXr];obtain⟨sb,hsb⟩: ∃sb,sb=zbB (zd7 3 u.length c):=⟨_,rfl⟩;rw[<- hsb]at hs ⊢;unfold zd7 at hs;obtain⟨pk,hpk⟩: ∃p,p=put 3:=⟨_,rfl⟩;obtain⟨pn,hpn⟩: ∃p,p=put u.length:=⟨_,rfl⟩;rw[<- hpk]at hs hp1 hpl1;rw[<- hpn]at hs hp2 hpl2;have hp1':R 65 [.d (.int .u64 3)] []=some ([.arr 0 pk.length],[.arr 1 (bytes pk) 0]):=hp1;have hs':R 66 [.d (.list (.int .u8 75:: .int .u8 70:: .int .u8 49::(bytes pk++(bytes pn++bytes c))))] []=some ([.arr 0 sb.length],[.arr 1 (bytes sb) 0]):=by
  rw[<- hs];simp[B]
 clear hs hsb hpk hpn hu hsu hus h3 h4 hulen hue hsl hr;unfold zdA;obtain⟨rr,hrr⟩: ∃rr,some rr=(if e≠0 then some ([.arr 0 0,E e],[.arr 1 [] 0]) else some ([.arr 0 sb.length,E 0],[.arr 1 (bytes sb) 0]):Option (List V × List Obj)):=by
  by_cases e0:e≠0
  ·exact⟨_,by rw[if_pos e0]⟩
  ·exact⟨_,by rw[if_neg e0]⟩
 rw[<- hrr];refine rg b15 rfl ?_;intro T hT;simp -dsimp -implicitDefEqProofs (disch:=first|omega|assumption)
 rw[hrr]at hT;generalize hz:zac _ _ _ _ _ _=z;revert z;refine zaa (σ:=Nat) (λi=>[(0,.d (.int .u8 3)),(1,.d (.list (Str.Vs.ws wd r))),(17,.d (.list (Str.Vs.ws wd r))),(18,.d (.int .i64 r.length)),(19,.d (.int .i64 i))]) (λi=>[]) (λi=>i<=r.length) (λi=>r.length - i) 0 ?_ ?_ ?_
 ·exact Nat.zero_le _
 ·simp -dsimp -implicitDefEqProofs (disch:=first|omega|assumption)
 intro T' f hT' i hi ih
 by_cases h5:i<r.length
 ·have hk1:=hkd i h5
  have hk2:=zaO (wd r[i]);rw[hk1]at hk2;simp -dsimp -implicitDefEqProofs (disch:=first|omega|assumption) [h5,hk2]
  exact ih (i+1) _ _ h5 (by omega) (by simp -dsimp -implicitDefEqProofs (disch:=first|omega|assumption))
 obtain rfl:i=r.length:=by omega
 subst hT';clear ih hi h5
 by_cases e0:e≠0
 ·have e0': ¬ (e:Int)=0:=by omega
  rw[if_pos e0]at hT;rcases hP with hP | ⟨m,hm,hP⟩
  ·simp -dsimp -implicitDefEqProofs (disch:=first|omega|assumption) [h1,h2,hP,hw,e0,e0']
   simpa -dsimp -implicitDefEqProofs (disch:=first|omega|assumption) [E]using hT
  ·have hm2:(u.length+m.length)=r.length:=hm
   have hm3:List.take u.length (Str.Vs.ws wd u++m)=Str.Vs.ws wd u:=by rw[List.take_append_of_le_length (by simp),List.take_of_length_le (by simp)]
   simp -dsimp -implicitDefEqProofs (disch:=first|omega|assumption) [h1,h2,hP,hw,e0,e0',hm2,hm3]
   simpa -dsimp -implicitDefEqProofs (disch:=first|omega|assumption) [E]using hT
 ·obtain rfl:e=0:=by omega
  rw[if_neg e0]at hT;rcases hP with hP | ⟨m,hm,hP⟩
  ·simp -dsimp -implicitDefEqProofs (disch:=first|omega|assumption) [h1,h2,hP,hw,hw1,hw2,hp1',hp2,hs']
   simpa -dsimp -implicitDefEqProofs (disch:=first|omega|assumption) [E]using hT
  ·have hm2:(u.length+m.length)=r.length:=hm
   have hm3:List.take u.length (Str.Vs.ws wd u++m)=Str.Vs.ws wd u:=by rw[List.take_append_of_le_length (by simp),List.take_of_length_le (by simp)]
   simp -dsimp -implicitDefEqProofs (disch:=first|omega|assumption) [h1,h2,hP,hw,hw1,hw2,hp1',hp2,hs',hm2,hm3]
   simpa -dsimp -implicitDefEqProofs (disch:=first|omega|assumption) [E]using hT
end Go.Am.Ab
namespace Go.Am.Ab
open Go.Proofs
set_option maxHeartbeats 8000000
set_option maxRecDepth 4000
def zkD (k:Nat) (u:List Val):List UInt8:=zbB (zd7 k u.length (zdb k u))
def zpy {k n:Nat} {c:List UInt8} (hk:k<256) (hn:n<=256) (hc:c.length<=200000):(zd7 k n c).length<=200100:=by
 have h1:=zaZ (n:=k) (by omega)
 have h2:=zaZ (n:=n) (by omega)
 simp only[zd7,List.length_cons,List.length_append];omega
def zd6 {k:Nat} {l:List Val} (g:zfs k l):zfs k (zdB l):=λv hv=>g v (zlp.1 hv)
def zth (k:Nat) (l:List Val):Bool:=decide (k=1\/k=3) && l.all λv=>decide (v.kind=k)
def zqM (k:Nat) (hk:k<256) (l:List Val) (g:zfs k l) (hn:l.length<=256):R 15 [.d (.int .u8 k),.d (.list (vs l))] []=if zth k l=true then some ([.arr 0 (zkD k (zdB l)).length,E 0],[.arr 1 (bytes (zkD k (zdB l))) 0]) else zdA 10:=by
 unfold zth;have hul:=zcY l
 by_cases h13:k=1\/k=3
 ·rw[decide_eq_true h13,Bool.true_and]
  have hk3:1<=k/\k<=3:=by omega
  have hw:=zgt k hk3 (zdB l) (zd6 g) (by omega)
  have hc:=zgu hk3 (zd6 g) (by omega)
  by_cases ha:(l.all λv=>decide (v.kind=k))=true
  ·rw[if_pos ha]
   have ha': ∀v∈l,v.kind=k:=λv hv=>of_decide_eq_true (List.all_eq_true.1 ha v hv)
   rcases h13 with rfl | rfl
   ·exact zhD l (by omega) ha' _ 0 hc hw
   ·exact zm4 l (by omega) ha' _ 0 hc hw
  ·rw[if_neg ha]
   have ho: ∃v∈l,v.kind≠k:=by
    apply Classical.byContradiction;intro h;exact ha (List.all_eq_true.2 λv hv=>decide_eq_true (Classical.byContradiction λe=>h ⟨v,hv,e⟩))
   rcases h13 with rfl | rfl
   ·exact zob l (by omega) ho
   ·exact zoc l (by omega) ho
 ·rw[decide_eq_false h13,Bool.false_and,if_neg (by simp)]
  exact zoa k hk (λe=>h13 (.inl e)) (λe=>h13 (.inr e)) l
def zlB (b r:List UInt8):Option (Nat × List Val):=
 if (get r).2.2≠0 then none else
 if 3<(get r).1 then none else
 if (get (r.drop (get r).2.1)).2.2≠0 then none else
 if 256<(get (r.drop (get r).2.1)).1 then none else
 if (za2 (get r).1 ((r.drop (get r).2.1).drop (get (r.drop (get r).2.1)).2.1) (get (r.drop (get r).2.1)).1).2≠0 then none else
 if zth (get r).1 (za2 (get r).1 ((r.drop (get r).2.1).drop (get (r.drop (get r).2.1)).2.1) (get (r.drop (get r).2.1)).1).1=true then
  if zkD (get r).1 (zdB (za2 (get r).1 ((r.drop (get r).2.1).drop (get (r.drop (get r).2.1)).2.1) (get (r.drop (get r).2.1)).1).1)=b then
   some ((get r).1,(za2 (get r).1 ((r.drop (get r).2.1).drop (get (r.drop (get r).2.1)).2.1) (get (r.drop (get r).2.1)).1).1) else none
 else none
def zjq (b:List UInt8):Nat ⊕ (Nat × List Val):=
 match zhO b with
 |none=> .inl 101
 |some t=>if t.length<3\/t.take 3≠[75,70,49] then .inl 100 else
  match zlB b (t.drop 3) with
  |none=> .inl 102
  |some p=> .inr p
def KoR:Nat ⊕ (Nat × List Val)->Option (List V × List Obj)
 |.inl e=>some ([.d .nilP,E e],[])
 |.inr (k,l)=>some ([.ptr 0 0,E 0],[.box [.d (.int .u8 k),.arr 1 l.length],.arr 1 (vs l) l.length])
def zhE {k n:Nat} {b:List UInt8} (h:(za2 k b n).2=0):zfs k (za2 k b n).1/\(za2 k b n).1.length=n/\n<=256/\1<=k/\k<=3:=by
 unfold za2 at h ⊢
 by_cases hk:1<=k/\k<=3
 ·rw[if_neg (λc=>c hk)]at h ⊢
  by_cases h1:(n:Int)<0\/256<(n:Int)
  ·rw[if_pos h1]at h;simp at h
  rw[if_neg h1,Int.toNat_natCast]at h ⊢
  by_cases h2:(zd5 k n b).2≠0
  ·rw[if_pos h2]at h;exact absurd h h2
  rw[if_neg h2]at h ⊢;have hg:=zg9 hk (n:=n) (b:=b) (by omega)
  by_cases h3:zdb k (zd5 k n b).1=b
  ·rw[if_pos h3]
   exact⟨hg.1,hg.2,by omega,hk⟩
  ·rw[if_neg h3]at h;simp at h
 ·rw[if_pos hk]at h;simp at h
def zkE (b:List UInt8) (hb:b.length<1000000):R 20 [B b] []=KoR (zjq b):=by
 have ho:=zqJ b hb;unfold zjq;cases hp:zhO b with
 |none=>
  rw[hp]at ho;unfold OpR at ho;simp only[KoR];refine rg b20 rfl ?_;intro T hT;simp -dsimp -implicitDefEqProofs (disch:=first|omega|assumption) [ho]
  simpa -dsimp -implicitDefEqProofs (disch:=first|omega|assumption) [E]using hT
 |some t=>
  have htb:t.length<=b.length:=by
   have:=congrArg List.length (zmV hp);rw[zbp]at this;omega
  rw[hp]at ho;unfold OpR at ho;simp only at ho ⊢;clear hp
  by_cases h1:t.length<3
  ·have h1':(t.length:Int)<3:=by omega
   rw[if_pos (.inl h1)];simp only[KoR];refine rg b20 rfl ?_;intro T hT;simp -dsimp -implicitDefEqProofs (disch:=first|omega|assumption) [ho,h1,h1']
   simpa -dsimp -implicitDefEqProofs (disch:=first|omega|assumption) [E]using hT
  have h1': ¬ (t.length:Int)<3:=by omega
  have h1b:3<=t.length:=by omega
  obtain⟨t3,ht3⟩: ∃t3,t3=t.take 3:=⟨_,rfl⟩;have ht3':List.take 3 (bytes t)=bytes t3:=by rw[ht3,bytes,bytes,List.map_take]
  have hM3:=zaP t3;rw[<- ht3]
  by_cases h2:t3=[75,70,49]
  case neg=>
   rw[if_pos (.inr h2)];have h2':(t3 == [75,70,49])=false:=by simpa using h2
   simp only[KoR];refine rg b20 rfl ?_;intro T hT;simp -dsimp -implicitDefEqProofs (disch:=first|omega|assumption) [ho,h1,h1',h1b,ht3',hM3,h2']
   simpa -dsimp -implicitDefEqProofs (disch:=first|omega|assumption) [E]using hT
  have h2':(t3 == [75,70,49])=true:=by simpa using h2
  rw[if_neg (λc=>c.elim h1 (λc=>c h2))]
  obtain⟨r,hr⟩: ∃r,r=t.drop 3:=⟨_,rfl⟩;have hr':List.drop 3 (bytes t)=bytes r:=by rw[hr,bytes,bytes,List.map_drop]
  have hrl:r.length<1000000:=by rw[hr,List.length_drop];omega
  have hrk:r.length+3=t.length:=by rw[hr,List.length_drop];omega
  rw[<- hr];have hg:=zfa r (by omega)
  have hgu:=zcL r;have hgl:=zbq r;unfold zlB;obtain⟨k,hk⟩: ∃g,g=(get r).1:=⟨_,rfl⟩;obtain⟨u1,hu1⟩: ∃g,g=(get r).2.1:=⟨_,rfl⟩;obtain⟨e1,he1⟩: ∃g,g=(get r).2.2:=⟨_,rfl⟩;rw[<- hk,<- hu1,<- he1]at hg;rw[<- hu1]at hgu;rw[<- hk]at hgl;rw[<- hk,<- hu1,<- he1]
  by_cases c1:e1≠0
  ·have c1': ¬ (e1:Int)=0:=by omega
   rw[if_pos c1];simp only[KoR];refine rg b20 rfl ?_;intro T hT;simp -dsimp -implicitDefEqProofs (disch:=first|omega|assumption) [ho,h1,h1',h1b,ht3',hM3,h2',hr',hg,c1,c1']
   simpa -dsimp -implicitDefEqProofs (disch:=first|omega|assumption) [E]using hT
  rw[if_neg c1];obtain rfl:e1=0:=by omega
  by_cases c2:3<k
  ·have c2':(3:Int)<k:=by omega
   rw[if_pos c2];simp only[KoR];refine rg b20 rfl ?_;intro T hT;simp -dsimp -implicitDefEqProofs (disch:=first|omega|assumption) [ho,h1,h1',h1b,ht3',hM3,h2',hr',hg,c2,c2']
   simpa -dsimp -implicitDefEqProofs (disch:=first|omega|assumption) [E]using hT
  rw[if_neg c2];have c2': ¬ (3:Int)<k:=by omega
  obtain⟨r2,hr2⟩: ∃r2,r2=r.drop u1:=⟨_,rfl⟩;have hr2':List.drop (3+u1) (bytes t)=bytes r2:=by rw[hr2,hr,List.drop_drop,bytes,bytes,List.map_drop]
  have hr2l:r2.length<1000000:=by rw[hr2,List.length_drop];omega
  have hr2k:r2.length+u1=r.length:=by rw[hr2,List.length_drop];omega
  have x1:((3:Int)+u1).toNat=3+u1:=by omega
  have hb1:3+u1<=t.length:=by omega
  rw[<- hr2];have hg2:=zfa r2 (by omega)
  have hgu2:=zcL r2;have hgl2:=zbq r2;obtain⟨n,hn⟩: ∃g,g=(get r2).1:=⟨_,rfl⟩;obtain⟨u2,hu2⟩: ∃g,g=(get r2).2.1:=⟨_,rfl⟩;obtain⟨e2,he2⟩: ∃g,g=(get r2).2.2:=⟨_,rfl⟩;rw[<- hn,<- hu2,<- he2]at hg2;rw[<- hu2]at hgu2;rw[<- hn]at hgl2;rw[<- hn,<- hu2,<- he2]
  by_cases c3:e2≠0
  ·have c3': ¬ (e2:Int)=0:=by omega
   rw[if_pos c3];simp only[KoR];refine rg b20 rfl ?_;intro T hT;simp -dsimp -implicitDefEqProofs (disch:=first|omega|assumption) [ho,h1,h1',h1b,ht3',hM3,h2',hr',hg,c2,c2',x1,hb1,hr2',hg2,c3,c3']
   simpa -dsimp -implicitDefEqProofs (disch:=first|omega|assumption) [E]using hT
  rw[if_neg c3];obtain rfl:e2=0:=by omega
  by_cases c4:256<n
  ·have c4':(256:Int)<n:=by omega
   rw[if_pos c4];simp only[KoR];refine rg b20 rfl ?_;intro T hT;simp -dsimp -implicitDefEqProofs (disch:=first|omega|assumption) [ho,h1,h1',h1b,ht3',hM3,h2',hr',hg,c2,c2',x1,hb1,hr2',hg2,c4,c4']
   simpa -dsimp -implicitDefEqProofs (disch:=first|omega|assumption) [E]using hT
  rw[if_neg c4];have c4': ¬ (256:Int)<n:=by omega
  obtain⟨r3,hr3⟩: ∃r3,r3=r2.drop u2:=⟨_,rfl⟩;have hr3':List.drop (3+u1+u2) (bytes t)=bytes r3:=by rw[hr3,hr2,hr,List.drop_drop,List.drop_drop,bytes,bytes,List.map_drop,Nat.add_assoc]
  have hr3l:r3.length<1000000:=by rw[hr3,List.length_drop];omega
  have x2:((3:Int)+u1+u2).toNat=3+u1+u2:=by omega
  have hb2:3+u1+u2<=t.length:=by omega
  have wk:IntKind.u8.wrap (k:Int)=k:=znK (by omega) (by omega)
  have wk2:(k:Int) % 256=k:=by omega
  have wn:IntKind.i64.wrap (n:Int)=n:=wI (by omega) (by omega)
  rw[<- hr3];have hrd:=zlA k (by omega) r3 n (by unfold zah;omega) hr3l
  have hgood:=zhE (k:=k) (n:=n) (b:=r3);obtain⟨l,hl⟩: ∃l,l=(za2 k r3 n).1:=⟨_,rfl⟩;obtain⟨e3,he3⟩: ∃e,e=(za2 k r3 n).2:=⟨_,rfl⟩;rw[<- hl,<- he3]at hrd hgood;rw[<- hl,<- he3]
  by_cases c5:e3≠0
  ·have c5': ¬ (e3:Int)=0:=by omega
   rw[if_pos c5];simp only[KoR];refine rg b20 rfl ?_;intro T hT;simp -dsimp -implicitDefEqProofs (disch:=first|omega|assumption) [ho,h1,h1',h1b,ht3',hM3,h2',hr',hg,c2,c2',x1,hb1,hr2',hg2,c4,c4',x2,hb2,hr3',wk,wk2,wn,hrd,c5,c5']
   simpa -dsimp -implicitDefEqProofs (disch:=first|omega|assumption) [E]using hT
  rw[if_neg c5];obtain rfl:e3=0:=by omega
  obtain⟨g1,g2,g3,g4,g5⟩:=hgood rfl;have hkw:=zqM k (by omega) l g1 (by omega)
  by_cases c6:zth k l=true
  case neg=>
   rw[if_neg c6]at hkw ⊢;unfold zdA at hkw;simp only[KoR];refine rg b20 rfl ?_;intro T hT;simp -dsimp -implicitDefEqProofs (disch:=first|omega|assumption) [ho,h1,h1',h1b,ht3',hM3,h2',hr',hg,c2,c2',x1,hb1,hr2',hg2,c4,c4',x2,hb2,hr3',wk,wk2,wn,hrd,hkw]
   simpa -dsimp -implicitDefEqProofs (disch:=first|omega|assumption) [E]using hT
  rw[if_pos c6]at hkw ⊢;have hul:=zcY l;have hfl:(zkD k (zdB l)).length<1000000:=by
   have h5:=zgu ⟨g4,g5⟩ (zd6 g1) (by omega)
   have h6:=zpy (k:=k) (n:=(zdB l).length) (c:=zdb k (zdB l)) (by omega) (by omega) h5
   unfold zkD;rw[zbp];omega
  have heq:=zfj (zkD k (zdB l)) b (by omega)
  generalize zkD k (zdB l)=w at*
  by_cases c7:w=b
  ·rw[if_pos c7]
   rw[decide_eq_true c7]at heq;simp only[KoR];refine rg b20 rfl ?_;intro T hT;simp -dsimp -implicitDefEqProofs (disch:=first|omega|assumption) [ho,h1,h1',h1b,ht3',hM3,h2',hr',hg,c2,c2',x1,hb1,hr2',hg2,c4,c4',x2,hb2,hr3',wk,wk2,wn,hrd,hkw,heq]
   simpa -dsimp -implicitDefEqProofs (disch:=first|omega|assumption) [E]using hT
  ·rw[if_neg c7]
   rw[decide_eq_false c7]at heq;simp only[KoR];refine rg b20 rfl ?_;intro T hT;simp -dsimp -implicitDefEqProofs (disch:=first|omega|assumption) [ho,h1,h1',h1b,ht3',hM3,h2',hr',hg,c2,c2',x1,hb1,hr2',hg2,c4,c4',x2,hb2,hr3',wk,wk2,wn,hrd,hkw,heq]
   simpa -dsimp -implicitDefEqProofs (disch:=first|omega|assumption) [E]using hT
end Go.Am.Ab
