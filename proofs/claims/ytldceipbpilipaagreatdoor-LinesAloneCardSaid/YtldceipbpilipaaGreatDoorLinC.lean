/- Words: cut, numbers, cells. -/
import Derived.Test.YtldceipbpilipaaGreatDoorLinB
import Derived.Test.YtldceipbpilipaaGreatDoorSignsA
set_option linter.all false
namespace Go.Am.Ab
open Go.Proofs
set_option maxHeartbeats 4000000
set_option maxRecDepth 4000
def cutP (p:List UInt8):List UInt8→List (List UInt8)
 |[]=>[p]
 |x::w=>if x=32 then p::cutP [] w else cutP (p++[x]) w
theorem cutP_eq: ∀ (w p:List UInt8),cutP p w=match cutL 32 w with | []=>[p] | q::qs=>(p++q)::qs
 |[],p=>by simp[cutP,cutL]
 |x::w,p=>by
  unfold cutP cutL
  by_cases hx:x=32
  ·rw[if_pos hx,if_pos hx,cutP_eq w []]
   simp only[List.append_nil]
   cases h:cutL 32 w with
   |nil=>exact absurd h (by cases w <;> unfold cutL <;> (try split) <;> (try split) <;> simp)
   |cons q qs=>simp
  ·rw[if_neg hx,if_neg hx,cutP_eq w (p++[x])]
   cases h:cutL 32 w with
   |nil=>rfl
   |cons q qs=>simp
theorem cutL_ne (w:List UInt8):cutL 32 w≠[]:=by
 cases w with
 |nil=>simp[cutL]
 |cons x w=>unfold cutL;split <;> (try split) <;> simp
theorem cutP_nil (w:List UInt8):cutP [] w=cutL 32 w:=by
 rw[cutP_eq]
 cases h:cutL 32 w with
 |nil=>exact absurd h (cutL_ne w)
 |cons q qs=>rfl
theorem cutP_len: ∀ (w p:List UInt8),(cutP p w).length≤w.length+1
 |[],p=>by simp[cutP]
 |x::w,p=>by
  unfold cutP
  split
  ·have:=cutP_len w [];simp;omega
  ·have:=cutP_len w (p++[x]);simp;omega
theorem cutL_len (w:List UInt8):(cutL 32 w).length≤w.length+1:=by rw[← cutP_nil];exact cutP_len w []
def seg (l:List UInt8) (a b:Nat):List UInt8:=(l.drop a).take (b - a)
theorem seg_ext (l:List UInt8) (a b:Nat):(⟨l.toArray⟩:ByteArray).extract a b=⟨(seg l a b).toArray⟩:=by
 apply ByteArray.ext
 simp[seg,List.extract_eq_take_drop]
theorem seg_more {l:List UInt8} {a i:Nat} (h:a≤i) (hi:i<l.length):seg l a (i+1)=seg l a i++[l[i]]:=by
 unfold seg
 rw[show i+1 - a=(i - a)+1 by omega,List.take_add_one,List.getElem?_drop,show a+(i - a)=i by omega,List.getElem?_eq_getElem hi]
 rfl
theorem seg_self (l:List UInt8) (a:Nat):seg l a a=[]:=by simp[seg]
theorem bt_list (l:List UInt8) {i:Nat} (hi:i<l.length):bt ⟨l.toArray⟩ i=(l[i]).toNat:=by
 rw[← bt_idx (s:=⟨l.toArray⟩) (by rw[strD_size];exact hi)]
 rfl
theorem cut_runs (l:List UInt8) (hl:l.length<1000000):R 64 [S l] []=some ([.arr 0 (cutL 32 l).length],[.arr 1 ((cutL 32 l).map strD) 0]):=by
 have hcl:=cutL_len l
 have hsz:(⟨l.toArray⟩:ByteArray).size=l.length:=strD_size l
 have hex:=seg_ext l
 refine run_goal (rs:=[.tmp 2]) (ts:=[81]) Tryz.func64 rfl rfl rfl (by kernel_rfl) (by kernel_rfl) (.inl sp_64) (by simp[Tryz.f64]) ?_
 intro T hT
 simp -dsimp -implicitDefEqProofs (disch:=first|omega|assumption) [startSlots,nI,wI]
 generalize hz:loopT _ _ _ _ _ _=z
 revert z
 refine loop_any (σ:=Nat × Nat × List (List UInt8)) (fun x=>[(0,S l),(3,.arr 0 x.2.2.length),(4,I x.2.1),(5,I x.1)]) (fun x=>[.arr 1 (x.2.2.map strD) 0]) (fun x=>x.2.1≤x.1∧x.1≤l.length∧cutL 32 l=x.2.2++cutP (seg l x.2.1 x.1) (l.drop x.1)∧x.2.2.length≤x.1) (fun x=>l.length - x.1) (0,0,[]) ?_ ?_ ?_
 ·exact⟨Nat.le_refl _,Nat.zero_le _,by simp[seg_self,cutP_nil],Nat.zero_le _⟩
 ·simp -dsimp -implicitDefEqProofs (disch:=first|omega|assumption)
 intro T' f hT' ⟨i,a,ws⟩ ⟨h1,h2,h3,h4⟩ ih
 simp only at h1 h2 h3 h4 ih
 by_cases hi:i<l.length
 ·have hi':(i:Int)<l.length:=by omega
  have hd:l.drop i=l[i]::l.drop (i+1):=List.drop_eq_getElem_cons hi
  have hb:=bt_list l hi
  have hg:=bt_idx (s:=⟨l.toArray⟩) (k:=i) (by rw[hsz];exact hi)
  have hm:=seg_more h1 hi
  have hb':=bt_lt ⟨l.toArray⟩ i
  rw[hd]at h3
  unfold cutP at h3
  by_cases hx:l[i]=32
  ·have hbx:bt ⟨l.toArray⟩ i=32:=by rw[hb,hx];rfl
   rw[if_pos hx]at h3
   rw[hbx]at hg
   simp -dsimp -implicitDefEqProofs (disch:=first|omega|assumption) [nI,wI,hi,hi',hsz,hg,hex,h1]
   refine ih (i+1,i+1,ws++[seg l a i]) _ _ ⟨Nat.le_refl _,by simp only;omega,by simp only;rw[h3,seg_self];simp,by simp;omega⟩ (by simp only;omega) ?_
   simp -dsimp -implicitDefEqProofs (disch:=first|omega|assumption) [strD]
  ·have hbx:bt ⟨l.toArray⟩ i≠32:=fun e=>hx (by rw[hb]at e;exact UInt8.toNat_inj.1 e)
   rw[if_neg hx]at h3
   generalize bt ⟨l.toArray⟩ i=b at*
   have hbz: ¬ (b:Int)=32:=by omega
   simp -dsimp -implicitDefEqProofs (disch:=first|omega|assumption) [nI,wI,hi,hi',hsz,hg,hbz,h1]
   refine ih (i+1,a,ws) _ _ ⟨by simp only;omega,by simp only;omega,by simp only;rw[h3,hm],by simp;omega⟩ (by simp only;omega) ?_
   simp -dsimp -implicitDefEqProofs (disch:=first|omega|assumption)
 ·have:i=l.length:=by omega
  subst this
  subst hT'
  rw[List.drop_length]at h3
  unfold cutP at h3
  rw[h3]at hT
  simp -dsimp -implicitDefEqProofs (disch:=first|omega|assumption) [nI,wI,hi,hsz,hex,h1]
  simpa -dsimp -implicitDefEqProofs (disch:=first|omega|assumption) [nI,wI,strD]using hT
end Go.Am.Ab
namespace Go.Am.Ab
open Go.Proofs
set_option maxHeartbeats 4000000
set_option maxRecDepth 4000
def valS (b a:Nat):Nat:=if 48≤b∧b≤57 then 10*a+(b - 48) else a
def valA (l:List UInt8) (i:Nat):Nat:=(l.take i).foldl (fun a c=>valS c.toNat a) 0
theorem valA_zero (l:List UInt8):valA l 0=0:=rfl
theorem valA_succ {l:List UInt8} {i:Nat} (h:i<l.length):valA l (i+1)=valS (l[i]).toNat (valA l i):=by
 unfold valA
 rw[List.take_add_one,List.getElem?_eq_getElem h,List.foldl_append]
 rfl
theorem valA_lt (l:List UInt8): ∀i,i≤l.length→valA l i<10 ^ i
 |0,_=>by simp[valA_zero]
 |i+1,h=>by
  have:=valA_lt l i (by omega)
  rw[valA_succ (by omega),Nat.pow_succ]
  unfold valS
  split <;> omega
def rv (l:List UInt8):Int:=if l.head?=some 45 then -((valA l (min l.length 11):Nat):Int) else (valA l (min l.length 11):Nat)
theorem val_digits: ∀ (l:List UInt8) (a:Nat),l.all digB=true→l.foldl (fun a c=>valS c.toNat a) a=vL a l
 |[],a,_=>rfl
 |c::l,a,h=>by
  simp only[List.all_cons,Bool.and_eq_true]at h
  have hc:=digB_iff.1 h.1
  simp only[List.foldl_cons,vL]
  have e:valS c.toNat a=a*10+(c.toNat - 48):=by
   unfold valS;rw[if_pos hc];omega
  rw[e]
  exact val_digits l _ h.2
theorem digF_small {u:Nat} (h:u≤999999999):(digF 20 u).length≤9:=by
 have hp:(10:Nat) ^ 20=100000000000000000000:=by decide
 by_cases h0:u=0
 ·subst h0;decide
 ·rw[show digF 20 u=digW u from digF_W 19 u (by omega) (by rw[show 19+1=20 from rfl,hp];omega)]
  exact digW_len 9 u (by have hq:(10:Nat) ^ 9=1000000000:=(by decide);omega)
theorem rv_itoa {n:Int} (h1: -999999999≤n) (h2:n≤999999999):rv (itoaL n)=n:=by
 have hp:(10:Nat) ^ 20=100000000000000000000:=by decide
 unfold itoaL
 split
 ·rename_i hn
  have hl:=digF_small (u:=n.natAbs) (by omega)
  have hv:=digF_val 20 n.natAbs (by rw[hp];omega)
  unfold rv valA
  rw[List.head?_cons,if_pos rfl,List.take_of_length_le (by simp;omega),List.foldl_cons,val_digits _ _ (digF_all 20 _)]
  have e:valS (45:UInt8).toNat 0=0:=rfl
  rw[e,hv];omega
 ·rename_i hn
  have hl:=digF_small (u:=n.toNat) (by omega)
  have hv:=digF_val 20 n.toNat (by rw[hp];omega)
  have hne:(digF 20 n.toNat).head?≠some 45:=by
   cases hd:digF 20 n.toNat with
   |nil=>simp
   |cons c r=>
    have:=dig_first hd
    intro e
    simp only[List.head?_cons,Option.some.injEq]at e
    subst e
    revert this;decide
  unfold rv valA
  rw[if_neg hne,List.take_of_length_le (by omega),val_digits _ _ (digF_all 20 _),hv];omega
theorem rv_le (l:List UInt8): -99999999999≤rv l∧rv l≤99999999999:=by
 have h:=valA_lt l (min l.length 11) (Nat.min_le_left _ _)
 have h2:(10:Nat) ^ (min l.length 11)≤10 ^ 11:=Nat.pow_le_pow_right (by omega) (Nat.min_le_right _ _)
 have h3:(10:Nat) ^ 11=100000000000:=by decide
 unfold rv
 split <;> omega
theorem num_rv {l:List UInt8} {low:Int} (hlow: -999999999≤low):numOk l low=((decide (low≤rv l) && decide (rv l≤999999999)) && (itoaL (rv l) == l))∧(numOk l low=true→numV l=rv l):=by
 cases h:numOk l low with
 |true=>
  obtain⟨v,rfl,h1,h2,h3,h4⟩:=num_some h
  have e:=rv_itoa (n:=v) (by omega) h2
  rw[e]
  exact⟨by simp[h1,h2],fun _=>h3⟩
 |false=>
  refine⟨?_,fun h=>by cases h⟩
  have hb:=rv_le l
  by_cases he:itoaL (rv l)=l
  ·obtain⟨-,h2⟩:=num_itoa (n:=rv l) (by omega) (by omega) low
   rw[he]at h2
   rw[← h2,h];rfl
  ·rw[beq_false_of_ne he,Bool.and_false]
def rnum (l:List UInt8) (low:Int):Int:=if numOk l low=true then numV l else 0
theorem value_runs (l:List UInt8) (hl:l.length<1000000) {low:Int} (hlow: -999999999≤low) (hlow2:low≤0):R 117 [S l,I low] []=some ([I (rnum l low),.d (.bool (numOk l low))],[]):=by
 have hsz:(⟨l.toArray⟩:ByteArray).size=l.length:=strD_size l
 obtain⟨e1,e2⟩:=num_rv (l:=l) hlow
 have hb:=rv_le l
 have hN:=rnumber_runs (n:=rv l) (by omega) (by omega)
 have hp11:(10:Nat) ^ 11=100000000000:=by decide
 unfold rnum
 refine run_goal (rs:=[.tmp 4,.tmp 5]) (ts:=[3,4]) Tryz.func117 rfl rfl rfl (by kernel_rfl) (by kernel_rfl) (.inl sp_117) (by simp[Tryz.f117]) ?_
 intro T hT
 simp -dsimp -implicitDefEqProofs (disch:=first|omega|assumption) [startSlots,nI,wI]
 generalize hz:loopT _ _ _ _ _ _=z
 revert z
 refine loop_any (σ:=Nat) (fun i=>[(0,S l),(1,I low),(6,I (valA l i)),(7,I i)]) (fun _=>[]) (fun i=>i≤l.length∧i≤11) (fun i=>l.length - i) 0 ?_ ?_ ?_
 ·exact⟨Nat.zero_le _,Nat.zero_le _⟩
 ·simp -dsimp -implicitDefEqProofs (disch:=first|omega|assumption) [valA_zero]
 intro T' f hT' i ⟨h1,h2⟩ ih
 have hv1:=valA_lt l i h1
 have hv2:(10:Nat) ^ i≤10 ^ 11:=Nat.pow_le_pow_right (by omega) h2
 rw[hp11]at hv2
 by_cases hi:i<l.length∧i<11
 ·obtain⟨hi,hk⟩:=hi
  have hi':(i:Int)<l.length:=by omega
  have hk':(i:Int)<11:=by omega
  have hbt:=bt_list l hi
  have hg:=bt_idx (s:=⟨l.toArray⟩) (k:=i) (by rw[hsz];exact hi)
  have hb':=bt_lt ⟨l.toArray⟩ i
  have hs:=valA_succ hi
  rw[← hbt]at hs
  generalize bt ⟨l.toArray⟩ i=b at*
  generalize valA l i=v at*
  unfold valS at hs
  by_cases g1:48≤b
  ·have g1':(48:Int)≤b:=by omega
   by_cases g2:b≤57
   ·have g2':(b:Int)≤57:=by omega
    obtain⟨d,hd⟩: ∃d,d=b - 48:=⟨_,rfl⟩
    rw[if_pos ⟨g1,g2⟩,← hd]at hs
    have q1:(b:Int) - 48=d:=by omega
    have q2:IntKind.u8.wrap (d:Int)=d:=by rw[wrap_mod_u8];omega
    have q3:(d:Int) % 256=d:=by omega
    simp -dsimp -implicitDefEqProofs (disch:=first|omega|assumption) [nI,wI,hi,hi',hk',hsz,hg,g1',g2',q1,q2,q3]
    refine ih (i+1) _ _ ⟨by omega,by omega⟩ (by omega) ?_
    simp -dsimp -implicitDefEqProofs (disch:=first|omega|assumption) [hs]
   ·have g2': ¬ (b:Int)≤57:=by omega
    rw[if_neg (by omega)]at hs
    simp -dsimp -implicitDefEqProofs (disch:=first|omega|assumption) [nI,wI,hi,hi',hk',hsz,hg,g1',g2']
    refine ih (i+1) _ _ ⟨by omega,by omega⟩ (by omega) ?_
    simp -dsimp -implicitDefEqProofs (disch:=first|omega|assumption) [hs]
  ·have g1': ¬ (48:Int)≤b:=by omega
   rw[if_neg (by omega)]at hs
   simp -dsimp -implicitDefEqProofs (disch:=first|omega|assumption) [nI,wI,hi,hi',hk',hsz,hg,g1']
   refine ih (i+1) _ _ ⟨by omega,by omega⟩ (by omega) ?_
   simp -dsimp -implicitDefEqProofs (disch:=first|omega|assumption) [hs]
 ·have him:i=min l.length 11:=by omega
  subst hT'
  have hrv:rv l=if l.head?=some 45 then -((valA l i:Nat):Int) else (valA l i:Nat):=by rw[him];rfl
  have hh: ∀ (x:UInt8) (r:List UInt8),l=x::r→(⟨l.toArray⟩:ByteArray)[0]? =some x:=fun x r e=>by subst e;rfl
  generalize valA l i=v at*
  have key: ∀z:Int,z=rv l→numOk l low=((decide (low≤z) && decide (z≤999999999)) && (itoaL z == l))∧(numOk l low=true→numV l=z)∧R 118 [I z] []=some ([S (itoaL z)],[]):=fun z hz=>by rw[hz];exact⟨e1,e2,hN⟩
  clear e1 e2 hN
  have hcond:((i:Int)<l.length∧ ¬ (i:Int)<11)∨ ¬ (i:Int)<l.length:=by omega
  have hvb:v≤99999999999:=by omega
  by_cases h0:0<l.length
  ·have h0':(0:Int)<l.length:=by omega
   have hbt:=bt_list l h0
   have hg:=bt_idx (s:=⟨l.toArray⟩) (k:=0) (by rw[hsz];exact h0)
   have hhd:l.head?=some l[0]:=by rw[List.head?_eq_getElem?,List.getElem?_eq_getElem h0]
   by_cases h45:l[0]=45
   ·have hb0:bt ⟨l.toArray⟩ 0=45:=by rw[hbt,h45];rfl
    rw[hb0]at hg
    obtain⟨k1,k2,k3⟩:=key (-(v:Int)) (by rw[hrv,hhd,h45,if_pos rfl])
    by_cases c1:low≤ -(v:Int)
    ·have c2: -(v:Int)≤999999999:=by omega
     have c1': ¬ -(v:Int)<low:=by omega
     have c2': ¬ (999999999:Int)< -(v:Int):=by omega
     cases c3:(itoaL (-(v:Int)) == l) with
     |true=>
      rw[c3,decide_eq_true c1,decide_eq_true c2]at k1
      have k1:numOk l low=true:=k1
      have k2:=k2 k1
      rw[k1,if_pos rfl,k2]at hT
      rcases hcond with ⟨d1,d2⟩ | d1
      ·simp -dsimp -implicitDefEqProofs (disch:=first|omega|assumption) [nI,wI,d1,d2,hsz,h0,h0',hg,c1',c2',k3,c3]
       simpa -dsimp -implicitDefEqProofs (disch:=first|omega|assumption) [nI,wI]using hT
      ·simp -dsimp -implicitDefEqProofs (disch:=first|omega|assumption) [nI,wI,d1,hsz,h0,h0',hg,c1',c2',k3,c3]
       simpa -dsimp -implicitDefEqProofs (disch:=first|omega|assumption) [nI,wI]using hT
     |false=>
      rw[c3,Bool.and_false]at k1
      rw[k1,if_neg (by decide)]at hT
      rcases hcond with ⟨d1,d2⟩ | d1
      ·simp -dsimp -implicitDefEqProofs (disch:=first|omega|assumption) [nI,wI,d1,d2,hsz,h0,h0',hg,c1',c2',k3,c3]
       simpa -dsimp -implicitDefEqProofs (disch:=first|omega|assumption) [nI,wI]using hT
      ·simp -dsimp -implicitDefEqProofs (disch:=first|omega|assumption) [nI,wI,d1,hsz,h0,h0',hg,c1',c2',k3,c3]
       simpa -dsimp -implicitDefEqProofs (disch:=first|omega|assumption) [nI,wI]using hT
    ·have c1': -(v:Int)<low:=by omega
     rw[decide_eq_false c1,Bool.false_and,Bool.false_and]at k1
     rw[k1,if_neg (by decide)]at hT
     rcases hcond with ⟨d1,d2⟩ | d1
     ·simp -dsimp -implicitDefEqProofs (disch:=first|omega|assumption) [nI,wI,d1,d2,hsz,h0,h0',hg,c1']
      simpa -dsimp -implicitDefEqProofs (disch:=first|omega|assumption) [nI,wI]using hT
     ·simp -dsimp -implicitDefEqProofs (disch:=first|omega|assumption) [nI,wI,d1,hsz,h0,h0',hg,c1']
      simpa -dsimp -implicitDefEqProofs (disch:=first|omega|assumption) [nI,wI]using hT
   ·have hb0: ¬ ((bt ⟨l.toArray⟩ 0:Nat):Int)=45:=fun e=>h45 (UInt8.toNat_inj.1 (by rw[← hbt];show _=45;omega))
    have hb1:=bt_lt ⟨l.toArray⟩ 0
    obtain⟨k1,k2,k3⟩:=key (v:Int) (by rw[hrv,hhd,if_neg (fun e=>h45 (Option.some.inj e))])
    generalize bt ⟨l.toArray⟩ 0=b0 at*
    have c1:low≤(v:Int):=by omega
    have c1': ¬ (v:Int)<low:=by omega
    by_cases c2:(v:Int)≤999999999
    ·have c2': ¬ (999999999:Int)<(v:Int):=by omega
     cases c3:(itoaL (v:Int) == l) with
     |true=>
      rw[c3,decide_eq_true c1,decide_eq_true c2]at k1
      have k1:numOk l low=true:=k1
      have k2:=k2 k1
      rw[k1,if_pos rfl,k2]at hT
      rcases hcond with ⟨d1,d2⟩ | d1
      ·simp -dsimp -implicitDefEqProofs (disch:=first|omega|assumption) [nI,wI,d1,d2,hsz,h0,h0',hg,hb0,c1',c2',k3,c3]
       simpa -dsimp -implicitDefEqProofs (disch:=first|omega|assumption) [nI,wI]using hT
      ·simp -dsimp -implicitDefEqProofs (disch:=first|omega|assumption) [nI,wI,d1,hsz,h0,h0',hg,hb0,c1',c2',k3,c3]
       simpa -dsimp -implicitDefEqProofs (disch:=first|omega|assumption) [nI,wI]using hT
     |false=>
      rw[c3,Bool.and_false]at k1
      rw[k1,if_neg (by decide)]at hT
      rcases hcond with ⟨d1,d2⟩ | d1
      ·simp -dsimp -implicitDefEqProofs (disch:=first|omega|assumption) [nI,wI,d1,d2,hsz,h0,h0',hg,hb0,c1',c2',k3,c3]
       simpa -dsimp -implicitDefEqProofs (disch:=first|omega|assumption) [nI,wI]using hT
      ·simp -dsimp -implicitDefEqProofs (disch:=first|omega|assumption) [nI,wI,d1,hsz,h0,h0',hg,hb0,c1',c2',k3,c3]
       simpa -dsimp -implicitDefEqProofs (disch:=first|omega|assumption) [nI,wI]using hT
    ·have c2':(999999999:Int)<(v:Int):=by omega
     rw[decide_eq_false c2,Bool.and_false,Bool.false_and]at k1
     rw[k1,if_neg (by decide)]at hT
     rcases hcond with ⟨d1,d2⟩ | d1
     ·simp -dsimp -implicitDefEqProofs (disch:=first|omega|assumption) [nI,wI,d1,d2,hsz,h0,h0',hg,hb0,c1',c2']
      simpa -dsimp -implicitDefEqProofs (disch:=first|omega|assumption) [nI,wI]using hT
     ·simp -dsimp -implicitDefEqProofs (disch:=first|omega|assumption) [nI,wI,d1,hsz,h0,h0',hg,hb0,c1',c2']
      simpa -dsimp -implicitDefEqProofs (disch:=first|omega|assumption) [nI,wI]using hT
  ·have hl0:l=[]:=List.length_eq_zero_iff.1 (by omega)
   subst hl0
   have hi0:i=0:=by simpa using h1
   subst hi0
   have hv0:v=0:=by
    have h10:(10:Nat) ^ 0=1:=rfl
    omega
   subst hv0
   have hn:numOk ([]:List UInt8) low=false:=rfl
   obtain⟨k1,k2,k3⟩:=key ((0:Nat):Int) (by rw[hrv];simp)
   rw[hn,if_neg (by decide)]at hT
   have c1': ¬ ((0:Nat):Int)<low:=by omega
   have c1'': ¬ (0:Int)<low:=by omega
   have k3:R 118 [I 0] []=some ([S [48]],[]):=k3
   simp -dsimp -implicitDefEqProofs (disch:=first|omega|assumption) [nI,wI,hsz,c1',c1'',k3]
   simpa -dsimp -implicitDefEqProofs (disch:=first|omega|assumption) [nI,wI]using hT
end Go.Am.Ab
namespace Go.Am.Ab
open Go.Proofs
set_option maxHeartbeats 4000000
set_option maxRecDepth 4000
def cleanL (t:List UInt8):Bool:=(sgs ⟨t.toArray⟩).all (·.2.2)
def cellR (l:List UInt8):Int × Int × List UInt8 × Bool:=
 if l=[110,117,108,108] then (0,0,[],true) else if l=[121,101,115] then (2,1,[],true) else if l=[110,111] then (2,0,[],true) else
 if l.head?=some 39 then (3,0,l.tail,cleanL l.tail && decide (l.tail.length≤64)) else (1,numV l,[],numOk l (-999999999))
theorem cutp_not {l:List UInt8} (hc:l.head?≠some 39) (hl:l.length<1000000):R 178 [S l,S [39]] []=some ([S l,.d (.bool false)],[]):=by
 cases l with
 |cons c r=>exact cutp_runs (fun e=>hc (by rw[e];rfl)) (by simp at hl;omega)
 |nil=>
  have h1:R 277 [S [],S [39]] []=some ([S [],.d (.bool false)],[]):=by
   have hp:R 278 [S [],S [39]] []=some ([.d (.bool false)],[]):=by
    refine run_goal (rs:=[.tmp 4]) (ts:=[4]) Tryz.func278 rfl rfl rfl (by kernel_rfl) (by kernel_rfl) (.inl sp_278) (by simp[Tryz.f278]) ?_
    intro T hT
    simp -dsimp -implicitDefEqProofs (disch:=first|omega|assumption) [startSlots,nI,wI]
    simpa -dsimp -implicitDefEqProofs (disch:=first|omega|assumption) [nI,wI]using hT
   refine run_goal (rs:=[.tmp 4,.tmp 5]) (ts:=[9,4]) Tryz.func277 rfl rfl rfl (by kernel_rfl) (by kernel_rfl) (.inl sp_277) (by simp[Tryz.f277]) ?_
   intro T hT
   simp -dsimp -implicitDefEqProofs (disch:=first|omega|assumption) [startSlots,nI,wI,hp]
   simpa -dsimp -implicitDefEqProofs (disch:=first|omega|assumption) [nI,wI]using hT
  refine run_goal (rs:=[.tmp 4,.tmp 5]) (ts:=[9,4]) Tryz.func178 rfl rfl rfl (by kernel_rfl) (by kernel_rfl) (.inl sp_178) (by simp[Tryz.f178]) ?_
  intro T hT
  simp -dsimp -implicitDefEqProofs (disch:=first|omega|assumption) [startSlots,nI,wI,h1]
  simpa -dsimp -implicitDefEqProofs (disch:=first|omega|assumption) [nI,wI]using hT
theorem cutp_yesB {s:ByteArray} {t:List UInt8} (hl:t.length<1000000) (hsz:s.size=t.length+1) (ex:s.extract 0 1=⟨[39].toArray⟩) (ex2:s.extract 1 (t.length+1)=⟨t.toArray⟩):R 178 [.d (.str s),S [39]] []=some ([S t,.d (.bool true)],[]):=by
 have g1:(1:Int)≤(t.length:Int)+1:=by omega
 have h1:R 277 [.d (.str s),S [39]] []=some ([S t,.d (.bool true)],[]):=by
  have hp:R 278 [.d (.str s),S [39]] []=some ([.d (.bool true)],[]):=by
   refine run_goal (rs:=[.tmp 4]) (ts:=[4]) Tryz.func278 rfl rfl rfl (by kernel_rfl) (by kernel_rfl) (.inl sp_278) (by simp[Tryz.f278]) ?_
   intro T hT
   simp -dsimp -implicitDefEqProofs (disch:=first|omega|assumption) [startSlots,nI,wI,g1,ex,hsz]
   simpa -dsimp -implicitDefEqProofs (disch:=first|omega|assumption) [nI,wI]using hT
  refine run_goal (rs:=[.tmp 4,.tmp 5]) (ts:=[9,4]) Tryz.func277 rfl rfl rfl (by kernel_rfl) (by kernel_rfl) (.inl sp_277) (by simp[Tryz.f277]) ?_
  intro T hT
  simp -dsimp -implicitDefEqProofs (disch:=first|omega|assumption) [startSlots,nI,wI,hp,hsz,ex2]
  simpa -dsimp -implicitDefEqProofs (disch:=first|omega|assumption) [nI,wI]using hT
 refine run_goal (rs:=[.tmp 4,.tmp 5]) (ts:=[9,4]) Tryz.func178 rfl rfl rfl (by kernel_rfl) (by kernel_rfl) (.inl sp_178) (by simp[Tryz.f178]) ?_
 intro T hT
 simp -dsimp -implicitDefEqProofs (disch:=first|omega|assumption) [startSlots,nI,wI,h1]
 simpa -dsimp -implicitDefEqProofs (disch:=first|omega|assumption) [nI,wI]using hT
theorem ext_tail (c:UInt8) (t:List UInt8):(⟨(c::t).toArray⟩:ByteArray).extract 1 (t.length+1)=⟨t.toArray⟩:=by
 apply ByteArray.ext
 simp
theorem cutp_yes {t:List UInt8} (hl:t.length<1000000):R 178 [S (39::t),S [39]] []=some ([S t,.d (.bool true)],[]):=
 cutp_yesB hl (strD_size _) (by apply ByteArray.ext;simp) (ext_tail 39 t)
theorem clean_list {t:List UInt8} (hl:t.length<1000000):R 103 [S t] []=some ([.d (.bool (cleanL t))],[]):=clean_runs ⟨t.toArray⟩ (by rw[strD_size];omega)
theorem cell_runs {l:List UInt8} (hl:l.length<1000000):R 101 [S l] []=some ([cellV (cellR l).1 (cellR l).2.1 (cellR l).2.2.1,.d (.bool (cellR l).2.2.2)],[]):=by
 unfold cellR
 by_cases h1:l=[110,117,108,108]
 ·subst h1
  rw[if_pos rfl]
  unfold cellV
  refine run_goal (rs:=[.cell 2 29,.tmp 3]) (ts:=[29,4]) Tryz.func101 rfl rfl rfl (by kernel_rfl) (by kernel_rfl) (.inl sp_101) (by simp[Tryz.f101]) ?_
  intro T hT
  simp -dsimp -implicitDefEqProofs (disch:=first|omega|assumption) [startSlots,nI,wI]
  simpa -dsimp -implicitDefEqProofs (disch:=first|omega|assumption) [nI,wI]using hT
 rw[if_neg h1]
 by_cases h2:l=[121,101,115]
 ·subst h2
  rw[if_pos rfl]
  unfold cellV
  refine run_goal (rs:=[.cell 2 29,.tmp 3]) (ts:=[29,4]) Tryz.func101 rfl rfl rfl (by kernel_rfl) (by kernel_rfl) (.inl sp_101) (by simp[Tryz.f101]) ?_
  intro T hT
  simp -dsimp -implicitDefEqProofs (disch:=first|omega|assumption) [startSlots,nI,wI]
  simpa -dsimp -implicitDefEqProofs (disch:=first|omega|assumption) [nI,wI]using hT
 rw[if_neg h2]
 by_cases h3:l=[110,111]
 ·subst h3
  rw[if_pos rfl]
  unfold cellV
  refine run_goal (rs:=[.cell 2 29,.tmp 3]) (ts:=[29,4]) Tryz.func101 rfl rfl rfl (by kernel_rfl) (by kernel_rfl) (.inl sp_101) (by simp[Tryz.f101]) ?_
  intro T hT
  simp -dsimp -implicitDefEqProofs (disch:=first|omega|assumption) [startSlots,nI,wI]
  simpa -dsimp -implicitDefEqProofs (disch:=first|omega|assumption) [nI,wI]using hT
 rw[if_neg h3]
 have n1:(l == [110,117,108,108])=false:=beq_false_of_ne h1
 have n2:(l == [121,101,115])=false:=beq_false_of_ne h2
 have n3:(l == [110,111])=false:=beq_false_of_ne h3
 clear h1 h2 h3
 by_cases h4:l.head?=some 39
 ·rw[if_pos h4]
  obtain⟨t,htl⟩: ∃t,l=39::t:=by
   cases l with
   |nil=>cases h4
   |cons c t=>exact⟨t,by rw[Option.some.inj h4]⟩
  have ht:t.length<1000000:=by rw[htl]at hl;simp at hl;omega
  have hcp:R 178 [S l,S [39]] []=some ([S t,.d (.bool true)],[]):=by rw[htl];exact cutp_yes ht
  have htt:l.tail=t:=by rw[htl];rfl
  rw[htt]
  clear htt htl h4
  have hcl:=clean_list ht
  have hsz:(⟨t.toArray⟩:ByteArray).size=t.length:=strD_size _
  unfold cellV
  by_cases h64:t.length≤64
  ·have h64':(t.length:Int)≤64:=by omega
   cases hc:cleanL t with
   |true=>
    rw[hc]at hcl
    refine run_goal (rs:=[.cell 2 29,.tmp 3]) (ts:=[29,4]) Tryz.func101 rfl rfl rfl (by kernel_rfl) (by kernel_rfl) (.inl sp_101) (by simp[Tryz.f101]) ?_
    intro T hT
    simp -dsimp -implicitDefEqProofs (disch:=first|omega|assumption) [startSlots,nI,wI,hcp,hcl,n1,n2,n3,hsz,h64']
    simpa -dsimp -implicitDefEqProofs (disch:=first|omega|assumption) [nI,wI,h64]using hT
   |false=>
    rw[hc]at hcl
    refine run_goal (rs:=[.cell 2 29,.tmp 3]) (ts:=[29,4]) Tryz.func101 rfl rfl rfl (by kernel_rfl) (by kernel_rfl) (.inl sp_101) (by simp[Tryz.f101]) ?_
    intro T hT
    simp -dsimp -implicitDefEqProofs (disch:=first|omega|assumption) [startSlots,nI,wI,hcp,hcl,n1,n2,n3,hsz,h64']
    simpa -dsimp -implicitDefEqProofs (disch:=first|omega|assumption) [nI,wI,h64]using hT
  ·have h64': ¬ (t.length:Int)≤64:=by omega
   cases hc:cleanL t with
   |true=>
    rw[hc]at hcl
    refine run_goal (rs:=[.cell 2 29,.tmp 3]) (ts:=[29,4]) Tryz.func101 rfl rfl rfl (by kernel_rfl) (by kernel_rfl) (.inl sp_101) (by simp[Tryz.f101]) ?_
    intro T hT
    simp -dsimp -implicitDefEqProofs (disch:=first|omega|assumption) [startSlots,nI,wI,hcp,hcl,n1,n2,n3,hsz,h64']
    simpa -dsimp -implicitDefEqProofs (disch:=first|omega|assumption) [nI,wI,h64]using hT
   |false=>
    rw[hc]at hcl
    refine run_goal (rs:=[.cell 2 29,.tmp 3]) (ts:=[29,4]) Tryz.func101 rfl rfl rfl (by kernel_rfl) (by kernel_rfl) (.inl sp_101) (by simp[Tryz.f101]) ?_
    intro T hT
    simp -dsimp -implicitDefEqProofs (disch:=first|omega|assumption) [startSlots,nI,wI,hcp,hcl,n1,n2,n3,hsz,h64']
    simpa -dsimp -implicitDefEqProofs (disch:=first|omega|assumption) [nI,wI,h64]using hT
 ·rw[if_neg h4]
  have hcp:=cutp_not h4 hl
  have hn:=number_runs (l:=l) (by omega) (low:= -999999999)
  unfold cellV
  refine run_goal (rs:=[.cell 2 29,.tmp 3]) (ts:=[29,4]) Tryz.func101 rfl rfl rfl (by kernel_rfl) (by kernel_rfl) (.inl sp_101) (by simp[Tryz.f101]) ?_
  intro T hT
  simp -dsimp -implicitDefEqProofs (disch:=first|omega|assumption) [startSlots,nI,wI,hcp,hn,n1,n2,n3]
  simpa -dsimp -implicitDefEqProofs (disch:=first|omega|assumption) [nI,wI]using hT
def cellD (l:List UInt8):List V:=if (cellR l).2.2.2=true then [cellV (cellR l).1 (cellR l).2.1 (cellR l).2.2.1,.d (.bool true)] else [cellV 0 0 [],.d (.bool false)]
theorem rcell_runs {l:List UInt8} (hl:l.length<1000000):R 116 [S l] []=some (cellD l,[]):=by
 unfold cellD cellR
 by_cases h1:l=[110,117,108,108]
 ·subst h1
  rw[if_pos rfl,if_pos rfl]
  unfold cellV
  refine run_goal (rs:=[.cell 2 29,.tmp 3]) (ts:=[29,4]) Tryz.func116 rfl rfl rfl (by kernel_rfl) (by kernel_rfl) (.inl sp_116) (by simp[Tryz.f116]) ?_
  intro T hT
  simp -dsimp -implicitDefEqProofs (disch:=first|omega|assumption) [startSlots,nI,wI]
  simpa -dsimp -implicitDefEqProofs (disch:=first|omega|assumption) [nI,wI]using hT
 rw[if_neg h1]
 by_cases h2:l=[121,101,115]
 ·subst h2
  rw[if_pos rfl,if_pos rfl]
  unfold cellV
  refine run_goal (rs:=[.cell 2 29,.tmp 3]) (ts:=[29,4]) Tryz.func116 rfl rfl rfl (by kernel_rfl) (by kernel_rfl) (.inl sp_116) (by simp[Tryz.f116]) ?_
  intro T hT
  simp -dsimp -implicitDefEqProofs (disch:=first|omega|assumption) [startSlots,nI,wI]
  simpa -dsimp -implicitDefEqProofs (disch:=first|omega|assumption) [nI,wI]using hT
 rw[if_neg h2]
 by_cases h3:l=[110,111]
 ·subst h3
  rw[if_pos rfl,if_pos rfl]
  unfold cellV
  refine run_goal (rs:=[.cell 2 29,.tmp 3]) (ts:=[29,4]) Tryz.func116 rfl rfl rfl (by kernel_rfl) (by kernel_rfl) (.inl sp_116) (by simp[Tryz.f116]) ?_
  intro T hT
  simp -dsimp -implicitDefEqProofs (disch:=first|omega|assumption) [startSlots,nI,wI]
  simpa -dsimp -implicitDefEqProofs (disch:=first|omega|assumption) [nI,wI]using hT
 rw[if_neg h3]
 have n1:(l == [110,117,108,108])=false:=beq_false_of_ne h1
 have n2:(l == [121,101,115])=false:=beq_false_of_ne h2
 have n3:(l == [110,111])=false:=beq_false_of_ne h3
 clear h1 h2 h3
 have hszl:(⟨l.toArray⟩:ByteArray).size=l.length:=strD_size _
 by_cases h4:l.head?=some 39
 ·rw[if_pos h4]
  obtain⟨t,htl⟩: ∃t,l=39::t:=by
   cases l with
   |nil=>cases h4
   |cons c t=>exact⟨t,by rw[Option.some.inj h4]⟩
  have ht:t.length<1000000:=by rw[htl]at hl;simp at hl;omega
  have hsz:(⟨t.toArray⟩:ByteArray).size=t.length:=strD_size _
  have hcl:=signs_runs ⟨t.toArray⟩ (by rw[hsz];omega)
  have ex2:(⟨l.toArray⟩:ByteArray).extract 1 l.length=⟨t.toArray⟩:=by rw[htl];exact ext_tail 39 t
  have hlt:0<l.length:=by rw[htl];simp
  have hg:=bt_idx (s:=⟨l.toArray⟩) (k:=0) (by rw[hszl];exact hlt)
  have hb0:bt ⟨l.toArray⟩ 0=39:=by rw[htl];rfl
  rw[hb0]at hg
  have hlt':(0:Int)<l.length:=by omega
  have hll:l.length=t.length+1:=by rw[htl];simp
  have hc0:cleanL t=(sgs ⟨t.toArray⟩).all (·.2.2):=rfl
  have htt:l.tail=t:=by rw[htl];rfl
  rw[htt]
  rw[← hc0]at hcl
  clear htt htl h4 hc0
  unfold cellV
  generalize runeD (sgs ⟨t.toArray⟩)=X1 at*
  generalize placeD (sgs ⟨t.toArray⟩)=X2 at*
  by_cases h64:t.length≤64
  ·have h65: ¬ (65:Int)<l.length:=by omega
   cases hc:cleanL t with
   |true=>
    rw[hc]at hcl
    refine run_goal (rs:=[.cell 2 29,.tmp 3]) (ts:=[29,4]) Tryz.func116 rfl rfl rfl (by kernel_rfl) (by kernel_rfl) (.inl sp_116) (by simp[Tryz.f116]) ?_
    intro T hT
    simp -dsimp -implicitDefEqProofs (disch:=first|omega|assumption) [startSlots,nI,wI,hcl,n1,n2,n3,hszl,hg,hlt,hlt',h65,ex2]
    simpa -dsimp -implicitDefEqProofs (disch:=first|omega|assumption) [nI,wI,h64]using hT
   |false=>
    rw[hc]at hcl
    refine run_goal (rs:=[.cell 2 29,.tmp 3]) (ts:=[29,4]) Tryz.func116 rfl rfl rfl (by kernel_rfl) (by kernel_rfl) (.inl sp_116) (by simp[Tryz.f116]) ?_
    intro T hT
    simp -dsimp -implicitDefEqProofs (disch:=first|omega|assumption) [startSlots,nI,wI,hcl,n1,n2,n3,hszl,hg,hlt,hlt',h65,ex2]
    simpa -dsimp -implicitDefEqProofs (disch:=first|omega|assumption) [nI,wI,h64]using hT
  ·have h65:(65:Int)<l.length:=by omega
   cases hc:cleanL t with
   |true=>
    rw[hc]at hcl
    refine run_goal (rs:=[.cell 2 29,.tmp 3]) (ts:=[29,4]) Tryz.func116 rfl rfl rfl (by kernel_rfl) (by kernel_rfl) (.inl sp_116) (by simp[Tryz.f116]) ?_
    intro T hT
    simp -dsimp -implicitDefEqProofs (disch:=first|omega|assumption) [startSlots,nI,wI,hcl,n1,n2,n3,hszl,hg,hlt,hlt',h65,ex2]
    simpa -dsimp -implicitDefEqProofs (disch:=first|omega|assumption) [nI,wI,h64]using hT
   |false=>
    rw[hc]at hcl
    refine run_goal (rs:=[.cell 2 29,.tmp 3]) (ts:=[29,4]) Tryz.func116 rfl rfl rfl (by kernel_rfl) (by kernel_rfl) (.inl sp_116) (by simp[Tryz.f116]) ?_
    intro T hT
    simp -dsimp -implicitDefEqProofs (disch:=first|omega|assumption) [startSlots,nI,wI,hcl,n1,n2,n3,hszl,hg,hlt,hlt',h65,ex2]
    simpa -dsimp -implicitDefEqProofs (disch:=first|omega|assumption) [nI,wI,h64]using hT
 ·rw[if_neg h4]
  have hn:=value_runs l (by omega) (low:= -999999999) (by omega) (by omega)
  unfold rnum at hn
  unfold cellV
  by_cases hlt:0<l.length
  ·have hlt':(0:Int)<l.length:=by omega
   have hg:=bt_idx (s:=⟨l.toArray⟩) (k:=0) (by rw[hszl];exact hlt)
   have hbt:=bt_list l hlt
   have hb0: ¬ ((bt ⟨l.toArray⟩ 0:Nat):Int)=39:=fun e=>h4 (by
    rw[List.head?_eq_getElem?,List.getElem?_eq_getElem hlt]
    exact congrArg some (UInt8.toNat_inj.1 (by rw[← hbt];show _=39;omega)))
   have hb1:=bt_lt ⟨l.toArray⟩ 0
   generalize bt ⟨l.toArray⟩ 0=b0 at*
   cases hc:numOk l (-999999999) with
   |true=>
    rw[hc]at hn
    refine run_goal (rs:=[.cell 2 29,.tmp 3]) (ts:=[29,4]) Tryz.func116 rfl rfl rfl (by kernel_rfl) (by kernel_rfl) (.inl sp_116) (by simp[Tryz.f116]) ?_
    intro T hT
    simp -dsimp -implicitDefEqProofs (disch:=first|omega|assumption) [startSlots,nI,wI,hn,n1,n2,n3,hszl,hg,hlt,hlt',hb0]
    simpa -dsimp -implicitDefEqProofs (disch:=first|omega|assumption) [nI,wI]using hT
   |false=>
    rw[hc]at hn
    refine run_goal (rs:=[.cell 2 29,.tmp 3]) (ts:=[29,4]) Tryz.func116 rfl rfl rfl (by kernel_rfl) (by kernel_rfl) (.inl sp_116) (by simp[Tryz.f116]) ?_
    intro T hT
    simp -dsimp -implicitDefEqProofs (disch:=first|omega|assumption) [startSlots,nI,wI,hn,n1,n2,n3,hszl,hg,hlt,hlt',hb0]
    simpa -dsimp -implicitDefEqProofs (disch:=first|omega|assumption) [nI,wI]using hT
  ·have hl0:l=[]:=List.length_eq_zero_iff.1 (by omega)
   subst hl0
   have hc:numOk ([]:List UInt8) (-999999999)=false:=rfl
   rw[hc]at hn ⊢
   refine run_goal (rs:=[.cell 2 29,.tmp 3]) (ts:=[29,4]) Tryz.func116 rfl rfl rfl (by kernel_rfl) (by kernel_rfl) (.inl sp_116) (by simp[Tryz.f116]) ?_
   intro T hT
   simp -dsimp -implicitDefEqProofs (disch:=first|omega|assumption) [startSlots,nI,wI,hn]
   simpa -dsimp -implicitDefEqProofs (disch:=first|omega|assumption) [nI,wI]using hT
end Go.Am.Ab
