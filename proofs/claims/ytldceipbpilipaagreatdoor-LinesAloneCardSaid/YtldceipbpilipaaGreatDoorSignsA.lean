/- The signs of texts: the document. -/
import Derived.Test.YtldceipbpilipaaGreatDoorBase
set_option linter.all false
namespace Go.Am.Ab
open Go.Proofs
set_option maxHeartbeats 4000000
set_option maxRecDepth 4000
def bt (s:ByteArray) (k:Nat):Nat:=(s[k]?.getD 0).toNat
theorem bt_lt (s:ByteArray) (k:Nat):bt s k<256:=(s[k]?.getD 0).toNat_lt
theorem bt_idx {s:ByteArray} {k:Nat} (h:k<s.size):(s[k]).toNat=bt s k:=by
 unfold bt
 rw[getElem?_pos s k h]
 rfl
def sgv (s:ByteArray) (c:Nat):Nat→Nat
 |0=>c
 |j+1=>sgv s c j*64+bt s (j+1) - 128
def sgk (s:ByteArray):Nat→Bool
 |0=>true
 |j+1=>sgk s j && (decide (128≤bt s (j+1)) && decide (bt s (j+1)<192))
def sgf (s:ByteArray) (n low c:Nat):Nat × Nat × Bool:=
 if s.size<n∨sgk s (n - 1)=false then (65533,1,false) else
 if sgv s c (n - 1)<low∨1114111<sgv s c (n - 1)∨(55296≤sgv s c (n - 1)∧sgv s c (n - 1)<57344) then (65533,1,false) else (sgv s c (n - 1),n,true)
def sig (s:ByteArray):Nat × Nat × Bool:=
 if bt s 0<128 then (bt s 0,1,true) else
 if 194≤bt s 0∧bt s 0<224 then sgf s 2 128 (bt s 0 - 192) else
 if 224≤bt s 0∧bt s 0<240 then sgf s 3 2048 (bt s 0 - 224) else
 if 240≤bt s 0∧bt s 0<245 then sgf s 4 65536 (bt s 0 - 240) else (65533,1,false)
abbrev sgD (x:Nat × Nat × Bool):List V:=[.d (.int .i64 x.1),.d (.int .i64 x.2.1),.d (.bool x.2.2)]
def sgB:Nat→Nat
 |0=>32
 |j+1=>sgB j*64
theorem sgB_le {j:Nat} (h:j≤3):sgB j≤8388608:=by
 have:j=0∨j=1∨j=2∨j=3:=by omega
 rcases this with rfl | rfl | rfl | rfl <;> exact Nat.le_of_ble_eq_true rfl
theorem sgv_lt (s:ByteArray) {c:Nat} (hc:c<32): ∀j,sgk s j=true→sgv s c j<sgB j
 |0,_=>hc
 |j+1,h=>by
  simp only[sgk,Bool.and_eq_true,decide_eq_true_eq]at h
  have h1:=sgv_lt s hc j h.1
  simp only[sgv,sgB]
  omega
theorem sgk_le {s:ByteArray}: ∀ {i j:Nat},i≤j→sgk s j=true→sgk s i=true
 |i,0,h,hk=>by
  have:i=0:=by omega
  subst this;exact hk
 |i,j+1,h,hk=>by
  by_cases e:i=j+1
  ·subst e;exact hk
  ·simp only[sgk,Bool.and_eq_true]at hk
   exact sgk_le (by omega) hk.1
theorem sign_short (s:ByteArray) (hs:0<s.size) (h0:bt s 0<128):R 173 [.d (.str s)] []=some (sgD (sig s),[]):=by
 have g0:=bt_idx hs
 have hb0:=bt_lt s 0
 have e:sig s=(bt s 0,1,true):=by unfold sig;rw[if_pos h0]
 have h0':(bt s 0:Int)<128:=by omega
 rw[e]
 generalize bt s 0=b0 at*
 refine run_goal (rs:=[.tmp 2,.tmp 3,.tmp 4]) (ts:=[3,3,4]) Tryz.func173 rfl rfl rfl (by kernel_rfl) (by kernel_rfl) (.inl sp_173) (by simp[Tryz.f173]) ?_
 intro T hT
 simp -dsimp -implicitDefEqProofs (disch:=first|omega|assumption) [startSlots,nI,wI,g0,h0']
 simpa -dsimp -implicitDefEqProofs (disch:=first|omega|assumption) [nI,wI,sgD]using hT
theorem sign_none (s:ByteArray) (hs:0<s.size) (h0: ¬ bt s 0<128) (h1:bt s 0<194∨245≤bt s 0):R 173 [.d (.str s)] []=some (sgD (sig s),[]):=by
 have g0:=bt_idx hs
 have hb0:=bt_lt s 0
 have e:sig s=(65533,1,false):=by unfold sig;rw[if_neg h0,if_neg (by omega),if_neg (by omega),if_neg (by omega)]
 rw[e]
 generalize bt s 0=b0 at*
 have c1: ¬ (b0:Int)<128:=by omega
 rcases h1 with h1 | h1
 ·have c2: ¬ (194:Int)≤b0:=by omega
  have c3: ¬ (224:Int)≤b0:=by omega
  have c4: ¬ (240:Int)≤b0:=by omega
  refine run_goal (rs:=[.tmp 2,.tmp 3,.tmp 4]) (ts:=[3,3,4]) Tryz.func173 rfl rfl rfl (by kernel_rfl) (by kernel_rfl) (.inl sp_173) (by simp[Tryz.f173]) ?_
  intro T hT
  simp -dsimp -implicitDefEqProofs (disch:=first|omega|assumption) [startSlots,nI,wI,g0,c1,c2,c3,c4]
  simpa -dsimp -implicitDefEqProofs (disch:=first|omega|assumption) [nI,wI,sgD]using hT
 ·have c2:(194:Int)≤b0:=by omega
  have c3:(224:Int)≤b0:=by omega
  have c4:(240:Int)≤b0:=by omega
  have c5: ¬ (b0:Int)<224:=by omega
  have c6: ¬ (b0:Int)<240:=by omega
  have c7: ¬ (b0:Int)<245:=by omega
  refine run_goal (rs:=[.tmp 2,.tmp 3,.tmp 4]) (ts:=[3,3,4]) Tryz.func173 rfl rfl rfl (by kernel_rfl) (by kernel_rfl) (.inl sp_173) (by simp[Tryz.f173]) ?_
  intro T hT
  simp -dsimp -implicitDefEqProofs (disch:=first|omega|assumption) [startSlots,nI,wI,g0,c1,c2,c3,c4,c5,c6,c7]
  simpa -dsimp -implicitDefEqProofs (disch:=first|omega|assumption) [nI,wI,sgD]using hT
theorem sign_2 (s:ByteArray) (hm:s.size<1000000000) (h1:194≤bt s 0) (h2:bt s 0<224) (hs:0<s.size):R 173 [.d (.str s)] []=some (sgD (sig s),[]):=by
 have g0:=bt_idx hs
 have hb0:=bt_lt s 0
 have e:sig s=sgf s 2 128 (bt s 0 - 192):=by unfold sig;rw[if_neg (by omega),if_pos (by omega)]
 rw[e]
 obtain⟨c,hc⟩: ∃c,c=bt s 0 - 192:=⟨_,rfl⟩
 have hc32:c<32:=by omega
 have hci:((bt s 0:Nat):Int) - 192=c:=by omega
 rw[← hc]
 clear e hc
 generalize bt s 0=b0 at*
 have c1: ¬ (b0:Int)<128:=by omega
 have k0:(194:Int)≤b0:=by omega
 have k1: ¬ (224:Int)≤b0:=by omega
 have k2: ¬ (240:Int)≤b0:=by omega
 have m0:(b0:Int)<224:=by omega
 have m1:(b0:Int)<240:=by omega
 have m2:(b0:Int)<245:=by omega
 unfold sgf
 by_cases hz:s.size<2
 ·have hz':(s.size:Int)<2:=by omega
  rw[if_pos (.inl hz)]
  refine run_goal (rs:=[.tmp 2,.tmp 3,.tmp 4]) (ts:=[3,3,4]) Tryz.func173 rfl rfl rfl (by kernel_rfl) (by kernel_rfl) (.inl sp_173) (by simp[Tryz.f173]) ?_
  intro T hT
  simp -dsimp -implicitDefEqProofs (disch:=first|omega|assumption) [startSlots,nI,wI,g0,c1,hci,hz',k0,k1,k2,m0,m1,m2]
  simpa -dsimp -implicitDefEqProofs (disch:=first|omega|assumption) [nI,wI,sgD]using hT
 ·have hz': ¬ (s.size:Int)<2:=by omega
  refine run_goal (rs:=[.tmp 2,.tmp 3,.tmp 4]) (ts:=[3,3,4]) Tryz.func173 rfl rfl rfl (by kernel_rfl) (by kernel_rfl) (.inl sp_173) (by simp[Tryz.f173]) ?_
  intro T hT
  simp -dsimp -implicitDefEqProofs (disch:=first|omega|assumption) [startSlots,nI,wI,g0,c1,hci,hz',k0,k1,k2,m0,m1,m2]
  generalize hz:loopT _ _ _ _ _ _=z
  revert z
  refine loop_any (σ:=Nat) (fun j=>[(0,.d (.str s)),(6,.d (.int .i64 2)),(7,.d (.int .i64 128)),(8,.d (.int .i64 (sgv s c j))),(9,.d (.int .i64 ((j:Int)+1)))]) (fun _=>[]) (fun j=>j≤2 - 1∧sgk s j=true) (fun j=>2 - j) 0 ?_ ?_ ?_
  ·exact⟨Nat.zero_le _,rfl⟩
  ·simp -dsimp -implicitDefEqProofs (disch:=first|omega|assumption) [sgv]
  intro T' f hT' j ⟨hj,hk⟩ ih
  have hv:=sgv_lt s hc32 j hk
  have hv2:=sgB_le (show j≤3 by omega)
  by_cases h3:j=2 - 1
  ·subst h3
   subst hT'
   rw[if_neg (by rw[hk];simp;omega)]at hT
   generalize sgv s c (2 - 1)=v at*
   by_cases q1:v<128
   ·have q1':(v:Int)<128:=by omega
    rw[if_pos (.inl q1)]at hT
    simp -dsimp -implicitDefEqProofs (disch:=first|omega|assumption) [nI,wI,q1']
    simpa -dsimp -implicitDefEqProofs (disch:=first|omega|assumption) [nI,wI,sgD]using hT
   ·have q1': ¬ (v:Int)<128:=by omega
    by_cases q2:1114111<v
    ·have q2':(1114111:Int)<v:=by omega
     rw[if_pos (.inr (.inl q2))]at hT
     simp -dsimp -implicitDefEqProofs (disch:=first|omega|assumption) [nI,wI,q1',q2']
     simpa -dsimp -implicitDefEqProofs (disch:=first|omega|assumption) [nI,wI,sgD]using hT
    ·have q2': ¬ (1114111:Int)<v:=by omega
     by_cases q3:55296≤v
     ·have q3':(55296:Int)≤v:=by omega
      by_cases q4:v<57344
      ·have q4':(v:Int)<57344:=by omega
       rw[if_pos (.inr (.inr ⟨q3,q4⟩))]at hT
       simp -dsimp -implicitDefEqProofs (disch:=first|omega|assumption) [nI,wI,q1',q2',q3',q4']
       simpa -dsimp -implicitDefEqProofs (disch:=first|omega|assumption) [nI,wI,sgD]using hT
      ·have q4': ¬ (v:Int)<57344:=by omega
       rw[if_neg (by omega)]at hT
       simp -dsimp -implicitDefEqProofs (disch:=first|omega|assumption) [nI,wI,q1',q2',q3',q4']
       simpa -dsimp -implicitDefEqProofs (disch:=first|omega|assumption) [nI,wI,sgD]using hT
     ·have q3': ¬ (55296:Int)≤v:=by omega
      rw[if_neg (by omega)]at hT
      simp -dsimp -implicitDefEqProofs (disch:=first|omega|assumption) [nI,wI,q1',q2',q3']
      simpa -dsimp -implicitDefEqProofs (disch:=first|omega|assumption) [nI,wI,sgD]using hT
  ·have hj1:(j:Int)+1<2:=by omega
   have hjs:j+1<s.size:=by omega
   have tn:((j:Int)+1).toNat=j+1:=by omega
   have gj:=bt_idx hjs
   have hb:=bt_lt s (j+1)
   have hstep:sgv s c (j+1)=sgv s c j*64+bt s (j+1) - 128:=rfl
   have hkk:sgk s (j+1)=(sgk s j && (decide (128≤bt s (j+1)) && decide (bt s (j+1)<192))):=rfl
   by_cases p1:128≤bt s (j+1)
   ·by_cases p2:bt s (j+1)<192
    ·have p1': ¬ (bt s (j+1):Int)<128:=by omega
     have p2': ¬ (192:Int)≤bt s (j+1):=by omega
     have hval:(sgv s c j:Int)*64+bt s (j+1) - 128=sgv s c (j+1):=by omega
     simp -dsimp -implicitDefEqProofs (disch:=first|omega|assumption) [nI,wI,hj1,hjs,tn,gj,p1',p2',hval]
     refine ih (j+1) _ _ ⟨by omega,by rw[hkk,hk];simp;omega⟩ (by omega) ?_
     simp -dsimp -implicitDefEqProofs (disch:=first|omega|assumption)
    ·have p1': ¬ (bt s (j+1):Int)<128:=by omega
     have p2':(192:Int)≤bt s (j+1):=by omega
     have hbad:sgk s (2 - 1)=false:=by
      rw[← Bool.not_eq_true]
      intro hh
      have:=sgk_le (show j+1≤2 - 1 by omega) hh
      rw[hkk]at this
      simp only[Bool.and_eq_true,decide_eq_true_eq]at this
      omega
     subst hT'
     rw[if_pos (.inr hbad)]at hT
     simp -dsimp -implicitDefEqProofs (disch:=first|omega|assumption) [nI,wI,hj1,hjs,tn,gj,p1',p2']
     simpa -dsimp -implicitDefEqProofs (disch:=first|omega|assumption) [nI,wI,sgD]using hT
   ·have p1':(bt s (j+1):Int)<128:=by omega
    have hbad:sgk s (2 - 1)=false:=by
     rw[← Bool.not_eq_true]
     intro hh
     have:=sgk_le (show j+1≤2 - 1 by omega) hh
     rw[hkk]at this
     simp only[Bool.and_eq_true,decide_eq_true_eq]at this
     omega
    subst hT'
    rw[if_pos (.inr hbad)]at hT
    simp -dsimp -implicitDefEqProofs (disch:=first|omega|assumption) [nI,wI,hj1,hjs,tn,gj,p1']
    simpa -dsimp -implicitDefEqProofs (disch:=first|omega|assumption) [nI,wI,sgD]using hT
theorem sign_3 (s:ByteArray) (hm:s.size<1000000000) (h1:224≤bt s 0) (h2:bt s 0<240) (hs:0<s.size):R 173 [.d (.str s)] []=some (sgD (sig s),[]):=by
 have g0:=bt_idx hs
 have hb0:=bt_lt s 0
 have e:sig s=sgf s 3 2048 (bt s 0 - 224):=by unfold sig;rw[if_neg (by omega),if_neg (by omega),if_pos (by omega)]
 rw[e]
 obtain⟨c,hc⟩: ∃c,c=bt s 0 - 224:=⟨_,rfl⟩
 have hc32:c<32:=by omega
 have hci:((bt s 0:Nat):Int) - 224=c:=by omega
 rw[← hc]
 clear e hc
 generalize bt s 0=b0 at*
 have c1: ¬ (b0:Int)<128:=by omega
 have k0:(194:Int)≤b0:=by omega
 have k1:(224:Int)≤b0:=by omega
 have k2: ¬ (240:Int)≤b0:=by omega
 have m0: ¬ (b0:Int)<224:=by omega
 have m1:(b0:Int)<240:=by omega
 have m2:(b0:Int)<245:=by omega
 unfold sgf
 by_cases hz:s.size<3
 ·have hz':(s.size:Int)<3:=by omega
  rw[if_pos (.inl hz)]
  refine run_goal (rs:=[.tmp 2,.tmp 3,.tmp 4]) (ts:=[3,3,4]) Tryz.func173 rfl rfl rfl (by kernel_rfl) (by kernel_rfl) (.inl sp_173) (by simp[Tryz.f173]) ?_
  intro T hT
  simp -dsimp -implicitDefEqProofs (disch:=first|omega|assumption) [startSlots,nI,wI,g0,c1,hci,hz',k0,k1,k2,m0,m1,m2]
  simpa -dsimp -implicitDefEqProofs (disch:=first|omega|assumption) [nI,wI,sgD]using hT
 ·have hz': ¬ (s.size:Int)<3:=by omega
  refine run_goal (rs:=[.tmp 2,.tmp 3,.tmp 4]) (ts:=[3,3,4]) Tryz.func173 rfl rfl rfl (by kernel_rfl) (by kernel_rfl) (.inl sp_173) (by simp[Tryz.f173]) ?_
  intro T hT
  simp -dsimp -implicitDefEqProofs (disch:=first|omega|assumption) [startSlots,nI,wI,g0,c1,hci,hz',k0,k1,k2,m0,m1,m2]
  generalize hz:loopT _ _ _ _ _ _=z
  revert z
  refine loop_any (σ:=Nat) (fun j=>[(0,.d (.str s)),(6,.d (.int .i64 3)),(7,.d (.int .i64 2048)),(8,.d (.int .i64 (sgv s c j))),(9,.d (.int .i64 ((j:Int)+1)))]) (fun _=>[]) (fun j=>j≤3 - 1∧sgk s j=true) (fun j=>3 - j) 0 ?_ ?_ ?_
  ·exact⟨Nat.zero_le _,rfl⟩
  ·simp -dsimp -implicitDefEqProofs (disch:=first|omega|assumption) [sgv]
  intro T' f hT' j ⟨hj,hk⟩ ih
  have hv:=sgv_lt s hc32 j hk
  have hv2:=sgB_le (show j≤3 by omega)
  by_cases h3:j=3 - 1
  ·subst h3
   subst hT'
   rw[if_neg (by rw[hk];simp;omega)]at hT
   generalize sgv s c (3 - 1)=v at*
   by_cases q1:v<2048
   ·have q1':(v:Int)<2048:=by omega
    rw[if_pos (.inl q1)]at hT
    simp -dsimp -implicitDefEqProofs (disch:=first|omega|assumption) [nI,wI,q1']
    simpa -dsimp -implicitDefEqProofs (disch:=first|omega|assumption) [nI,wI,sgD]using hT
   ·have q1': ¬ (v:Int)<2048:=by omega
    by_cases q2:1114111<v
    ·have q2':(1114111:Int)<v:=by omega
     rw[if_pos (.inr (.inl q2))]at hT
     simp -dsimp -implicitDefEqProofs (disch:=first|omega|assumption) [nI,wI,q1',q2']
     simpa -dsimp -implicitDefEqProofs (disch:=first|omega|assumption) [nI,wI,sgD]using hT
    ·have q2': ¬ (1114111:Int)<v:=by omega
     by_cases q3:55296≤v
     ·have q3':(55296:Int)≤v:=by omega
      by_cases q4:v<57344
      ·have q4':(v:Int)<57344:=by omega
       rw[if_pos (.inr (.inr ⟨q3,q4⟩))]at hT
       simp -dsimp -implicitDefEqProofs (disch:=first|omega|assumption) [nI,wI,q1',q2',q3',q4']
       simpa -dsimp -implicitDefEqProofs (disch:=first|omega|assumption) [nI,wI,sgD]using hT
      ·have q4': ¬ (v:Int)<57344:=by omega
       rw[if_neg (by omega)]at hT
       simp -dsimp -implicitDefEqProofs (disch:=first|omega|assumption) [nI,wI,q1',q2',q3',q4']
       simpa -dsimp -implicitDefEqProofs (disch:=first|omega|assumption) [nI,wI,sgD]using hT
     ·have q3': ¬ (55296:Int)≤v:=by omega
      rw[if_neg (by omega)]at hT
      simp -dsimp -implicitDefEqProofs (disch:=first|omega|assumption) [nI,wI,q1',q2',q3']
      simpa -dsimp -implicitDefEqProofs (disch:=first|omega|assumption) [nI,wI,sgD]using hT
  ·have hj1:(j:Int)+1<3:=by omega
   have hjs:j+1<s.size:=by omega
   have tn:((j:Int)+1).toNat=j+1:=by omega
   have gj:=bt_idx hjs
   have hb:=bt_lt s (j+1)
   have hstep:sgv s c (j+1)=sgv s c j*64+bt s (j+1) - 128:=rfl
   have hkk:sgk s (j+1)=(sgk s j && (decide (128≤bt s (j+1)) && decide (bt s (j+1)<192))):=rfl
   by_cases p1:128≤bt s (j+1)
   ·by_cases p2:bt s (j+1)<192
    ·have p1': ¬ (bt s (j+1):Int)<128:=by omega
     have p2': ¬ (192:Int)≤bt s (j+1):=by omega
     have hval:(sgv s c j:Int)*64+bt s (j+1) - 128=sgv s c (j+1):=by omega
     simp -dsimp -implicitDefEqProofs (disch:=first|omega|assumption) [nI,wI,hj1,hjs,tn,gj,p1',p2',hval]
     refine ih (j+1) _ _ ⟨by omega,by rw[hkk,hk];simp;omega⟩ (by omega) ?_
     simp -dsimp -implicitDefEqProofs (disch:=first|omega|assumption)
    ·have p1': ¬ (bt s (j+1):Int)<128:=by omega
     have p2':(192:Int)≤bt s (j+1):=by omega
     have hbad:sgk s (3 - 1)=false:=by
      rw[← Bool.not_eq_true]
      intro hh
      have:=sgk_le (show j+1≤3 - 1 by omega) hh
      rw[hkk]at this
      simp only[Bool.and_eq_true,decide_eq_true_eq]at this
      omega
     subst hT'
     rw[if_pos (.inr hbad)]at hT
     simp -dsimp -implicitDefEqProofs (disch:=first|omega|assumption) [nI,wI,hj1,hjs,tn,gj,p1',p2']
     simpa -dsimp -implicitDefEqProofs (disch:=first|omega|assumption) [nI,wI,sgD]using hT
   ·have p1':(bt s (j+1):Int)<128:=by omega
    have hbad:sgk s (3 - 1)=false:=by
     rw[← Bool.not_eq_true]
     intro hh
     have:=sgk_le (show j+1≤3 - 1 by omega) hh
     rw[hkk]at this
     simp only[Bool.and_eq_true,decide_eq_true_eq]at this
     omega
    subst hT'
    rw[if_pos (.inr hbad)]at hT
    simp -dsimp -implicitDefEqProofs (disch:=first|omega|assumption) [nI,wI,hj1,hjs,tn,gj,p1']
    simpa -dsimp -implicitDefEqProofs (disch:=first|omega|assumption) [nI,wI,sgD]using hT
theorem sign_4 (s:ByteArray) (hm:s.size<1000000000) (h1:240≤bt s 0) (h2:bt s 0<245) (hs:0<s.size):R 173 [.d (.str s)] []=some (sgD (sig s),[]):=by
 have g0:=bt_idx hs
 have hb0:=bt_lt s 0
 have e:sig s=sgf s 4 65536 (bt s 0 - 240):=by unfold sig;rw[if_neg (by omega),if_neg (by omega),if_neg (by omega),if_pos (by omega)]
 rw[e]
 obtain⟨c,hc⟩: ∃c,c=bt s 0 - 240:=⟨_,rfl⟩
 have hc32:c<32:=by omega
 have hci:((bt s 0:Nat):Int) - 240=c:=by omega
 rw[← hc]
 clear e hc
 generalize bt s 0=b0 at*
 have c1: ¬ (b0:Int)<128:=by omega
 have k0:(194:Int)≤b0:=by omega
 have k1:(224:Int)≤b0:=by omega
 have k2:(240:Int)≤b0:=by omega
 have m0: ¬ (b0:Int)<224:=by omega
 have m1: ¬ (b0:Int)<240:=by omega
 have m2:(b0:Int)<245:=by omega
 unfold sgf
 by_cases hz:s.size<4
 ·have hz':(s.size:Int)<4:=by omega
  rw[if_pos (.inl hz)]
  refine run_goal (rs:=[.tmp 2,.tmp 3,.tmp 4]) (ts:=[3,3,4]) Tryz.func173 rfl rfl rfl (by kernel_rfl) (by kernel_rfl) (.inl sp_173) (by simp[Tryz.f173]) ?_
  intro T hT
  simp -dsimp -implicitDefEqProofs (disch:=first|omega|assumption) [startSlots,nI,wI,g0,c1,hci,hz',k0,k1,k2,m0,m1,m2]
  simpa -dsimp -implicitDefEqProofs (disch:=first|omega|assumption) [nI,wI,sgD]using hT
 ·have hz': ¬ (s.size:Int)<4:=by omega
  refine run_goal (rs:=[.tmp 2,.tmp 3,.tmp 4]) (ts:=[3,3,4]) Tryz.func173 rfl rfl rfl (by kernel_rfl) (by kernel_rfl) (.inl sp_173) (by simp[Tryz.f173]) ?_
  intro T hT
  simp -dsimp -implicitDefEqProofs (disch:=first|omega|assumption) [startSlots,nI,wI,g0,c1,hci,hz',k0,k1,k2,m0,m1,m2]
  generalize hz:loopT _ _ _ _ _ _=z
  revert z
  refine loop_any (σ:=Nat) (fun j=>[(0,.d (.str s)),(6,.d (.int .i64 4)),(7,.d (.int .i64 65536)),(8,.d (.int .i64 (sgv s c j))),(9,.d (.int .i64 ((j:Int)+1)))]) (fun _=>[]) (fun j=>j≤4 - 1∧sgk s j=true) (fun j=>4 - j) 0 ?_ ?_ ?_
  ·exact⟨Nat.zero_le _,rfl⟩
  ·simp -dsimp -implicitDefEqProofs (disch:=first|omega|assumption) [sgv]
  intro T' f hT' j ⟨hj,hk⟩ ih
  have hv:=sgv_lt s hc32 j hk
  have hv2:=sgB_le (show j≤3 by omega)
  by_cases h3:j=4 - 1
  ·subst h3
   subst hT'
   rw[if_neg (by rw[hk];simp;omega)]at hT
   generalize sgv s c (4 - 1)=v at*
   by_cases q1:v<65536
   ·have q1':(v:Int)<65536:=by omega
    rw[if_pos (.inl q1)]at hT
    simp -dsimp -implicitDefEqProofs (disch:=first|omega|assumption) [nI,wI,q1']
    simpa -dsimp -implicitDefEqProofs (disch:=first|omega|assumption) [nI,wI,sgD]using hT
   ·have q1': ¬ (v:Int)<65536:=by omega
    by_cases q2:1114111<v
    ·have q2':(1114111:Int)<v:=by omega
     rw[if_pos (.inr (.inl q2))]at hT
     simp -dsimp -implicitDefEqProofs (disch:=first|omega|assumption) [nI,wI,q1',q2']
     simpa -dsimp -implicitDefEqProofs (disch:=first|omega|assumption) [nI,wI,sgD]using hT
    ·have q2': ¬ (1114111:Int)<v:=by omega
     by_cases q3:55296≤v
     ·have q3':(55296:Int)≤v:=by omega
      by_cases q4:v<57344
      ·have q4':(v:Int)<57344:=by omega
       exfalso;omega
      ·have q4': ¬ (v:Int)<57344:=by omega
       rw[if_neg (by omega)]at hT
       simp -dsimp -implicitDefEqProofs (disch:=first|omega|assumption) [nI,wI,q1',q2',q3',q4']
       simpa -dsimp -implicitDefEqProofs (disch:=first|omega|assumption) [nI,wI,sgD]using hT
     ·have q3': ¬ (55296:Int)≤v:=by omega
      exfalso;omega
  ·have hj1:(j:Int)+1<4:=by omega
   have hjs:j+1<s.size:=by omega
   have tn:((j:Int)+1).toNat=j+1:=by omega
   have gj:=bt_idx hjs
   have hb:=bt_lt s (j+1)
   have hstep:sgv s c (j+1)=sgv s c j*64+bt s (j+1) - 128:=rfl
   have hkk:sgk s (j+1)=(sgk s j && (decide (128≤bt s (j+1)) && decide (bt s (j+1)<192))):=rfl
   by_cases p1:128≤bt s (j+1)
   ·by_cases p2:bt s (j+1)<192
    ·have p1': ¬ (bt s (j+1):Int)<128:=by omega
     have p2': ¬ (192:Int)≤bt s (j+1):=by omega
     have hval:(sgv s c j:Int)*64+bt s (j+1) - 128=sgv s c (j+1):=by omega
     simp -dsimp -implicitDefEqProofs (disch:=first|omega|assumption) [nI,wI,hj1,hjs,tn,gj,p1',p2',hval]
     refine ih (j+1) _ _ ⟨by omega,by rw[hkk,hk];simp;omega⟩ (by omega) ?_
     simp -dsimp -implicitDefEqProofs (disch:=first|omega|assumption)
    ·have p1': ¬ (bt s (j+1):Int)<128:=by omega
     have p2':(192:Int)≤bt s (j+1):=by omega
     have hbad:sgk s (4 - 1)=false:=by
      rw[← Bool.not_eq_true]
      intro hh
      have:=sgk_le (show j+1≤4 - 1 by omega) hh
      rw[hkk]at this
      simp only[Bool.and_eq_true,decide_eq_true_eq]at this
      omega
     subst hT'
     rw[if_pos (.inr hbad)]at hT
     simp -dsimp -implicitDefEqProofs (disch:=first|omega|assumption) [nI,wI,hj1,hjs,tn,gj,p1',p2']
     simpa -dsimp -implicitDefEqProofs (disch:=first|omega|assumption) [nI,wI,sgD]using hT
   ·have p1':(bt s (j+1):Int)<128:=by omega
    have hbad:sgk s (4 - 1)=false:=by
     rw[← Bool.not_eq_true]
     intro hh
     have:=sgk_le (show j+1≤4 - 1 by omega) hh
     rw[hkk]at this
     simp only[Bool.and_eq_true,decide_eq_true_eq]at this
     omega
    subst hT'
    rw[if_pos (.inr hbad)]at hT
    simp -dsimp -implicitDefEqProofs (disch:=first|omega|assumption) [nI,wI,hj1,hjs,tn,gj,p1']
    simpa -dsimp -implicitDefEqProofs (disch:=first|omega|assumption) [nI,wI,sgD]using hT
theorem sign_runs (s:ByteArray) (hm:s.size<1000000000) (hs:0<s.size):R 173 [.d (.str s)] []=some (sgD (sig s),[]):=by
 by_cases h0:bt s 0<128
 ·exact sign_short s hs h0
 by_cases h1:bt s 0<194
 ·exact sign_none s hs h0 (.inl h1)
 by_cases h2:bt s 0<224
 ·exact sign_2 s hm (by omega) h2 hs
 by_cases h3:bt s 0<240
 ·exact sign_3 s hm (by omega) h3 hs
 by_cases h4:bt s 0<245
 ·exact sign_4 s hm (by omega) h4 hs
 ·exact sign_none s hs h0 (.inr (by omega))
end Go.Am.Ab
namespace Go.Am.Ab
open Go.Proofs
set_option maxHeartbeats 4000000
set_option maxRecDepth 4000
abbrev rst (s:ByteArray) (i:Nat):ByteArray:=s.extract i s.size
theorem rst_size {s:ByteArray} {i:Nat} (h:i≤s.size):(rst s i).size=s.size - i:=by simp[rst]
theorem sig_pos (s:ByteArray):1≤(sig s).2.1:=by
 unfold sig sgf
 (repeat' split) <;> simp
theorem sig_lt (s:ByteArray):(sig s).1≤1114111:=by
 unfold sig
 split
 ·simp only;omega
 ·(repeat' split)
  all_goals first
   |(simp only[sgf];(repeat' split) <;> simp only <;> omega)
   |(simp only;omega)
theorem sig_width {s:ByteArray} (h:0<s.size):(sig s).2.1≤s.size:=by
 unfold sig
 split
 ·simp only;omega
 ·(repeat' split)
  all_goals first
   |(simp only[sgf];(repeat' split) <;> simp only <;> omega)
   |(simp only;omega)
def sgL (s:ByteArray):Nat→Nat→List (Nat × Nat × Bool)
 |0,_=>[]
 |m+1,i=>if i<s.size then ((sig (rst s i)).1,i,(sig (rst s i)).2.2)::sgL s m (i+(sig (rst s i)).2.1) else []
def sgs (s:ByteArray):List (Nat × Nat × Bool):=sgL s s.size 0
theorem sgL_end {s:ByteArray} {i:Nat} (h: ¬ i<s.size): ∀m,sgL s m i=[]
 |0=>rfl
 |m+1=>by simp[sgL,h]
theorem sgL_more {s:ByteArray} {m i:Nat} (h:i<s.size) (hm:s.size≤m+i): ∃k,m=k+1∧sgL s m i=((sig (rst s i)).1,i,(sig (rst s i)).2.2)::sgL s k (i+(sig (rst s i)).2.1)∧s.size≤k+(i+(sig (rst s i)).2.1):=by
 obtain⟨k,rfl⟩: ∃k,m=k+1:=⟨m - 1,by omega⟩
 have:=sig_pos (rst s i)
 exact⟨k,rfl,by simp[sgL,h],by omega⟩
abbrev runeD (l:List (Nat × Nat × Bool)):List D:=l.map fun x=>D.int .i64 x.1
abbrev placeD (l:List (Nat × Nat × Bool)):List D:=l.map fun x=>D.int .i64 x.2.1
theorem signs_runs (s:ByteArray) (hm:s.size<1000000000):R 98 [.d (.str s)] []=
 some ([.arr 0 (sgs s).length,.arr 1 (sgs s).length,.d (.bool ((sgs s).all (·.2.2)))],[.arr 1 (runeD (sgs s)) 0,.arr 1 (placeD (sgs s)) 0]):=by
 refine run_goal (rs:=[.tmp 2,.tmp 3,.tmp 4]) (ts:=[104,104,4]) Tryz.func98 rfl rfl rfl (by kernel_rfl) (by kernel_rfl) (.inl sp_98) (by simp[Tryz.f98]) ?_
 intro T hT
 simp -dsimp -implicitDefEqProofs (disch:=first|omega|assumption) [startSlots,nI,wI]
 generalize hz:loopT _ _ _ _ _ _=z
 revert z
 refine loop_any (σ:=Nat × Nat × List (Nat × Nat × Bool)) (fun x=>[(0,.d (.str s)),(5,.arr 0 x.2.2.length),(6,.arr 1 x.2.2.length),(7,.d (.bool (x.2.2.all (·.2.2)))),(8,.d (.int .i64 x.1))]) (fun x=>[.arr 1 (runeD x.2.2) 0,.arr 1 (placeD x.2.2) 0]) (fun x=>s.size≤x.2.1+x.1∧x.1≤s.size∧sgs s=x.2.2++sgL s x.2.1 x.1∧x.2.2.length≤x.1) (fun x=>s.size - x.1) (0,s.size,[]) ?_ ?_ ?_
 ·exact⟨by simp only;omega,Nat.zero_le _,rfl,Nat.zero_le _⟩
 ·simp -dsimp -implicitDefEqProofs (disch:=first|omega|assumption)
 intro T' f hT' ⟨i,m,l⟩ ⟨h1,h2,h3,h4⟩ ih
 simp only at h1 h2 h3 h4 ih
 by_cases hi:i<s.size
 ·obtain⟨k,rfl,e1,e2⟩:=sgL_more hi h1
  have hw:=sig_width (s:=rst s i) (by rw[rst_size h2];omega)
  have hp:=sig_pos (rst s i)
  rw[rst_size h2]at hw
  have hr:=sign_runs (rst s i) (by rw[rst_size h2];omega) (by rw[rst_size h2];omega)
  have hb:=sig_lt (rst s i)
  rw[e1]at h3
  generalize hx:sig (rst s i)=x at*
  obtain⟨c,w,ok⟩:=x
  simp only at e1 e2 hw hp hb h3
  have hi':(i:Int)<s.size:=by omega
  cases hal:l.all (fun x=>x.2.2)
  all_goals
   simp -dsimp -implicitDefEqProofs (disch:=first|omega|assumption) [nI,wI,hi,hi',hr,sgD,hal]
   refine ih (i+w,k,l++[(c,i,ok)]) _ _ ⟨by simp only;omega,by simp only;omega,by simp only;rw[h3];simp,by simp;omega⟩ (by simp only;omega) ?_
   simp -dsimp -implicitDefEqProofs (disch:=first|omega|assumption) [List.all_append,hal]
 ·have:i=s.size:=by omega
  subst this
  subst hT'
  rw[sgL_end (Nat.lt_irrefl _),List.append_nil]at h3
  rw[h3]at hT
  simp -dsimp -implicitDefEqProofs (disch:=first|omega|assumption) [nI,wI]
  simpa -dsimp -implicitDefEqProofs (disch:=first|omega|assumption) [nI,wI]using hT
end Go.Am.Ab
namespace Go.Am.Ab
open Go.Proofs
set_option maxHeartbeats 4000000
set_option maxRecDepth 4000
theorem rst_get (s:ByteArray) (i k:Nat):(rst s i)[k]? =s[i+k]? :=by
 by_cases h:i+k<s.size
 ·have h2:k<(rst s i).size:=by simp[rst];omega
  rw[getElem?_pos (rst s i) k h2,getElem?_pos s (i+k) h]
  exact congrArg some (ByteArray.getElem_extract h2)
 ·have h2: ¬ k<(rst s i).size:=by simp[rst];omega
  rw[getElem?_neg (rst s i) k h2,getElem?_neg s (i+k) h]
theorem get_bt (s:ByteArray) (i k:Nat):(s.get! (i+k)).toNat=bt (rst s i) k:=by
 unfold bt
 rw[rst_get]
 by_cases h:i+k<s.size
 ·rw[getElem?_pos s (i+k) h]
  show _=(s[i+k]).toNat
  have:s.get! (i+k)=s[i+k]:=by
   cases s with
   |mk d=>
    show d[i+k]! =d[i+k]
    exact getElem!_pos d (i+k) h
  rw[this]
 ·rw[getElem?_neg s (i+k) h]
  have:s.get! (i+k)=0:=by
   cases s with
   |mk d=>
    show d[i+k]! =0
    exact getElem!_neg d (i+k) h
  rw[this];rfl
theorem dec_sg {s:ByteArray} {i:Nat} (h:i<s.size):Utf8.decode s i=((sig (rst s i)).1,(sig (rst s i)).2.1):=by
 have hn:(rst s i).size=s.size - i:=rst_size (by omega)
 unfold Utf8.decode sig sgf
 simp only[get_bt,hn,sgk,sgv,Nat.reduceSub,Nat.zero_add,Bool.true_and,Nat.reduceAdd,Utf8.valid,Utf8.runeError]
 have l0:=bt_lt (rst s i) 0
 have l1:=bt_lt (rst s i) 1
 have l2:=bt_lt (rst s i) 2
 have l3:=bt_lt (rst s i) 3
 generalize bt (rst s i) 0=b0 at*
 generalize bt (rst s i) 1=b1 at*
 generalize bt (rst s i) 2=b2 at*
 generalize bt (rst s i) 3=b3 at*
 generalize s.size=n at*
 simp only[Bool.and_eq_true,Bool.or_eq_true,decide_eq_true_eq,beq_iff_eq,Bool.and_eq_false_iff,decide_eq_false_iff_not]
 by_cases r1:b0<128
 ·simp[r1]
 by_cases r2:b0<194
 ·simp only[if_neg r1]
  rw[if_neg (show ¬ (194≤b0∧b0<224) by omega),if_neg (show ¬ (224≤b0∧b0<240) by omega),if_neg (show ¬ (240≤b0∧b0<245) by omega)]
  (repeat' split) <;> first | rfl | (exfalso;omega)
 by_cases r3:b0<224
 ·simp only[if_neg r1]
  rw[if_pos (show 194≤b0∧b0<224 by omega)]
  (repeat' split) <;> first | rfl | (exfalso;omega) | (simp only[Prod.mk.injEq,and_true];omega)
 by_cases r4:b0<240
 ·simp only[if_neg r1]
  rw[if_neg (show ¬ (194≤b0∧b0<224) by omega),if_pos (show 224≤b0∧b0<240 by omega)]
  (repeat' split) <;> first | rfl | (exfalso;omega) | (simp only[Prod.mk.injEq,and_true];omega)
 by_cases r5:b0<245
 ·simp only[if_neg r1]
  rw[if_neg (show ¬ (194≤b0∧b0<224) by omega),if_neg (show ¬ (224≤b0∧b0<240) by omega),if_pos (show 240≤b0∧b0<245 by omega)]
  (repeat' split) <;> first | rfl | (exfalso;omega) | (simp only[Prod.mk.injEq,and_true];omega)
 ·simp only[if_neg r1]
  rw[if_neg (show ¬ (194≤b0∧b0<224) by omega),if_neg (show ¬ (224≤b0∧b0<240) by omega),if_neg (show ¬ (240≤b0∧b0<245) by omega)]
  (repeat' split) <;> first | rfl | (exfalso;omega)
theorem sig_fffd {s:ByteArray} (hs:0<s.size) (h:(sig s).1=65533):((sig s).2.2=true→3≤s.size∧bt s 0=239∧bt s 1=191∧bt s 2=189)∧((sig s).2.2=false→ ¬ (3≤s.size∧bt s 0=239∧bt s 1=191∧bt s 2=189)):=by
 revert h
 unfold sig sgf
 simp only[sgk,sgv,Nat.reduceSub,Nat.zero_add,Bool.true_and,Nat.reduceAdd,Bool.and_eq_true,decide_eq_true_eq,Bool.and_eq_false_iff,decide_eq_false_iff_not]
 have l0:=bt_lt s 0
 have l1:=bt_lt s 1
 have l2:=bt_lt s 2
 have l3:=bt_lt s 3
 generalize bt s 0=b0 at*
 generalize bt s 1=b1 at*
 generalize bt s 2=b2 at*
 generalize bt s 3=b3 at*
 generalize s.size=n at*
 (repeat' split) <;> intro h <;> simp only at h <;> refine⟨fun e=> ?_,fun e=> ?_⟩ <;> first | (cases e;done) | omega
theorem sig_bad {s:ByteArray} (h:(sig s).2.2=false):(sig s).1=65533∧(sig s).2.1=1:=by
 revert h
 unfold sig sgf
 (repeat' split) <;> intro h <;> first | (cases h;done) | exact⟨rfl,rfl⟩
end Go.Am.Ab
namespace Go.Am.Ab
open Go.Proofs
set_option maxHeartbeats 4000000
set_option maxRecDepth 4000
theorem hasPrefix_runs (s:ByteArray) (hm:s.size<1000000000):R 179 [.d (.str s),.d (.str ⟨#[239,191,189]⟩)] []=some ([.d (.bool (decide (3≤s.size∧bt s 0=239∧bt s 1=191∧bt s 2=189)))],[]):=by
 have e:R 278 [.d (.str s),.d (.str ⟨#[239,191,189]⟩)] []=some ([.d (.bool (decide (3≤s.size∧bt s 0=239∧bt s 1=191∧bt s 2=189)))],[]):=by
  have hz:(ByteArray.mk #[239,191,189]).size=3:=rfl
  by_cases h:3≤s.size
  ·have h':(3:Int)≤s.size:=by omega
   have hb:((s.extract 0 3).toList == [239,191,189])=decide (3≤s.size∧bt s 0=239∧bt s 1=191∧bt s 2=189):=by
    have e1:(s.extract 0 3).toList=[s[0],s[1],s[2]]:=by
     rw[ByteArray.toList_eq]
     apply List.ext_getElem?
     intro k
     have hl:(s.extract 0 3).data.toList.length=3:=by
      have:(s.extract 0 3).size=3:=by rw[ByteArray.size_extract];omega
      rw[Array.length_toList];exact this
     by_cases hk:k<3
     ·have hk2:k<(s.extract 0 3).size:=by rw[ByteArray.size_extract];omega
      rw[List.getElem?_eq_getElem (by omega)]
      have e2:(s.extract 0 3).data.toList[k]'(by omega)=(s.extract 0 3)[k]'hk2:=rfl
      rw[e2,ByteArray.getElem_extract hk2]
      have:k=0∨k=1∨k=2:=by omega
      rcases this with rfl | rfl | rfl <;> rfl
     ·rw[List.getElem?_eq_none (by omega),List.getElem?_eq_none (by simp only[List.length_cons,List.length_nil];omega)]
    rw[e1]
    have b0:=bt_idx (show 0<s.size by omega)
    have b1:=bt_idx (show 1<s.size by omega)
    have b2:=bt_idx (show 2<s.size by omega)
    rw[← b0,← b1,← b2]
    rw[Bool.eq_iff_iff]
    simp only[beq_iff_eq,List.cons.injEq,and_true,decide_eq_true_eq,← UInt8.toNat_inj]
    exact⟨fun ⟨a,b,c⟩=>⟨h,a,b,c⟩,fun ⟨_,a,b,c⟩=>⟨a,b,c⟩⟩
   refine run_goal (rs:=[.tmp 4]) (ts:=[4]) Tryz.func278 rfl rfl rfl (by kernel_rfl) (by kernel_rfl) (.inl sp_278) (by simp[Tryz.f278]) ?_
   intro T hT
   simp -dsimp -implicitDefEqProofs (disch:=first|omega|assumption) [startSlots,nI,wI,hz,h',h]
   rw[hb]
   simpa -dsimp -implicitDefEqProofs (disch:=first|omega|assumption) [nI,wI]using hT
  ·have h': ¬ (3:Int)≤s.size:=by omega
   have hd:decide (3≤s.size∧bt s 0=239∧bt s 1=191∧bt s 2=189)=false:=by simp[h]
   rw[hd]
   refine run_goal (rs:=[.tmp 4]) (ts:=[4]) Tryz.func278 rfl rfl rfl (by kernel_rfl) (by kernel_rfl) (.inl sp_278) (by simp[Tryz.f278]) ?_
   intro T hT
   simp -dsimp -implicitDefEqProofs (disch:=first|omega|assumption) [startSlots,nI,wI,hz,h']
   simpa -dsimp -implicitDefEqProofs (disch:=first|omega|assumption) [nI,wI]using hT
 refine run_goal (rs:=[.tmp 4]) (ts:=[4]) Tryz.func179 rfl rfl rfl (by kernel_rfl) (by kernel_rfl) (.inl sp_179) (by simp[Tryz.f179]) ?_
 intro T hT
 simp -dsimp -implicitDefEqProofs (disch:=first|omega|assumption) [startSlots,nI,wI,e]
 simpa -dsimp -implicitDefEqProofs (disch:=first|omega|assumption) [nI,wI]using hT
theorem clean_runs (s:ByteArray) (hm:s.size<1000000000):R 103 [.d (.str s)] []=some ([.d (.bool ((sgs s).all (·.2.2)))],[]):=by
 refine run_goal (rs:=[.tmp 2]) (ts:=[4]) Tryz.func103 rfl rfl rfl (by kernel_rfl) (by kernel_rfl) (.inl sp_103) (by simp[Tryz.f103]) ?_
 intro T hT
 simp -dsimp -implicitDefEqProofs (disch:=first|omega|assumption) [startSlots,nI,wI]
 generalize hz:loopT _ _ _ _ _ _=z
 revert z
 refine loop_any (σ:=Nat × Nat) (fun x=>[(0,.d (.str s)),(6,.ptr 0 0)]) (fun x=>[.siter s x.1]) (fun x=>s.size≤x.2+x.1∧x.1≤s.size∧(sgs s).all (·.2.2)=(sgL s x.2 x.1).all (·.2.2)) (fun x=>s.size - x.1) (0,s.size) ?_ ?_ ?_
 ·exact⟨by simp only;omega,Nat.zero_le _,rfl⟩
 ·simp -dsimp -implicitDefEqProofs (disch:=first|omega|assumption)
 intro T' f hT' ⟨i,m⟩ ⟨h1,h2,h3⟩ ih
 simp only at h1 h2 h3 ih
 by_cases hi:i<s.size
 ·obtain⟨k,rfl,e1,e2⟩:=sgL_more hi h1
  have hw:=sig_width (s:=rst s i) (by rw[rst_size h2];omega)
  have hp:=sig_pos (rst s i)
  have hf:= @sig_fffd (rst s i) (by rw[rst_size h2];omega)
  have hbad:= @sig_bad (rst s i)
  have hpre:=hasPrefix_runs (rst s i) (by rw[rst_size h2];omega)
  rw[rst_size h2]at hw
  have hd:=dec_sg hi
  rw[e1]at h3
  have hf':(sig (rst s i)).1=65533→decide (3≤(rst s i).size∧bt (rst s i) 0=239∧bt (rst s i) 1=191∧bt (rst s i) 2=189)=(sig (rst s i)).2.2:=fun h=>by
   cases hok:(sig (rst s i)).2.2 with
   |false=>exact decide_eq_false ((hf h).2 hok)
   |true=>exact decide_eq_true ((hf h).1 hok)
  clear hf
  generalize decide (3≤(rst s i).size∧bt (rst s i) 0=239∧bt (rst s i) 1=191∧bt (rst s i) 2=189)=pre at hpre hf'
  generalize sig (rst s i)=x at*
  obtain⟨c,w,ok⟩:=x
  simp only[List.all_cons]at e2 hw hp h3 hd hf' hbad
  by_cases hc:c=65533
  ·subst hc
   have hpo:=hf' rfl
   subst hpo
   cases pre with
   |true=>
    simp -dsimp -implicitDefEqProofs (disch:=first|omega|assumption) [nI,wI,hi,hd,hpre]
    refine ih (i+w,k) _ _ ⟨by simp only;omega,by simp only;omega,by simpa using h3⟩ (by simp only;omega) ?_
    simp -dsimp -implicitDefEqProofs (disch:=first|omega|assumption)
   |false=>
    subst hT'
    have h3':(sgs s).all (·.2.2)=false:=by simpa using h3
    rw[h3']at hT
    simp -dsimp -implicitDefEqProofs (disch:=first|omega|assumption) [nI,wI,hi,hd,hpre]
    simpa -dsimp -implicitDefEqProofs (disch:=first|omega|assumption) [nI,wI]using hT
  ·have hok:ok=true:=by
    cases ok with
    |true=>rfl
    |false=>exact absurd (hbad rfl).1 hc
   subst hok
   have hc': ¬ (c:Int)=65533:=by omega
   simp -dsimp -implicitDefEqProofs (disch:=first|omega|assumption) [nI,wI,hi,hd,hc,hc']
   refine ih (i+w,k) _ _ ⟨by simp only;omega,by simp only;omega,by simpa using h3⟩ (by simp only;omega) ?_
   simp -dsimp -implicitDefEqProofs (disch:=first|omega|assumption)
 ·have:i=s.size:=by omega
  subst this
  subst hT'
  rw[sgL_end (Nat.lt_irrefl _)]at h3
  have h3':(sgs s).all (·.2.2)=true:=by simpa using h3
  rw[h3']at hT
  simp -dsimp -implicitDefEqProofs (disch:=first|omega|assumption) [nI,wI]
  simpa -dsimp -implicitDefEqProofs (disch:=first|omega|assumption) [nI,wI]using hT
end Go.Am.Ab
