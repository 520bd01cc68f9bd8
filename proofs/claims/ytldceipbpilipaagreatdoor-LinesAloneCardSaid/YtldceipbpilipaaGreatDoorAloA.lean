/- A console without a world: its parts. -/
import Derived.Test.YtldceipbpilipaaGreatDoorLinF
set_option linter.all false
namespace Go.Am.Ab
open Go.Proofs
set_option maxHeartbeats 4000000
set_option maxRecDepth 4000
abbrev kCalm:List UInt8:=[99,97,108,109]
abbrev kScan:List UInt8:=[115,99,97,110]
abbrev kAt:List UInt8:=[97,116]
abbrev kSnaps:List UInt8:=[115,110,97,112,115]
abbrev kResume:List UInt8:=[114,101,115,117,109,101]
abbrev kWaiting:List UInt8:=[119,97,105,116,105,110,103]
abbrev kUsed:List UInt8:=[117,115,101,100]
abbrev kObjects:List UInt8:=[111,98,106,101,99,116,115]
abbrev sWhat:List UInt8:=[119,104,97,116,63]
abbrev sNo:List UInt8:=[110,111,32,119,111,114,108,100]
theorem numbers_one {a:List UInt8} (hl:a.length<1000000):R 66 [W [a],I 1] []=some (if numOk a 0=true then ([.arr 0 1,.d (.bool true)],[.arr 1 [.int .i64 (numV a)] 0]) else ([.arr 0 0,.d (.bool false)],[.arr 1 [] 0])):=by
 have hn:=value_runs a hl (low:=0) (by omega) (by omega)
 unfold rnum at hn
 unfold W
 simp only[List.map_cons,List.map_nil]
 cases hc:numOk a 0 with
 |true=>
  rw[hc,if_pos rfl]at hn
  rw[if_pos rfl]
  refine run_goal (rs:=[.tmp 4,.tmp 5]) (ts:=[104,4]) Tryz.func66 rfl rfl rfl (by kernel_rfl) (by kernel_rfl) (.inl sp_66) (by simp[Tryz.f66]) ?_
  intro T hT
  simp -dsimp -implicitDefEqProofs (disch:=first|omega|assumption) [startSlots,nI,wI,strD]
  generalize hz:loopT _ _ _ _ _ _=z
  revert z
  refine loop_any (σ:=Nat) (fun i=>[(0,.d (.list [.str ⟨a.toArray⟩])),(1,I 1),(6,.arr 0 i),(7,I i)]) (fun i=>[.arr 1 (List.replicate i (.int .i64 (numV a))) 0]) (fun i=>i≤1) (fun i=>1 - i) 0 ?_ ?_ ?_
  ·exact Nat.zero_le _
  ·simp -dsimp -implicitDefEqProofs (disch:=first|omega|assumption)
  intro T' f hT' i hi ih
  have h01:i=0∨i=1:=by omega
  rcases h01 with rfl | rfl
  ·simp -dsimp -implicitDefEqProofs (disch:=first|omega|assumption) [nI,wI,hn]
   refine ih 1 _ _ (by omega) (by omega) ?_
   simp -dsimp -implicitDefEqProofs (disch:=first|omega|assumption) [List.replicate]
  ·subst hT'
   simp -dsimp -implicitDefEqProofs (disch:=first|omega|assumption) [nI,wI]
   simpa -dsimp -implicitDefEqProofs (disch:=first|omega|assumption) [nI,wI,List.replicate]using hT
 |false=>
  rw[hc,if_neg (by decide)]at hn
  rw[if_neg (by decide)]
  refine run_goal (rs:=[.tmp 4,.tmp 5]) (ts:=[104,4]) Tryz.func66 rfl rfl rfl (by kernel_rfl) (by kernel_rfl) (.inl sp_66) (by simp[Tryz.f66]) ?_
  intro T hT
  simp -dsimp -implicitDefEqProofs (disch:=first|omega|assumption) [startSlots,nI,wI,strD]
  generalize hz:loopT _ _ _ _ _ _=z
  revert z
  refine loop_any (σ:=Nat) (fun i=>[(0,.d (.list [.str ⟨a.toArray⟩])),(1,I 1),(6,.arr 0 0),(7,I 0)]) (fun i=>[.arr 1 [] 0]) (fun i=>i=0) (fun i=>1 - i) 0 ?_ ?_ ?_
  ·rfl
  ·simp -dsimp -implicitDefEqProofs (disch:=first|omega|assumption)
  intro T' f hT' i hi ih
  subst hT'
  simp -dsimp -implicitDefEqProofs (disch:=first|omega|assumption) [nI,wI,hn]
  simpa -dsimp -implicitDefEqProofs (disch:=first|omega|assumption) [nI,wI]using hT
theorem numbers_no {r:List (List UInt8)} (h:r.length≠1):R 66 [W r,I 1] []=some ([.arr 0 0,.d (.bool false)],[.arr 1 [] 0]):=by
 have e1:(r.map strD).length=r.length:=by simp
 have g1: ¬ (r.length:Int)=1:=by omega
 unfold W
 generalize hX:r.map strD=X at*
 refine run_goal (rs:=[.tmp 4,.tmp 5]) (ts:=[104,4]) Tryz.func66 rfl rfl rfl (by kernel_rfl) (by kernel_rfl) (.inl sp_66) (by simp[Tryz.f66]) ?_
 intro T hT
 simp -dsimp -implicitDefEqProofs (disch:=first|omega|assumption) [startSlots,nI,wI,e1,g1,h]
 simpa -dsimp -implicitDefEqProofs (disch:=first|omega|assumption) [nI,wI]using hT
def isOne (w:List UInt8):Prop:=w=kCalm∨w=kScan∨w=kAt
def isBare (w:List UInt8):Prop:=w=kSnaps∨w=kResume∨w=kWaiting∨w=kUsed∨w=kObjects
abbrev cBox:List Obj:=[.box [.nilS,.d .nilP]]
theorem ask_one {w a:List UInt8} (hw:isOne w) (hl:a.length<1000000):R 63 [.ptr 0 0,S w,W [a]] cBox=some ([S (if numOk a 0=true∧(w=kCalm→numV a≤200) then sNo else sWhat)],cBox):=by
 have hn:=number_runs (l:=a) (by omega) (low:=0)
 unfold W at*
 simp only[List.map_cons,List.map_nil]at hn ⊢
 cases hc:numOk a 0 with
 |true=>
  rw[hc]at hn
  rcases hw with rfl | rfl | rfl
  ·by_cases h2:numV a≤200
   ·have h2': ¬ (200:Int)<numV a:=by omega
    rw[if_pos ⟨rfl,fun _=>h2⟩]
    refine run_goal (rs:=[.tmp 6]) (ts:=[9]) Tryz.func63 rfl rfl rfl (by kernel_rfl) (by kernel_rfl) (.inl sp_63) (by simp[Tryz.f63]) ?_
    intro T hT
    simp -dsimp -implicitDefEqProofs (disch:=first|omega|assumption) [startSlots,nI,wI,strD,hn,h2']
    simpa -dsimp -implicitDefEqProofs (disch:=first|omega|assumption) [nI,wI]using hT
   ·have h2':(200:Int)<numV a:=by omega
    rw[if_neg (fun h=>h2 (h.2 rfl))]
    refine run_goal (rs:=[.tmp 6]) (ts:=[9]) Tryz.func63 rfl rfl rfl (by kernel_rfl) (by kernel_rfl) (.inl sp_63) (by simp[Tryz.f63]) ?_
    intro T hT
    simp -dsimp -implicitDefEqProofs (disch:=first|omega|assumption) [startSlots,nI,wI,strD,hn,h2']
    simpa -dsimp -implicitDefEqProofs (disch:=first|omega|assumption) [nI,wI]using hT
  ·rw[if_pos ⟨rfl,fun e=>by cases e⟩]
   refine run_goal (rs:=[.tmp 6]) (ts:=[9]) Tryz.func63 rfl rfl rfl (by kernel_rfl) (by kernel_rfl) (.inl sp_63) (by simp[Tryz.f63]) ?_
   intro T hT
   simp -dsimp -implicitDefEqProofs (disch:=first|omega|assumption) [startSlots,nI,wI,strD,hn]
   simpa -dsimp -implicitDefEqProofs (disch:=first|omega|assumption) [nI,wI]using hT
  ·rw[if_pos ⟨rfl,fun e=>by cases e⟩]
   refine run_goal (rs:=[.tmp 6]) (ts:=[9]) Tryz.func63 rfl rfl rfl (by kernel_rfl) (by kernel_rfl) (.inl sp_63) (by simp[Tryz.f63]) ?_
   intro T hT
   simp -dsimp -implicitDefEqProofs (disch:=first|omega|assumption) [startSlots,nI,wI,strD,hn]
   simpa -dsimp -implicitDefEqProofs (disch:=first|omega|assumption) [nI,wI]using hT
 |false=>
  rw[hc]at hn
  rw[if_neg (fun h=>by cases h.1)]
  rcases hw with rfl | rfl | rfl
  all_goals
   refine run_goal (rs:=[.tmp 6]) (ts:=[9]) Tryz.func63 rfl rfl rfl (by kernel_rfl) (by kernel_rfl) (.inl sp_63) (by simp[Tryz.f63]) ?_
   intro T hT
   simp -dsimp -implicitDefEqProofs (disch:=first|omega|assumption) [startSlots,nI,wI,strD,hn]
   simpa -dsimp -implicitDefEqProofs (disch:=first|omega|assumption) [nI,wI]using hT
theorem ask_one0 {w:List UInt8} {r:List (List UInt8)} (hw:isOne w) (hr:r.length≠1):R 63 [.ptr 0 0,S w,W r] cBox=some ([S sWhat],cBox):=by
 have e1:(r.map strD).length=r.length:=by simp
 have g1: ¬ (r.length:Int)=1:=by omega
 skip
 unfold W at*
 generalize hX:r.map strD=X at*
 rcases hw with rfl | rfl | rfl
 all_goals
  refine run_goal (rs:=[.tmp 6]) (ts:=[9]) Tryz.func63 rfl rfl rfl (by kernel_rfl) (by kernel_rfl) (.inl sp_63) (by simp[Tryz.f63]) ?_
  intro T hT
  simp -dsimp -implicitDefEqProofs (disch:=first|omega|assumption) [startSlots,nI,wI,e1,g1,hr]
  simpa -dsimp -implicitDefEqProofs (disch:=first|omega|assumption) [nI,wI]using hT
theorem ask_bare {w:List UInt8} {r:List (List UInt8)} (hw:isBare w):R 63 [.ptr 0 0,S w,W r] cBox=some ([S (if r=[] then sNo else sWhat)],cBox):=by
 have e1:(r.map strD).length=r.length:=by simp
 unfold W
 by_cases hr:r=[]
 ·subst hr
  rw[if_pos rfl,List.map_nil]
  rcases hw with rfl | rfl | rfl | rfl | rfl
  all_goals
   refine run_goal (rs:=[.tmp 6]) (ts:=[9]) Tryz.func63 rfl rfl rfl (by kernel_rfl) (by kernel_rfl) (.inl sp_63) (by simp[Tryz.f63]) ?_
   intro T hT
   simp -dsimp -implicitDefEqProofs (disch:=first|omega|assumption) [startSlots,nI,wI]
   simpa -dsimp -implicitDefEqProofs (disch:=first|omega|assumption) [nI,wI]using hT
 ·have hp:0<r.length:=List.length_pos_iff.2 hr
  have hp':(0:Int)<r.length:=by omega
  rw[if_neg hr]
  generalize hX:r.map strD=X at*
  rcases hw with rfl | rfl | rfl | rfl | rfl
  all_goals
   refine run_goal (rs:=[.tmp 6]) (ts:=[9]) Tryz.func63 rfl rfl rfl (by kernel_rfl) (by kernel_rfl) (.inl sp_63) (by simp[Tryz.f63]) ?_
   intro T hT
   simp -dsimp -implicitDefEqProofs (disch:=first|omega|assumption) [startSlots,nI,wI,e1,hp,hp']
   simpa -dsimp -implicitDefEqProofs (disch:=first|omega|assumption) [nI,wI]using hT
theorem ask_none {w:List UInt8} {r:List (List UInt8)} (h1: ¬ isOne w) (h2: ¬ isBare w):R 63 [.ptr 0 0,S w,W r] cBox=some ([S sWhat],cBox):=by
 unfold isOne at h1
 unfold isBare at h2
 simp only[not_or]at h1 h2
 have n0:(w == [99,97,108,109])=false:=beq_false_of_ne h1.1
 have n1:(w == [115,99,97,110])=false:=beq_false_of_ne h1.2.1
 have n2:(w == [97,116])=false:=beq_false_of_ne h1.2.2
 have m0:(w == [115,110,97,112,115])=false:=beq_false_of_ne h2.1
 have m1:(w == [114,101,115,117,109,101])=false:=beq_false_of_ne h2.2.1
 have m2:(w == [119,97,105,116,105,110,103])=false:=beq_false_of_ne h2.2.2.1
 have m3:(w == [117,115,101,100])=false:=beq_false_of_ne h2.2.2.2.1
 have m4:(w == [111,98,106,101,99,116,115])=false:=beq_false_of_ne h2.2.2.2.2
 unfold W
 generalize hX:r.map strD=X at*
 refine run_goal (rs:=[.tmp 6]) (ts:=[9]) Tryz.func63 rfl rfl rfl (by kernel_rfl) (by kernel_rfl) (.inl sp_63) (by simp[Tryz.f63]) ?_
 intro T hT
 simp -dsimp -implicitDefEqProofs (disch:=first|omega|assumption) [startSlots,nI,wI,n0,n1,n2,m0,m1,m2,m3,m4]
 simpa -dsimp -implicitDefEqProofs (disch:=first|omega|assumption) [nI,wI]using hT
theorem rask_one {w a:List UInt8} (hw:isOne w) (hl:a.length<1000000):R 70 [.ptr 0 0,S w,W [a]] cBox=some ([S (if numOk a 0=true∧(w=kCalm→numV a≤200) then sNo else sWhat)],cBox):=by
 have hn:=numbers_one hl
 unfold W at*
 simp only[List.map_cons,List.map_nil,strD]at hn ⊢
 cases hc:numOk a 0 with
 |true=>
  rw[hc]at hn
  rw[if_pos rfl]at hn
  rcases hw with rfl | rfl | rfl
  ·by_cases h2:numV a≤200
   ·have h2': ¬ (200:Int)<numV a:=by omega
    rw[if_pos ⟨rfl,fun _=>h2⟩]
    refine run_goal (rs:=[.tmp 6]) (ts:=[9]) Tryz.func70 rfl rfl rfl (by kernel_rfl) (by kernel_rfl) (.inl sp_70) (by simp[Tryz.f70]) ?_
    intro T hT
    simp -dsimp -implicitDefEqProofs (disch:=first|omega|assumption) [startSlots,nI,wI,hn,h2']
    simpa -dsimp -implicitDefEqProofs (disch:=first|omega|assumption) [nI,wI]using hT
   ·have h2':(200:Int)<numV a:=by omega
    rw[if_neg (fun h=>h2 (h.2 rfl))]
    refine run_goal (rs:=[.tmp 6]) (ts:=[9]) Tryz.func70 rfl rfl rfl (by kernel_rfl) (by kernel_rfl) (.inl sp_70) (by simp[Tryz.f70]) ?_
    intro T hT
    simp -dsimp -implicitDefEqProofs (disch:=first|omega|assumption) [startSlots,nI,wI,hn,h2']
    simpa -dsimp -implicitDefEqProofs (disch:=first|omega|assumption) [nI,wI]using hT
  ·rw[if_pos ⟨rfl,fun e=>by cases e⟩]
   refine run_goal (rs:=[.tmp 6]) (ts:=[9]) Tryz.func70 rfl rfl rfl (by kernel_rfl) (by kernel_rfl) (.inl sp_70) (by simp[Tryz.f70]) ?_
   intro T hT
   simp -dsimp -implicitDefEqProofs (disch:=first|omega|assumption) [startSlots,nI,wI,hn]
   simpa -dsimp -implicitDefEqProofs (disch:=first|omega|assumption) [nI,wI]using hT
  ·rw[if_pos ⟨rfl,fun e=>by cases e⟩]
   refine run_goal (rs:=[.tmp 6]) (ts:=[9]) Tryz.func70 rfl rfl rfl (by kernel_rfl) (by kernel_rfl) (.inl sp_70) (by simp[Tryz.f70]) ?_
   intro T hT
   simp -dsimp -implicitDefEqProofs (disch:=first|omega|assumption) [startSlots,nI,wI,hn]
   simpa -dsimp -implicitDefEqProofs (disch:=first|omega|assumption) [nI,wI]using hT
 |false=>
  rw[hc]at hn
  rw[if_neg (by decide)]at hn
  rw[if_neg (fun h=>by cases h.1)]
  rcases hw with rfl | rfl | rfl
  all_goals
   refine run_goal (rs:=[.tmp 6]) (ts:=[9]) Tryz.func70 rfl rfl rfl (by kernel_rfl) (by kernel_rfl) (.inl sp_70) (by simp[Tryz.f70]) ?_
   intro T hT
   simp -dsimp -implicitDefEqProofs (disch:=first|omega|assumption) [startSlots,nI,wI,hn]
   simpa -dsimp -implicitDefEqProofs (disch:=first|omega|assumption) [nI,wI]using hT
theorem rask_one0 {w:List UInt8} {r:List (List UInt8)} (hw:isOne w) (hr:r.length≠1):R 70 [.ptr 0 0,S w,W r] cBox=some ([S sWhat],cBox):=by
 have e1:(r.map strD).length=r.length:=by simp
 have g1: ¬ (r.length:Int)=1:=by omega
 have hn:=numbers_no hr
 unfold W at*
 generalize hX:r.map strD=X at*
 rcases hw with rfl | rfl | rfl
 all_goals
  refine run_goal (rs:=[.tmp 6]) (ts:=[9]) Tryz.func70 rfl rfl rfl (by kernel_rfl) (by kernel_rfl) (.inl sp_70) (by simp[Tryz.f70]) ?_
  intro T hT
  simp -dsimp -implicitDefEqProofs (disch:=first|omega|assumption) [startSlots,nI,wI,e1,g1,hr,hn]
  simpa -dsimp -implicitDefEqProofs (disch:=first|omega|assumption) [nI,wI]using hT
theorem rask_bare {w:List UInt8} {r:List (List UInt8)} (hw:isBare w):R 70 [.ptr 0 0,S w,W r] cBox=some ([S (if r=[] then sNo else sWhat)],cBox):=by
 have e1:(r.map strD).length=r.length:=by simp
 unfold W
 by_cases hr:r=[]
 ·subst hr
  rw[if_pos rfl,List.map_nil]
  rcases hw with rfl | rfl | rfl | rfl | rfl
  all_goals
   refine run_goal (rs:=[.tmp 6]) (ts:=[9]) Tryz.func70 rfl rfl rfl (by kernel_rfl) (by kernel_rfl) (.inl sp_70) (by simp[Tryz.f70]) ?_
   intro T hT
   simp -dsimp -implicitDefEqProofs (disch:=first|omega|assumption) [startSlots,nI,wI]
   simpa -dsimp -implicitDefEqProofs (disch:=first|omega|assumption) [nI,wI]using hT
 ·have hp:0<r.length:=List.length_pos_iff.2 hr
  have hp':(0:Int)<r.length:=by omega
  rw[if_neg hr]
  generalize hX:r.map strD=X at*
  rcases hw with rfl | rfl | rfl | rfl | rfl
  all_goals
   refine run_goal (rs:=[.tmp 6]) (ts:=[9]) Tryz.func70 rfl rfl rfl (by kernel_rfl) (by kernel_rfl) (.inl sp_70) (by simp[Tryz.f70]) ?_
   intro T hT
   simp -dsimp -implicitDefEqProofs (disch:=first|omega|assumption) [startSlots,nI,wI,e1,hp,hp']
   simpa -dsimp -implicitDefEqProofs (disch:=first|omega|assumption) [nI,wI]using hT
theorem rask_none {w:List UInt8} {r:List (List UInt8)} (h1: ¬ isOne w) (h2: ¬ isBare w):R 70 [.ptr 0 0,S w,W r] cBox=some ([S sWhat],cBox):=by
 unfold isOne at h1
 unfold isBare at h2
 simp only[not_or]at h1 h2
 have n0:(w == [99,97,108,109])=false:=beq_false_of_ne h1.1
 have n1:(w == [115,99,97,110])=false:=beq_false_of_ne h1.2.1
 have n2:(w == [97,116])=false:=beq_false_of_ne h1.2.2
 have m0:(w == [115,110,97,112,115])=false:=beq_false_of_ne h2.1
 have m1:(w == [114,101,115,117,109,101])=false:=beq_false_of_ne h2.2.1
 have m2:(w == [119,97,105,116,105,110,103])=false:=beq_false_of_ne h2.2.2.1
 have m3:(w == [117,115,101,100])=false:=beq_false_of_ne h2.2.2.2.1
 have m4:(w == [111,98,106,101,99,116,115])=false:=beq_false_of_ne h2.2.2.2.2
 unfold W
 generalize hX:r.map strD=X at*
 refine run_goal (rs:=[.tmp 6]) (ts:=[9]) Tryz.func70 rfl rfl rfl (by kernel_rfl) (by kernel_rfl) (.inl sp_70) (by simp[Tryz.f70]) ?_
 intro T hT
 simp -dsimp -implicitDefEqProofs (disch:=first|omega|assumption) [startSlots,nI,wI,n0,n1,n2,m0,m1,m2,m3,m4]
 simpa -dsimp -implicitDefEqProofs (disch:=first|omega|assumption) [nI,wI]using hT
end Go.Am.Ab
namespace Go.Am.Ab
open Go.Proofs
set_option maxHeartbeats 4000000
set_option maxRecDepth 4000
abbrev kSource:List UInt8:=[115,111,117,114,99,101]
abbrev kWorld:List UInt8:=[119,111,114,108,100]
abbrev sOk:List UInt8:=[111,107]
theorem tail_facts (r:List (List UInt8)):(r.map strD).length=r.length∧allSize 1 (r.map strD)=true∧(r.map strD).take r.length=r.map strD:=⟨by simp,allSize_words r,List.take_of_length_le (by simp)⟩
theorem do_src0 {l:List UInt8} (hl:l.length<1000000) (hc:cutL 32 l=[kSource]):R 28 [.ptr 0 0,S l] cBox=some ([S sWhat],cBox):=by
 have hs:=split_W hl
 unfold W at hs
 rw[hc]at hs
 simp only[List.map_cons,List.map_nil,strD]at hs
 refine run_goal (rs:=[.tmp 4]) (ts:=[9]) Tryz.func28 rfl rfl rfl (by kernel_rfl) (by kernel_rfl) (.inl sp_28) (by simp[Tryz.f28]) ?_
 intro T hT
 simp -dsimp -implicitDefEqProofs (disch:=first|omega|assumption) [startSlots,nI,wI,hs]
 simpa -dsimp -implicitDefEqProofs (disch:=first|omega|assumption) [nI,wI]using hT
theorem do_srcN {l:List UInt8} {r:List (List UInt8)} {e:Ev} (hl:l.length<1000000) (hc:cutL 32 l=kSource::r) (hr:r≠[]) (he:e.row=[]) (hE:R 59 [W r] []=some ([.agg (e.v 0),.d (.bool false)],[])):R 28 [.ptr 0 0,S l] cBox=some ([S sWhat],cBox):=by
 have hs:=split_W hl
 obtain⟨e1,hall,htk⟩:=tail_facts r
 have hp:0<r.length:=List.length_pos_iff.2 hr
 have hp': ¬ (r.length:Int)+1<2:=by omega
 unfold W at hs hE
 rw[hc,List.map_cons]at hs
 simp only[Ev.v,he,List.length_nil,rowW]at hE
 generalize r.map strD=X at*
 refine run_goal (rs:=[.tmp 4]) (ts:=[9]) Tryz.func28 rfl rfl rfl (by kernel_rfl) (by kernel_rfl) (.inl sp_28) (by simp[Tryz.f28]) ?_
 intro T hT
 simp -dsimp -implicitDefEqProofs (disch:=first|omega|assumption) [startSlots,nI,wI,strD,hs,hE,e1,hall,htk,cut,hp']
 simpa -dsimp -implicitDefEqProofs (disch:=first|omega|assumption) [nI,wI]using hT
theorem do_srcE {l:List UInt8} {r:List (List UInt8)} {e:Ev} (hl:l.length<1000000) (hc:cutL 32 l=kSource::r) (hr:r≠[]) (hE:R 59 [W r] []=some ([.agg (e.v 0),.d (.bool true)],e.h)):R 28 [.ptr 0 0,S l] cBox=some ([S sOk],[.box [.arr 1 1,.d .nilP],.arr 8 [.agg (evL e.o (e.row.map cl) e.k e.n ⟨e.s.toArray⟩ ⟨e.name.toArray⟩ e.kind)] 0]):=by
 have hs:=split_W hl
 obtain⟨e1,hall,htk⟩:=tail_facts r
 have hp:0<r.length:=List.length_pos_iff.2 hr
 have hp': ¬ (r.length:Int)+1<2:=by omega
 have hsh:=sh_row e.row
 unfold W at hs hE
 rw[hc,List.map_cons]at hs
 simp only[Ev.v,Ev.h]at hE
 generalize r.map strD=X at*
 generalize e.row.map cl=Y at*
 generalize rowW 0 e.row.length=v at*
 generalize rowO e.row e.row.length=h at*
 rcases hsh with ⟨rfl,rfl,rfl⟩ | ⟨m,hm,rfl,rfl⟩
 ·refine run_goal (rs:=[.tmp 4]) (ts:=[9]) Tryz.func28 rfl rfl rfl (by kernel_rfl) (by kernel_rfl) (.inl sp_28) (by simp[Tryz.f28]) ?_
  intro T hT
  simp -dsimp -implicitDefEqProofs (disch:=first|omega|assumption) [startSlots,nI,wI,strD,hs,hE,e1,hall,htk,cut,hp']
  simpa -dsimp -implicitDefEqProofs (disch:=first|omega|assumption) [nI,wI]using hT
 ·refine run_goal (rs:=[.tmp 4]) (ts:=[9]) Tryz.func28 rfl rfl rfl (by kernel_rfl) (by kernel_rfl) (.inl sp_28) (by simp[Tryz.f28]) ?_
  intro T hT
  simp -dsimp -implicitDefEqProofs (disch:=first|omega|assumption) [startSlots,nI,wI,strD,hs,hE,e1,hall,htk,cut,hp',hm]
  simpa -dsimp -implicitDefEqProofs (disch:=first|omega|assumption) [nI,wI]using hT
end Go.Am.Ab
namespace Go.Am.Ab
open Go.Proofs
set_option maxHeartbeats 4000000
set_option maxRecDepth 4000
theorem do_act {l w:List UInt8} {r:List (List UInt8)} {a:Ac} (hl:l.length<1000000) (hc:cutL 32 l=w::r) (h1:w≠kSource) (h2:w≠kWorld) (hf:a.fit) (hA:R 61 [W (w::r)] []=some ([.agg (a.v 0),.d (.bool true)],a.h)):R 28 [.ptr 0 0,S l] cBox=some ([S sNo],cBox):=by
 have hs:=split_W hl
 have n1:(w == [115,111,117,114,99,101])=false:=beq_false_of_ne h1
 have n2:(w == [119,111,114,108,100])=false:=beq_false_of_ne h2
 have hsh:=sh_ac hf
 unfold W at*
 rw[hc]at hs
 rw[List.map_cons]at hs hA
 simp only[Ac.v,Ev.v]at hA
 clear hc h1 h2
 generalize r.map strD=X at*
 generalize a.keeps.map kpD=Z at*
 generalize a.e.row.map cl=Y at*
 generalize rowW 0 a.keeps.length=u at*
 generalize rowW 0 a.e.row.length=v at*
 generalize a.h=h at*
 clear hf
 simp only[strD]at hA hs
 rcases hsh with ⟨rfl,rfl,⟨rfl,rfl,rfl⟩ | ⟨q,hq,rfl,rfl⟩⟩ | ⟨rfl,rfl,⟨rfl,rfl,rfl⟩ | ⟨q,hq,rfl,rfl⟩⟩
 ·refine run_goal (rs:=[.tmp 4]) (ts:=[9]) Tryz.func28 rfl rfl rfl (by kernel_rfl) (by kernel_rfl) (.inl sp_28) (by simp[Tryz.f28]) ?_
  intro T hT
  simp -dsimp -implicitDefEqProofs (disch:=first|omega|assumption) [startSlots,nI,wI,strD,hs,hA,n1,n2]
  simpa -dsimp -implicitDefEqProofs (disch:=first|omega|assumption) [nI,wI]using hT
 ·refine run_goal (rs:=[.tmp 4]) (ts:=[9]) Tryz.func28 rfl rfl rfl (by kernel_rfl) (by kernel_rfl) (.inl sp_28) (by simp[Tryz.f28]) ?_
  intro T hT
  simp -dsimp -implicitDefEqProofs (disch:=first|omega|assumption) [startSlots,nI,wI,strD,hs,hA,n1,n2,hq]
  simpa -dsimp -implicitDefEqProofs (disch:=first|omega|assumption) [nI,wI]using hT
 ·refine run_goal (rs:=[.tmp 4]) (ts:=[9]) Tryz.func28 rfl rfl rfl (by kernel_rfl) (by kernel_rfl) (.inl sp_28) (by simp[Tryz.f28]) ?_
  intro T hT
  simp -dsimp -implicitDefEqProofs (disch:=first|omega|assumption) [startSlots,nI,wI,strD,hs,hA,n1,n2]
  simpa -dsimp -implicitDefEqProofs (disch:=first|omega|assumption) [nI,wI]using hT
 ·refine run_goal (rs:=[.tmp 4]) (ts:=[9]) Tryz.func28 rfl rfl rfl (by kernel_rfl) (by kernel_rfl) (.inl sp_28) (by simp[Tryz.f28]) ?_
  intro T hT
  simp -dsimp -implicitDefEqProofs (disch:=first|omega|assumption) [startSlots,nI,wI,strD,hs,hA,n1,n2,hq]
  simpa -dsimp -implicitDefEqProofs (disch:=first|omega|assumption) [nI,wI]using hT
theorem do_ask {l w ans:List UInt8} {r:List (List UInt8)} {a:Ac} (hl:l.length<1000000) (hc:cutL 32 l=w::r) (h1:w≠kSource) (h2:w≠kWorld) (hf:a.fit) (hA:R 61 [W (w::r)] []=some ([.agg (a.v 0),.d (.bool false)],a.h)) (hQ:R 63 [.ptr 0 0,S w,W r] cBox=some ([S ans],cBox)):R 28 [.ptr 0 0,S l] cBox=some ([S ans],cBox):=by
 have hs:=split_W hl
 obtain⟨e1,hall,htk⟩:=tail_facts r
 have n1:(w == [115,111,117,114,99,101])=false:=beq_false_of_ne h1
 have n2:(w == [119,111,114,108,100])=false:=beq_false_of_ne h2
 have hsh:=sh_ac hf
 unfold W at*
 rw[hc]at hs
 rw[List.map_cons]at hs hA
 simp only[Ac.v,Ev.v]at hA
 clear hc h1 h2
 generalize r.map strD=X at*
 generalize a.keeps.map kpD=Z at*
 generalize a.e.row.map cl=Y at*
 generalize rowW 0 a.keeps.length=u at*
 generalize rowW 0 a.e.row.length=v at*
 generalize a.h=h at*
 clear hf
 simp only[strD]at hA hs
 rcases hsh with ⟨rfl,rfl,⟨rfl,rfl,rfl⟩ | ⟨q,hq,rfl,rfl⟩⟩ | ⟨rfl,rfl,⟨rfl,rfl,rfl⟩ | ⟨q,hq,rfl,rfl⟩⟩
 ·refine run_goal (rs:=[.tmp 4]) (ts:=[9]) Tryz.func28 rfl rfl rfl (by kernel_rfl) (by kernel_rfl) (.inl sp_28) (by simp[Tryz.f28]) ?_
  intro T hT
  simp -dsimp -implicitDefEqProofs (disch:=first|omega|assumption) [startSlots,nI,wI,strD,hs,hA,n1,n2,e1,hall,htk,cut,hQ]
  simpa -dsimp -implicitDefEqProofs (disch:=first|omega|assumption) [nI,wI]using hT
 ·refine run_goal (rs:=[.tmp 4]) (ts:=[9]) Tryz.func28 rfl rfl rfl (by kernel_rfl) (by kernel_rfl) (.inl sp_28) (by simp[Tryz.f28]) ?_
  intro T hT
  simp -dsimp -implicitDefEqProofs (disch:=first|omega|assumption) [startSlots,nI,wI,strD,hs,hA,n1,n2,hq,e1,hall,htk,cut,hQ]
  simpa -dsimp -implicitDefEqProofs (disch:=first|omega|assumption) [nI,wI]using hT
 ·refine run_goal (rs:=[.tmp 4]) (ts:=[9]) Tryz.func28 rfl rfl rfl (by kernel_rfl) (by kernel_rfl) (.inl sp_28) (by simp[Tryz.f28]) ?_
  intro T hT
  simp -dsimp -implicitDefEqProofs (disch:=first|omega|assumption) [startSlots,nI,wI,strD,hs,hA,n1,n2,e1,hall,htk,cut,hQ]
  simpa -dsimp -implicitDefEqProofs (disch:=first|omega|assumption) [nI,wI]using hT
 ·refine run_goal (rs:=[.tmp 4]) (ts:=[9]) Tryz.func28 rfl rfl rfl (by kernel_rfl) (by kernel_rfl) (.inl sp_28) (by simp[Tryz.f28]) ?_
  intro T hT
  simp -dsimp -implicitDefEqProofs (disch:=first|omega|assumption) [startSlots,nI,wI,strD,hs,hA,n1,n2,hq,e1,hall,htk,cut,hQ]
  simpa -dsimp -implicitDefEqProofs (disch:=first|omega|assumption) [nI,wI]using hT
end Go.Am.Ab
