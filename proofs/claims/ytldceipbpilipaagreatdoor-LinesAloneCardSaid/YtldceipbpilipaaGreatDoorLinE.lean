/- Acts of words. -/
import Derived.Test.YtldceipbpilipaaGreatDoorLinD
set_option linter.all false
namespace Go.Am.Ab
open Go.Proofs
set_option maxHeartbeats 4000000
set_option maxRecDepth 4000
abbrev wDeliver:List UInt8:=[100,101,108,105,118,101,114]
abbrev wAgain:List UInt8:=[97,103,97,105,110]
abbrev wTick:List UInt8:=[116,105,99,107]
abbrev wFuse:List UInt8:=[102,117,115,101]
abbrev wFail:List UInt8:=[102,97,105,108]
abbrev wFlush:List UInt8:=[102,108,117,115,104]
abbrev wReady:List UInt8:=[114,101,97,100,121]
abbrev wDone:List UInt8:=[100,111,110,101]
abbrev wSweep:List UInt8:=[115,119,101,101,112]
abbrev wExpire:List UInt8:=[101,120,112,105,114,101]
abbrev wCrash:List UInt8:=[99,114,97,115,104]
abbrev wOdd:List UInt8:=[111,100,100]
structure Ac where
 k:Int
 n:Int
 keep:Int
 age:Int
 keeps:List (List UInt8)
 e:Ev
def Ev.nil:Ev:=⟨0,[],0,0,[],[],0⟩
abbrev acV (k n keep age:Int) (keeps:V) (e:List V):List V:=[.d (.int .u8 k),.d (.int .i64 n),.d (.int .i64 keep),.d (.int .u64 age),keeps]++e
abbrev Ac.v (a:Ac) (b:Nat):List V:=acV a.k a.n a.keep a.age (rowW b a.keeps.length) (a.e.v b)
def kpD (w:List UInt8):D:= .int .i64 (numV w)
def keepO (r:List (List UInt8)):Nat→List Obj
 |0=>[]
 |n+1=>[.arr 1 ((r.take (n+1)).map kpD) 0]
theorem keepO_pos {r:List (List UInt8)} {i:Nat} (h:0<i):keepO r i=[.arr 1 ((r.take i).map kpD) 0]:=by cases i with | zero=>omega | succ i=>rfl
abbrev Ac.h (a:Ac):List Obj:=keepO a.keeps a.keeps.length++a.e.h
abbrev okN (w:List UInt8):Bool:=numOk w (-999999999)
def cntK (w:List UInt8):Int:=if w=wDeliver then 1 else if w=wAgain then 2 else if w=wTick then 4 else if w=wFuse then 9 else if w=wFail then 10 else 0
def plnK (w:List UInt8):Int:=if w=wFlush then 3 else if w=wReady then 5 else if w=wDone then 6 else if w=wSweep then 8 else 0
theorem counted_runs {w:List UInt8} (hw:w=wDeliver∨w=wAgain∨w=wTick∨w=wFuse∨w=wFail):R 105 [S w] []=some ([.d (.int .u8 (cntK w))],[]):=by
 rcases hw with rfl | rfl | rfl | rfl | rfl
 ·rw[show cntK wDeliver=1 from rfl]
  refine run_goal (rs:=[.tmp 2]) (ts:=[5]) Tryz.func105 rfl rfl rfl (by kernel_rfl) (by kernel_rfl) (.inl sp_105) (by simp[Tryz.f105]) ?_
  intro T hT
  simp -dsimp -implicitDefEqProofs (disch:=first|omega|assumption) [startSlots,nI,wI]
  simpa -dsimp -implicitDefEqProofs (disch:=first|omega|assumption) [nI,wI]using hT
 ·rw[show cntK wAgain=2 from rfl]
  refine run_goal (rs:=[.tmp 2]) (ts:=[5]) Tryz.func105 rfl rfl rfl (by kernel_rfl) (by kernel_rfl) (.inl sp_105) (by simp[Tryz.f105]) ?_
  intro T hT
  simp -dsimp -implicitDefEqProofs (disch:=first|omega|assumption) [startSlots,nI,wI]
  simpa -dsimp -implicitDefEqProofs (disch:=first|omega|assumption) [nI,wI]using hT
 ·rw[show cntK wTick=4 from rfl]
  refine run_goal (rs:=[.tmp 2]) (ts:=[5]) Tryz.func105 rfl rfl rfl (by kernel_rfl) (by kernel_rfl) (.inl sp_105) (by simp[Tryz.f105]) ?_
  intro T hT
  simp -dsimp -implicitDefEqProofs (disch:=first|omega|assumption) [startSlots,nI,wI]
  simpa -dsimp -implicitDefEqProofs (disch:=first|omega|assumption) [nI,wI]using hT
 ·rw[show cntK wFuse=9 from rfl]
  refine run_goal (rs:=[.tmp 2]) (ts:=[5]) Tryz.func105 rfl rfl rfl (by kernel_rfl) (by kernel_rfl) (.inl sp_105) (by simp[Tryz.f105]) ?_
  intro T hT
  simp -dsimp -implicitDefEqProofs (disch:=first|omega|assumption) [startSlots,nI,wI]
  simpa -dsimp -implicitDefEqProofs (disch:=first|omega|assumption) [nI,wI]using hT
 ·rw[show cntK wFail=10 from rfl]
  refine run_goal (rs:=[.tmp 2]) (ts:=[5]) Tryz.func105 rfl rfl rfl (by kernel_rfl) (by kernel_rfl) (.inl sp_105) (by simp[Tryz.f105]) ?_
  intro T hT
  simp -dsimp -implicitDefEqProofs (disch:=first|omega|assumption) [startSlots,nI,wI]
  simpa -dsimp -implicitDefEqProofs (disch:=first|omega|assumption) [nI,wI]using hT
theorem plain_runs {w:List UInt8} (hw:w=wFlush∨w=wReady∨w=wDone∨w=wSweep):R 106 [S w] []=some ([.d (.int .u8 (plnK w))],[]):=by
 rcases hw with rfl | rfl | rfl | rfl
 ·rw[show plnK wFlush=3 from rfl]
  refine run_goal (rs:=[.tmp 2]) (ts:=[5]) Tryz.func106 rfl rfl rfl (by kernel_rfl) (by kernel_rfl) (.inl sp_106) (by simp[Tryz.f106]) ?_
  intro T hT
  simp -dsimp -implicitDefEqProofs (disch:=first|omega|assumption) [startSlots,nI,wI]
  simpa -dsimp -implicitDefEqProofs (disch:=first|omega|assumption) [nI,wI]using hT
 ·rw[show plnK wReady=5 from rfl]
  refine run_goal (rs:=[.tmp 2]) (ts:=[5]) Tryz.func106 rfl rfl rfl (by kernel_rfl) (by kernel_rfl) (.inl sp_106) (by simp[Tryz.f106]) ?_
  intro T hT
  simp -dsimp -implicitDefEqProofs (disch:=first|omega|assumption) [startSlots,nI,wI]
  simpa -dsimp -implicitDefEqProofs (disch:=first|omega|assumption) [nI,wI]using hT
 ·rw[show plnK wDone=6 from rfl]
  refine run_goal (rs:=[.tmp 2]) (ts:=[5]) Tryz.func106 rfl rfl rfl (by kernel_rfl) (by kernel_rfl) (.inl sp_106) (by simp[Tryz.f106]) ?_
  intro T hT
  simp -dsimp -implicitDefEqProofs (disch:=first|omega|assumption) [startSlots,nI,wI]
  simpa -dsimp -implicitDefEqProofs (disch:=first|omega|assumption) [nI,wI]using hT
 ·rw[show plnK wSweep=8 from rfl]
  refine run_goal (rs:=[.tmp 2]) (ts:=[5]) Tryz.func106 rfl rfl rfl (by kernel_rfl) (by kernel_rfl) (.inl sp_106) (by simp[Tryz.f106]) ?_
  intro T hT
  simp -dsimp -implicitDefEqProofs (disch:=first|omega|assumption) [startSlots,nI,wI]
  simpa -dsimp -implicitDefEqProofs (disch:=first|omega|assumption) [nI,wI]using hT
theorem act_cnt1 {w a:List UInt8} (hw:w=wDeliver∨w=wAgain∨w=wTick∨w=wFuse∨w=wFail) (hl:a.length<1000000):R 61 [W [w,a]] []=some ([.agg (acV (cntK w) (numV a) 0 0 .nilS evN),.d (.bool (okN a))],[]):=by
 have hc:=counted_runs hw
 have hn:=number_runs (l:=a) (by omega) (low:= -999999999)
 unfold okN
 generalize cntK w=k at*
 unfold W
 simp only[List.map_cons,List.map_nil]
 rcases hw with rfl | rfl | rfl | rfl | rfl
 all_goals
  refine run_goal (rs:=[.cell 2 106,.tmp 3]) (ts:=[106,4]) Tryz.func61 rfl rfl rfl (by kernel_rfl) (by kernel_rfl) (.inl sp_61) (by simp[Tryz.f61]) ?_
  intro T hT
  simp -dsimp -implicitDefEqProofs (disch:=first|omega|assumption) [startSlots,nI,wI,strD,hn,hc]
  simpa -dsimp -implicitDefEqProofs (disch:=first|omega|assumption) [nI,wI]using hT
theorem act_cnt0 {w:List UInt8} {r:List (List UInt8)} (hw:w=wDeliver∨w=wAgain∨w=wTick∨w=wFuse∨w=wFail) (hr:r.length≠1):R 61 [W (w::r)] []=some ([.agg (acV 0 0 0 0 .nilS evN),.d (.bool false)],[]):=by
 have e1:(r.map strD).length=r.length:=by simp
 have hall:allSize 1 (r.map strD)=true:=allSize_words r
 have htk:(r.map strD).take r.length=r.map strD:=List.take_of_length_le (by simp)
 have g1: ¬ (r.length:Int)=1:=by omega
 unfold W
 rw[List.map_cons]
 generalize hX:r.map strD=X at*
 rcases hw with rfl | rfl | rfl | rfl | rfl
 all_goals
  refine run_goal (rs:=[.cell 2 106,.tmp 3]) (ts:=[106,4]) Tryz.func61 rfl rfl rfl (by kernel_rfl) (by kernel_rfl) (.inl sp_61) (by simp[Tryz.f61]) ?_
  intro T hT
  simp -dsimp -implicitDefEqProofs (disch:=first|omega|assumption) [startSlots,nI,wI,strD,e1,hall,htk,cut,g1,hr]
  simpa -dsimp -implicitDefEqProofs (disch:=first|omega|assumption) [nI,wI]using hT
theorem act_pln {w:List UInt8} {r:List (List UInt8)} (hw:w=wFlush∨w=wReady∨w=wDone∨w=wSweep):R 61 [W (w::r)] []=some ([.agg (acV (plnK w) 0 0 0 .nilS evN),.d (.bool (decide (r.length=0)))],[]):=by
 have e1:(r.map strD).length=r.length:=by simp
 have hall:allSize 1 (r.map strD)=true:=allSize_words r
 have htk:(r.map strD).take r.length=r.map strD:=List.take_of_length_le (by simp)
 have hc:=plain_runs hw
 generalize plnK w=k at*
 unfold W
 rw[List.map_cons]
 generalize hX:r.map strD=X at*
 by_cases hr:r.length=0
 ·have g1:(r.length:Int)=0:=by omega
  rw[hr]at htk e1
  rw[decide_eq_true hr]
  rcases hw with rfl | rfl | rfl | rfl
  all_goals
   refine run_goal (rs:=[.cell 2 106,.tmp 3]) (ts:=[106,4]) Tryz.func61 rfl rfl rfl (by kernel_rfl) (by kernel_rfl) (.inl sp_61) (by simp[Tryz.f61]) ?_
   intro T hT
   simp -dsimp -implicitDefEqProofs (disch:=first|omega|assumption) [startSlots,nI,wI,strD,e1,hall,htk,cut,g1,hr,hc]
   simpa -dsimp -implicitDefEqProofs (disch:=first|omega|assumption) [nI,wI]using hT
 ·have g1: ¬ (r.length:Int)=0:=by omega
  rw[decide_eq_false hr]
  rcases hw with rfl | rfl | rfl | rfl
  all_goals
   refine run_goal (rs:=[.cell 2 106,.tmp 3]) (ts:=[106,4]) Tryz.func61 rfl rfl rfl (by kernel_rfl) (by kernel_rfl) (.inl sp_61) (by simp[Tryz.f61]) ?_
   intro T hT
   simp -dsimp -implicitDefEqProofs (disch:=first|omega|assumption) [startSlots,nI,wI,strD,e1,hall,htk,cut,g1,hr,hc]
   simpa -dsimp -implicitDefEqProofs (disch:=first|omega|assumption) [nI,wI]using hT
theorem act_exp2 {a b:List UInt8} (ha:a.length<1000000) (hb:b.length<1000000):R 61 [W [wExpire,a,b]] []=some ([.agg (acV 7 0 (numV a) (IntKind.u64.wrap (numV b)) .nilS evN),.d (.bool (okN a && numOk b 0))],[]):=by
 have hn:=number_runs (l:=a) (by omega) (low:= -999999999)
 have hk:=number_runs (l:=b) (by omega) (low:=0)
 unfold W okN
 simp only[List.map_cons,List.map_nil]
 cases hc:numOk a (-999999999) with
 |true=>
  rw[hc]at hn
  refine run_goal (rs:=[.cell 2 106,.tmp 3]) (ts:=[106,4]) Tryz.func61 rfl rfl rfl (by kernel_rfl) (by kernel_rfl) (.inl sp_61) (by simp[Tryz.f61]) ?_
  intro T hT
  simp -dsimp -implicitDefEqProofs (disch:=first|omega|assumption) [startSlots,nI,wI,strD,hn,hk]
  simpa -dsimp -implicitDefEqProofs (disch:=first|omega|assumption) [nI,wI]using hT
 |false=>
  rw[hc]at hn
  refine run_goal (rs:=[.cell 2 106,.tmp 3]) (ts:=[106,4]) Tryz.func61 rfl rfl rfl (by kernel_rfl) (by kernel_rfl) (.inl sp_61) (by simp[Tryz.f61]) ?_
  intro T hT
  simp -dsimp -implicitDefEqProofs (disch:=first|omega|assumption) [startSlots,nI,wI,strD,hn,hk]
  simpa -dsimp -implicitDefEqProofs (disch:=first|omega|assumption) [nI,wI]using hT
theorem act_exp0 {r:List (List UInt8)} (hr:r.length≠2):R 61 [W (wExpire::r)] []=some ([.agg (acV 0 0 0 0 .nilS evN),.d (.bool false)],[]):=by
 have e1:(r.map strD).length=r.length:=by simp
 have hall:allSize 1 (r.map strD)=true:=allSize_words r
 have htk:(r.map strD).take r.length=r.map strD:=List.take_of_length_le (by simp)
 have g1: ¬ (r.length:Int)=2:=by omega
 unfold W
 rw[List.map_cons]
 generalize hX:r.map strD=X at*
 refine run_goal (rs:=[.cell 2 106,.tmp 3]) (ts:=[106,4]) Tryz.func61 rfl rfl rfl (by kernel_rfl) (by kernel_rfl) (.inl sp_61) (by simp[Tryz.f61]) ?_
 intro T hT
 simp -dsimp -implicitDefEqProofs (disch:=first|omega|assumption) [startSlots,nI,wI,strD,e1,hall,htk,cut,g1,hr]
 simpa -dsimp -implicitDefEqProofs (disch:=first|omega|assumption) [nI,wI]using hT
end Go.Am.Ab
namespace Go.Am.Ab
open Go.Proofs
set_option maxHeartbeats 4000000
set_option maxRecDepth 4000
abbrev acN:List V:=acV 0 0 0 0 .nilS evN
theorem act_crash {r:List (List UInt8)} (hl: ∀w∈r,w.length<1000000) (hn:r.length<1000000):R 61 [W (wCrash::r)] []=
 some (if r.all okN=true then ([.agg (acV 11 0 0 0 (rowW 0 r.length) evN),.d (.bool (decide (r.length≤64)))],keepO r r.length) else ([.agg acN,.d (.bool false)],[])):=by
 have e1:(r.map strD).length=r.length:=by simp
 have hall:allSize 1 (r.map strD)=true:=allSize_words r
 have htk:(r.map strD).take r.length=r.map strD:=List.take_of_length_le (by simp)
 have hget: ∀i (h:i<r.length) (h':i<(r.map strD).length),(r.map strD)[i]= .str ⟨(r[i]).toArray⟩:=fun i h h'=>by rw[List.getElem_map];rfl
 unfold W
 rw[List.map_cons]
 generalize hX:r.map strD=X at*
 refine run_goal (rs:=[.cell 2 106,.tmp 3]) (ts:=[106,4]) Tryz.func61 rfl rfl rfl (by kernel_rfl) (by kernel_rfl) (.inl sp_61) (by simp[Tryz.f61]) ?_
 intro T hT
 simp -dsimp -implicitDefEqProofs (disch:=first|omega|assumption) [startSlots,nI,wI,strD,e1,hall,htk,cut]
 generalize hz:loopT _ _ _ _ _ _=z
 revert z
 refine loop_any (σ:=Nat) (fun i=>[(0,.d (.list X)),(2,.ptr 0 0),(11,.ptr 1 0),(88,.d (.list X)),(89,I r.length),(90,I i)]) (fun i=>[.box acN,.box (acV 11 0 0 0 (rowW 2 i) evN)]++keepO r i) (fun i=>i≤r.length∧(r.take i).all okN=true) (fun i=>r.length - i) 0 ?_ ?_ ?_
 ·exact⟨Nat.zero_le _,rfl⟩
 ·simp -dsimp -implicitDefEqProofs (disch:=first|omega|assumption) [rowW,keepO]
 intro T' f hT' i ⟨hi,hok⟩ ih
 by_cases hlt:i<r.length
 ·have hlt':(i:Int)<r.length:=by omega
  have hx:=hget i hlt (by omega)
  have hn:=number_runs (l:=r[i]) (by have:=hl r[i] (List.getElem_mem hlt);omega) (low:= -999999999)
  have hcl:kpD r[i]= .int .i64 (numV r[i]):=rfl
  have hokc:okN r[i]=numOk r[i] (-999999999):=rfl
  have htk1:(r.take (i+1)).map kpD=(r.take i).map kpD++[kpD r[i]]:=by rw[List.take_add_one,List.getElem?_eq_getElem hlt,List.map_append];rfl
  have hal1:(r.take (i+1)).all okN=((r.take i).all okN && okN r[i]):=by rw[List.take_add_one,List.getElem?_eq_getElem hlt,List.all_append];simp only[Option.toList_some,List.all_cons,List.all_nil,Bool.and_true]
  have htl:((r.take i).map kpD).length=i:=by simp;omega
  have hp1:=rowW_pos (k:=2) (i:=i+1) (by omega)
  have hp2:=keepO_pos (r:=r) (i:=i+1) (by omega)
  rw[← hokc]at hn
  clear hokc
  have hno:okN r[i]=false→r.all okN=false:=fun hf=>by
   rw[List.all_eq_false]
   exact⟨r[i],List.getElem_mem hlt,by rw[hf];decide⟩
  by_cases h0:i=0
  ·subst h0
   cases hc:okN r[0] with
   |true=>
    rw[hc]at hn
    simp only[rowW,keepO]
    simp -dsimp -implicitDefEqProofs (disch:=first|omega|assumption) [nI,wI,hlt,hlt',hx,hn,e1]
    refine ih (0+1) _ _ ⟨by omega,by rw[hal1,hok];exact hc⟩ (by omega) ?_
    simp -dsimp -implicitDefEqProofs (disch:=first|omega|assumption) [hp1,hp2,htk1,hcl]
   |false=>
    rw[hc]at hn
    rw[hno hc]at hT
    subst hT'
    simp only[rowW,keepO]
    simp -dsimp -implicitDefEqProofs (disch:=first|omega|assumption) [nI,wI,hlt,hlt',hx,hn,e1]
    simpa -dsimp -implicitDefEqProofs (disch:=first|omega|assumption) [nI,wI]using hT
  ·have hq1:=rowW_pos (k:=2) (i:=i) (by omega)
   have hq2:=keepO_pos (r:=r) (i:=i) (by omega)
   cases hc:okN r[i] with
   |true=>
    rw[hc]at hn
    rw[hq1,hq2]
    simp -dsimp -implicitDefEqProofs (disch:=first|omega|assumption) [nI,wI,hlt,hlt',hx,hn,e1,htl]
    refine ih (i+1) _ _ ⟨by omega,by rw[hal1,hok];exact hc⟩ (by omega) ?_
    simp -dsimp -implicitDefEqProofs (disch:=first|omega|assumption) [hp1,hp2,htk1,hcl]
   |false=>
    rw[hc]at hn
    rw[hno hc]at hT
    subst hT'
    rw[hq1,hq2]
    simp -dsimp -implicitDefEqProofs (disch:=first|omega|assumption) [nI,wI,hlt,hlt',hx,hn,e1,htl]
    simpa -dsimp -implicitDefEqProofs (disch:=first|omega|assumption) [nI,wI]using hT
 ·have:i=r.length:=by omega
  subst this
  rw[List.take_length]at hok
  rw[hok]at hT
  subst hT'
  by_cases h64:r.length≤64
  ·have h64':(r.length:Int)≤64:=by omega
   rw[decide_eq_true h64]at hT
   by_cases h0:r.length=0
   ·rw[h0]at hT e1 h64'
    rw[h0]
    simp only[rowW,keepO]at hT ⊢
    simp -dsimp -implicitDefEqProofs (disch:=first|omega|assumption) [nI,wI,e1,h64']
    simpa -dsimp -implicitDefEqProofs (disch:=first|omega|assumption) [nI,wI]using hT
   ·rw[rowW_pos (by omega),keepO_pos (by omega)]at hT ⊢
    simp -dsimp -implicitDefEqProofs (disch:=first|omega|assumption) [nI,wI,e1,h64']
    simpa -dsimp -implicitDefEqProofs (disch:=first|omega|assumption) [nI,wI]using hT
  ·have h64': ¬ (r.length:Int)≤64:=by omega
   rw[decide_eq_false h64]at hT
   rw[rowW_pos (by omega),keepO_pos (by omega)]at hT ⊢
   simp -dsimp -implicitDefEqProofs (disch:=first|omega|assumption) [nI,wI,e1,h64']
   simpa -dsimp -implicitDefEqProofs (disch:=first|omega|assumption) [nI,wI]using hT
theorem act_odd {r:List (List UInt8)} {e:Ev} {ok:Bool} (hr:r≠[]) (hE:R 59 [W r] []=some ([.agg (e.v 0),.d (.bool ok)],e.h)):R 61 [W (wOdd::r)] []=some ([.agg (acV 12 0 0 0 .nilS (e.v 0)),.d (.bool ok)],e.h):=by
 have e1:(r.map strD).length=r.length:=by simp
 have hall:allSize 1 (r.map strD)=true:=allSize_words r
 have htk:(r.map strD).take r.length=r.map strD:=List.take_of_length_le (by simp)
 have hp:0<r.length:=List.length_pos_iff.2 hr
 have hp':(0:Int)<r.length:=by omega
 unfold W at*
 rw[List.map_cons]
 generalize hX:r.map strD=X at*
 cases hrow:e.row.length with
 |zero=>
  simp only[Ev.v,Ev.h,hrow,rowW,rowO]at hE ⊢
  cases ok
  all_goals
   refine run_goal (rs:=[.cell 2 106,.tmp 3]) (ts:=[106,4]) Tryz.func61 rfl rfl rfl (by kernel_rfl) (by kernel_rfl) (.inl sp_61) (by simp[Tryz.f61]) ?_
   intro T hT
   simp -dsimp -implicitDefEqProofs (disch:=first|omega|assumption) [startSlots,nI,wI,strD,e1,hall,htk,cut,hp,hp',hE]
   simpa -dsimp -implicitDefEqProofs (disch:=first|omega|assumption) [nI,wI]using hT
 |succ n=>
  simp only[Ev.v,Ev.h,hrow,rowW,rowO]at hE ⊢
  generalize (e.row.take (n+1)).map cl=Y at*
  cases ok
  all_goals
   refine run_goal (rs:=[.cell 2 106,.tmp 3]) (ts:=[106,4]) Tryz.func61 rfl rfl rfl (by kernel_rfl) (by kernel_rfl) (.inl sp_61) (by simp[Tryz.f61]) ?_
   intro T hT
   simp -dsimp -implicitDefEqProofs (disch:=first|omega|assumption) [startSlots,nI,wI,strD,e1,hall,htk,cut,hp,hp',hE]
   simpa -dsimp -implicitDefEqProofs (disch:=first|omega|assumption) [nI,wI]using hT
theorem act_odd0:R 61 [W [wOdd]] []=some ([.agg acN,.d (.bool false)],[]):=by
 unfold W
 simp only[List.map_cons,List.map_nil]
 refine run_goal (rs:=[.cell 2 106,.tmp 3]) (ts:=[106,4]) Tryz.func61 rfl rfl rfl (by kernel_rfl) (by kernel_rfl) (.inl sp_61) (by simp[Tryz.f61]) ?_
 intro T hT
 simp -dsimp -implicitDefEqProofs (disch:=first|omega|assumption) [startSlots,nI,wI,strD]
 simpa -dsimp -implicitDefEqProofs (disch:=first|omega|assumption) [nI,wI]using hT
theorem act_none {w:List UInt8} {r:List (List UInt8)} (h0:w≠wDeliver) (h1:w≠wAgain) (h2:w≠wTick) (h3:w≠wFuse) (h4:w≠wFail) (h5:w≠wFlush) (h6:w≠wReady) (h7:w≠wDone) (h8:w≠wSweep) (h9:w≠wExpire) (h10:w≠wCrash) (h11:w≠wOdd):R 61 [W (w::r)] []=some ([.agg acN,.d (.bool false)],[]):=by
 have e1:(r.map strD).length=r.length:=by simp
 have hall:allSize 1 (r.map strD)=true:=allSize_words r
 have htk:(r.map strD).take r.length=r.map strD:=List.take_of_length_le (by simp)
 have n0:(w == [100,101,108,105,118,101,114])=false:=beq_false_of_ne h0
 have n1:(w == [97,103,97,105,110])=false:=beq_false_of_ne h1
 have n2:(w == [116,105,99,107])=false:=beq_false_of_ne h2
 have n3:(w == [102,117,115,101])=false:=beq_false_of_ne h3
 have n4:(w == [102,97,105,108])=false:=beq_false_of_ne h4
 have n5:(w == [102,108,117,115,104])=false:=beq_false_of_ne h5
 have n6:(w == [114,101,97,100,121])=false:=beq_false_of_ne h6
 have n7:(w == [100,111,110,101])=false:=beq_false_of_ne h7
 have n8:(w == [115,119,101,101,112])=false:=beq_false_of_ne h8
 have n9:(w == [101,120,112,105,114,101])=false:=beq_false_of_ne h9
 have n10:(w == [99,114,97,115,104])=false:=beq_false_of_ne h10
 have n11:(w == [111,100,100])=false:=beq_false_of_ne h11
 unfold W
 rw[List.map_cons]
 generalize hX:r.map strD=X at*
 refine run_goal (rs:=[.cell 2 106,.tmp 3]) (ts:=[106,4]) Tryz.func61 rfl rfl rfl (by kernel_rfl) (by kernel_rfl) (.inl sp_61) (by simp[Tryz.f61]) ?_
 intro T hT
 simp -dsimp -implicitDefEqProofs (disch:=first|omega|assumption) [startSlots,nI,wI,strD,e1,hall,htk,cut,n0,n1,n2,n3,n4,n5,n6,n7,n8,n9,n10,n11]
 simpa -dsimp -implicitDefEqProofs (disch:=first|omega|assumption) [nI,wI]using hT
end Go.Am.Ab
namespace Go.Am.Ab
open Go.Proofs
set_option maxHeartbeats 4000000
set_option maxRecDepth 4000
theorem ract_cnt1 {w a:List UInt8} (hw:w=wDeliver∨w=wAgain∨w=wTick∨w=wFuse∨w=wFail) (hl:a.length<1000000):R 69 [W [w,a]] []=some ([.agg (acV (cntK w) (rnum a (-999999999)) 0 0 .nilS evN),.d (.bool (okN a))],[]):=by
 have hn:=value_runs a hl (low:= -999999999) (by omega) (by omega)
 unfold okN
 generalize rnum a (-999999999)=n at*
 unfold W
 simp only[List.map_cons,List.map_nil]
 rcases hw with rfl | rfl | rfl | rfl | rfl
 ·rw[show cntK wDeliver=1 from rfl]
  refine run_goal (rs:=[.cell 2 106,.tmp 3]) (ts:=[106,4]) Tryz.func69 rfl rfl rfl (by kernel_rfl) (by kernel_rfl) (.inl sp_69) (by simp[Tryz.f69]) ?_
  intro T hT
  simp -dsimp -implicitDefEqProofs (disch:=first|omega|assumption) [startSlots,nI,wI,strD,hn]
  simpa -dsimp -implicitDefEqProofs (disch:=first|omega|assumption) [nI,wI]using hT
 ·rw[show cntK wAgain=2 from rfl]
  refine run_goal (rs:=[.cell 2 106,.tmp 3]) (ts:=[106,4]) Tryz.func69 rfl rfl rfl (by kernel_rfl) (by kernel_rfl) (.inl sp_69) (by simp[Tryz.f69]) ?_
  intro T hT
  simp -dsimp -implicitDefEqProofs (disch:=first|omega|assumption) [startSlots,nI,wI,strD,hn]
  simpa -dsimp -implicitDefEqProofs (disch:=first|omega|assumption) [nI,wI]using hT
 ·rw[show cntK wTick=4 from rfl]
  refine run_goal (rs:=[.cell 2 106,.tmp 3]) (ts:=[106,4]) Tryz.func69 rfl rfl rfl (by kernel_rfl) (by kernel_rfl) (.inl sp_69) (by simp[Tryz.f69]) ?_
  intro T hT
  simp -dsimp -implicitDefEqProofs (disch:=first|omega|assumption) [startSlots,nI,wI,strD,hn]
  simpa -dsimp -implicitDefEqProofs (disch:=first|omega|assumption) [nI,wI]using hT
 ·rw[show cntK wFuse=9 from rfl]
  refine run_goal (rs:=[.cell 2 106,.tmp 3]) (ts:=[106,4]) Tryz.func69 rfl rfl rfl (by kernel_rfl) (by kernel_rfl) (.inl sp_69) (by simp[Tryz.f69]) ?_
  intro T hT
  simp -dsimp -implicitDefEqProofs (disch:=first|omega|assumption) [startSlots,nI,wI,strD,hn]
  simpa -dsimp -implicitDefEqProofs (disch:=first|omega|assumption) [nI,wI]using hT
 ·rw[show cntK wFail=10 from rfl]
  refine run_goal (rs:=[.cell 2 106,.tmp 3]) (ts:=[106,4]) Tryz.func69 rfl rfl rfl (by kernel_rfl) (by kernel_rfl) (.inl sp_69) (by simp[Tryz.f69]) ?_
  intro T hT
  simp -dsimp -implicitDefEqProofs (disch:=first|omega|assumption) [startSlots,nI,wI,strD,hn]
  simpa -dsimp -implicitDefEqProofs (disch:=first|omega|assumption) [nI,wI]using hT
theorem ract_cnt0 {w:List UInt8} {r:List (List UInt8)} (hw:w=wDeliver∨w=wAgain∨w=wTick∨w=wFuse∨w=wFail) (hr:r.length≠1):R 69 [W (w::r)] []=some ([.agg acN,.d (.bool false)],[]):=by
 have e1:(r.map strD).length=r.length:=by simp
 have g1: ¬ (r.length:Int)=1:=by omega
 have g2: ¬ (r.length:Int)+1=2:=by omega
 unfold W
 rw[List.map_cons]
 generalize hX:r.map strD=X at*
 rcases hw with rfl | rfl | rfl | rfl | rfl
 all_goals
  refine run_goal (rs:=[.cell 2 106,.tmp 3]) (ts:=[106,4]) Tryz.func69 rfl rfl rfl (by kernel_rfl) (by kernel_rfl) (.inl sp_69) (by simp[Tryz.f69]) ?_
  intro T hT
  simp -dsimp -implicitDefEqProofs (disch:=first|omega|assumption) [startSlots,nI,wI,strD,e1,g1,g2,hr]
  simpa -dsimp -implicitDefEqProofs (disch:=first|omega|assumption) [nI,wI]using hT
theorem ract_pln {w:List UInt8} {r:List (List UInt8)} (hw:w=wFlush∨w=wReady∨w=wDone∨w=wSweep):R 69 [W (w::r)] []=some ([.agg (acV (plnK w) 0 0 0 .nilS evN),.d (.bool (decide (r.length=0)))],[]):=by
 have e1:(r.map strD).length=r.length:=by simp
 unfold W
 rw[List.map_cons]
 generalize hX:r.map strD=X at*
 by_cases hr:r.length=0
 ·have g2:(r.length:Int)+1=1:=by omega
  rw[decide_eq_true hr]
  rw[hr]at e1
  rcases hw with rfl | rfl | rfl | rfl
  ·rw[show plnK wFlush=3 from rfl]
   refine run_goal (rs:=[.cell 2 106,.tmp 3]) (ts:=[106,4]) Tryz.func69 rfl rfl rfl (by kernel_rfl) (by kernel_rfl) (.inl sp_69) (by simp[Tryz.f69]) ?_
   intro T hT
   simp -dsimp -implicitDefEqProofs (disch:=first|omega|assumption) [startSlots,nI,wI,strD,e1,g2]
   simpa -dsimp -implicitDefEqProofs (disch:=first|omega|assumption) [nI,wI]using hT
  ·rw[show plnK wReady=5 from rfl]
   refine run_goal (rs:=[.cell 2 106,.tmp 3]) (ts:=[106,4]) Tryz.func69 rfl rfl rfl (by kernel_rfl) (by kernel_rfl) (.inl sp_69) (by simp[Tryz.f69]) ?_
   intro T hT
   simp -dsimp -implicitDefEqProofs (disch:=first|omega|assumption) [startSlots,nI,wI,strD,e1,g2]
   simpa -dsimp -implicitDefEqProofs (disch:=first|omega|assumption) [nI,wI]using hT
  ·rw[show plnK wDone=6 from rfl]
   refine run_goal (rs:=[.cell 2 106,.tmp 3]) (ts:=[106,4]) Tryz.func69 rfl rfl rfl (by kernel_rfl) (by kernel_rfl) (.inl sp_69) (by simp[Tryz.f69]) ?_
   intro T hT
   simp -dsimp -implicitDefEqProofs (disch:=first|omega|assumption) [startSlots,nI,wI,strD,e1,g2]
   simpa -dsimp -implicitDefEqProofs (disch:=first|omega|assumption) [nI,wI]using hT
  ·rw[show plnK wSweep=8 from rfl]
   refine run_goal (rs:=[.cell 2 106,.tmp 3]) (ts:=[106,4]) Tryz.func69 rfl rfl rfl (by kernel_rfl) (by kernel_rfl) (.inl sp_69) (by simp[Tryz.f69]) ?_
   intro T hT
   simp -dsimp -implicitDefEqProofs (disch:=first|omega|assumption) [startSlots,nI,wI,strD,e1,g2]
   simpa -dsimp -implicitDefEqProofs (disch:=first|omega|assumption) [nI,wI]using hT
 ·have g1: ¬ (r.length:Int)=0:=by omega
  have g2: ¬ (r.length:Int)+1=1:=by omega
  rw[decide_eq_false hr]
  rcases hw with rfl | rfl | rfl | rfl
  ·rw[show plnK wFlush=3 from rfl]
   refine run_goal (rs:=[.cell 2 106,.tmp 3]) (ts:=[106,4]) Tryz.func69 rfl rfl rfl (by kernel_rfl) (by kernel_rfl) (.inl sp_69) (by simp[Tryz.f69]) ?_
   intro T hT
   simp -dsimp -implicitDefEqProofs (disch:=first|omega|assumption) [startSlots,nI,wI,strD,e1,g1,g2,hr]
   simpa -dsimp -implicitDefEqProofs (disch:=first|omega|assumption) [nI,wI]using hT
  ·rw[show plnK wReady=5 from rfl]
   refine run_goal (rs:=[.cell 2 106,.tmp 3]) (ts:=[106,4]) Tryz.func69 rfl rfl rfl (by kernel_rfl) (by kernel_rfl) (.inl sp_69) (by simp[Tryz.f69]) ?_
   intro T hT
   simp -dsimp -implicitDefEqProofs (disch:=first|omega|assumption) [startSlots,nI,wI,strD,e1,g1,g2,hr]
   simpa -dsimp -implicitDefEqProofs (disch:=first|omega|assumption) [nI,wI]using hT
  ·rw[show plnK wDone=6 from rfl]
   refine run_goal (rs:=[.cell 2 106,.tmp 3]) (ts:=[106,4]) Tryz.func69 rfl rfl rfl (by kernel_rfl) (by kernel_rfl) (.inl sp_69) (by simp[Tryz.f69]) ?_
   intro T hT
   simp -dsimp -implicitDefEqProofs (disch:=first|omega|assumption) [startSlots,nI,wI,strD,e1,g1,g2,hr]
   simpa -dsimp -implicitDefEqProofs (disch:=first|omega|assumption) [nI,wI]using hT
  ·rw[show plnK wSweep=8 from rfl]
   refine run_goal (rs:=[.cell 2 106,.tmp 3]) (ts:=[106,4]) Tryz.func69 rfl rfl rfl (by kernel_rfl) (by kernel_rfl) (.inl sp_69) (by simp[Tryz.f69]) ?_
   intro T hT
   simp -dsimp -implicitDefEqProofs (disch:=first|omega|assumption) [startSlots,nI,wI,strD,e1,g1,g2,hr]
   simpa -dsimp -implicitDefEqProofs (disch:=first|omega|assumption) [nI,wI]using hT
theorem ract_exp2 {a b:List UInt8} (ha:a.length<1000000) (hb:b.length<1000000):R 69 [W [wExpire,a,b]] []=some ([.agg (acV 7 0 (rnum a (-999999999)) (IntKind.u64.wrap (rnum b 0)) .nilS evN),.d (.bool (okN a && numOk b 0))],[]):=by
 have hn:=value_runs a ha (low:= -999999999) (by omega) (by omega)
 have hk:=value_runs b hb (low:=0) (by omega) (by omega)
 generalize rnum a (-999999999)=n at*
 generalize rnum b 0=k at*
 unfold W okN
 simp only[List.map_cons,List.map_nil]
 cases hc:numOk a (-999999999) with
 |true=>
  rw[hc]at hn
  refine run_goal (rs:=[.cell 2 106,.tmp 3]) (ts:=[106,4]) Tryz.func69 rfl rfl rfl (by kernel_rfl) (by kernel_rfl) (.inl sp_69) (by simp[Tryz.f69]) ?_
  intro T hT
  simp -dsimp -implicitDefEqProofs (disch:=first|omega|assumption) [startSlots,nI,wI,strD,hn,hk]
  simpa -dsimp -implicitDefEqProofs (disch:=first|omega|assumption) [nI,wI]using hT
 |false=>
  rw[hc]at hn
  refine run_goal (rs:=[.cell 2 106,.tmp 3]) (ts:=[106,4]) Tryz.func69 rfl rfl rfl (by kernel_rfl) (by kernel_rfl) (.inl sp_69) (by simp[Tryz.f69]) ?_
  intro T hT
  simp -dsimp -implicitDefEqProofs (disch:=first|omega|assumption) [startSlots,nI,wI,strD,hn,hk]
  simpa -dsimp -implicitDefEqProofs (disch:=first|omega|assumption) [nI,wI]using hT
theorem ract_exp0 {r:List (List UInt8)} (hr:r.length≠2):R 69 [W (wExpire::r)] []=some ([.agg acN,.d (.bool false)],[]):=by
 have e1:(r.map strD).length=r.length:=by simp
 have g1: ¬ (r.length:Int)=2:=by omega
 have g2: ¬ (r.length:Int)+1=3:=by omega
 unfold W
 rw[List.map_cons]
 generalize hX:r.map strD=X at*
 refine run_goal (rs:=[.cell 2 106,.tmp 3]) (ts:=[106,4]) Tryz.func69 rfl rfl rfl (by kernel_rfl) (by kernel_rfl) (.inl sp_69) (by simp[Tryz.f69]) ?_
 intro T hT
 simp -dsimp -implicitDefEqProofs (disch:=first|omega|assumption) [startSlots,nI,wI,strD,e1,g1,g2,hr]
 simpa -dsimp -implicitDefEqProofs (disch:=first|omega|assumption) [nI,wI]using hT
theorem ract_crash {r:List (List UInt8)} (hl: ∀w∈r,w.length<1000000) (hn:r.length<1000000):R 69 [W (wCrash::r)] []=
 some (if (r.take 69).all okN=true then ([.agg (acV 11 0 0 0 (rowW 0 (min r.length 69)) evN),.d (.bool (decide (r.length≤64)))],keepO r (min r.length 69)) else ([.agg acN,.d (.bool false)],[])):=by
 have e1:(r.map strD).length=r.length:=by simp
 have hget: ∀i (h:i<r.length) (h':i<(r.map strD).length),(r.map strD)[i]= .str ⟨(r[i]).toArray⟩:=fun i h h'=>by rw[List.getElem_map];rfl
 unfold W
 rw[List.map_cons]
 generalize hX:r.map strD=X at*
 refine run_goal (rs:=[.cell 2 106,.tmp 3]) (ts:=[106,4]) Tryz.func69 rfl rfl rfl (by kernel_rfl) (by kernel_rfl) (.inl sp_69) (by simp[Tryz.f69]) ?_
 intro T hT
 simp -dsimp -implicitDefEqProofs (disch:=first|omega|assumption) [startSlots,nI,wI,strD,e1]
 generalize hz:loopT _ _ _ _ _ _=z
 revert z
 refine loop_any (σ:=Nat) (fun i=>[(0,.d (.list (.str ⟨wCrash.toArray⟩::X))),(2,.ptr 0 0),(5,.ptr 1 0),(12,I (i+1:Nat))]) (fun i=>[.box acN,.box (acV 11 0 0 0 (rowW 2 i) evN)]++keepO r i) (fun i=>i≤r.length∧i≤69∧(r.take i).all okN=true) (fun i=>r.length - i) 0 ?_ ?_ ?_
 ·exact⟨Nat.zero_le _,Nat.zero_le _,rfl⟩
 ·simp -dsimp -implicitDefEqProofs (disch:=first|omega|assumption) [rowW,keepO]
 intro T' f hT' i ⟨hi,hi9,hok⟩ ih
 by_cases hlt:i<r.length∧i<69
 ·obtain⟨hlt,hlt9⟩:=hlt
  have hlt':(i:Int)<r.length:=by omega
  have hlt9':(i:Int)+1<70:=by omega
  have hx:=hget i hlt (by omega)
  have hn:=value_runs r[i] (hl r[i] (List.getElem_mem hlt)) (low:= -999999999) (by omega) (by omega)
  have hcl:kpD r[i]= .int .i64 (numV r[i]):=rfl
  have hokc:okN r[i]=numOk r[i] (-999999999):=rfl
  unfold rnum at hn
  have htk1:(r.take (i+1)).map kpD=(r.take i).map kpD++[kpD r[i]]:=by rw[List.take_add_one,List.getElem?_eq_getElem hlt,List.map_append];rfl
  have hal1:(r.take (i+1)).all okN=((r.take i).all okN && okN r[i]):=by rw[List.take_add_one,List.getElem?_eq_getElem hlt,List.all_append];simp only[Option.toList_some,List.all_cons,List.all_nil,Bool.and_true]
  have htl:((r.take i).map kpD).length=i:=by simp;omega
  have hp1:=rowW_pos (k:=2) (i:=i+1) (by omega)
  have hp2:=keepO_pos (r:=r) (i:=i+1) (by omega)
  rw[← hokc]at hn
  clear hokc
  have hno:okN r[i]=false→ ¬ (r.take 69).all okN=true:=fun hf h=>by
   have hm:r[i]∈r.take 69:=List.mem_take_iff_getElem.2 ⟨i,by omega,rfl⟩
   have:=List.all_eq_true.1 h r[i] hm
   rw[hf]at this;cases this
  by_cases h0:i=0
  ·subst h0
   have h1l:(1:Int)<r.length+1:=by omega
   cases hc:okN r[0] with
   |true=>
    rw[hc,if_pos rfl]at hn
    simp only[rowW,keepO]
    simp -dsimp -implicitDefEqProofs (disch:=first|omega|assumption) [nI,wI,hlt,hlt',hlt9',h1l,hx,hn,e1]
    refine ih (0+1) _ _ ⟨by omega,by omega,by rw[hal1,hok];exact hc⟩ (by omega) ?_
    simp -dsimp -implicitDefEqProofs (disch:=first|omega|assumption) [hp1,hp2,htk1,hcl]
   |false=>
    rw[hc,if_neg (by decide)]at hn
    rw[if_neg (hno hc)]at hT
    subst hT'
    simp only[rowW,keepO]
    simp -dsimp -implicitDefEqProofs (disch:=first|omega|assumption) [nI,wI,hlt,hlt',hlt9',h1l,hx,hn,e1]
    simpa -dsimp -implicitDefEqProofs (disch:=first|omega|assumption) [nI,wI]using hT
  ·have hq1:=rowW_pos (k:=2) (i:=i) (by omega)
   have hq2:=keepO_pos (r:=r) (i:=i) (by omega)
   cases hc:okN r[i] with
   |true=>
    rw[hc,if_pos rfl]at hn
    rw[hq1,hq2]
    simp -dsimp -implicitDefEqProofs (disch:=first|omega|assumption) [nI,wI,hlt,hlt',hlt9',hx,hn,e1,htl]
    refine ih (i+1) _ _ ⟨by omega,by omega,by rw[hal1,hok];exact hc⟩ (by omega) ?_
    simp -dsimp -implicitDefEqProofs (disch:=first|omega|assumption) [hp1,hp2,htk1,hcl]
   |false=>
    rw[hc,if_neg (by decide)]at hn
    rw[if_neg (hno hc)]at hT
    subst hT'
    rw[hq1,hq2]
    simp -dsimp -implicitDefEqProofs (disch:=first|omega|assumption) [nI,wI,hlt,hlt',hlt9',hx,hn,e1,htl]
    simpa -dsimp -implicitDefEqProofs (disch:=first|omega|assumption) [nI,wI]using hT
 ·have hir:i=min r.length 69:=by omega
  have hok69:(r.take 69).all okN=true:=by
   by_cases h:r.length≤69
   ·rw[List.take_of_length_le h,← hok,List.take_of_length_le (by omega)]
   ·rw[show (69:Nat)=i by omega];exact hok
  rw[if_pos hok69,← hir]at hT
  subst hT'
  by_cases h64:r.length≤64
  ·have hi2:i=r.length:=by omega
   subst hi2
   have d3:(r.length:Int)+1≤65:=by omega
   have d1: ¬ (r.length:Int)<r.length:=by omega
   rw[decide_eq_true h64]at hT
   by_cases h0:r.length=0
   ·have hr0:r=[]:=List.length_eq_zero_iff.1 h0
    subst hr0
    have hX0:X=[]:=by rw[← hX];rfl
    subst hX0
    simp only[List.length_nil,rowW,keepO]at hT ⊢
    simp -dsimp -implicitDefEqProofs (disch:=first|omega|assumption) [nI,wI]
    simpa -dsimp -implicitDefEqProofs (disch:=first|omega|assumption) [nI,wI]using hT
   ·rw[rowW_pos (by omega),keepO_pos (by omega)]at hT ⊢
    simp -dsimp -implicitDefEqProofs (disch:=first|omega|assumption) [nI,wI,e1,d3,d1]
    simpa -dsimp -implicitDefEqProofs (disch:=first|omega|assumption) [nI,wI]using hT
  ·rw[decide_eq_false h64]at hT
   rw[rowW_pos (by omega),keepO_pos (by omega)]at hT ⊢
   have d3: ¬ (r.length:Int)+1≤65:=by omega
   by_cases h69:i<r.length
   ·have hi69:i=69:=by omega
    subst hi69
    have d1:(70:Int)<r.length+1:=by omega
    simp -dsimp -implicitDefEqProofs (disch:=first|omega|assumption) [nI,wI,e1,d3,d1]
    simpa -dsimp -implicitDefEqProofs (disch:=first|omega|assumption) [nI,wI]using hT
   ·have d1: ¬ (i:Int)<r.length:=by omega
    simp -dsimp -implicitDefEqProofs (disch:=first|omega|assumption) [nI,wI,e1,d3,d1]
    simpa -dsimp -implicitDefEqProofs (disch:=first|omega|assumption) [nI,wI]using hT
theorem ract_odd {r:List (List UInt8)} (hr:r≠[]) (hl: ∀w∈r,w.length<1000000) (hn:r.length<1000000):R 69 [W (wOdd::r)] []=some (match evOf r with | some e=>([.agg (acV 12 0 0 0 .nilS (e.v 0)),.d (.bool true)],e.h) | none=>([.agg (acV 12 0 0 0 .nilS evN),.d (.bool false)],[])):=by
 have hE:=revent_runs hr hl hn
 have e1:(r.map strD).length=r.length:=by simp
 have hall:allSize 1 (r.map strD)=true:=allSize_words r
 have htk:(r.map strD).take r.length=r.map strD:=List.take_of_length_le (by simp)
 have hp:0<r.length:=List.length_pos_iff.2 hr
 have hp': ¬ (r.length:Int)+1<2:=by omega
 unfold W at*
 rw[List.map_cons]
 generalize hX:r.map strD=X at*
 unfold evD at hE
 cases he:evOf r with
 |none=>
  simp only[he]at hE ⊢
  refine run_goal (rs:=[.cell 2 106,.tmp 3]) (ts:=[106,4]) Tryz.func69 rfl rfl rfl (by kernel_rfl) (by kernel_rfl) (.inl sp_69) (by simp[Tryz.f69]) ?_
  intro T hT
  simp -dsimp -implicitDefEqProofs (disch:=first|omega|assumption) [startSlots,nI,wI,strD,e1,hall,htk,cut,hp,hp',hE]
  simpa -dsimp -implicitDefEqProofs (disch:=first|omega|assumption) [nI,wI]using hT
 |some e=>
  simp only[he]at hE ⊢
  cases hrow:e.row.length with
  |zero=>
   simp only[Ev.v,Ev.h,hrow,rowW,rowO]at hE ⊢
   refine run_goal (rs:=[.cell 2 106,.tmp 3]) (ts:=[106,4]) Tryz.func69 rfl rfl rfl (by kernel_rfl) (by kernel_rfl) (.inl sp_69) (by simp[Tryz.f69]) ?_
   intro T hT
   simp -dsimp -implicitDefEqProofs (disch:=first|omega|assumption) [startSlots,nI,wI,strD,e1,hall,htk,cut,hp,hp',hE]
   simpa -dsimp -implicitDefEqProofs (disch:=first|omega|assumption) [nI,wI]using hT
  |succ n=>
   simp only[Ev.v,Ev.h,hrow,rowW,rowO]at hE ⊢
   generalize (e.row.take (n+1)).map cl=Y at*
   refine run_goal (rs:=[.cell 2 106,.tmp 3]) (ts:=[106,4]) Tryz.func69 rfl rfl rfl (by kernel_rfl) (by kernel_rfl) (.inl sp_69) (by simp[Tryz.f69]) ?_
   intro T hT
   simp -dsimp -implicitDefEqProofs (disch:=first|omega|assumption) [startSlots,nI,wI,strD,e1,hall,htk,cut,hp,hp',hE]
   simpa -dsimp -implicitDefEqProofs (disch:=first|omega|assumption) [nI,wI]using hT
theorem ract_odd0:R 69 [W [wOdd]] []=some ([.agg acN,.d (.bool false)],[]):=by
 unfold W
 simp only[List.map_cons,List.map_nil]
 refine run_goal (rs:=[.cell 2 106,.tmp 3]) (ts:=[106,4]) Tryz.func69 rfl rfl rfl (by kernel_rfl) (by kernel_rfl) (.inl sp_69) (by simp[Tryz.f69]) ?_
 intro T hT
 simp -dsimp -implicitDefEqProofs (disch:=first|omega|assumption) [startSlots,nI,wI,strD]
 simpa -dsimp -implicitDefEqProofs (disch:=first|omega|assumption) [nI,wI]using hT
theorem ract_none {w:List UInt8} {r:List (List UInt8)} (h0:w≠wDeliver) (h1:w≠wAgain) (h2:w≠wTick) (h3:w≠wFuse) (h4:w≠wFail) (h5:w≠wFlush) (h6:w≠wReady) (h7:w≠wDone) (h8:w≠wSweep) (h9:w≠wExpire) (h10:w≠wCrash) (h11:w≠wOdd):R 69 [W (w::r)] []=some ([.agg acN,.d (.bool false)],[]):=by
 have n0:(w == [100,101,108,105,118,101,114])=false:=beq_false_of_ne h0
 have n1:(w == [97,103,97,105,110])=false:=beq_false_of_ne h1
 have n2:(w == [116,105,99,107])=false:=beq_false_of_ne h2
 have n3:(w == [102,117,115,101])=false:=beq_false_of_ne h3
 have n4:(w == [102,97,105,108])=false:=beq_false_of_ne h4
 have n5:(w == [102,108,117,115,104])=false:=beq_false_of_ne h5
 have n6:(w == [114,101,97,100,121])=false:=beq_false_of_ne h6
 have n7:(w == [100,111,110,101])=false:=beq_false_of_ne h7
 have n8:(w == [115,119,101,101,112])=false:=beq_false_of_ne h8
 have n9:(w == [101,120,112,105,114,101])=false:=beq_false_of_ne h9
 have n10:(w == [99,114,97,115,104])=false:=beq_false_of_ne h10
 have n11:(w == [111,100,100])=false:=beq_false_of_ne h11
 unfold W
 rw[List.map_cons]
 generalize hX:r.map strD=X at*
 refine run_goal (rs:=[.cell 2 106,.tmp 3]) (ts:=[106,4]) Tryz.func69 rfl rfl rfl (by kernel_rfl) (by kernel_rfl) (.inl sp_69) (by simp[Tryz.f69]) ?_
 intro T hT
 simp -dsimp -implicitDefEqProofs (disch:=first|omega|assumption) [startSlots,nI,wI,strD,n0,n1,n2,n3,n4,n5,n6,n7,n8,n9,n10,n11]
 simpa -dsimp -implicitDefEqProofs (disch:=first|omega|assumption) [nI,wI]using hT
end Go.Am.Ab
