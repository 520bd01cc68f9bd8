/- Events of words. -/
import Derived.Test.YtldceipbpilipaaGreatDoorLinC
set_option linter.all false
namespace Go.Am.Ab
open Go.Proofs
set_option maxHeartbeats 4000000
set_option maxRecDepth 4000
abbrev wPut:List UInt8:=[112,117,116]
theorem allSize_words: ∀ (r:List (List UInt8)),allSize 1 (r.map strD)=true
 |[]=>rfl
 |w::r=>by
  rw[List.map_cons,allSize,allSize_words r];rfl
theorem cut_one (d:D) {X:List D} {n:Nat} (h:X.length=n):cut (d::X) 1 (n+1)=X:=by
 unfold cut
 simp[← h]
def cl (w:List UInt8):D:= .agg [.int .u8 (cellR w).1,.int .i64 (cellR w).2.1,.str ⟨(cellR w).2.2.1.toArray⟩]
def okC (w:List UInt8):Bool:=(cellR w).2.2.2
def rowW (k:Nat):Nat→V
 |0=> .nilS
 |n+1=> .arr k (n+1)
def rowO (r:List (List UInt8)):Nat→List Obj
 |0=>[]
 |n+1=>[.arr 3 ((r.take (n+1)).map cl) 0]
theorem rowW_pos {k i:Nat} (h:0<i):rowW k i= .arr k i:=by cases i with | zero=>omega | succ i=>rfl
theorem rowO_pos {r:List (List UInt8)} {i:Nat} (h:0<i):rowO r i=[.arr 3 ((r.take i).map cl) 0]:=by cases i with | zero=>omega | succ i=>rfl
abbrev evV (o:Int) (row:V) (k n:Int) (s name:ByteArray) (kind:Int):List V:=[.d (.int .u64 0),.d (.int .u8 o),row,.d (.int .u8 k),.d (.int .i64 n),.d (.str s),.d (.str name),.d (.int .u8 kind)]
theorem event_put {r:List (List UInt8)} (h1:1≤r.length) (h8:r.length≤8) (hl: ∀w∈r,w.length<1000000):R 59 [.d (.list (strD wPut::r.map strD))] []=
 some (if r.all okC=true then ([.agg (evV 1 (rowW 0 r.length) 0 0 ⟨#[]⟩ ⟨#[]⟩ 0),.d (.bool true)],rowO r r.length) else ([.agg (evV 0 .nilS 0 0 ⟨#[]⟩ ⟨#[]⟩ 0),.d (.bool false)],[])):=by
 have g1:(1:Int)≤r.length:=by omega
 have g8:(r.length:Int)≤8:=by omega
 have e1:(r.map strD).length=r.length:=by simp
 have hall:allSize 1 (r.map strD)=true:=allSize_words r
 have htk:(r.map strD).take r.length=r.map strD:=List.take_of_length_le (by simp)
 have hcut: ∀d:D,cut (d::r.map strD) 1 (r.length+1)=r.map strD:=fun d=>cut_one d (by simp)
 have hget: ∀i (h:i<r.length) (h':i<(r.map strD).length),(r.map strD)[i]= .str ⟨(r[i]).toArray⟩:=fun i h h'=>by rw[List.getElem_map];rfl
 generalize hX:r.map strD=X at*
 refine run_goal (rs:=[.cell 2 31,.tmp 3]) (ts:=[31,4]) Tryz.func59 rfl rfl rfl (by kernel_rfl) (by kernel_rfl) (.inl sp_59) (by simp[Tryz.f59]) ?_
 intro T hT
 simp -dsimp -implicitDefEqProofs (disch:=first|omega|assumption) [startSlots,nI,wI,g1,g8,strD,e1,hall,hcut,htk,cut]
 generalize hz:loopT _ _ _ _ _ _=z
 revert z
 refine loop_any (σ:=Nat) (fun i=>[(2,.ptr 0 0),(5,.ptr 1 0),(34,.d (.list X)),(35,I r.length),(36,I i)]) (fun i=>[.box (evV 0 .nilS 0 0 ⟨#[]⟩ ⟨#[]⟩ 0),.box (evV 1 (rowW 2 i) 0 0 ⟨#[]⟩ ⟨#[]⟩ 0)]++rowO r i) (fun i=>i≤r.length∧(r.take i).all okC=true) (fun i=>r.length - i) 0 ?_ ?_ ?_
 ·exact⟨Nat.zero_le _,rfl⟩
 ·simp -dsimp -implicitDefEqProofs (disch:=first|omega|assumption) [rowW,rowO]
 intro T' f hT' i ⟨hi,hok⟩ ih
 by_cases hlt:i<r.length
 ·have hlt':(i:Int)<r.length:=by omega
  have hx:=hget i hlt (by omega)
  have hcell:=cell_runs (hl r[i] (List.getElem_mem hlt))
  have hcl:cl r[i]= .agg [.int .u8 (cellR r[i]).1,.int .i64 (cellR r[i]).2.1,.str ⟨(cellR r[i]).2.2.1.toArray⟩]:=rfl
  have hokc:okC r[i]=(cellR r[i]).2.2.2:=rfl
  unfold cellV at hcell
  have htk1:(r.take (i+1)).map cl=(r.take i).map cl++[cl r[i]]:=by rw[List.take_add_one,List.getElem?_eq_getElem hlt,List.map_append];rfl
  have hal1:(r.take (i+1)).all okC=((r.take i).all okC && okC r[i]):=by rw[List.take_add_one,List.getElem?_eq_getElem hlt,List.all_append];simp only[Option.toList_some,List.all_cons,List.all_nil,Bool.and_true]
  have htl:((r.take i).map cl).length=i:=by simp;omega
  have hp1:=rowW_pos (k:=2) (i:=i+1) (by omega)
  have hp2:=rowO_pos (r:=r) (i:=i+1) (by omega)
  rw[← hokc]at hcell
  generalize (cellR r[i]).1=ck at*
  generalize (cellR r[i]).2.1=cn at*
  generalize (cellR r[i]).2.2.1=ct at*
  clear hokc
  by_cases h0:i=0
  ·subst h0
   cases hc:okC r[0] with
   |true=>
    rw[hc]at hcell
    simp only[rowW,rowO]
    simp -dsimp -implicitDefEqProofs (disch:=first|omega|assumption) [nI,wI,hlt,hlt',hx,hcell,e1]
    refine ih (0+1) _ _ ⟨by omega,by rw[hal1,hok];exact hc⟩ (by omega) ?_
    simp -dsimp -implicitDefEqProofs (disch:=first|omega|assumption) [hp1,hp2,htk1,hcl]
   |false=>
    rw[hc]at hcell
    have hno:r.all okC=false:=by
     rw[List.all_eq_false]
     exact⟨r[0],List.getElem_mem hlt,by rw[hc];decide⟩
    rw[hno]at hT
    subst hT'
    simp only[rowW,rowO]
    simp -dsimp -implicitDefEqProofs (disch:=first|omega|assumption) [nI,wI,hlt,hlt',hx,hcell,e1]
    simpa -dsimp -implicitDefEqProofs (disch:=first|omega|assumption) [nI,wI]using hT
  ·have hq1:=rowW_pos (k:=2) (i:=i) (by omega)
   have hq2:=rowO_pos (r:=r) (i:=i) (by omega)
   cases hc:okC r[i] with
   |true=>
    rw[hc]at hcell
    rw[hq1,hq2]
    simp -dsimp -implicitDefEqProofs (disch:=first|omega|assumption) [nI,wI,hlt,hlt',hx,hcell,e1,htl]
    refine ih (i+1) _ _ ⟨by omega,by rw[hal1,hok];exact hc⟩ (by omega) ?_
    simp -dsimp -implicitDefEqProofs (disch:=first|omega|assumption) [hp1,hp2,htk1,hcl]
   |false=>
    rw[hc]at hcell
    have hno:r.all okC=false:=by
     rw[List.all_eq_false]
     exact⟨r[i],List.getElem_mem hlt,by rw[hc];decide⟩
    rw[hno]at hT
    subst hT'
    rw[hq1,hq2]
    simp -dsimp -implicitDefEqProofs (disch:=first|omega|assumption) [nI,wI,hlt,hlt',hx,hcell,e1,htl]
    simpa -dsimp -implicitDefEqProofs (disch:=first|omega|assumption) [nI,wI]using hT
 ·have:i=r.length:=by omega
  subst this
  rw[List.take_length]at hok
  rw[hok]at hT
  subst hT'
  rw[rowW_pos (by omega),rowO_pos (by omega)]at hT ⊢
  simp -dsimp -implicitDefEqProofs (disch:=first|omega|assumption) [nI,wI]
  simpa -dsimp -implicitDefEqProofs (disch:=first|omega|assumption) [nI,wI]using hT
end Go.Am.Ab
namespace Go.Am.Ab
open Go.Proofs
set_option maxHeartbeats 4000000
set_option maxRecDepth 4000
abbrev wRem:List UInt8:=[114,101,109,111,118,101]
abbrev wWid:List UInt8:=[119,105,100,101,110]
structure Ev where
 o:Int
 row:List (List UInt8)
 k:Int
 n:Int
 s:List UInt8
 name:List UInt8
 kind:Int
abbrev Ev.v (e:Ev) (b:Nat):List V:=evV e.o (rowW b e.row.length) e.k e.n ⟨e.s.toArray⟩ ⟨e.name.toArray⟩ e.kind
abbrev Ev.h (e:Ev):List Obj:=rowO e.row e.row.length
def kindN (w:List UInt8):Int:=if w=[119,104,111,108,101] then 1 else if w=[116,114,117,116,104] then 2 else if w=[116,101,120,116] then 3 else 0
def evC (w:List UInt8) (r:List (List UInt8)):Option Ev:=
 if w=wPut then (if 1≤r.length∧r.length≤8∧r.all okC=true then some ⟨1,r,0,0,[],[],0⟩ else none) else
 if w=wRem then (match r with | [a]=>if okC a=true then some ⟨2,[],(cellR a).1,(cellR a).2.1,(cellR a).2.2.1,[],0⟩ else none | _=>none) else
 if w=wWid then (match r with | [a,b]=>if kindN b≠0∧a≠[]∧a.length≤16∧cleanL a=true then some ⟨3,[],0,0,[],a,kindN b⟩ else none | _=>none) else none
def evOf:List (List UInt8)→Option Ev
 |[]=>none
 |w::r=>evC w r
theorem kind_runs (w:List UInt8):R 102 [S w] []=some ([.d (.int .u8 (kindN w)),.d (.bool (kindN w != 0))],[]):=by
 unfold kindN
 by_cases h1:w=[119,104,111,108,101]
 ·subst h1
  rw[if_pos rfl]
  refine run_goal (rs:=[.tmp 2,.tmp 3]) (ts:=[27,4]) Tryz.func102 rfl rfl rfl (by kernel_rfl) (by kernel_rfl) (.inl sp_102) (by simp[Tryz.f102]) ?_
  intro T hT
  simp -dsimp -implicitDefEqProofs (disch:=first|omega|assumption) [startSlots,nI,wI]
  simpa -dsimp -implicitDefEqProofs (disch:=first|omega|assumption) [nI,wI]using hT
 rw[if_neg h1]
 have n1:(w == [119,104,111,108,101])=false:=beq_false_of_ne h1
 by_cases h2:w=[116,114,117,116,104]
 ·subst h2
  rw[if_pos rfl]
  refine run_goal (rs:=[.tmp 2,.tmp 3]) (ts:=[27,4]) Tryz.func102 rfl rfl rfl (by kernel_rfl) (by kernel_rfl) (.inl sp_102) (by simp[Tryz.f102]) ?_
  intro T hT
  simp -dsimp -implicitDefEqProofs (disch:=first|omega|assumption) [startSlots,nI,wI]
  simpa -dsimp -implicitDefEqProofs (disch:=first|omega|assumption) [nI,wI]using hT
 rw[if_neg h2]
 have n2:(w == [116,114,117,116,104])=false:=beq_false_of_ne h2
 by_cases h3:w=[116,101,120,116]
 ·subst h3
  rw[if_pos rfl]
  refine run_goal (rs:=[.tmp 2,.tmp 3]) (ts:=[27,4]) Tryz.func102 rfl rfl rfl (by kernel_rfl) (by kernel_rfl) (.inl sp_102) (by simp[Tryz.f102]) ?_
  intro T hT
  simp -dsimp -implicitDefEqProofs (disch:=first|omega|assumption) [startSlots,nI,wI]
  simpa -dsimp -implicitDefEqProofs (disch:=first|omega|assumption) [nI,wI]using hT
 rw[if_neg h3]
 have n3:(w == [116,101,120,116])=false:=beq_false_of_ne h3
 refine run_goal (rs:=[.tmp 2,.tmp 3]) (ts:=[27,4]) Tryz.func102 rfl rfl rfl (by kernel_rfl) (by kernel_rfl) (.inl sp_102) (by simp[Tryz.f102]) ?_
 intro T hT
 simp -dsimp -implicitDefEqProofs (disch:=first|omega|assumption) [startSlots,nI,wI,n1,n2,n3]
 simpa -dsimp -implicitDefEqProofs (disch:=first|omega|assumption) [nI,wI]using hT
abbrev W (ws:List (List UInt8)):V:= .d (.list (ws.map strD))
theorem event_none {w:List UInt8} {r:List (List UInt8)} (h1:w=wPut→ ¬ (1≤r.length∧r.length≤8)) (h2:w=wRem→r.length≠1) (h3:w=wWid→r.length≠2):R 59 [W (w::r)] []=some ([.agg (evV 0 .nilS 0 0 ⟨#[]⟩ ⟨#[]⟩ 0),.d (.bool false)],[]):=by
 have e1:(r.map strD).length=r.length:=by simp
 have hall:allSize 1 (r.map strD)=true:=allSize_words r
 have htk:(r.map strD).take r.length=r.map strD:=List.take_of_length_le (by simp)
 unfold W
 rw[List.map_cons]
 generalize hX:r.map strD=X at*
 by_cases c1:w=wPut
 ·have h1:=h1 c1
  subst c1
  by_cases g1:1≤r.length
  ·have g8: ¬ (r.length:Int)≤8:=by omega
   have g1':(1:Int)≤r.length:=by omega
   refine run_goal (rs:=[.cell 2 31,.tmp 3]) (ts:=[31,4]) Tryz.func59 rfl rfl rfl (by kernel_rfl) (by kernel_rfl) (.inl sp_59) (by simp[Tryz.f59]) ?_
   intro T hT
   simp -dsimp -implicitDefEqProofs (disch:=first|omega|assumption) [startSlots,nI,wI,g1,g1',g8,strD,e1,hall,htk,cut]
   simpa -dsimp -implicitDefEqProofs (disch:=first|omega|assumption) [nI,wI]using hT
  ·have g1': ¬ (1:Int)≤r.length:=by omega
   refine run_goal (rs:=[.cell 2 31,.tmp 3]) (ts:=[31,4]) Tryz.func59 rfl rfl rfl (by kernel_rfl) (by kernel_rfl) (.inl sp_59) (by simp[Tryz.f59]) ?_
   intro T hT
   simp -dsimp -implicitDefEqProofs (disch:=first|omega|assumption) [startSlots,nI,wI,g1,g1',strD,e1,hall,htk,cut]
   simpa -dsimp -implicitDefEqProofs (disch:=first|omega|assumption) [nI,wI]using hT
 have n1:(w == [112,117,116])=false:=beq_false_of_ne c1
 by_cases c2:w=wRem
 ·have h2:=h2 c2
  subst c2
  have g2: ¬ (r.length:Int)=1:=by omega
  refine run_goal (rs:=[.cell 2 31,.tmp 3]) (ts:=[31,4]) Tryz.func59 rfl rfl rfl (by kernel_rfl) (by kernel_rfl) (.inl sp_59) (by simp[Tryz.f59]) ?_
  intro T hT
  simp -dsimp -implicitDefEqProofs (disch:=first|omega|assumption) [startSlots,nI,wI,g2,strD,e1,hall,htk,cut]
  simpa -dsimp -implicitDefEqProofs (disch:=first|omega|assumption) [nI,wI]using hT
 have n2:(w == [114,101,109,111,118,101])=false:=beq_false_of_ne c2
 by_cases c3:w=wWid
 ·have h3:=h3 c3
  subst c3
  have g2: ¬ (r.length:Int)=2:=by omega
  refine run_goal (rs:=[.cell 2 31,.tmp 3]) (ts:=[31,4]) Tryz.func59 rfl rfl rfl (by kernel_rfl) (by kernel_rfl) (.inl sp_59) (by simp[Tryz.f59]) ?_
  intro T hT
  simp -dsimp -implicitDefEqProofs (disch:=first|omega|assumption) [startSlots,nI,wI,g2,strD,e1,hall,htk,cut]
  simpa -dsimp -implicitDefEqProofs (disch:=first|omega|assumption) [nI,wI]using hT
 have n3:(w == [119,105,100,101,110])=false:=beq_false_of_ne c3
 refine run_goal (rs:=[.cell 2 31,.tmp 3]) (ts:=[31,4]) Tryz.func59 rfl rfl rfl (by kernel_rfl) (by kernel_rfl) (.inl sp_59) (by simp[Tryz.f59]) ?_
 intro T hT
 simp -dsimp -implicitDefEqProofs (disch:=first|omega|assumption) [startSlots,nI,wI,n1,n2,n3,strD,e1,hall,htk,cut]
 simpa -dsimp -implicitDefEqProofs (disch:=first|omega|assumption) [nI,wI]using hT
theorem event_rem1 {a:List UInt8} (hl:a.length<1000000):R 59 [W [wRem,a]] []=some ([.agg (evV 2 .nilS (cellR a).1 (cellR a).2.1 ⟨(cellR a).2.2.1.toArray⟩ ⟨#[]⟩ 0),.d (.bool (okC a))],[]):=by
 have hcell:=cell_runs hl
 have ho:okC a=(cellR a).2.2.2:=rfl
 rw[← ho]at hcell
 unfold cellV at hcell
 unfold W
 simp only[List.map_cons,List.map_nil]
 generalize (cellR a).1=ck at*
 generalize (cellR a).2.1=cn at*
 generalize (cellR a).2.2.1=ct at*
 clear ho
 refine run_goal (rs:=[.cell 2 31,.tmp 3]) (ts:=[31,4]) Tryz.func59 rfl rfl rfl (by kernel_rfl) (by kernel_rfl) (.inl sp_59) (by simp[Tryz.f59]) ?_
 intro T hT
 simp -dsimp -implicitDefEqProofs (disch:=first|omega|assumption) [startSlots,nI,wI,hcell,strD]
 simpa -dsimp -implicitDefEqProofs (disch:=first|omega|assumption) [nI,wI]using hT
theorem event_wid {a b:List UInt8} (hl:a.length<1000000):R 59 [W [wWid,a,b]] []=some ([.agg (evV 3 .nilS 0 0 ⟨#[]⟩ ⟨a.toArray⟩ (kindN b)),.d (.bool ((kindN b != 0) && (decide (a≠[]) && (decide (a.length≤16) && cleanL a))))],[]):=by
 have hk:=kind_runs b
 have hc:=clean_list hl
 have hsz:(⟨a.toArray⟩:ByteArray).size=a.length:=strD_size a
 unfold W
 simp only[List.map_cons,List.map_nil]
 generalize kindN b=kb at*
 cases hkb:(kb != 0) with
 |false=>
  rw[hkb]at hk
  refine run_goal (rs:=[.cell 2 31,.tmp 3]) (ts:=[31,4]) Tryz.func59 rfl rfl rfl (by kernel_rfl) (by kernel_rfl) (.inl sp_59) (by simp[Tryz.f59]) ?_
  intro T hT
  simp -dsimp -implicitDefEqProofs (disch:=first|omega|assumption) [startSlots,nI,wI,hk,strD]
  simpa -dsimp -implicitDefEqProofs (disch:=first|omega|assumption) [nI,wI]using hT
 |true=>
  rw[hkb]at hk
  by_cases ha:a=[]
  ·subst ha
   refine run_goal (rs:=[.cell 2 31,.tmp 3]) (ts:=[31,4]) Tryz.func59 rfl rfl rfl (by kernel_rfl) (by kernel_rfl) (.inl sp_59) (by simp[Tryz.f59]) ?_
   intro T hT
   simp -dsimp -implicitDefEqProofs (disch:=first|omega|assumption) [startSlots,nI,wI,hk,strD]
   simpa -dsimp -implicitDefEqProofs (disch:=first|omega|assumption) [nI,wI]using hT
  ·have na:(a == [])=false:=beq_false_of_ne ha
   by_cases h16:a.length≤16
   ·have h16':(a.length:Int)≤16:=by omega
    refine run_goal (rs:=[.cell 2 31,.tmp 3]) (ts:=[31,4]) Tryz.func59 rfl rfl rfl (by kernel_rfl) (by kernel_rfl) (.inl sp_59) (by simp[Tryz.f59]) ?_
    intro T hT
    simp -dsimp -implicitDefEqProofs (disch:=first|omega|assumption) [startSlots,nI,wI,hk,strD,na,ha,h16',hsz,hc]
    simpa -dsimp -implicitDefEqProofs (disch:=first|omega|assumption) [nI,wI,ha,h16]using hT
   ·have h16': ¬ (a.length:Int)≤16:=by omega
    refine run_goal (rs:=[.cell 2 31,.tmp 3]) (ts:=[31,4]) Tryz.func59 rfl rfl rfl (by kernel_rfl) (by kernel_rfl) (.inl sp_59) (by simp[Tryz.f59]) ?_
    intro T hT
    simp -dsimp -implicitDefEqProofs (disch:=first|omega|assumption) [startSlots,nI,wI,hk,strD,na,ha,h16',hsz]
    simpa -dsimp -implicitDefEqProofs (disch:=first|omega|assumption) [nI,wI,ha,h16]using hT
theorem evC_put (r:List (List UInt8)):evC wPut r=if 1≤r.length∧r.length≤8∧r.all okC=true then some ⟨1,r,0,0,[],[],0⟩ else none:=rfl
theorem evC_rem1 (a:List UInt8):evC wRem [a]=if okC a=true then some ⟨2,[],(cellR a).1,(cellR a).2.1,(cellR a).2.2.1,[],0⟩ else none:=rfl
theorem evC_rem0 {r:List (List UInt8)} (h:r.length≠1):evC wRem r=none:=by
 match r,h with
 |[],_=>rfl
 |[a],h=>exact absurd rfl h
 |a::b::r,_=>rfl
theorem evC_wid2 (a b:List UInt8):evC wWid [a,b]=if kindN b≠0∧a≠[]∧a.length≤16∧cleanL a=true then some ⟨3,[],0,0,[],a,kindN b⟩ else none:=rfl
theorem evC_wid0 {r:List (List UInt8)} (h:r.length≠2):evC wWid r=none:=by
 match r,h with
 |[],_=>rfl
 |[a],_=>rfl
 |[a,b],h=>exact absurd rfl h
 |a::b::c::r,_=>rfl
theorem evC_none {w:List UInt8} {r:List (List UInt8)} (h1:w≠wPut) (h2:w≠wRem) (h3:w≠wWid):evC w r=none:=by
 unfold evC;rw[if_neg h1,if_neg h2,if_neg h3]
theorem wid_ok {a b:List UInt8} (ho: ¬ (kindN b≠0∧a≠[]∧a.length≤16∧cleanL a=true)):((kindN b != 0) && (decide (a≠[]) && (decide (a.length≤16) && cleanL a)))=false:=by
 rw[Bool.eq_false_iff]
 intro h
 simp only[Bool.and_eq_true,decide_eq_true_eq,bne_iff_ne]at h
 exact ho ⟨h.1,h.2.1,h.2.2.1,h.2.2.2⟩
theorem event_runs {ws:List (List UInt8)} (hne:ws≠[]) (hl: ∀w∈ws,w.length<1000000):
 (∀e,evOf ws=some e→R 59 [W ws] []=some ([.agg (e.v 0),.d (.bool true)],e.h))∧
 (evOf ws=none→ ∃e:Ev,e.row=[]∧R 59 [W ws] []=some ([.agg (e.v 0),.d (.bool false)],[])):=by
 obtain⟨w,r,rfl⟩: ∃w r,ws=w::r:=by cases ws with | nil=>exact absurd rfl hne | cons w r=>exact⟨w,r,rfl⟩
 have none_of:(w=wPut→ ¬ (1≤r.length∧r.length≤8))→(w=wRem→r.length≠1)→(w=wWid→r.length≠2)→ ∃e:Ev,e.row=[]∧R 59 [W (w::r)] []=some ([.agg (e.v 0),.d (.bool false)],[]):=fun h1 h2 h3=>⟨⟨0,[],0,0,[],[],0⟩,rfl,event_none h1 h2 h3⟩
 rw[show evOf (w::r)=evC w r from rfl]
 by_cases c1:w=wPut
 ·subst c1
  rw[evC_put]
  by_cases hh:1≤r.length∧r.length≤8
  ·have hp:=event_put (r:=r) hh.1 hh.2 (fun x hx=>hl x (List.mem_cons_of_mem _ hx))
   cases ho:r.all okC with
   |true=>
    rw[ho,if_pos rfl]at hp
    rw[if_pos ⟨hh.1,hh.2,rfl⟩]
    refine⟨fun e he=> ?_,fun h=> ?_⟩
    ·cases he;exact hp
    ·cases h
   |false=>
    rw[ho,if_neg (by decide)]at hp
    rw[if_neg (fun h=>Bool.noConfusion h.2.2)]
    refine⟨fun e he=> ?_,fun _=>⟨⟨0,[],0,0,[],[],0⟩,rfl,hp⟩⟩
    cases he
  ·rw[if_neg (fun h=>hh ⟨h.1,h.2.1⟩)]
   refine⟨fun e he=> ?_,fun _=>none_of (fun _=>hh) (fun e=> ?_) (fun e=> ?_)⟩
   ·cases he
   ·cases e
   ·cases e
 by_cases c2:w=wRem
 ·subst c2
  by_cases hr:r.length=1
  ·obtain⟨a,rfl⟩:=List.length_eq_one_iff.1 hr
   have hp:=event_rem1 (hl a (by simp))
   rw[evC_rem1]
   cases ho:okC a with
   |true=>
    rw[ho]at hp
    rw[if_pos rfl]
    refine⟨fun e he=> ?_,fun h=> ?_⟩
    ·cases he;exact hp
    ·cases h
   |false=>
    rw[ho]at hp
    rw[if_neg (by decide)]
    refine⟨fun e he=> ?_,fun _=>⟨⟨2,[],(cellR a).1,(cellR a).2.1,(cellR a).2.2.1,[],0⟩,rfl,hp⟩⟩
    cases he
  ·rw[evC_rem0 hr]
   refine⟨fun e he=> ?_,fun _=>none_of (fun e=> ?_) (fun _=>hr) (fun e=> ?_)⟩
   ·cases he
   ·cases e
   ·cases e
 by_cases c3:w=wWid
 ·subst c3
  by_cases hr:r.length=2
  ·obtain⟨a,b,rfl⟩: ∃a b,r=[a,b]:=by
    match r,hr with
    |[a,b],_=>exact⟨a,b,rfl⟩
   have hp:=event_wid (b:=b) (hl a (by simp))
   rw[evC_wid2]
   by_cases ho:kindN b≠0∧a≠[]∧a.length≤16∧cleanL a=true
   ·rw[if_pos ho]
    rw[ho.2.2.2,decide_eq_true ho.2.1,decide_eq_true ho.2.2.1,bne_iff_ne.2 ho.1]at hp
    refine⟨fun e he=> ?_,fun h=> ?_⟩
    ·cases he;exact hp
    ·cases h
   ·rw[if_neg ho]
    rw[wid_ok ho]at hp
    refine⟨fun e he=> ?_,fun _=>⟨⟨3,[],0,0,[],a,kindN b⟩,rfl,hp⟩⟩
    cases he
  ·rw[evC_wid0 hr]
   refine⟨fun e he=> ?_,fun _=>none_of (fun e=> ?_) (fun e=> ?_) (fun _=>hr)⟩
   ·cases he
   ·cases e
   ·cases e
 rw[evC_none c1 c2 c3]
 refine⟨fun e he=> ?_,fun _=>none_of (fun e=>absurd e c1) (fun e=>absurd e c2) (fun e=>absurd e c3)⟩
 cases he
end Go.Am.Ab
namespace Go.Am.Ab
open Go.Proofs
set_option maxHeartbeats 4000000
set_option maxRecDepth 4000
abbrev evN:List V:=evV 0 .nilS 0 0 ⟨#[]⟩ ⟨#[]⟩ 0
theorem revent_put {r:List (List UInt8)} (hl: ∀w∈r,w.length<1000000) (hn:r.length<1000000):R 65 [W (wPut::r)] []=
 some (if 1≤r.length∧r.length≤8∧r.all okC=true then ([.agg (evV 1 (rowW 0 r.length) 0 0 ⟨#[]⟩ ⟨#[]⟩ 0),.d (.bool true)],rowO r r.length) else ([.agg evN,.d (.bool false)],[])):=by
 have e1:(r.map strD).length=r.length:=by simp
 have hget: ∀i (h:i<r.length) (h':i<(r.map strD).length),(r.map strD)[i]= .str ⟨(r[i]).toArray⟩:=fun i h h'=>by rw[List.getElem_map];rfl
 unfold W
 rw[List.map_cons]
 generalize hX:r.map strD=X at*
 refine run_goal (rs:=[.cell 2 31,.tmp 3]) (ts:=[31,4]) Tryz.func65 rfl rfl rfl (by kernel_rfl) (by kernel_rfl) (.inl sp_65) (by simp[Tryz.f65]) ?_
 intro T hT
 simp -dsimp -implicitDefEqProofs (disch:=first|omega|assumption) [startSlots,nI,wI,strD,e1]
 generalize hz:loopT _ _ _ _ _ _=z
 revert z
 refine loop_any (σ:=Nat) (fun i=>[(0,.d (.list (.str ⟨wPut.toArray⟩::X))),(2,.ptr 0 0),(4,.ptr 1 0),(5,I (i+1:Nat))]) (fun i=>[.box evN,.box (evV 1 (rowW 2 i) 0 0 ⟨#[]⟩ ⟨#[]⟩ 0)]++rowO r i) (fun i=>i≤r.length∧i≤9∧(r.take i).all okC=true) (fun i=>r.length - i) 0 ?_ ?_ ?_
 ·exact⟨Nat.zero_le _,Nat.zero_le _,rfl⟩
 ·simp -dsimp -implicitDefEqProofs (disch:=first|omega|assumption) [rowW,rowO]
 intro T' f hT' i ⟨hi,hi9,hok⟩ ih
 by_cases hlt:i<r.length∧i<9
 ·obtain⟨hlt,hlt9⟩:=hlt
  have hlt':(i:Int)<r.length:=by omega
  have hlt9':(i:Int)+1<10:=by omega
  have hx:=hget i hlt (by omega)
  have hcell:=rcell_runs (hl r[i] (List.getElem_mem hlt))
  have hcl:cl r[i]= .agg [.int .u8 (cellR r[i]).1,.int .i64 (cellR r[i]).2.1,.str ⟨(cellR r[i]).2.2.1.toArray⟩]:=rfl
  have hokc:okC r[i]=(cellR r[i]).2.2.2:=rfl
  unfold cellD cellV at hcell
  have htk1:(r.take (i+1)).map cl=(r.take i).map cl++[cl r[i]]:=by rw[List.take_add_one,List.getElem?_eq_getElem hlt,List.map_append];rfl
  have hal1:(r.take (i+1)).all okC=((r.take i).all okC && okC r[i]):=by rw[List.take_add_one,List.getElem?_eq_getElem hlt,List.all_append];simp only[Option.toList_some,List.all_cons,List.all_nil,Bool.and_true]
  have htl:((r.take i).map cl).length=i:=by simp;omega
  have hp1:=rowW_pos (k:=2) (i:=i+1) (by omega)
  have hp2:=rowO_pos (r:=r) (i:=i+1) (by omega)
  rw[← hokc]at hcell
  generalize (cellR r[i]).1=ck at*
  generalize (cellR r[i]).2.1=cn at*
  generalize (cellR r[i]).2.2.1=ct at*
  clear hokc
  have hno:okC r[i]=false→ ¬ (1≤r.length∧r.length≤8∧r.all okC=true):=fun hf h=>by
   have:=List.all_eq_true.1 h.2.2 r[i] (List.getElem_mem hlt)
   rw[hf]at this;cases this
  by_cases h0:i=0
  ·subst h0
   have h1l:(1:Int)<r.length+1:=by omega
   cases hc:okC r[0] with
   |true=>
    rw[hc,if_pos rfl]at hcell
    simp only[rowW,rowO]
    simp -dsimp -implicitDefEqProofs (disch:=first|omega|assumption) [nI,wI,hlt,hlt',hlt9',h1l,hx,hcell,e1]
    refine ih (0+1) _ _ ⟨by omega,by omega,by rw[hal1,hok];exact hc⟩ (by omega) ?_
    simp -dsimp -implicitDefEqProofs (disch:=first|omega|assumption) [hp1,hp2,htk1,hcl]
   |false=>
    rw[hc,if_neg (by decide)]at hcell
    rw[if_neg (hno hc)]at hT
    subst hT'
    simp only[rowW,rowO]
    simp -dsimp -implicitDefEqProofs (disch:=first|omega|assumption) [nI,wI,hlt,hlt',hlt9',h1l,hx,hcell,e1]
    simpa -dsimp -implicitDefEqProofs (disch:=first|omega|assumption) [nI,wI]using hT
  ·have hq1:=rowW_pos (k:=2) (i:=i) (by omega)
   have hq2:=rowO_pos (r:=r) (i:=i) (by omega)
   cases hc:okC r[i] with
   |true=>
    rw[hc,if_pos rfl]at hcell
    rw[hq1,hq2]
    simp -dsimp -implicitDefEqProofs (disch:=first|omega|assumption) [nI,wI,hlt,hlt',hlt9',hx,hcell,e1,htl]
    refine ih (i+1) _ _ ⟨by omega,by omega,by rw[hal1,hok];exact hc⟩ (by omega) ?_
    simp -dsimp -implicitDefEqProofs (disch:=first|omega|assumption) [hp1,hp2,htk1,hcl]
   |false=>
    rw[hc,if_neg (by decide)]at hcell
    rw[if_neg (hno hc)]at hT
    subst hT'
    rw[hq1,hq2]
    simp -dsimp -implicitDefEqProofs (disch:=first|omega|assumption) [nI,wI,hlt,hlt',hlt9',hx,hcell,e1,htl]
    simpa -dsimp -implicitDefEqProofs (disch:=first|omega|assumption) [nI,wI]using hT
 ·subst hT'
  by_cases hn9:r.length≤8
  ·have hir:i=r.length:=by omega
   have d1: ¬ (i:Int)<r.length:=by omega
   subst hir
   rw[List.take_length]at hok
   by_cases hn1:1≤r.length
   ·rw[if_pos ⟨hn1,hn9,hok⟩]at hT
    rw[rowW_pos (by omega),rowO_pos (by omega)]at hT ⊢
    have d2: ¬ (r.length:Int)+1<2:=by omega
    have d3: ¬ (9:Int)<r.length+1:=by omega
    simp -dsimp -implicitDefEqProofs (disch:=first|omega|assumption) [nI,wI,d1,d2,d3,e1]
    simpa -dsimp -implicitDefEqProofs (disch:=first|omega|assumption) [nI,wI]using hT
   ·rw[if_neg (fun h=>hn1 h.1)]at hT
    have hr0:r=[]:=List.length_eq_zero_iff.1 (by omega)
    subst hr0
    simp only[List.length_nil,rowW,rowO]
    have hX0:X=[]:=by rw[← hX];rfl
    subst hX0
    simp -dsimp -implicitDefEqProofs (disch:=first|omega|assumption) [nI,wI]
    simpa -dsimp -implicitDefEqProofs (disch:=first|omega|assumption) [nI,wI]using hT
  ·have hi9':i=9:=by omega
   subst hi9'
   rw[if_neg (fun h=>hn9 h.2.1)]at hT
   have d2: ¬ (r.length:Int)+1<2:=by omega
   have d3:(9:Int)<r.length+1:=by omega
   have d4:(10:Int)<r.length+1∨ ¬ (10:Int)<r.length+1:=by omega
   rw[rowW_pos (by omega),rowO_pos (by omega)]at ⊢
   rcases d4 with d4 | d4
   ·simp -dsimp -implicitDefEqProofs (disch:=first|omega|assumption) [nI,wI,d2,d3,d4,e1]
    simpa -dsimp -implicitDefEqProofs (disch:=first|omega|assumption) [nI,wI]using hT
   ·simp -dsimp -implicitDefEqProofs (disch:=first|omega|assumption) [nI,wI,d2,d3,d4,e1]
    simpa -dsimp -implicitDefEqProofs (disch:=first|omega|assumption) [nI,wI]using hT
end Go.Am.Ab
namespace Go.Am.Ab
open Go.Proofs
set_option maxHeartbeats 4000000
set_option maxRecDepth 4000
theorem revent_none {w:List UInt8} {r:List (List UInt8)} (h1:w≠wPut) (h2:w=wRem→r.length≠1) (h3:w=wWid→r.length≠2):R 65 [W (w::r)] []=some ([.agg evN,.d (.bool false)],[]):=by
 have e1:(r.map strD).length=r.length:=by simp
 unfold W
 rw[List.map_cons]
 generalize hX:r.map strD=X at*
 have n1:(w == [112,117,116])=false:=beq_false_of_ne h1
 by_cases c2:w=wRem
 ·have h2:=h2 c2
  subst c2
  have g2: ¬ (r.length:Int)+1=2:=by omega
  have g3: ¬ (r.length:Int)=1:=by omega
  refine run_goal (rs:=[.cell 2 31,.tmp 3]) (ts:=[31,4]) Tryz.func65 rfl rfl rfl (by kernel_rfl) (by kernel_rfl) (.inl sp_65) (by simp[Tryz.f65]) ?_
  intro T hT
  simp -dsimp -implicitDefEqProofs (disch:=first|omega|assumption) [startSlots,nI,wI,g2,g3,h2,strD,e1]
  simpa -dsimp -implicitDefEqProofs (disch:=first|omega|assumption) [nI,wI]using hT
 have n2:(w == [114,101,109,111,118,101])=false:=beq_false_of_ne c2
 by_cases c3:w=wWid
 ·have h3:=h3 c3
  subst c3
  have g2: ¬ (r.length:Int)+1=3:=by omega
  have g3: ¬ (r.length:Int)=2:=by omega
  refine run_goal (rs:=[.cell 2 31,.tmp 3]) (ts:=[31,4]) Tryz.func65 rfl rfl rfl (by kernel_rfl) (by kernel_rfl) (.inl sp_65) (by simp[Tryz.f65]) ?_
  intro T hT
  simp -dsimp -implicitDefEqProofs (disch:=first|omega|assumption) [startSlots,nI,wI,g2,g3,h3,strD,e1]
  simpa -dsimp -implicitDefEqProofs (disch:=first|omega|assumption) [nI,wI]using hT
 have n3:(w == [119,105,100,101,110])=false:=beq_false_of_ne c3
 refine run_goal (rs:=[.cell 2 31,.tmp 3]) (ts:=[31,4]) Tryz.func65 rfl rfl rfl (by kernel_rfl) (by kernel_rfl) (.inl sp_65) (by simp[Tryz.f65]) ?_
 intro T hT
 simp -dsimp -implicitDefEqProofs (disch:=first|omega|assumption) [startSlots,nI,wI,n1,n2,n3,strD,e1]
 simpa -dsimp -implicitDefEqProofs (disch:=first|omega|assumption) [nI,wI]using hT
theorem revent_rem1 {a:List UInt8} (hl:a.length<1000000):R 65 [W [wRem,a]] []=some (if okC a=true then [.agg (evV 2 .nilS (cellR a).1 (cellR a).2.1 ⟨(cellR a).2.2.1.toArray⟩ ⟨#[]⟩ 0),.d (.bool true)] else [.agg evN,.d (.bool false)],[]):=by
 have hcell:=rcell_runs hl
 have ho:okC a=(cellR a).2.2.2:=rfl
 unfold cellD cellV at hcell
 rw[← ho]at hcell
 unfold W
 simp only[List.map_cons,List.map_nil]
 generalize (cellR a).1=ck at*
 generalize (cellR a).2.1=cn at*
 generalize (cellR a).2.2.1=ct at*
 clear ho
 cases hc:okC a with
 |true=>
  rw[hc,if_pos rfl]at hcell
  rw[if_pos rfl]
  refine run_goal (rs:=[.cell 2 31,.tmp 3]) (ts:=[31,4]) Tryz.func65 rfl rfl rfl (by kernel_rfl) (by kernel_rfl) (.inl sp_65) (by simp[Tryz.f65]) ?_
  intro T hT
  simp -dsimp -implicitDefEqProofs (disch:=first|omega|assumption) [startSlots,nI,wI,hcell,strD]
  simpa -dsimp -implicitDefEqProofs (disch:=first|omega|assumption) [nI,wI]using hT
 |false=>
  rw[hc,if_neg (by decide)]at hcell
  rw[if_neg (by decide)]
  refine run_goal (rs:=[.cell 2 31,.tmp 3]) (ts:=[31,4]) Tryz.func65 rfl rfl rfl (by kernel_rfl) (by kernel_rfl) (.inl sp_65) (by simp[Tryz.f65]) ?_
  intro T hT
  simp -dsimp -implicitDefEqProofs (disch:=first|omega|assumption) [startSlots,nI,wI,hcell,strD]
  simpa -dsimp -implicitDefEqProofs (disch:=first|omega|assumption) [nI,wI]using hT
theorem revent_wid {a b:List UInt8} (hl:a.length<1000000):R 65 [W [wWid,a,b]] []=some (if kindN b≠0∧a≠[]∧a.length≤16∧cleanL a=true then [.agg (evV 3 .nilS 0 0 ⟨#[]⟩ ⟨a.toArray⟩ (kindN b)),.d (.bool true)] else [.agg evN,.d (.bool false)],[]):=by
 have hsz:(⟨a.toArray⟩:ByteArray).size=a.length:=strD_size a
 have hcl:=signs_runs ⟨a.toArray⟩ (by rw[hsz];omega)
 have hc0:cleanL a=(sgs ⟨a.toArray⟩).all (·.2.2):=rfl
 rw[← hc0]at hcl
 clear hc0
 generalize runeD (sgs ⟨a.toArray⟩)=X1 at*
 generalize placeD (sgs ⟨a.toArray⟩)=X2 at*
 unfold W
 simp only[List.map_cons,List.map_nil]
 by_cases ha:a=[]
 ·subst ha
  rw[if_neg (fun h=>h.2.1 rfl)]
  refine run_goal (rs:=[.cell 2 31,.tmp 3]) (ts:=[31,4]) Tryz.func65 rfl rfl rfl (by kernel_rfl) (by kernel_rfl) (.inl sp_65) (by simp[Tryz.f65]) ?_
  intro T hT
  simp -dsimp -implicitDefEqProofs (disch:=first|omega|assumption) [startSlots,nI,wI,strD]
  simpa -dsimp -implicitDefEqProofs (disch:=first|omega|assumption) [nI,wI]using hT
 have na:(a == [])=false:=beq_false_of_ne ha
 by_cases h16:a.length≤16
 ·have h16': ¬ (16:Int)<a.length:=by omega
  cases hc:cleanL a with
  |false=>
   rw[hc]at hcl
   rw[if_neg (fun h=>Bool.noConfusion h.2.2.2)]
   by_cases k1:b=[119,104,111,108,101]
   ·subst k1
    refine run_goal (rs:=[.cell 2 31,.tmp 3]) (ts:=[31,4]) Tryz.func65 rfl rfl rfl (by kernel_rfl) (by kernel_rfl) (.inl sp_65) (by simp[Tryz.f65]) ?_
    intro T hT
    simp -dsimp -implicitDefEqProofs (disch:=first|omega|assumption) [startSlots,nI,wI,strD,na,ha,h16',hsz,hcl]
    simpa -dsimp -implicitDefEqProofs (disch:=first|omega|assumption) [nI,wI]using hT
   have n1:(b == [119,104,111,108,101])=false:=beq_false_of_ne k1
   by_cases k2:b=[116,114,117,116,104]
   ·subst k2
    refine run_goal (rs:=[.cell 2 31,.tmp 3]) (ts:=[31,4]) Tryz.func65 rfl rfl rfl (by kernel_rfl) (by kernel_rfl) (.inl sp_65) (by simp[Tryz.f65]) ?_
    intro T hT
    simp -dsimp -implicitDefEqProofs (disch:=first|omega|assumption) [startSlots,nI,wI,strD,na,ha,h16',hsz,hcl]
    simpa -dsimp -implicitDefEqProofs (disch:=first|omega|assumption) [nI,wI]using hT
   have n2:(b == [116,114,117,116,104])=false:=beq_false_of_ne k2
   by_cases k3:b=[116,101,120,116]
   ·subst k3
    refine run_goal (rs:=[.cell 2 31,.tmp 3]) (ts:=[31,4]) Tryz.func65 rfl rfl rfl (by kernel_rfl) (by kernel_rfl) (.inl sp_65) (by simp[Tryz.f65]) ?_
    intro T hT
    simp -dsimp -implicitDefEqProofs (disch:=first|omega|assumption) [startSlots,nI,wI,strD,na,ha,h16',hsz,hcl]
    simpa -dsimp -implicitDefEqProofs (disch:=first|omega|assumption) [nI,wI]using hT
   have n3:(b == [116,101,120,116])=false:=beq_false_of_ne k3
   refine run_goal (rs:=[.cell 2 31,.tmp 3]) (ts:=[31,4]) Tryz.func65 rfl rfl rfl (by kernel_rfl) (by kernel_rfl) (.inl sp_65) (by simp[Tryz.f65]) ?_
   intro T hT
   simp -dsimp -implicitDefEqProofs (disch:=first|omega|assumption) [startSlots,nI,wI,strD,na,ha,h16',hsz,hcl,n1,n2,n3]
   simpa -dsimp -implicitDefEqProofs (disch:=first|omega|assumption) [nI,wI]using hT
  |true=>
   rw[hc]at hcl
   unfold kindN
   by_cases k1:b=[119,104,111,108,101]
   ·subst k1
    rw[if_pos rfl,if_pos ⟨by decide,ha,h16,rfl⟩]
    refine run_goal (rs:=[.cell 2 31,.tmp 3]) (ts:=[31,4]) Tryz.func65 rfl rfl rfl (by kernel_rfl) (by kernel_rfl) (.inl sp_65) (by simp[Tryz.f65]) ?_
    intro T hT
    simp -dsimp -implicitDefEqProofs (disch:=first|omega|assumption) [startSlots,nI,wI,strD,na,ha,h16',hsz,hcl]
    simpa -dsimp -implicitDefEqProofs (disch:=first|omega|assumption) [nI,wI]using hT
   have n1:(b == [119,104,111,108,101])=false:=beq_false_of_ne k1
   rw[if_neg k1]
   by_cases k2:b=[116,114,117,116,104]
   ·subst k2
    rw[if_pos rfl,if_pos ⟨by decide,ha,h16,rfl⟩]
    refine run_goal (rs:=[.cell 2 31,.tmp 3]) (ts:=[31,4]) Tryz.func65 rfl rfl rfl (by kernel_rfl) (by kernel_rfl) (.inl sp_65) (by simp[Tryz.f65]) ?_
    intro T hT
    simp -dsimp -implicitDefEqProofs (disch:=first|omega|assumption) [startSlots,nI,wI,strD,na,ha,h16',hsz,hcl]
    simpa -dsimp -implicitDefEqProofs (disch:=first|omega|assumption) [nI,wI]using hT
   have n2:(b == [116,114,117,116,104])=false:=beq_false_of_ne k2
   rw[if_neg k2]
   by_cases k3:b=[116,101,120,116]
   ·subst k3
    rw[if_pos rfl,if_pos ⟨by decide,ha,h16,rfl⟩]
    refine run_goal (rs:=[.cell 2 31,.tmp 3]) (ts:=[31,4]) Tryz.func65 rfl rfl rfl (by kernel_rfl) (by kernel_rfl) (.inl sp_65) (by simp[Tryz.f65]) ?_
    intro T hT
    simp -dsimp -implicitDefEqProofs (disch:=first|omega|assumption) [startSlots,nI,wI,strD,na,ha,h16',hsz,hcl]
    simpa -dsimp -implicitDefEqProofs (disch:=first|omega|assumption) [nI,wI]using hT
   have n3:(b == [116,101,120,116])=false:=beq_false_of_ne k3
   rw[if_neg k3,if_neg (fun h=>h.1 rfl)]
   refine run_goal (rs:=[.cell 2 31,.tmp 3]) (ts:=[31,4]) Tryz.func65 rfl rfl rfl (by kernel_rfl) (by kernel_rfl) (.inl sp_65) (by simp[Tryz.f65]) ?_
   intro T hT
   simp -dsimp -implicitDefEqProofs (disch:=first|omega|assumption) [startSlots,nI,wI,strD,na,ha,h16',hsz,hcl,n1,n2,n3]
   simpa -dsimp -implicitDefEqProofs (disch:=first|omega|assumption) [nI,wI]using hT
 ·have h16':(16:Int)<a.length:=by omega
  rw[if_neg (fun h=>h16 h.2.2.1)]
  refine run_goal (rs:=[.cell 2 31,.tmp 3]) (ts:=[31,4]) Tryz.func65 rfl rfl rfl (by kernel_rfl) (by kernel_rfl) (.inl sp_65) (by simp[Tryz.f65]) ?_
  intro T hT
  simp -dsimp -implicitDefEqProofs (disch:=first|omega|assumption) [startSlots,nI,wI,strD,na,ha,h16',hsz]
  simpa -dsimp -implicitDefEqProofs (disch:=first|omega|assumption) [nI,wI]using hT
def evD (o:Option Ev):List V × List Obj:=match o with | some e=>([.agg (e.v 0),.d (.bool true)],e.h) | none=>([.agg evN,.d (.bool false)],[])
theorem revent_runs {ws:List (List UInt8)} (hne:ws≠[]) (hl: ∀w∈ws,w.length<1000000) (hn:ws.length<1000000):R 65 [W ws] []=some (evD (evOf ws)):=by
 obtain⟨w,r,rfl⟩: ∃w r,ws=w::r:=by cases ws with | nil=>exact absurd rfl hne | cons w r=>exact⟨w,r,rfl⟩
 rw[show evOf (w::r)=evC w r from rfl]
 by_cases c1:w=wPut
 ·subst c1
  rw[evC_put,revent_put (fun x hx=>hl x (List.mem_cons_of_mem _ hx)) (by simp at hn;omega)]
  split <;> rfl
 by_cases c2:w=wRem
 ·subst c2
  by_cases hr:r.length=1
  ·obtain⟨a,rfl⟩:=List.length_eq_one_iff.1 hr
   rw[evC_rem1,revent_rem1 (hl a (by simp))]
   split <;> rfl
  ·rw[evC_rem0 hr,revent_none c1 (fun _=>hr) (fun e=>by cases e)]
   rfl
 by_cases c3:w=wWid
 ·subst c3
  by_cases hr:r.length=2
  ·obtain⟨a,b,rfl⟩: ∃a b,r=[a,b]:=by
    match r,hr with
    |[a,b],_=>exact⟨a,b,rfl⟩
   rw[evC_wid2,revent_wid (hl a (by simp))]
   split <;> rfl
  ·rw[evC_wid0 hr,revent_none c1 (fun e=>by cases e) (fun _=>hr)]
   rfl
 rw[evC_none c1 c2 c3,revent_none c1 (fun e=>absurd e c2) (fun e=>absurd e c3)]
 rfl
end Go.Am.Ab
