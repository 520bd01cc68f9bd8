/- Which events may be: the program. -/
import Derived.Test.YtldceipbpilipaaGreatDoorSchsA
set_option linter.all false
namespace Go.Am.Ab
open Go.Proofs
structure Evt where
 off:Int
 op:Int
 row:List Cel
 key:Cel
 name:ByteArray
 kind:Int
def Evt.d (e:Evt):D:= .agg [.int .u64 e.off,.int .u8 e.op,.list (ce e.row),.int .u8 e.key.kind,.int .i64 e.key.n,.str e.key.s,.str e.name,.int .u8 e.kind]
def celW (c:Cel):Prop:=c.kind<256∧c.s.size≤9223372036854775807
structure Evt.wf (e:Evt):Prop where
 row: ∀c∈e.row,celW c
 key:celW e.key
 len:e.row.length≤1000000
 name:e.name.size<1000000000
 kind:0≤e.kind
def lastId:List Fld→Int
 |[]=>0
 |[f]=>f.id
 |_::r=>lastId r
def sadd (s:Sch) (nm:ByteArray) (k:Int):Int:=
 if schk s≠0 then schk s else
 if s.fields.length=8∨lastId s.fields=4294967295∨s.id=4294967295 then 4 else
 if nmOk nm=false∨hasN nm s.fields=true then 80 else
 if k<1∨3<k then 10 else 0
def sgrow (s:Sch) (nm:ByteArray) (k:Int):Sch:=⟨s.id+1,s.fields++[⟨lastId s.fields+1,nm,k,false⟩]⟩
def rchk:List Cel→Int
 |[]=>0
 |c::r=>if chk c=0 then rchk r else chk c
theorem rchk_more {l:List Cel} {k:Nat} {c:Cel} (hk:k<l.length) (hc:l[k]=c):rchk (l.drop k)=if chk c=0 then rchk (l.drop (k+1)) else (chk c:Int):=by
 rw[List.drop_eq_getElem_cons hk,hc];rfl
def evBad (e:Evt):Bool:=(decide (e.op≠1) && !e.row.isEmpty) || (decide (e.op≠2) && decide (e.key≠Cel.none)) || (decide (e.op≠3) && (decide (e.name≠noS) || decide (e.kind≠0)))
def fkind (s:Sch):Int:=match s.fields with | f::_=>f.kind | []=>0
def kchk (s:Sch) (c:Cel):Int:=if chk c≠0 then chk c else if c.kind=0 then 82 else if (c.kind:Int)≠fkind s then 10 else 0
def echk (s:Sch) (e:Evt):Int:=
 if schk s≠0 then schk s else
 if e.op<1∨3<e.op then 221 else
 if evBad e=true then 1 else
 if e.op=1 then (if rchk e.row≠0 then rchk e.row else fit s (e.row.map valOf)) else
 if e.op=2 then kchk s e.key else sadd s e.name e.kind
theorem schk_ok {s:Sch} (h:schk s=0):1≤s.fields.length∧s.fields.length≤8:=by
 unfold schk at h
 split at h
 ·cases h
 ·omega
theorem lastId_get {fs:List Fld}: ∀ (h:0<fs.length),lastId fs=(fs[fs.length - 1]'(by omega)).id:=by
 induction fs with
 |nil=>intro h;simp at h
 |cons f r ih=>
  intro _
  cases r with
  |nil=>rfl
  |cons g r=>
   have:=ih (by simp)
   simp only[lastId]at this ⊢
   rw[this]
   simp
end Go.Am.Ab
namespace Go.Am.Ab
open Go.Proofs
set_option maxHeartbeats 8000000
set_option maxRecDepth 4000
@[simp] theorem allSize_fld (l:List Fld):allSize 4 (l.map Fld.d)=true:=allSize_map0 l fun _=>rfl
theorem cloneF_runs (l:List Fld) (hn:l.length<1000000000):R 40 [.d (.list (l.map Fld.d))] []=some ([.arr 0 l.length],[.arr 4 (l.map Fld.d) 0]):=by
 cases l with
 |nil=>
  refine run_split (rs:=[.tmp 2]) (ts:=[42]) Tryz.func40 rfl rfl rfl (by kernel_rfl) (by kernel_rfl) sp_40 (by simp[Tryz.f40]) ?_
  intro T hT a ha
  rcases ha with rfl | rfl
  all_goals simp -dsimp -implicitDefEqProofs (disch:=first|omega|assumption) [startSlots,nI,wI]
  all_goals exact hT
 |cons x r=>
  simp only[List.length_cons]at hn
  refine run_goal (rs:=[.tmp 2]) (ts:=[42]) Tryz.func40 rfl rfl rfl (by kernel_rfl) (by kernel_rfl) (.inr ⟨(sp_40).2,by intro rest h;simp at h⟩) (by simp[Tryz.f40]) ?_
  intro T hT
  simp -dsimp -implicitDefEqProofs (disch:=first|omega|assumption) [startSlots,nI,wI]
  simpa -dsimp -implicitDefEqProofs (disch:=first|omega|assumption) [nI,wI]using hT
abbrev nmBox (nm:ByteArray):List Obj:=[.box [.d (.str nm)]]
theorem fsame2_runs (f:Fld) (nm:ByteArray):R 165 [.d f.d,.ptr 0 0] (nmBox nm)=some ([.d (.bool (decide (f.name=nm)))],nmBox nm):=by
 refine run_goal (rs:=[.tmp 3]) (ts:=[4]) Tryz.func165 rfl rfl rfl (by kernel_rfl) (by kernel_rfl) (.inl sp_165) (by simp[Tryz.f165]) ?_
 intro T hT
 simp -dsimp -implicitDefEqProofs (disch:=first|omega|assumption) [startSlots,nI,wI,str_beq]
 simpa -dsimp -implicitDefEqProofs (disch:=first|omega|assumption) [nI,wI]using hT
theorem findex2_runs (fs:List Fld) (nm:ByteArray) (hl:fs.length<1000000000):R 197 [.d (.list (fs.map Fld.d)),.clo 165 [.ptr 0 0]] (nmBox nm)
 =some ([.d (.int .i64 (idxN nm fs 0))],nmBox nm):=by
 refine run_goal (rs:=[.tmp 4]) (ts:=[3]) Tryz.func197 rfl rfl rfl (by kernel_rfl) (by kernel_rfl) (.inl sp_197) (by simp[Tryz.f197]) ?_
 intro T hT
 simp -dsimp -implicitDefEqProofs (disch:=first|omega|assumption) [startSlots,nI,wI]
 generalize hz:loopT _ _ _ _ _ _=z
 revert z
 refine loop_any (σ:=Nat) (fun k=>[(0,.d (.list (fs.map Fld.d))),(1,.clo 165 [.ptr 0 0]),(7,.d (.int .i64 fs.length)),(8,.d (.int .i64 k))]) (fun _=>nmBox nm) (fun k=>k≤fs.length∧idxN nm fs 0=idxN nm (fs.drop k) k) (fun k=>fs.length - k) 0 ?_ ?_ ?_
 ·exact⟨Nat.zero_le _,rfl⟩
 ·simp -dsimp -implicitDefEqProofs (disch:=first|omega|assumption)
 intro T' f hT' k ⟨g1,g2⟩ ih
 by_cases hk:k<fs.length
 ·obtain⟨x,hx⟩: ∃x,fs[k]=x:=⟨_,rfl⟩
  have hs:=fsame2_runs x nm
  rw[List.drop_eq_getElem_cons hk,hx]at g2
  simp only[idxN]at g2
  by_cases he:x.name=nm
  ·rw[if_pos he]at g2
   rw[decide_eq_true he]at hs
   subst hT'
   rw[g2]at hT
   obtain⟨xi,xn,xk,xd⟩:=x
   simp only[Fld.d]at hs
   simp -dsimp -implicitDefEqProofs (disch:=first|omega|assumption) [nI,wI,hk,hx,hs]
   simpa -dsimp -implicitDefEqProofs (disch:=first|omega|assumption) [nI,wI]using hT
  ·rw[if_neg he]at g2
   rw[decide_eq_false he]at hs
   obtain⟨xi,xn,xk,xd⟩:=x
   simp only[Fld.d]at hs
   simp -dsimp -implicitDefEqProofs (disch:=first|omega|assumption) [nI,wI,hk,hx,hs]
   refine ih (k+1) _ _ ⟨by omega,g2⟩ (by omega) ?_
   simp -dsimp -implicitDefEqProofs (disch:=first|omega|assumption) [wI]
 ·have:k=fs.length:=by omega
  subst this
  rw[List.drop_length,show idxN nm [] fs.length= -1 from rfl]at g2
  subst hT'
  rw[g2]at hT
  simp -dsimp -implicitDefEqProofs (disch:=first|omega|assumption) [nI,wI]
  simpa -dsimp -implicitDefEqProofs (disch:=first|omega|assumption) [nI,wI]using hT
theorem fcontains2_runs (fs:List Fld) (nm:ByteArray) (hl:fs.length<1000000000):R 142 [.d (.list (fs.map Fld.d)),.clo 165 [.ptr 0 0]] (nmBox nm)
 =some ([.d (.bool (hasN nm fs))],nmBox nm):=by
 have h:=findex2_runs fs nm hl
 rw[← idxN_has nm fs 0]
 refine run_goal (rs:=[.tmp 4]) (ts:=[4]) Tryz.func142 rfl rfl rfl (by kernel_rfl) (by kernel_rfl) (.inl sp_142) (by simp[Tryz.f142]) ?_
 intro T hT
 simp -dsimp -implicitDefEqProofs (disch:=first|omega|assumption) [startSlots,nI,wI,h]
 simpa -dsimp -implicitDefEqProofs (disch:=first|omega|assumption) [nI,wI]using hT
def saddV (s:Sch) (nm:ByteArray) (k:Int):List V:=if sadd s nm k=0 then [.agg [.d (.int .u32 (s.id+1)),.arr 0 (s.fields.length+1)],.d (.int .i64 0)] else [.agg [.d (.int .u32 0),.nilS],.d (.int .i64 (sadd s nm k))]
def saddH (s:Sch) (nm:ByteArray) (k:Int):List Obj:=if sadd s nm k=0 then [.arr 4 ((sgrow s nm k).fields.map Fld.d) 0] else []
structure SchW (s:Sch):Prop where
 id0:0≤s.id
 id1:s.id≤4294967295
 flds: ∀f∈s.fields,0≤f.id∧f.id≤4294967295∧f.name.size<1000000000
 len:s.fields.length<1000000000
theorem add_bad {s:Sch} {nm:ByteArray} {k e:Int} (h:sadd s nm k=e) (he:e≠0):saddV s nm k=[.agg [.d (.int .u32 0),.nilS],.d (.int .i64 e)]∧saddH s nm k=[]:=by
 unfold saddV saddH;rw[h,if_neg he,if_neg he];exact⟨rfl,rfl⟩
theorem add_good {s:Sch} {nm:ByteArray} {k:Int} (h:sadd s nm k=0):saddV s nm k=[.agg [.d (.int .u32 (s.id+1)),.arr 0 (s.fields.length+1)],.d (.int .i64 0)]∧saddH s nm k=[.arr 4 ((sgrow s nm k).fields.map Fld.d) 0]:=by
 unfold saddV saddH;rw[if_pos h,if_pos h];exact⟨rfl,rfl⟩
theorem add_runs (s:Sch) (nm:ByteArray) (k:Int) (hw:SchW s) (hn:nm.size<1000000000):R 85 [.d s.d,.d (.str nm),.d (.int .u8 k)] []=some (saddV s nm k,saddH s nm k):=by
 have hc:=scheck_runs s hw.id0 (fun f hf=>(hw.flds f hf).2.2) hw.len
 by_cases c1:schk s=0
 ·obtain⟨n1,n8⟩:=schk_ok c1
  have hl:=lastId_get (fs:=s.fields) (by omega)
  have hlw:=hw.flds (s.fields[s.fields.length - 1]'(by omega)) (List.getElem_mem _)
  obtain⟨i0,i1,hflds,hfl⟩:=hw
  obtain⟨sid,fs⟩:=s
  simp only at hl hlw n1 n8 i0 i1 hflds hfl
  rw[c1]at hc
  simp only[Sch.d]at hc ⊢
  obtain⟨f,hf⟩: ∃f,fs[fs.length - 1]'(by omega)=f:=⟨_,rfl⟩
  rw[hf]at hl hlw
  have hfi:((fs.length:Int) - 1).toNat=fs.length - 1:=by omega
  have hi0:(0:Int)≤(fs.length:Int) - 1:=by omega
  obtain⟨fi,fn,fk,fd⟩:=f
  simp only at hl hlw
  have hcl:=cloneF_runs fs (by omega)
  by_cases c2:fs.length=8∨fi=4294967295∨sid=4294967295
  ·have e:sadd ⟨sid,fs⟩ nm k=4:=by unfold sadd;rw[if_neg (fun h=>h c1)];simp only[hl,c2,if_true]
   obtain⟨e1,e2⟩:=add_bad e (by decide)
   rw[e1,e2]
   rcases c2 with c2 | c2
   ·have c2':(8:Int)≤fs.length:=by omega
    refine run_goal (rs:=[.cell 6 44,.tmp 7]) (ts:=[44,36]) Tryz.func85 rfl rfl rfl (by kernel_rfl) (by kernel_rfl) (.inl sp_85) (by simp[Tryz.f85]) ?_
    intro T hT
    simp -dsimp -implicitDefEqProofs (disch:=first|omega|assumption) [startSlots,nI,wI,hc,hf,hfi,hi0,c2']
    simpa -dsimp -implicitDefEqProofs (disch:=first|omega|assumption) [nI,wI]using hT
   by_cases c3:(8:Int)≤fs.length
   ·refine run_goal (rs:=[.cell 6 44,.tmp 7]) (ts:=[44,36]) Tryz.func85 rfl rfl rfl (by kernel_rfl) (by kernel_rfl) (.inl sp_85) (by simp[Tryz.f85]) ?_
    intro T hT
    simp -dsimp -implicitDefEqProofs (disch:=first|omega|assumption) [startSlots,nI,wI,hc,hf,hfi,hi0,c3]
    simpa -dsimp -implicitDefEqProofs (disch:=first|omega|assumption) [nI,wI]using hT
   rcases c2 with c2 | c2
   ·refine run_goal (rs:=[.cell 6 44,.tmp 7]) (ts:=[44,36]) Tryz.func85 rfl rfl rfl (by kernel_rfl) (by kernel_rfl) (.inl sp_85) (by simp[Tryz.f85]) ?_
    intro T hT
    simp -dsimp -implicitDefEqProofs (disch:=first|omega|assumption) [startSlots,nI,wI,hc,hf,hfi,hi0,c2,c3]
    simpa -dsimp -implicitDefEqProofs (disch:=first|omega|assumption) [nI,wI]using hT
   subst c2
   by_cases c4:fi=4294967295
   ·refine run_goal (rs:=[.cell 6 44,.tmp 7]) (ts:=[44,36]) Tryz.func85 rfl rfl rfl (by kernel_rfl) (by kernel_rfl) (.inl sp_85) (by simp[Tryz.f85]) ?_
    intro T hT
    simp -dsimp -implicitDefEqProofs (disch:=first|omega|assumption) [startSlots,nI,wI,hc,hf,hfi,hi0,c3,c4]
    simpa -dsimp -implicitDefEqProofs (disch:=first|omega|assumption) [nI,wI]using hT
   ·refine run_goal (rs:=[.cell 6 44,.tmp 7]) (ts:=[44,36]) Tryz.func85 rfl rfl rfl (by kernel_rfl) (by kernel_rfl) (.inl sp_85) (by simp[Tryz.f85]) ?_
    intro T hT
    simp -dsimp -implicitDefEqProofs (disch:=first|omega|assumption) [startSlots,nI,wI,hc,hf,hfi,hi0,c3,c4]
    simpa -dsimp -implicitDefEqProofs (disch:=first|omega|assumption) [nI,wI]using hT
  have c2a: ¬ (8:Int)≤fs.length:=by omega
  have c2b: ¬ fi=4294967295:=by omega
  have c2c: ¬ sid=4294967295:=by omega
  have hnm:=named_runs nm hn
  have hct:=fcontains2_runs fs nm (by omega)
  have hr:=sright_runs k
  by_cases c3:nmOk nm=false∨hasN nm fs=true
  ·have e:sadd ⟨sid,fs⟩ nm k=80:=by unfold sadd;rw[if_neg (fun h=>h c1)];simp only[hl,c2,c3,if_true,if_false]
   obtain⟨e1,e2⟩:=add_bad e (by decide)
   rw[e1,e2]
   cases c4:nmOk nm with
   |false=>
    rw[c4]at hnm
    refine run_goal (rs:=[.cell 6 44,.tmp 7]) (ts:=[44,36]) Tryz.func85 rfl rfl rfl (by kernel_rfl) (by kernel_rfl) (.inl sp_85) (by simp[Tryz.f85]) ?_
    intro T hT
    simp -dsimp -implicitDefEqProofs (disch:=first|omega|assumption) [startSlots,nI,wI,hc,hf,hfi,hi0,c2a,c2b,c2c,hnm]
    simpa -dsimp -implicitDefEqProofs (disch:=first|omega|assumption) [nI,wI]using hT
   |true=>
    rw[c4]at hnm
    rw[c4]at c3
    rw[show hasN nm fs=true by simpa using c3]at hct
    refine run_goal (rs:=[.cell 6 44,.tmp 7]) (ts:=[44,36]) Tryz.func85 rfl rfl rfl (by kernel_rfl) (by kernel_rfl) (.inl sp_85) (by simp[Tryz.f85]) ?_
    intro T hT
    simp -dsimp -implicitDefEqProofs (disch:=first|omega|assumption) [startSlots,nI,wI,hc,hf,hfi,hi0,c2a,c2b,c2c,hnm,hct]
    simpa -dsimp -implicitDefEqProofs (disch:=first|omega|assumption) [nI,wI]using hT
  have c3a:nmOk nm=true:=by cases h:nmOk nm with | true=>rfl | false=>exact absurd (.inl h) c3
  have c3b:hasN nm fs=false:=by cases h:hasN nm fs with | false=>rfl | true=>exact absurd (.inr h) c3
  rw[c3a]at hnm
  rw[c3b]at hct
  by_cases c4:k<1∨3<k
  ·have e:sadd ⟨sid,fs⟩ nm k=10:=by unfold sadd;rw[if_neg (fun h=>h c1)];simp only[hl,c2,c3,c4,if_true,if_false]
   obtain⟨e1,e2⟩:=add_bad e (by decide)
   rw[e1,e2]
   rw[decide_eq_false (by omega)]at hr
   refine run_goal (rs:=[.cell 6 44,.tmp 7]) (ts:=[44,36]) Tryz.func85 rfl rfl rfl (by kernel_rfl) (by kernel_rfl) (.inl sp_85) (by simp[Tryz.f85]) ?_
   intro T hT
   simp -dsimp -implicitDefEqProofs (disch:=first|omega|assumption) [startSlots,nI,wI,hc,hf,hfi,hi0,c2a,c2b,c2c,hnm,hct,hr]
   simpa -dsimp -implicitDefEqProofs (disch:=first|omega|assumption) [nI,wI]using hT
  ·have e:sadd ⟨sid,fs⟩ nm k=0:=by unfold sadd;rw[if_neg (fun h=>h c1)];simp only[hl,c2,c3,c4,if_false]
   obtain⟨e1,e2⟩:=add_good e
   rw[e1,e2]
   rw[decide_eq_true (by omega)]at hr
   have w1:IntKind.wrap .u32 (fi+1)=fi+1:=wrap_u32 (by omega) (by omega)
   have w2:IntKind.wrap .u32 (sid+1)=sid+1:=wrap_u32 (by omega) (by omega)
   have eF:(sgrow ⟨sid,fs⟩ nm k).fields.map Fld.d=fs.map Fld.d++[.agg [.int .u32 (fi+1),.str nm,.int .u8 k,.bool false]]:=by simp[sgrow,hl]
   rw[eF]
   refine run_goal (rs:=[.cell 6 44,.tmp 7]) (ts:=[44,36]) Tryz.func85 rfl rfl rfl (by kernel_rfl) (by kernel_rfl) (.inl sp_85) (by simp[Tryz.f85]) ?_
   intro T hT
   simp -dsimp -implicitDefEqProofs (disch:=first|omega|assumption) [startSlots,nI,wI,hc,hf,hfi,hi0,c2a,c2b,c2c,hnm,hct,hr,hcl,w1,w2]
   simpa -dsimp -implicitDefEqProofs (disch:=first|omega|assumption) [nI,wI]using hT
 ·have e:sadd s nm k=schk s:=by unfold sadd;rw[if_pos c1]
  obtain⟨e1,e2⟩:=add_bad e c1
  rw[e1,e2]
  obtain⟨sid,fs⟩:=s
  have c1':=c1
  generalize schk ⟨sid,fs⟩=q at*
  simp only[Sch.d]at hc ⊢
  generalize fs.map Fld.d=X at*
  refine run_goal (rs:=[.cell 6 44,.tmp 7]) (ts:=[44,36]) Tryz.func85 rfl rfl rfl (by kernel_rfl) (by kernel_rfl) (.inl sp_85) (by simp[Tryz.f85]) ?_
  intro T hT
  simp -dsimp -implicitDefEqProofs (disch:=first|omega|assumption) [startSlots,nI,wI,hc,c1]
  simpa -dsimp -implicitDefEqProofs (disch:=first|omega|assumption) [nI,wI]using hT
end Go.Am.Ab
namespace Go.Am.Ab
open Go.Proofs
set_option maxHeartbeats 8000000
set_option maxRecDepth 4000
theorem key_none (c:Cel):decide (c=Cel.none)=(decide ((c.kind:Int)=0) && (decide (c.n=0) && decide (c.s=noS))):=by
 obtain⟨k,n,s⟩:=c
 simp only[Cel.none,Cel.mk.injEq]
 by_cases h1:k=0 <;> by_cases h2:n=0 <;> by_cases h3:s=noS <;> simp[h1,h2,h3]
theorem only_runs (e:Evt) (hl:e.row.length≤1000000) (ho:e.op=1∨e.op=2∨e.op=3):R 81 [.d e.d] []=some ([.d (.bool (!evBad e))],[]):=by
 obtain⟨off,op,row,⟨ck,cn,cs⟩,nm,kd⟩:=e
 simp only at hl ho
 have hk:=key_none ⟨ck,cn,cs⟩
 have hrl:(ce row).length=row.length:=List.length_map _
 have hre:row.isEmpty=decide ((row.length:Int)=0):=by cases row <;> simp;omega
 unfold evBad
 simp only[Evt.d,hre]
 simp only at hk
 generalize ce row=Y at*
 generalize hb:decide ((⟨ck,cn,cs⟩:Cel)=Cel.none)=b at*
 have hb2:decide ((⟨ck,cn,cs⟩:Cel)≠Cel.none)= !b:=by rw[← hb];simp
 rw[hb2]
 clear hb hb2
 subst hk
 rcases ho with rfl | rfl | rfl
 ·by_cases d1:ck=0
  ·subst d1
   by_cases d2:cn=0 <;> by_cases d3:cs=noS <;> by_cases d4:nm=noS
   all_goals
    refine run_goal (rs:=[.tmp 2]) (ts:=[4]) Tryz.func81 rfl rfl rfl (by kernel_rfl) (by kernel_rfl) (.inl sp_81) (by simp[Tryz.f81]) ?_
    intro T hT
    simp -dsimp -implicitDefEqProofs (disch:=first|omega|assumption) [startSlots,nI,wI,hrl,str_beq,str_empty,d2,d3,d4]
    simpa -dsimp -implicitDefEqProofs (disch:=first|omega|assumption) [nI,wI,d2,d3,d4]using hT
  ·have d6: ¬ (ck:Int)=0:=by omega
   by_cases d2:cn=0 <;> by_cases d3:cs=noS <;> by_cases d4:nm=noS
   all_goals
    refine run_goal (rs:=[.tmp 2]) (ts:=[4]) Tryz.func81 rfl rfl rfl (by kernel_rfl) (by kernel_rfl) (.inl sp_81) (by simp[Tryz.f81]) ?_
    intro T hT
    simp -dsimp -implicitDefEqProofs (disch:=first|omega|assumption) [startSlots,nI,wI,hrl,str_beq,str_empty,d1,d2,d3,d4,d6]
    simpa -dsimp -implicitDefEqProofs (disch:=first|omega|assumption) [nI,wI,d1,d2,d3,d4,d6]using hT
 ·by_cases d1:row=[]
  ·subst d1
   by_cases d4:nm=noS
   all_goals
    refine run_goal (rs:=[.tmp 2]) (ts:=[4]) Tryz.func81 rfl rfl rfl (by kernel_rfl) (by kernel_rfl) (.inl sp_81) (by simp[Tryz.f81]) ?_
    intro T hT
    simp -dsimp -implicitDefEqProofs (disch:=first|omega|assumption) [startSlots,nI,wI,hrl,str_beq,str_empty,d4]
    simpa -dsimp -implicitDefEqProofs (disch:=first|omega|assumption) [nI,wI,d4]using hT
  ·have d6: ¬ (row.length:Int)=0:=fun h=>d1 (List.length_eq_zero_iff.1 (by omega))
   by_cases d4:nm=noS
   all_goals
    refine run_goal (rs:=[.tmp 2]) (ts:=[4]) Tryz.func81 rfl rfl rfl (by kernel_rfl) (by kernel_rfl) (.inl sp_81) (by simp[Tryz.f81]) ?_
    intro T hT
    simp -dsimp -implicitDefEqProofs (disch:=first|omega|assumption) [startSlots,nI,wI,hrl,str_beq,str_empty,d6,d4]
    simpa -dsimp -implicitDefEqProofs (disch:=first|omega|assumption) [nI,wI,d4,d1]using hT
 ·by_cases d1:row=[]
  ·subst d1
   by_cases d4:nm=noS
   all_goals
    refine run_goal (rs:=[.tmp 2]) (ts:=[4]) Tryz.func81 rfl rfl rfl (by kernel_rfl) (by kernel_rfl) (.inl sp_81) (by simp[Tryz.f81]) ?_
    intro T hT
    simp -dsimp -implicitDefEqProofs (disch:=first|omega|assumption) [startSlots,nI,wI,hrl,str_beq,str_empty,d4]
    simpa -dsimp -implicitDefEqProofs (disch:=first|omega|assumption) [nI,wI,d4]using hT
  ·have d6: ¬ (row.length:Int)=0:=fun h=>d1 (List.length_eq_zero_iff.1 (by omega))
   by_cases d4:nm=noS
   all_goals
    refine run_goal (rs:=[.tmp 2]) (ts:=[4]) Tryz.func81 rfl rfl rfl (by kernel_rfl) (by kernel_rfl) (.inl sp_81) (by simp[Tryz.f81]) ?_
    intro T hT
    simp -dsimp -implicitDefEqProofs (disch:=first|omega|assumption) [startSlots,nI,wI,hrl,str_beq,str_empty,d6,d4]
    simpa -dsimp -implicitDefEqProofs (disch:=first|omega|assumption) [nI,wI,d4,d1]using hT
theorem values_runs (s:Sch) (l:List Cel) (hc: ∀c∈l,celW c) (hl:l.length≤1000000) (hs:s.fields.length<1000000000):
 R 82 [.d s.d,.d (.list (ce l))] []=some (if rchk l=0 then ([.arr 0 l.length,.d (.int .i64 (fit s (l.map valOf)))],[.arr 1 (vs (l.map valOf)) l.length]) else ([.arr 0 0,.d (.int .i64 (rchk l))],[.arr 1 [] 0])):=by
 have hf:=fit_runs s (l.map valOf) hs (by rw[List.length_map];omega)
 have hend:vs (l.map valOf)=preD (fun c=>(valOf c).d) l l.length:=by
  rw[preD_end (Nat.le_refl _)]
  show (l.map valOf).map Val.d=_
  rw[List.map_map];rfl
 have hlen0:=preD_length (g:=fun c=>(valOf c).d) (Nat.le_refl l.length)
 rw[hend]at hf ⊢
 generalize fit s (l.map valOf)=q at*
 obtain⟨sid,fs⟩:=s
 simp only[Sch.d]at hf ⊢
 generalize fs.map Fld.d=X at*
 refine run_goal (rs:=[.tmp 4,.tmp 5]) (ts:=[159,36]) Tryz.func82 rfl rfl rfl (by kernel_rfl) (by kernel_rfl) (.inl sp_82) (by simp[Tryz.f82]) ?_
 intro T hT
 simp -dsimp -implicitDefEqProofs (disch:=first|omega|assumption) [startSlots,nI,wI]
 generalize hz:loopT _ _ _ _ _ _=z
 revert z
 refine loop_any (σ:=Nat) (fun i=>[(2,.ptr 0 0),(6,.arr 1 i),(11,.d (.list (ce l))),(12,.d (.int .i64 l.length)),(13,.d (.int .i64 i))]) (fun i=>[.box [.d (.int .u32 sid),.d (.list X)],.arr 1 (preD (fun c=>(valOf c).d) l i) 0]) (fun i=>i≤l.length∧rchk l=rchk (l.drop i)) (fun i=>l.length - i) 0 ?_ ?_ ?_
 ·exact⟨Nat.zero_le _,rfl⟩
 ·simp -dsimp -implicitDefEqProofs (disch:=first|omega|assumption) [preD_zero]
 intro T' f hT' i ⟨hi,hr⟩ ih
 have hlen:=preD_length (g:=fun c=>(valOf c).d) hi
 by_cases h1:i<l.length
 ·obtain⟨c,hx⟩: ∃c,l[i]=c:=⟨_,rfl⟩
  have hw:=hc c (hx ▸ List.getElem_mem h1)
  have hv:=vof_runs c hw.1 hw.2
  have htk:=preD_succ (g:=fun c=>(valOf c).d) h1
  rw[hx]at htk
  rw[rchk_more h1 hx]at hr
  by_cases h2:chk c=0
  ·rw[if_pos h2]at hr
   rw[h2]at hv
   have hcd:=cel_d c
   obtain⟨ck,cn,cs⟩:=c
   simp only at hcd
   rw[hcd]at hv
   generalize valOf ⟨ck,cn,cs⟩=v at*
   simp -dsimp -implicitDefEqProofs (disch:=first|omega|assumption) [nI,wI,h1,hx,hv,hlen,hcd]
   refine ih (i+1) _ _ ⟨h1,hr⟩ (by omega) ?_
   rw[htk]
   simp -dsimp -implicitDefEqProofs (disch:=first|omega|assumption)
  ·rw[if_neg h2]at hr
   have hne:rchk l≠0:=by rw[hr];omega
   rw[if_neg hne,hr]at hT
   have hcd:=cel_d c
   have h2': ¬ (chk c:Int)=0:=by omega
   obtain⟨ck,cn,cs⟩:=c
   simp only at hcd
   rw[hcd]at hv
   generalize chk ⟨ck,cn,cs⟩=n at*
   generalize valOf ⟨ck,cn,cs⟩=v at*
   subst hT'
   simp -dsimp -implicitDefEqProofs (disch:=first|omega|assumption) [nI,wI,h1,hx,hv,hlen,hcd,h2,h2']
   simpa -dsimp -implicitDefEqProofs (disch:=first|omega|assumption) [nI,wI]using hT
 ·have e:i=l.length:=by omega
  subst e
  rw[List.drop_length,show rchk []=0 from rfl]at hr
  rw[if_pos hr]at hT
  subst hT'
  simp -dsimp -implicitDefEqProofs (disch:=first|omega|assumption) [nI,wI,hlen,hf]
  simpa -dsimp -implicitDefEqProofs (disch:=first|omega|assumption) [nI,wI]using hT
end Go.Am.Ab
namespace Go.Am.Ab
open Go.Proofs
set_option maxHeartbeats 8000000
set_option maxRecDepth 4000
theorem echk_runs (s:Sch) (e:Evt) (hs:SchW s) (he:e.wf):R 38 [.d s.d,.d e.d] []=some ([.d (.int .i64 (echk s e))],[]):=by
 have hc:=scheck_runs s hs.id0 (fun f hf=>(hs.flds f hf).2.2) hs.len
 by_cases c1:schk s=0
 ·obtain⟨n1,n8⟩:=schk_ok c1
  rw[c1]at hc
  have hv:=values_runs s e.row he.row he.len hs.len
  have hk:=vof_runs e.key he.key.1 he.key.2
  have hkd:=kindOf_runs (valOf e.key)
  have ha:=add_runs s e.name e.kind hs he.name
  have hz:saddV s e.name e.kind=[.agg [.d (.int .u32 (s.id+1)),.arr 0 (s.fields.length+1)],.d (.int .i64 (sadd s e.name e.kind))]∧saddH s e.name e.kind=[.arr 4 ((sgrow s e.name e.kind).fields.map Fld.d) 0]∨saddV s e.name e.kind=[.agg [.d (.int .u32 0),.nilS],.d (.int .i64 (sadd s e.name e.kind))]∧saddH s e.name e.kind=[]:=by
   by_cases h:sadd s e.name e.kind=0
   ·obtain⟨q1,q2⟩:=add_good h;exact .inl ⟨by rw[q1,h],q2⟩
   ·obtain⟨q1,q2⟩:=add_bad rfl h;exact .inr ⟨q1,q2⟩
  have hon:=fun ho=>only_runs e he.len ho
  by_cases c2:e.op<1∨3<e.op
  ·have q:echk s e=221:=by unfold echk;rw[if_neg (fun h=>h c1),if_pos c2]
   rw[q]
   obtain⟨off,op,row,⟨ck,cn,cs⟩,nm,kd⟩:=e
   obtain⟨sid,fs⟩:=s
   simp only[Sch.d,Evt.d]at hc c2 ⊢
   generalize fs.map Fld.d=X at*
   generalize ce row=Y at*
   by_cases c3:op<1
   ·refine run_goal (rs:=[.tmp 4]) (ts:=[36]) Tryz.func38 rfl rfl rfl (by kernel_rfl) (by kernel_rfl) (.inl sp_38) (by simp[Tryz.f38]) ?_
    intro T hT
    simp -dsimp -implicitDefEqProofs (disch:=first|omega|assumption) [startSlots,nI,wI,hc,c3]
    simpa -dsimp -implicitDefEqProofs (disch:=first|omega|assumption) [nI,wI]using hT
   ·have c4:3<op:=by omega
    refine run_goal (rs:=[.tmp 4]) (ts:=[36]) Tryz.func38 rfl rfl rfl (by kernel_rfl) (by kernel_rfl) (.inl sp_38) (by simp[Tryz.f38]) ?_
    intro T hT
    simp -dsimp -implicitDefEqProofs (disch:=first|omega|assumption) [startSlots,nI,wI,hc,c3,c4]
    simpa -dsimp -implicitDefEqProofs (disch:=first|omega|assumption) [nI,wI]using hT
  have c2a: ¬ e.op<1:=by omega
  have c2b: ¬ 3<e.op:=by omega
  have hon:=hon (by omega)
  cases c3:evBad e with
  |true=>
   have q:echk s e=1:=by unfold echk;rw[if_neg (fun h=>h c1),if_neg c2,if_pos c3]
   rw[q]
   rw[c3]at hon
   obtain⟨off,op,row,⟨ck,cn,cs⟩,nm,kd⟩:=e
   obtain⟨sid,fs⟩:=s
   simp only[Sch.d,Evt.d]at hc c2a c2b hon ⊢
   generalize fs.map Fld.d=X at*
   generalize ce row=Y at*
   refine run_goal (rs:=[.tmp 4]) (ts:=[36]) Tryz.func38 rfl rfl rfl (by kernel_rfl) (by kernel_rfl) (.inl sp_38) (by simp[Tryz.f38]) ?_
   intro T hT
   simp -dsimp -implicitDefEqProofs (disch:=first|omega|assumption) [startSlots,nI,wI,hc,c2a,c2b,hon]
   simpa -dsimp -implicitDefEqProofs (disch:=first|omega|assumption) [nI,wI]using hT
  |false=>
  rw[c3]at hon
  have q:echk s e=if e.op=1 then (if rchk e.row≠0 then rchk e.row else fit s (e.row.map valOf)) else if e.op=2 then kchk s e.key else sadd s e.name e.kind:=by unfold echk;rw[if_neg (fun h=>h c1),if_neg c2,c3,if_neg (by decide)]
  rw[q]
  by_cases o1:e.op=1
  ·rw[if_pos o1]
   obtain⟨off,op,row,⟨ck,cn,cs⟩,nm,kd⟩:=e
   obtain⟨sid,fs⟩:=s
   simp only[Sch.d,Evt.d]at hc c2a c2b hon hv o1 ⊢
   subst o1
   have hrl:(vs (row.map valOf)).length=row.length:=by rw[List.length_map,List.length_map]
   generalize fit ⟨sid,fs⟩ (row.map valOf)=g at*
   generalize vs (row.map valOf)=Z at*
   generalize rchk row=r at*
   have hYl:(ce row).length=row.length:=List.length_map _
   generalize fs.map Fld.d=X at*
   generalize ce row=Y at*
   generalize row.length=n at*
   by_cases c4:r=0
   ·rw[if_pos c4]at hv
    rw[if_neg (fun h=>h c4)]
    refine run_goal (rs:=[.tmp 4]) (ts:=[36]) Tryz.func38 rfl rfl rfl (by kernel_rfl) (by kernel_rfl) (.inl sp_38) (by simp[Tryz.f38]) ?_
    intro T hT
    simp -dsimp -implicitDefEqProofs (disch:=first|omega|assumption) [startSlots,nI,wI,hc,hon,hv]
    simpa -dsimp -implicitDefEqProofs (disch:=first|omega|assumption) [nI,wI]using hT
   ·rw[if_neg c4]at hv
    rw[if_pos c4]
    refine run_goal (rs:=[.tmp 4]) (ts:=[36]) Tryz.func38 rfl rfl rfl (by kernel_rfl) (by kernel_rfl) (.inl sp_38) (by simp[Tryz.f38]) ?_
    intro T hT
    simp -dsimp -implicitDefEqProofs (disch:=first|omega|assumption) [startSlots,nI,wI,hc,hon,hv]
    simpa -dsimp -implicitDefEqProofs (disch:=first|omega|assumption) [nI,wI]using hT
  rw[if_neg o1]
  by_cases o2:e.op=2
  ·rw[if_pos o2]
   obtain⟨off,op,row,key,nm,kd⟩:=e
   obtain⟨sid,fs⟩:=s
   simp only at n1 n8
   obtain⟨f0,fr,hfs⟩: ∃f0 fr,fs=f0::fr:=by cases fs with | nil=>simp at n1 | cons a b=>exact⟨a,b,rfl⟩
   obtain⟨fi,fn,fk,fd⟩:=f0
   have hfk:fkind ⟨sid,fs⟩=fk:=by rw[hfs];rfl
   have hX0:fs.map Fld.d= .agg [.int .u32 fi,.str fn,.int .u8 fk,.bool fd]::fr.map Fld.d:=by rw[hfs];rfl
   simp only[Sch.d,Evt.d]at hc hon hk o2 ⊢
   subst o2
   rw[hX0]at hc ⊢
   have hcd:=cel_d key
   rw[hcd]at hk
   have hvk:chk key=0→(valOf key).kind=key.kind:=fun h=>by
    have:=cell_back h
    cases hv:valOf key <;> rw[hv]at this <;> rw[← this] <;> rfl
   unfold kchk
   rw[hfk]
   by_cases c4:chk key=0
   ·rw[if_neg (fun h=>h c4)]
    have hvk:=hvk c4
    rw[c4,show ((0:Nat):Int)=0 from rfl]at hk
    cases hv:valOf key with
    |null=>
     rw[hv]at hk hvk
     have e0:key.kind=0:=hvk.symm
     rw[if_pos e0]
     obtain⟨ck,cn,cs⟩:=key
     simp only at e0 hk hon
     subst e0
     rw[vd0]at hk
     rw[show ((0:Nat):Int)=0 from rfl]at hk hon
     generalize fr.map Fld.d=X at*
     generalize ce row=Y at*
     refine run_goal (rs:=[.tmp 4]) (ts:=[36]) Tryz.func38 rfl rfl rfl (by kernel_rfl) (by kernel_rfl) (.inl sp_38) (by simp[Tryz.f38]) ?_
     intro T hT
     simp -dsimp -implicitDefEqProofs (disch:=first|omega|assumption) [startSlots,nI,wI,hc,hon,hk]
     simpa -dsimp -implicitDefEqProofs (disch:=first|omega|assumption) [nI,wI]using hT
    |whole x=>
     rw[hv]at hk hvk hkd
     have e0:key.kind=1:=hvk.symm
     rw[if_neg (by omega),e0]
     obtain⟨ck,cn,cs⟩:=key
     simp only at e0 hk hon
     subst e0
     rw[vd1]at hk hkd
     rw[show ((1:Nat):Int)=1 from rfl]at hk hon
     simp only[Val.kind,show ((1:Nat):Int)=1 from rfl,show ((2:Nat):Int)=2 from rfl,show ((3:Nat):Int)=3 from rfl]at hkd
     generalize fr.map Fld.d=X at*
     generalize ce row=Y at*
     by_cases c5:(1:Int)=fk
     ·subst c5
      rw[if_neg (by decide)]
      refine run_goal (rs:=[.tmp 4]) (ts:=[36]) Tryz.func38 rfl rfl rfl (by kernel_rfl) (by kernel_rfl) (.inl sp_38) (by simp[Tryz.f38]) ?_
      intro T hT
      simp -dsimp -implicitDefEqProofs (disch:=first|omega|assumption) [startSlots,nI,wI,hc,hon,hk,hkd]
      simpa -dsimp -implicitDefEqProofs (disch:=first|omega|assumption) [nI,wI]using hT
     ·rw[if_pos (by simpa using c5)]
      refine run_goal (rs:=[.tmp 4]) (ts:=[36]) Tryz.func38 rfl rfl rfl (by kernel_rfl) (by kernel_rfl) (.inl sp_38) (by simp[Tryz.f38]) ?_
      intro T hT
      simp -dsimp -implicitDefEqProofs (disch:=first|omega|assumption) [startSlots,nI,wI,hc,hon,hk,hkd,c5]
      simpa -dsimp -implicitDefEqProofs (disch:=first|omega|assumption) [nI,wI]using hT
    |truth x=>
     rw[hv]at hk hvk hkd
     have e0:key.kind=2:=hvk.symm
     rw[if_neg (by omega),e0]
     obtain⟨ck,cn,cs⟩:=key
     simp only at e0 hk hon
     subst e0
     rw[vd2]at hk hkd
     rw[show ((2:Nat):Int)=2 from rfl]at hk hon
     simp only[Val.kind,show ((1:Nat):Int)=1 from rfl,show ((2:Nat):Int)=2 from rfl,show ((3:Nat):Int)=3 from rfl]at hkd
     generalize fr.map Fld.d=X at*
     generalize ce row=Y at*
     by_cases c5:(2:Int)=fk
     ·subst c5
      rw[if_neg (by decide)]
      refine run_goal (rs:=[.tmp 4]) (ts:=[36]) Tryz.func38 rfl rfl rfl (by kernel_rfl) (by kernel_rfl) (.inl sp_38) (by simp[Tryz.f38]) ?_
      intro T hT
      simp -dsimp -implicitDefEqProofs (disch:=first|omega|assumption) [startSlots,nI,wI,hc,hon,hk,hkd]
      simpa -dsimp -implicitDefEqProofs (disch:=first|omega|assumption) [nI,wI]using hT
     ·rw[if_pos (by simpa using c5)]
      refine run_goal (rs:=[.tmp 4]) (ts:=[36]) Tryz.func38 rfl rfl rfl (by kernel_rfl) (by kernel_rfl) (.inl sp_38) (by simp[Tryz.f38]) ?_
      intro T hT
      simp -dsimp -implicitDefEqProofs (disch:=first|omega|assumption) [startSlots,nI,wI,hc,hon,hk,hkd,c5]
      simpa -dsimp -implicitDefEqProofs (disch:=first|omega|assumption) [nI,wI]using hT
    |text x=>
     rw[hv]at hk hvk hkd
     have e0:key.kind=3:=hvk.symm
     rw[if_neg (by omega),e0]
     obtain⟨ck,cn,cs⟩:=key
     simp only at e0 hk hon
     subst e0
     rw[vd3]at hk hkd
     rw[show ((3:Nat):Int)=3 from rfl]at hk hon
     simp only[Val.kind,show ((1:Nat):Int)=1 from rfl,show ((2:Nat):Int)=2 from rfl,show ((3:Nat):Int)=3 from rfl]at hkd
     generalize fr.map Fld.d=X at*
     generalize ce row=Y at*
     by_cases c5:(3:Int)=fk
     ·subst c5
      rw[if_neg (by decide)]
      refine run_goal (rs:=[.tmp 4]) (ts:=[36]) Tryz.func38 rfl rfl rfl (by kernel_rfl) (by kernel_rfl) (.inl sp_38) (by simp[Tryz.f38]) ?_
      intro T hT
      simp -dsimp -implicitDefEqProofs (disch:=first|omega|assumption) [startSlots,nI,wI,hc,hon,hk,hkd]
      simpa -dsimp -implicitDefEqProofs (disch:=first|omega|assumption) [nI,wI]using hT
     ·rw[if_pos (by simpa using c5)]
      refine run_goal (rs:=[.tmp 4]) (ts:=[36]) Tryz.func38 rfl rfl rfl (by kernel_rfl) (by kernel_rfl) (.inl sp_38) (by simp[Tryz.f38]) ?_
      intro T hT
      simp -dsimp -implicitDefEqProofs (disch:=first|omega|assumption) [startSlots,nI,wI,hc,hon,hk,hkd,c5]
      simpa -dsimp -implicitDefEqProofs (disch:=first|omega|assumption) [nI,wI]using hT
   ·rw[if_pos c4]
    have c4': ¬ (chk key:Int)=0:=by omega
    obtain⟨ck,cn,cs⟩:=key
    simp only at hk hon
    generalize chk ⟨ck,cn,cs⟩=n at*
    generalize valOf ⟨ck,cn,cs⟩=v at*
    generalize fr.map Fld.d=X at*
    generalize ce row=Y at*
    refine run_goal (rs:=[.tmp 4]) (ts:=[36]) Tryz.func38 rfl rfl rfl (by kernel_rfl) (by kernel_rfl) (.inl sp_38) (by simp[Tryz.f38]) ?_
    intro T hT
    simp -dsimp -implicitDefEqProofs (disch:=first|omega|assumption) [startSlots,nI,wI,hc,hon,hk,c4,c4']
    simpa -dsimp -implicitDefEqProofs (disch:=first|omega|assumption) [nI,wI]using hT
  ·rw[if_neg o2]
   have o3:e.op=3:=by omega
   obtain⟨off,op,row,⟨ck,cn,cs⟩,nm,kd⟩:=e
   obtain⟨sid,fs⟩:=s
   simp only[Sch.d,Evt.d]at hc c2a c2b hon ha hz o3 ⊢
   subst o3
   generalize sadd ⟨sid,fs⟩ nm kd=g at*
   generalize saddV ⟨sid,fs⟩ nm kd=V at*
   generalize saddH ⟨sid,fs⟩ nm kd=H at*
   have hZl:((sgrow ⟨sid,fs⟩ nm kd).fields.map Fld.d).length=fs.length+1:=by simp[sgrow]
   generalize (sgrow ⟨sid,fs⟩ nm kd).fields.map Fld.d=Z at*
   generalize fs.length=n at*
   generalize fs.map Fld.d=X at*
   generalize ce row=Y at*
   rcases hz with ⟨rfl,rfl⟩ | ⟨rfl,rfl⟩
   ·refine run_goal (rs:=[.tmp 4]) (ts:=[36]) Tryz.func38 rfl rfl rfl (by kernel_rfl) (by kernel_rfl) (.inl sp_38) (by simp[Tryz.f38]) ?_
    intro T hT
    simp -dsimp -implicitDefEqProofs (disch:=first|omega|assumption) [startSlots,nI,wI,hc,hon,ha,hZl]
    simpa -dsimp -implicitDefEqProofs (disch:=first|omega|assumption) [nI,wI]using hT
   ·refine run_goal (rs:=[.tmp 4]) (ts:=[36]) Tryz.func38 rfl rfl rfl (by kernel_rfl) (by kernel_rfl) (.inl sp_38) (by simp[Tryz.f38]) ?_
    intro T hT
    simp -dsimp -implicitDefEqProofs (disch:=first|omega|assumption) [startSlots,nI,wI,hc,hon,ha]
    simpa -dsimp -implicitDefEqProofs (disch:=first|omega|assumption) [nI,wI]using hT
 ·have q:echk s e=schk s:=by unfold echk;rw[if_pos c1]
  rw[q]
  obtain⟨off,op,row,⟨ck,cn,cs⟩,nm,kd⟩:=e
  obtain⟨sid,fs⟩:=s
  generalize schk ⟨sid,fs⟩=q at*
  simp only[Sch.d,Evt.d]at hc ⊢
  generalize fs.map Fld.d=X at*
  generalize ce row=Y at*
  refine run_goal (rs:=[.tmp 4]) (ts:=[36]) Tryz.func38 rfl rfl rfl (by kernel_rfl) (by kernel_rfl) (.inl sp_38) (by simp[Tryz.f38]) ?_
  intro T hT
  simp -dsimp -implicitDefEqProofs (disch:=first|omega|assumption) [startSlots,nI,wI,hc,c1]
  simpa -dsimp -implicitDefEqProofs (disch:=first|omega|assumption) [nI,wI]using hT
end Go.Am.Ab
