/- Which events may be: the document. -/
import Derived.Test.YtldceipbpilipaaGreatDoorEvtA
set_option linter.all false
namespace Go.Am.Ab
open Go.Proofs
set_option maxHeartbeats 8000000
set_option maxRecDepth 4000
theorem radd_runs (s : Sch) (nm : ByteArray) (k : Int) (hw : SchW s) (hn : nm.size < 1000000000) (hk0 : 0 ≤ k) (hk1 : k ≤ 255) : R 44 [.d s.d,.d (.str nm),.d (.int .i64 k)] [] = some (saddV s nm k,saddH s nm k) := by
 have hc := rscheck_runs s hw.id0 (fun f hf => ⟨(hw.flds f hf).1,(hw.flds f hf).2.2⟩) hw.len
 by_cases c1 : schk s = 0
 ·obtain ⟨n1,n8⟩ := schk_ok c1
  have hl := lastId_get (fs := s.fields) (by omega)
  have hlw := hw.flds (s.fields[s.fields.length - 1]'(by omega)) (List.getElem_mem _)
  obtain ⟨i0,i1,hflds,hfl⟩ := hw
  obtain ⟨sid,fs⟩ := s
  simp only at hl hlw n1 n8 i0 i1 hflds hfl
  rw [c1] at hc
  simp only [Sch.d] at hc ⊢
  obtain ⟨f,hf⟩ : ∃ f,fs[fs.length - 1]'(by omega) = f := ⟨_,rfl⟩
  rw [hf] at hl hlw
  have hfi : ((fs.length : Int) - 1).toNat = fs.length - 1 := by omega
  have hi0 : (0 : Int) ≤ (fs.length : Int) - 1 := by omega
  obtain ⟨fi,fn,fk,fd⟩ := f
  simp only at hl hlw
  by_cases c2 : fs.length = 8 ∨ fi = 4294967295 ∨ sid = 4294967295
  ·have e : sadd ⟨sid,fs⟩ nm k = 4 := by unfold sadd; rw [if_neg (fun h => h c1)]; simp only [hl,c2,if_true]
   obtain ⟨e1,e2⟩ := add_bad e (by decide)
   rw [e1,e2]
   by_cases c3 : fs.length = 8
   ·have c3' : (fs.length : Int) = 8 := by omega
    refine run_goal (rs:=[.cell 6 44,.tmp 7]) (ts:=[44,3]) Tryz.func44 rfl rfl rfl (by kernel_rfl) (by kernel_rfl) (.inl sp_44) (by simp [Tryz.f44]) ?_
    intro T hT
    simp -dsimp -implicitDefEqProofs (disch:=first|omega|assumption) [startSlots,nI,wI,hc,hf,hfi,hi0,c3,c3']
    simpa -dsimp -implicitDefEqProofs (disch:=first|omega|assumption) [nI,wI] using hT
   have c3' : ¬ (fs.length : Int) = 8 := by omega
   have c2 : fi = 4294967295 ∨ sid = 4294967295 := by omega
   rcases c2 with c2 | c2
   ·refine run_goal (rs:=[.cell 6 44,.tmp 7]) (ts:=[44,3]) Tryz.func44 rfl rfl rfl (by kernel_rfl) (by kernel_rfl) (.inl sp_44) (by simp [Tryz.f44]) ?_
    intro T hT
    simp -dsimp -implicitDefEqProofs (disch:=first|omega|assumption) [startSlots,nI,wI,hc,hf,hfi,hi0,c2,c3,c3']
    simpa -dsimp -implicitDefEqProofs (disch:=first|omega|assumption) [nI,wI] using hT
   subst c2
   by_cases c4 : fi = 4294967295
   ·refine run_goal (rs:=[.cell 6 44,.tmp 7]) (ts:=[44,3]) Tryz.func44 rfl rfl rfl (by kernel_rfl) (by kernel_rfl) (.inl sp_44) (by simp [Tryz.f44]) ?_
    intro T hT
    simp -dsimp -implicitDefEqProofs (disch:=first|omega|assumption) [startSlots,nI,wI,hc,hf,hfi,hi0,c3,c3',c4]
    simpa -dsimp -implicitDefEqProofs (disch:=first|omega|assumption) [nI,wI] using hT
   ·refine run_goal (rs:=[.cell 6 44,.tmp 7]) (ts:=[44,3]) Tryz.func44 rfl rfl rfl (by kernel_rfl) (by kernel_rfl) (.inl sp_44) (by simp [Tryz.f44]) ?_
    intro T hT
    simp -dsimp -implicitDefEqProofs (disch:=first|omega|assumption) [startSlots,nI,wI,hc,hf,hfi,hi0,c3,c3',c4]
    simpa -dsimp -implicitDefEqProofs (disch:=first|omega|assumption) [nI,wI] using hT
  have c2a : ¬ (fs.length : Int) = 8 := by omega
  have c2b : ¬ fi = 4294967295 := by omega
  have c2c : ¬ sid = 4294967295 := by omega
  have hnm := rnamed_runs nm hn
  have hct := rfhas_runs fs nm (by omega)
  by_cases c3 : nmOk nm = false ∨ hasN nm fs = true
  ·have e : sadd ⟨sid,fs⟩ nm k = 80 := by unfold sadd; rw [if_neg (fun h => h c1)]; simp only [hl,c2,c3,if_true,if_false]
   obtain ⟨e1,e2⟩ := add_bad e (by decide)
   rw [e1,e2]
   cases c4 : nmOk nm with
   | false =>
    rw [c4] at hnm
    refine run_goal (rs:=[.cell 6 44,.tmp 7]) (ts:=[44,3]) Tryz.func44 rfl rfl rfl (by kernel_rfl) (by kernel_rfl) (.inl sp_44) (by simp [Tryz.f44]) ?_
    intro T hT
    simp -dsimp -implicitDefEqProofs (disch:=first|omega|assumption) [startSlots,nI,wI,hc,hf,hfi,hi0,c2a,c2b,c2c,hnm]
    simpa -dsimp -implicitDefEqProofs (disch:=first|omega|assumption) [nI,wI] using hT
   | true =>
    rw [c4] at hnm
    rw [c4] at c3
    rw [show hasN nm fs = true by simpa using c3] at hct
    refine run_goal (rs:=[.cell 6 44,.tmp 7]) (ts:=[44,3]) Tryz.func44 rfl rfl rfl (by kernel_rfl) (by kernel_rfl) (.inl sp_44) (by simp [Tryz.f44]) ?_
    intro T hT
    simp -dsimp -implicitDefEqProofs (disch:=first|omega|assumption) [startSlots,nI,wI,hc,hf,hfi,hi0,c2a,c2b,c2c,hnm,hct]
    simpa -dsimp -implicitDefEqProofs (disch:=first|omega|assumption) [nI,wI] using hT
  have c3a : nmOk nm = true := by cases h : nmOk nm with | true => rfl | false => exact absurd (.inl h) c3
  have c3b : hasN nm fs = false := by cases h : hasN nm fs with | false => rfl | true => exact absurd (.inr h) c3
  rw [c3a] at hnm
  rw [c3b] at hct
  by_cases c4 : k < 1 ∨ 3 < k
  ·have e : sadd ⟨sid,fs⟩ nm k = 10 := by unfold sadd; rw [if_neg (fun h => h c1)]; simp only [hl,c2,c3,c4,if_true,if_false]
   obtain ⟨e1,e2⟩ := add_bad e (by decide)
   rw [e1,e2]
   by_cases c5 : k < 1
   ·refine run_goal (rs:=[.cell 6 44,.tmp 7]) (ts:=[44,3]) Tryz.func44 rfl rfl rfl (by kernel_rfl) (by kernel_rfl) (.inl sp_44) (by simp [Tryz.f44]) ?_
    intro T hT
    simp -dsimp -implicitDefEqProofs (disch:=first|omega|assumption) [startSlots,nI,wI,hc,hf,hfi,hi0,c2a,c2b,c2c,hnm,hct,c5]
    simpa -dsimp -implicitDefEqProofs (disch:=first|omega|assumption) [nI,wI] using hT
   ·have c6 : 3 < k := by omega
    refine run_goal (rs:=[.cell 6 44,.tmp 7]) (ts:=[44,3]) Tryz.func44 rfl rfl rfl (by kernel_rfl) (by kernel_rfl) (.inl sp_44) (by simp [Tryz.f44]) ?_
    intro T hT
    simp -dsimp -implicitDefEqProofs (disch:=first|omega|assumption) [startSlots,nI,wI,hc,hf,hfi,hi0,c2a,c2b,c2c,hnm,hct,c5,c6]
    simpa -dsimp -implicitDefEqProofs (disch:=first|omega|assumption) [nI,wI] using hT
  ·have e : sadd ⟨sid,fs⟩ nm k = 0 := by unfold sadd; rw [if_neg (fun h => h c1)]; simp only [hl,c2,c3,c4,if_false]
   obtain ⟨e1,e2⟩ := add_good e
   rw [e1,e2]
   have c5 : ¬ k < 1 := by omega
   have c6 : ¬ 3 < k := by omega
   have w1 : IntKind.wrap .u32 (fi + 1) = fi + 1 := wrap_u32 (by omega) (by omega)
   have w2 : IntKind.wrap .u32 (sid + 1) = sid + 1 := wrap_u32 (by omega) (by omega)
   have w3 : IntKind.wrap .u8 k = k := wrap_u8 (by omega) (by omega)
   have eF : (sgrow ⟨sid,fs⟩ nm k).fields.map Fld.d = fs.map Fld.d ++ [.agg [.int .u32 (fi + 1),.str nm,.int .u8 k,.bool false]] := by simp [sgrow,hl]
   rw [eF]
   refine run_goal (rs:=[.cell 6 44,.tmp 7]) (ts:=[44,3]) Tryz.func44 rfl rfl rfl (by kernel_rfl) (by kernel_rfl) (.inl sp_44) (by simp [Tryz.f44]) ?_
   intro T hT
   simp -dsimp -implicitDefEqProofs (disch:=first|omega|assumption) [startSlots,nI,wI,hc,hf,hfi,hi0,c2a,c2b,c2c,hnm,hct,c5,c6,w1,w2,w3]
   simpa -dsimp -implicitDefEqProofs (disch:=first|omega|assumption) [nI,wI] using hT
 ·have e : sadd s nm k = schk s := by unfold sadd; rw [if_pos c1]
  obtain ⟨e1,e2⟩ := add_bad e c1
  rw [e1,e2]
  obtain ⟨sid,fs⟩ := s
  have c1' := c1
  generalize schk ⟨sid,fs⟩ = q at *
  simp only [Sch.d] at hc ⊢
  generalize fs.map Fld.d = X at *
  refine run_goal (rs:=[.cell 6 44,.tmp 7]) (ts:=[44,3]) Tryz.func44 rfl rfl rfl (by kernel_rfl) (by kernel_rfl) (.inl sp_44) (by simp [Tryz.f44]) ?_
  intro T hT
  simp -dsimp -implicitDefEqProofs (disch:=first|omega|assumption) [startSlots,nI,wI,hc,c1]
  simpa -dsimp -implicitDefEqProofs (disch:=first|omega|assumption) [nI,wI] using hT
end Go.Am.Ab
namespace Go.Am.Ab
open Go.Proofs
set_option maxHeartbeats 8000000
set_option maxRecDepth 4000
theorem cells_back {l : List Cel} : rchk l = 0 → (l.map valOf).map cellOf = l.map fix := by
 induction l with
 | nil => intro _; rfl
 | cons c r ih =>
  intro h
  simp only [rchk] at h
  split at h
  ·rename_i hc
   simp only [List.map_cons,ih h,cell_back hc,fix_same hc]
  ·omega
theorem rechk_runs (s : Sch) (e : Evt) (hs : SchW s) (he : e.wf) (hk1 : e.kind ≤ 255) : R 16 [.d s.d,.d e.d] [] = some ([.d (.int .i64 (echk s e))],[]) := by
 have hc := rscheck_runs s hs.id0 (fun f hf => ⟨(hs.flds f hf).1,(hs.flds f hf).2.2⟩) hs.len
 by_cases c1 : schk s = 0
 ·obtain ⟨n1,n8⟩ := schk_ok c1
  rw [c1] at hc
  have hk := rcheck_runs e.key he.key.1 he.key.2
  have ha := radd_runs s e.name e.kind hs he.name he.kind hk1
  have hz : saddV s e.name e.kind = [.agg [.d (.int .u32 (s.id + 1)),.arr 0 (s.fields.length + 1)],.d (.int .i64 (sadd s e.name e.kind))] ∧ saddH s e.name e.kind = [.arr 4 ((sgrow s e.name e.kind).fields.map Fld.d) 0] ∨ saddV s e.name e.kind = [.agg [.d (.int .u32 0),.nilS],.d (.int .i64 (sadd s e.name e.kind))] ∧ saddH s e.name e.kind = [] := by
   by_cases h : sadd s e.name e.kind = 0
   ·obtain ⟨q1,q2⟩ := add_good h; exact .inl ⟨by rw [q1,h],q2⟩
   ·obtain ⟨q1,q2⟩ := add_bad rfl h; exact .inr ⟨q1,q2⟩
  by_cases c2 : e.op < 1 ∨ 3 < e.op
  ·have q : echk s e = 221 := by unfold echk; rw [if_neg (fun h => h c1),if_pos c2]
   rw [q]
   obtain ⟨off,op,row,⟨ck,cn,cs⟩,nm,kd⟩ := e
   obtain ⟨sid,fs⟩ := s
   simp only [Sch.d,Evt.d] at hc c2 ⊢
   generalize fs.map Fld.d = X at *
   generalize ce row = Y at *
   by_cases c3 : op < 1
   ·refine run_goal (rs:=[.tmp 4]) (ts:=[3]) Tryz.func16 rfl rfl rfl (by kernel_rfl) (by kernel_rfl) (.inl sp_16) (by simp [Tryz.f16]) ?_
    intro T hT
    simp -dsimp -implicitDefEqProofs (disch:=first|omega|assumption) [startSlots,nI,wI,hc,c3]
    simpa -dsimp -implicitDefEqProofs (disch:=first|omega|assumption) [nI,wI] using hT
   ·have c4 : 3 < op := by omega
    refine run_goal (rs:=[.tmp 4]) (ts:=[3]) Tryz.func16 rfl rfl rfl (by kernel_rfl) (by kernel_rfl) (.inl sp_16) (by simp [Tryz.f16]) ?_
    intro T hT
    simp -dsimp -implicitDefEqProofs (disch:=first|omega|assumption) [startSlots,nI,wI,hc,c3,c4]
    simpa -dsimp -implicitDefEqProofs (disch:=first|omega|assumption) [nI,wI] using hT
  have c2a : ¬ e.op < 1 := by omega
  have c2b : ¬ 3 < e.op := by omega
  have hkn := key_none e.key
  have hkn2 : decide (e.key ≠ Cel.none) = !decide (e.key = Cel.none) := by simp
  have hrl : (ce e.row).length = e.row.length := List.length_map _
  have hre : (!e.row.isEmpty) = decide ((0 : Int) < (e.row.length : Int)) := by cases e.row <;> simp
  have hne : decide (e.name ≠ noS) = !decide (e.name = noS) := by simp
  have q1 : evBad e = true → echk s e = 1 := fun c3 => by unfold echk; rw [if_neg (fun h => h c1),if_neg c2,if_pos c3]
  have q2 : evBad e = false → echk s e = if e.op = 1 then (if rchk e.row ≠ 0 then rchk e.row else fit s (e.row.map valOf)) else if e.op = 2 then kchk s e.key else sadd s e.name e.kind := fun c3 => by unfold echk; rw [if_neg (fun h => h c1),if_neg c2,c3,if_neg (by decide)]
  have hb : evBad e = ((decide (e.op ≠ 1) && decide ((0 : Int) < (e.row.length : Int))) || (decide (e.op ≠ 2) && !(decide ((e.key.kind : Int) = 0) && (decide (e.key.n = 0) && decide (e.key.s = noS)))) || (decide (e.op ≠ 3) && (!decide (e.name = noS) || decide (e.kind ≠ 0)))) := by
   unfold evBad; rw [hkn2,hkn,hre,hne]
  have ho : e.op = 1 ∨ e.op = 2 ∨ e.op = 3 := by omega
  rcases ho with o | o | o
  ·have hb1 : evBad e = (!(decide ((e.key.kind : Int) = 0) && (decide (e.key.n = 0) && decide (e.key.s = noS))) || (!decide (e.name = noS) || decide (e.kind ≠ 0))) := by rw [hb,o]; simp
   clear hb hkn2 hne hre
   cases c3 : evBad e with
   | true =>
    rw [q1 c3]
    rw [c3] at hb1
    obtain ⟨off,op,row,⟨ck,cn,cs⟩,nm,kd⟩ := e
    obtain ⟨sid,fs⟩ := s
    simp only [Sch.d,Evt.d] at hc hb1 o ⊢
    subst o
    generalize fs.map Fld.d = X at *
    generalize ce row = Y at *
    by_cases d1 : ck = 0 <;> by_cases d2 : cn = 0 <;> by_cases d3 : cs = noS <;> by_cases d4 : nm = noS <;> by_cases d5 : kd = 0
    all_goals first | (exfalso; simp [d1,d2,d3,d4,d5] at hb1; done) | skip
    all_goals
     refine run_goal (rs:=[.tmp 4]) (ts:=[3]) Tryz.func16 rfl rfl rfl (by kernel_rfl) (by kernel_rfl) (.inl sp_16) (by simp [Tryz.f16]) ?_
     intro T hT
     simp -dsimp -implicitDefEqProofs (disch:=first|omega|assumption) [startSlots,nI,wI,hc,str_beq,str_empty,d1,d2,d3,d4,d5]
     simpa -dsimp -implicitDefEqProofs (disch:=first|omega|assumption) [nI,wI] using hT
   | false =>
    rw [q2 c3,if_pos o]
    rw [c3] at hb1
    have hfr := fixRow_runs e.row (fun c h => he.row c h) he.len
    have hft : rchk e.row = 0 → R 42 [.d s.d,.d (.list (ce (e.row.map fix)))] [] = some ([.d (.int .i64 (fit s (e.row.map valOf)))],[]) := fun h => by
     rw [← cells_back h]
     exact rfit_runs s (e.row.map valOf) hs.len (by rw [List.length_map]; have := he.len; omega)
    have hrw := he.row
    have hln := he.len
    obtain ⟨off,op,row,⟨ck,cn,cs⟩,nm,kd⟩ := e
    obtain ⟨sid,fs⟩ := s
    simp only [Sch.d,Evt.d] at hc hb1 o hrl hfr hft hrw hln ⊢
    subst o
    have hfl : (ce (row.map fix)).length = row.length := by rw [List.length_map,List.length_map]
    generalize fs.map Fld.d = X at *
    generalize ce (row.map fix) = Z at *
    generalize fit ⟨sid,fs⟩ (row.map valOf) = g at *
    obtain ⟨d1,d2,d3,d4,d5⟩ : (ck : Int) = 0 ∧ cn = 0 ∧ cs = noS ∧ nm = noS ∧ kd = 0 := by
     and_intros <;> first | (by_cases hh : ck = 0 <;> first | omega | (exfalso; simp [hh] at hb1; done)) | (apply Decidable.byContradiction; intro hh; simp [hh] at hb1; done)
    subst d2 d3 d4 d5
    have d1 : ck = 0 := by omega
    subst d1
    refine run_goal (rs:=[.tmp 4]) (ts:=[3]) Tryz.func16 rfl rfl rfl (by kernel_rfl) (by kernel_rfl) (.inl sp_16) (by simp [Tryz.f16]) ?_
    intro T hT
    simp -dsimp -implicitDefEqProofs (disch:=first|omega|assumption) [startSlots,nI,wI,hc,str_beq,str_empty]
    generalize hz : loopT _ _ _ _ _ _ = z
    revert z
    refine loop_any (σ:=Nat) (fun i => [(2,.ptr 0 0),(3,.ptr 1 0),(7,.d (.int .i64 i))]) (fun i => [.box [.d (.int .u32 sid),.d (.list X)],.box [.d (.int .u64 off),.d (.int .u8 1),.d (.list (ce row)),.d (.int .u8 0),.d (.int .i64 0),.d (.str noS),.d (.str noS),.d (.int .u8 0)]]) (fun i => i ≤ row.length ∧ rchk row = rchk (row.drop i)) (fun i => row.length - i) 0 ?_ ?_ ?_
    ·exact ⟨Nat.zero_le _,rfl⟩
    ·simp -dsimp -implicitDefEqProofs (disch:=first|omega|assumption)
    intro T' f hT' i ⟨hi,hr⟩ ih
    by_cases h1 : i < row.length
    ·obtain ⟨c,hx⟩ : ∃ c,row[i] = c := ⟨_,rfl⟩
     have hw := hrw c (hx ▸ List.getElem_mem h1)
     have hv := rcheck_runs c hw.1 hw.2
     rw [rchk_more h1 hx] at hr
     have hcd := cel_d c
     by_cases h2 : chk c = 0
     ·rw [if_pos h2] at hr
      rw [h2] at hv
      obtain ⟨ck,cn,cs⟩ := c
      simp only at hcd
      rw [hcd] at hv
      simp -dsimp -implicitDefEqProofs (disch:=first|omega|assumption) [nI,wI,h1,hx,hv,hcd]
      refine ih (i + 1) _ _ ⟨h1,hr⟩ (by omega) ?_
      simp -dsimp -implicitDefEqProofs (disch:=first|omega|assumption)
     ·rw [if_neg h2] at hr
      have hne : rchk row ≠ 0 := by rw [hr]; omega
      rw [if_pos hne,hr] at hT
      have h2' : ¬ (chk c : Int) = 0 := by omega
      obtain ⟨ck,cn,cs⟩ := c
      simp only at hcd
      rw [hcd] at hv
      generalize chk ⟨ck,cn,cs⟩ = n at *
      subst hT'
      simp -dsimp -implicitDefEqProofs (disch:=first|omega|assumption) [nI,wI,h1,hx,hv,hcd,h2,h2']
      simpa -dsimp -implicitDefEqProofs (disch:=first|omega|assumption) [nI,wI] using hT
    ·have e : i = row.length := by omega
     subst e
     rw [List.drop_length,show rchk [] = 0 from rfl] at hr
     rw [if_neg (fun h => h hr)] at hT
     have hft := hft hr
     subst hT'
     simp -dsimp -implicitDefEqProofs (disch:=first|omega|assumption) [nI,wI,hft,hfr,hfl]
     simpa -dsimp -implicitDefEqProofs (disch:=first|omega|assumption) [nI,wI] using hT
  ·have hb1 : evBad e = (decide ((0 : Int) < (e.row.length : Int)) || (!decide (e.name = noS) || decide (e.kind ≠ 0))) := by rw [hb,o]; simp
   clear hb hkn2 hne hre
   cases c3 : evBad e with
   | true =>
    rw [q1 c3]
    rw [c3] at hb1
    obtain ⟨off,op,row,⟨ck,cn,cs⟩,nm,kd⟩ := e
    obtain ⟨sid,fs⟩ := s
    simp only [Sch.d,Evt.d] at hc hb1 o hrl ⊢
    subst o
    generalize fs.map Fld.d = X at *
    generalize ce row = Y at *
    by_cases d1 : 0 < row.length <;> by_cases d4 : nm = noS <;> by_cases d5 : kd = 0
    all_goals first | (exfalso; simp [d1,d4,d5] at hb1; done) | skip
    all_goals
     refine run_goal (rs:=[.tmp 4]) (ts:=[3]) Tryz.func16 rfl rfl rfl (by kernel_rfl) (by kernel_rfl) (.inl sp_16) (by simp [Tryz.f16]) ?_
     intro T hT
     simp -dsimp -implicitDefEqProofs (disch:=first|omega|assumption) [startSlots,nI,wI,hc,hrl,str_beq,str_empty,d1,d4,d5]
     simpa -dsimp -implicitDefEqProofs (disch:=first|omega|assumption) [nI,wI] using hT
   | false =>
    rw [q2 c3,if_neg (by omega),if_pos o]
    rw [c3] at hb1
    unfold kchk
    obtain ⟨off,op,row,key,nm,kd⟩ := e
    obtain ⟨sid,fs⟩ := s
    simp only at n1 n8
    obtain ⟨f0,fr,hfs⟩ : ∃ f0 fr,fs = f0 :: fr := by cases fs with | nil => simp at n1 | cons a b => exact ⟨a,b,rfl⟩
    obtain ⟨fi,fn,fk,fd⟩ := f0
    have hfk : fkind ⟨sid,fs⟩ = fk := by rw [hfs]; rfl
    have hX0 : fs.map Fld.d = .agg [.int .u32 fi,.str fn,.int .u8 fk,.bool fd] :: fr.map Fld.d := by rw [hfs]; rfl
    simp only [Sch.d,Evt.d] at hc hb1 o hrl hk hfk ⊢
    rw [hX0] at hc ⊢
    rw [hfk]
    subst o
    obtain ⟨d1,d4,d5⟩ : ¬ 0 < row.length ∧ nm = noS ∧ kd = 0 := by
     and_intros <;> first | (by_cases hh : ck = 0 <;> first | omega | (exfalso; simp [hh] at hb1; done)) | (apply Decidable.byContradiction; intro hh; simp [hh] at hb1; done)
    subst d4 d5
    have hcd := cel_d key
    rw [hcd] at hk
    obtain ⟨ck,cn,cs⟩ := key
    simp only at hcd hk ⊢
    generalize chk ⟨ck,cn,cs⟩ = n at *
    generalize fr.map Fld.d = X at *
    generalize ce row = Y at *
    by_cases c4 : n = 0
    ·rw [if_neg (fun h => h c4)]
     subst c4
     by_cases c5 : ck = 0
     ·rw [if_pos c5]
      subst c5
      rw [show ((0 : Nat) : Int) = 0 from rfl] at hk
      refine run_goal (rs:=[.tmp 4]) (ts:=[3]) Tryz.func16 rfl rfl rfl (by kernel_rfl) (by kernel_rfl) (.inl sp_16) (by simp [Tryz.f16]) ?_
      intro T hT
      simp -dsimp -implicitDefEqProofs (disch:=first|omega|assumption) [startSlots,nI,wI,hc,hrl,str_beq,str_empty,d1,hk]
      simpa -dsimp -implicitDefEqProofs (disch:=first|omega|assumption) [nI,wI] using hT
     ·rw [if_neg c5]
      have c5' : ¬ (ck : Int) = 0 := by omega
      rw [show ((0 : Nat) : Int) = 0 from rfl] at hk
      by_cases c6 : (ck : Int) = fk
      ·rw [if_neg (fun h => h c6)]
       subst c6
       refine run_goal (rs:=[.tmp 4]) (ts:=[3]) Tryz.func16 rfl rfl rfl (by kernel_rfl) (by kernel_rfl) (.inl sp_16) (by simp [Tryz.f16]) ?_
       intro T hT
       simp -dsimp -implicitDefEqProofs (disch:=first|omega|assumption) [startSlots,nI,wI,hc,hrl,str_beq,str_empty,d1,hk,c5',c5]
       simpa -dsimp -implicitDefEqProofs (disch:=first|omega|assumption) [nI,wI] using hT
      ·rw [if_pos c6]
       refine run_goal (rs:=[.tmp 4]) (ts:=[3]) Tryz.func16 rfl rfl rfl (by kernel_rfl) (by kernel_rfl) (.inl sp_16) (by simp [Tryz.f16]) ?_
       intro T hT
       simp -dsimp -implicitDefEqProofs (disch:=first|omega|assumption) [startSlots,nI,wI,hc,hrl,str_beq,str_empty,d1,hk,c5',c6,c5]
       simpa -dsimp -implicitDefEqProofs (disch:=first|omega|assumption) [nI,wI] using hT
    ·rw [if_pos c4]
     have c4' : ¬ (n : Int) = 0 := by omega
     refine run_goal (rs:=[.tmp 4]) (ts:=[3]) Tryz.func16 rfl rfl rfl (by kernel_rfl) (by kernel_rfl) (.inl sp_16) (by simp [Tryz.f16]) ?_
     intro T hT
     simp -dsimp -implicitDefEqProofs (disch:=first|omega|assumption) [startSlots,nI,wI,hc,hrl,str_beq,str_empty,d1,hk,c4,c4']
     simpa -dsimp -implicitDefEqProofs (disch:=first|omega|assumption) [nI,wI] using hT
  ·have hb1 : evBad e = (decide ((0 : Int) < (e.row.length : Int)) || !(decide ((e.key.kind : Int) = 0) && (decide (e.key.n = 0) && decide (e.key.s = noS)))) := by rw [hb,o]; simp
   clear hb hkn2 hne hre
   cases c3 : evBad e with
   | true =>
    rw [q1 c3]
    rw [c3] at hb1
    obtain ⟨off,op,row,⟨ck,cn,cs⟩,nm,kd⟩ := e
    obtain ⟨sid,fs⟩ := s
    simp only [Sch.d,Evt.d] at hc hb1 o hrl ⊢
    subst o
    generalize fs.map Fld.d = X at *
    generalize ce row = Y at *
    by_cases d0 : 0 < row.length <;> by_cases d1 : ck = 0 <;> by_cases d2 : cn = 0 <;> by_cases d3 : cs = noS
    all_goals first | (exfalso; simp [d0,d1,d2,d3] at hb1; done) | skip
    all_goals
     refine run_goal (rs:=[.tmp 4]) (ts:=[3]) Tryz.func16 rfl rfl rfl (by kernel_rfl) (by kernel_rfl) (.inl sp_16) (by simp [Tryz.f16]) ?_
     intro T hT
     simp -dsimp -implicitDefEqProofs (disch:=first|omega|assumption) [startSlots,nI,wI,hc,hrl,str_beq,str_empty,d0,d1,d2,d3]
     simpa -dsimp -implicitDefEqProofs (disch:=first|omega|assumption) [nI,wI] using hT
   | false =>
    rw [q2 c3,if_neg (by omega),if_neg (by omega)]
    rw [c3] at hb1
    obtain ⟨off,op,row,⟨ck,cn,cs⟩,nm,kd⟩ := e
    have hw0 := he.kind
    obtain ⟨sid,fs⟩ := s
    simp only [Sch.d,Evt.d] at hc hb1 o hrl ha hz hk1 hw0 ⊢
    subst o
    generalize sadd ⟨sid,fs⟩ nm kd = g at *
    generalize saddV ⟨sid,fs⟩ nm kd = V at *
    generalize saddH ⟨sid,fs⟩ nm kd = H at *
    have hZl : ((sgrow ⟨sid,fs⟩ nm kd).fields.map Fld.d).length = fs.length + 1 := by simp [sgrow]
    generalize (sgrow ⟨sid,fs⟩ nm kd).fields.map Fld.d = Z at *
    generalize fs.length = n at *
    generalize fs.map Fld.d = X at *
    generalize ce row = Y at *
    obtain ⟨d1,d2,d3,d4⟩ : ¬ 0 < row.length ∧ (ck : Int) = 0 ∧ cn = 0 ∧ cs = noS := by
     and_intros <;> first | (by_cases hh : ck = 0 <;> first | omega | (exfalso; simp [hh] at hb1; done)) | (apply Decidable.byContradiction; intro hh; simp [hh] at hb1; done)
    subst d3 d4
    have d2 : ck = 0 := by omega
    subst d2
    rcases hz with ⟨rfl,rfl⟩ | ⟨rfl,rfl⟩
    ·refine run_goal (rs:=[.tmp 4]) (ts:=[3]) Tryz.func16 rfl rfl rfl (by kernel_rfl) (by kernel_rfl) (.inl sp_16) (by simp [Tryz.f16]) ?_
     intro T hT
     simp -dsimp -implicitDefEqProofs (disch:=first|omega|assumption) [startSlots,nI,wI,hc,hrl,str_beq,str_empty,d1,ha,hZl]
     simpa -dsimp -implicitDefEqProofs (disch:=first|omega|assumption) [nI,wI] using hT
    ·refine run_goal (rs:=[.tmp 4]) (ts:=[3]) Tryz.func16 rfl rfl rfl (by kernel_rfl) (by kernel_rfl) (.inl sp_16) (by simp [Tryz.f16]) ?_
     intro T hT
     simp -dsimp -implicitDefEqProofs (disch:=first|omega|assumption) [startSlots,nI,wI,hc,hrl,str_beq,str_empty,d1,ha]
     simpa -dsimp -implicitDefEqProofs (disch:=first|omega|assumption) [nI,wI] using hT
 ·have q : echk s e = schk s := by unfold echk; rw [if_pos c1]
  rw [q]
  obtain ⟨off,op,row,⟨ck,cn,cs⟩,nm,kd⟩ := e
  obtain ⟨sid,fs⟩ := s
  generalize schk ⟨sid,fs⟩ = q at *
  simp only [Sch.d,Evt.d] at hc ⊢
  generalize fs.map Fld.d = X at *
  generalize ce row = Y at *
  refine run_goal (rs:=[.tmp 4]) (ts:=[3]) Tryz.func16 rfl rfl rfl (by kernel_rfl) (by kernel_rfl) (.inl sp_16) (by simp [Tryz.f16]) ?_
  intro T hT
  simp -dsimp -implicitDefEqProofs (disch:=first|omega|assumption) [startSlots,nI,wI,hc,c1]
  simpa -dsimp -implicitDefEqProofs (disch:=first|omega|assumption) [nI,wI] using hT
end Go.Am.Ab
