/- Lines are read alike. -/
import Derived.Test.YtkhlpcccjacnhaaGreatDoorLinE
import Derived.Test.YtkhlpcccjacnhaaGreatDoorEv25
set_option linter.all false
namespace Go.Am.Ab
open Go.Proofs
set_option maxHeartbeats 4000000
set_option maxRecDepth 4000
theorem rnum_ok {a : List UInt8} {low : Int} (h : numOk a low = true) : rnum a low = numV a := by unfold rnum; rw [if_pos h]
theorem num_nat {b : List UInt8} (h : numOk b 0 = true) : IntKind.u64.wrap (numV b) = numV b := by
 obtain ⟨v,h1,h2,h3,h4,h5⟩ := num_some h
 rw [h4,wrap_mod_u64]; omega
def Ac.fit (a : Ac) : Prop := (a.keeps = [] ∨ a.e.row = []) ∧ a.keeps.length < 1000000 ∧ a.e.row.length < 1000000
theorem fit0 (k n keep age : Int) : (⟨k,n,keep,age,[],Ev.nil⟩ : Ac).fit := ⟨.inl rfl,Nat.le_of_ble_eq_true rfl,Nat.le_of_ble_eq_true rfl⟩
theorem fitK {r : List (List UInt8)} (h : r.length < 1000000) : (⟨11,0,0,0,r,Ev.nil⟩ : Ac).fit := ⟨.inr rfl,h,Nat.le_of_ble_eq_true rfl⟩
theorem evC_row {w : List UInt8} {r : List (List UInt8)} {e : Ev} (h : evC w r = some e) : e.row.length ≤ r.length := by
 by_cases c1 : w = wPut
 ·subst c1
  rw [evC_put] at h
  split at h
  ·cases h; exact Nat.le_refl _
  ·cases h
 by_cases c2 : w = wRem
 ·subst c2
  by_cases hr : r.length = 1
  ·obtain ⟨a,rfl⟩ := List.length_eq_one_iff.1 hr
   rw [evC_rem1] at h
   split at h
   ·cases h; exact Nat.zero_le _
   ·cases h
  ·rw [evC_rem0 hr] at h; cases h
 by_cases c3 : w = wWid
 ·subst c3
  by_cases hr : r.length = 2
  ·obtain ⟨a,b,rfl⟩ : ∃ a b,r = [a,b] := by
    match r,hr with
    | [a,b],_ => exact ⟨a,b,rfl⟩
   rw [evC_wid2] at h
   split at h
   ·cases h; exact Nat.zero_le _
   ·cases h
  ·rw [evC_wid0 hr] at h; cases h
 rw [evC_none c1 c2 c3] at h; cases h
theorem evOf_row {ws : List (List UInt8)} {e : Ev} (h : evOf ws = some e) : e.row.length ≤ ws.length := by
 cases ws with
 | nil => cases h
 | cons w r => have := evC_row (show evC w r = some e from h); simp; omega
def AcSame (ws : List (List UInt8)) : Prop :=
 (∃ a : Ac,a.fit ∧ R 26 [W ws] [] = some ([.agg (a.v 0),.d (.bool true)],a.h) ∧ R 20 [W ws] [] = some ([.agg (a.v 0),.d (.bool true)],a.h)) ∨
 ((∃ a : Ac,a.fit ∧ R 26 [W ws] [] = some ([.agg (a.v 0),.d (.bool false)],a.h)) ∧ (∃ a : Ac,a.fit ∧ R 20 [W ws] [] = some ([.agg (a.v 0),.d (.bool false)],a.h)))
theorem same_none {ws : List (List UInt8)} (h1 : R 26 [W ws] [] = some ([.agg acN,.d (.bool false)],[])) (h2 : R 20 [W ws] [] = some ([.agg acN,.d (.bool false)],[])) : AcSame ws :=
 .inr ⟨⟨⟨0,0,0,0,[],Ev.nil⟩,fit0 _ _ _ _,h1⟩,⟨⟨0,0,0,0,[],Ev.nil⟩,fit0 _ _ _ _,h2⟩⟩
theorem take_min (r : List (List UInt8)) (n : Nat) : (r.take n).length = min r.length n := by rw [List.length_take,Nat.min_comm]
theorem keepO_take (r : List (List UInt8)) (n : Nat) : keepO r (min r.length n) = keepO (r.take n) (r.take n).length := by
 rw [take_min]
 cases h : min r.length n with
 | zero => rfl
 | succ m =>
  simp only [keepO]
  rw [List.take_take,Nat.min_eq_left (by omega)]
theorem acts {ws : List (List UInt8)} (hne : ws ≠ []) (hl : ∀ w ∈ ws,w.length < 1000000) (hn : ws.length < 1000000) : AcSame ws := by
 obtain ⟨w,r,rfl⟩ : ∃ w r,ws = w :: r := by cases ws with | nil => exact absurd rfl hne | cons w r => exact ⟨w,r,rfl⟩
 have hlr : ∀ x ∈ r,x.length < 1000000 := fun x hx => hl x (List.mem_cons_of_mem _ hx)
 have hnr : r.length < 1000000 := by simp at hn; omega
 by_cases hc : w = wDeliver ∨ w = wAgain ∨ w = wTick ∨ w = wFuse ∨ w = wFail
 ·by_cases hr : r.length = 1
  ·obtain ⟨a,rfl⟩ := List.length_eq_one_iff.1 hr
   have h1 := act_cnt1 (a := a) hc (hlr a (by simp))
   have h2 := ract_cnt1 (a := a) hc (hlr a (by simp))
   cases ho : okN a with
   | true =>
    rw [rnum_ok ho] at h2
    rw [ho] at h1 h2
    exact .inl ⟨⟨cntK w,numV a,0,0,[],Ev.nil⟩,fit0 _ _ _ _,h1,h2⟩
   | false =>
    rw [ho] at h1 h2
    exact .inr ⟨⟨⟨cntK w,numV a,0,0,[],Ev.nil⟩,fit0 _ _ _ _,h1⟩,⟨⟨cntK w,rnum a (-999999999),0,0,[],Ev.nil⟩,fit0 _ _ _ _,h2⟩⟩
  ·exact same_none (act_cnt0 hc hr) (ract_cnt0 hc hr)
 by_cases hp : w = wFlush ∨ w = wReady ∨ w = wDone ∨ w = wSweep
 ·have h1 := act_pln (r := r) hp
  have h2 := ract_pln (r := r) hp
  by_cases hr : r.length = 0
  ·rw [decide_eq_true hr] at h1 h2
   exact .inl ⟨⟨plnK w,0,0,0,[],Ev.nil⟩,fit0 _ _ _ _,h1,h2⟩
  ·rw [decide_eq_false hr] at h1 h2
   exact .inr ⟨⟨⟨plnK w,0,0,0,[],Ev.nil⟩,fit0 _ _ _ _,h1⟩,⟨⟨plnK w,0,0,0,[],Ev.nil⟩,fit0 _ _ _ _,h2⟩⟩
 simp only [not_or] at hc hp
 by_cases he : w = wExpire
 ·subst he
  by_cases hr : r.length = 2
  ·obtain ⟨a,b,rfl⟩ : ∃ a b,r = [a,b] := by
    match r,hr with
    | [a,b],_ => exact ⟨a,b,rfl⟩
   have h1 := act_exp2 (hlr a (by simp)) (hlr b (by simp))
   have h2 := ract_exp2 (hlr a (by simp)) (hlr b (by simp))
   cases ho : (okN a && numOk b 0) with
   | true =>
    rw [ho] at h1 h2
    rw [Bool.and_eq_true] at ho
    rw [rnum_ok ho.1,rnum_ok ho.2,num_nat ho.2] at h2
    rw [num_nat ho.2] at h1
    exact .inl ⟨⟨7,0,numV a,numV b,[],Ev.nil⟩,fit0 _ _ _ _,h1,h2⟩
   | false =>
    rw [ho] at h1 h2
    exact .inr ⟨⟨⟨7,0,numV a,IntKind.u64.wrap (numV b),[],Ev.nil⟩,fit0 _ _ _ _,h1⟩,⟨⟨7,0,rnum a (-999999999),IntKind.u64.wrap (rnum b 0),[],Ev.nil⟩,fit0 _ _ _ _,h2⟩⟩
  ·exact same_none (act_exp0 hr) (ract_exp0 hr)
 by_cases hk : w = wCrash
 ·subst hk
  have h1 := act_crash hlr hnr
  have h2 := ract_crash hlr hnr
  rw [keepO_take,← take_min] at h2
  cases ho : r.all okN with
  | true =>
   have ho2 : (r.take 69).all okN = true := List.all_eq_true.2 fun x hx => List.all_eq_true.1 ho x (List.mem_of_mem_take hx)
   rw [ho,if_pos rfl] at h1
   rw [if_pos ho2] at h2
   by_cases h64 : r.length ≤ 64
   ·rw [decide_eq_true h64] at h1 h2
    rw [List.take_of_length_le (by omega)] at h2
    exact .inl ⟨⟨11,0,0,0,r,Ev.nil⟩,fitK hnr,by rw [h1]; simp only [Ac.h,Ev.h,Ev.nil,List.length_nil,rowO,List.append_nil]; rfl,by rw [h2]; simp only [Ac.h,Ev.h,Ev.nil,List.length_nil,rowO,List.append_nil]; rfl⟩
   ·rw [decide_eq_false h64] at h1 h2
    exact .inr ⟨⟨⟨11,0,0,0,r,Ev.nil⟩,fitK hnr,by rw [h1]; simp only [Ac.h,Ev.h,Ev.nil,List.length_nil,rowO,List.append_nil]; rfl⟩,⟨⟨11,0,0,0,r.take 69,Ev.nil⟩,fitK (by rw [List.length_take]; omega),by rw [h2]; simp only [Ac.h,Ev.h,Ev.nil,List.length_nil,rowO,List.append_nil]; rfl⟩⟩
  | false =>
   rw [ho,if_neg (by decide)] at h1
   refine .inr ⟨⟨⟨0,0,0,0,[],Ev.nil⟩,fit0 _ _ _ _,h1⟩, ?_⟩
   cases ho2 : (r.take 69).all okN with
   | true =>
    rw [ho2,if_pos rfl] at h2
    have h64 : ¬ r.length ≤ 64 := fun h => by
     rw [List.take_of_length_le (by omega),ho] at ho2; cases ho2
    rw [decide_eq_false h64] at h2
    exact ⟨⟨11,0,0,0,r.take 69,Ev.nil⟩,fitK (by rw [List.length_take]; omega),by rw [h2]; simp only [Ac.h,Ev.h,Ev.nil,List.length_nil,rowO,List.append_nil]; rfl⟩
   | false =>
    rw [ho2,if_neg (by decide)] at h2
    exact ⟨⟨0,0,0,0,[],Ev.nil⟩,fit0 _ _ _ _,h2⟩
 by_cases ho : w = wOdd
 ·subst ho
  by_cases hr : r = []
  ·subst hr
   exact same_none act_odd0 ract_odd0
  ·obtain ⟨e1,e2⟩ := event_runs hr hlr
   have h2 := ract_odd hr hlr hnr
   cases hev : evOf r with
   | some e =>
    simp only [hev] at h2
    have h1 := act_odd hr (e1 e hev)
    exact .inl ⟨⟨12,0,0,0,[],e⟩,⟨.inl rfl,Nat.le_of_ble_eq_true rfl,by have := evOf_row hev; show e.row.length < 1000000; omega⟩,h1,h2⟩
   | none =>
    simp only [hev] at h2
    obtain ⟨e,he1,he2⟩ := e2 hev
    have h0 : e.h = [] := by unfold Ev.h; rw [he1]; rfl
    have h1 := act_odd (ok := false) hr (by rw [h0]; exact he2)
    exact .inr ⟨⟨⟨12,0,0,0,[],e⟩,⟨.inl rfl,Nat.le_of_ble_eq_true rfl,by show e.row.length < 1000000; rw [he1]; exact Nat.le_of_ble_eq_true rfl⟩,h1⟩,⟨⟨12,0,0,0,[],Ev.nil⟩,fit0 _ _ _ _,h2⟩⟩
 exact same_none (act_none hc.1 hc.2.1 hc.2.2.1 hc.2.2.2.1 hc.2.2.2.2 hp.1 hp.2.1 hp.2.2.1 hp.2.2.2 he hk ho) (ract_none hc.1 hc.2.1 hc.2.2.1 hc.2.2.2.1 hc.2.2.2.2 hp.1 hp.2.1 hp.2.2.1 hp.2.2.2 he hk ho)
end Go.Am.Ab
namespace Go.Am.Ab
open Go.Proofs
set_option maxHeartbeats 4000000
set_option maxRecDepth 4000
theorem split_W {l : List UInt8} (hl : l.length < 1000000) : R 23 [S l,S [32]] [] = some ([W (cutL 32 l)],[]) := split_runs (by omega)
theorem Event_ok {l : List UInt8} (hl : l.length < 1000000) {e : Ev} (h : R 24 [W (cutL 32 l)] [] = some ([.agg (e.v 0),.d (.bool true)],e.h)) : R 15 [S l] [] = some ([.agg (e.v 0),.d (.int .i64 0)],e.h) := by
 have hs := split_W hl
 unfold W at *
 generalize (cutL 32 l).map strD = w at *
 cases hr : e.row.length with
 | zero =>
  simp only [Ev.v,Ev.h,hr,rowW,rowO] at h ⊢
  refine run_goal (rs:=[.cell 2 43,.tmp 3]) (ts:=[43,44]) Tryz.func15 rfl rfl rfl (by kernel_rfl) (by kernel_rfl) (.inl sp_15) (by simp [Tryz.f15]) ?_
  intro T hT
  simp -dsimp -implicitDefEqProofs (disch:=first|omega|assumption) [startSlots,nI,wI,hs,h]
  simpa -dsimp -implicitDefEqProofs (disch:=first|omega|assumption) [nI,wI] using hT
 | succ n =>
  simp only [Ev.v,Ev.h,hr,rowW,rowO] at h ⊢
  generalize (e.row.take (n + 1)).map cl = Y at *
  refine run_goal (rs:=[.cell 2 43,.tmp 3]) (ts:=[43,44]) Tryz.func15 rfl rfl rfl (by kernel_rfl) (by kernel_rfl) (.inl sp_15) (by simp [Tryz.f15]) ?_
  intro T hT
  simp -dsimp -implicitDefEqProofs (disch:=first|omega|assumption) [startSlots,nI,wI,hs,h]
  simpa -dsimp -implicitDefEqProofs (disch:=first|omega|assumption) [nI,wI] using hT
theorem Event_no {l : List UInt8} (hl : l.length < 1000000) {e : Ev} (he : e.row = []) (h : R 24 [W (cutL 32 l)] [] = some ([.agg (e.v 0),.d (.bool false)],[])) : R 15 [S l] [] = some ([.agg evN,.d (.int .i64 250)],[]) := by
 have hs := split_W hl
 unfold W at *
 generalize (cutL 32 l).map strD = w at *
 simp only [Ev.v,he,List.length_nil,rowW] at h
 refine run_goal (rs:=[.cell 2 43,.tmp 3]) (ts:=[43,44]) Tryz.func15 rfl rfl rfl (by kernel_rfl) (by kernel_rfl) (.inl sp_15) (by simp [Tryz.f15]) ?_
 intro T hT
 simp -dsimp -implicitDefEqProofs (disch:=first|omega|assumption) [startSlots,nI,wI,hs,h]
 simpa -dsimp -implicitDefEqProofs (disch:=first|omega|assumption) [nI,wI] using hT
theorem Act_ok {l : List UInt8} (hl : l.length < 1000000) {a : Ac} (hf : a.fit) (h : R 26 [W (cutL 32 l)] [] = some ([.agg (a.v 0),.d (.bool true)],a.h)) : R 19 [S l] [] = some ([.agg (a.v 0),.d (.int .i64 0)],a.h) := by
 have hs := split_W hl
 unfold W at *
 generalize (cutL 32 l).map strD = w at *
 rcases hf.1 with hf | hf
 ·simp only [Ac.v,Ac.h,Ev.v,Ev.h,hf,List.length_nil,rowW,keepO,List.nil_append] at h ⊢
  cases hr : a.e.row.length with
  | zero =>
   simp only [hr,rowW,rowO] at h ⊢
   refine run_goal (rs:=[.cell 2 55,.tmp 3]) (ts:=[55,44]) Tryz.func19 rfl rfl rfl (by kernel_rfl) (by kernel_rfl) (.inl sp_19) (by simp [Tryz.f19]) ?_
   intro T hT
   simp -dsimp -implicitDefEqProofs (disch:=first|omega|assumption) [startSlots,nI,wI,hs,h]
   simpa -dsimp -implicitDefEqProofs (disch:=first|omega|assumption) [nI,wI] using hT
  | succ n =>
   simp only [hr,rowW,rowO] at h ⊢
   generalize (a.e.row.take (n + 1)).map cl = Y at *
   refine run_goal (rs:=[.cell 2 55,.tmp 3]) (ts:=[55,44]) Tryz.func19 rfl rfl rfl (by kernel_rfl) (by kernel_rfl) (.inl sp_19) (by simp [Tryz.f19]) ?_
   intro T hT
   simp -dsimp -implicitDefEqProofs (disch:=first|omega|assumption) [startSlots,nI,wI,hs,h]
   simpa -dsimp -implicitDefEqProofs (disch:=first|omega|assumption) [nI,wI] using hT
 ·simp only [Ac.v,Ac.h,Ev.v,Ev.h,hf,List.length_nil,rowW,rowO,List.append_nil] at h ⊢
  cases hr : a.keeps.length with
  | zero =>
   simp only [hr,rowW,keepO] at h ⊢
   refine run_goal (rs:=[.cell 2 55,.tmp 3]) (ts:=[55,44]) Tryz.func19 rfl rfl rfl (by kernel_rfl) (by kernel_rfl) (.inl sp_19) (by simp [Tryz.f19]) ?_
   intro T hT
   simp -dsimp -implicitDefEqProofs (disch:=first|omega|assumption) [startSlots,nI,wI,hs,h]
   simpa -dsimp -implicitDefEqProofs (disch:=first|omega|assumption) [nI,wI] using hT
  | succ n =>
   simp only [hr,rowW,keepO] at h ⊢
   generalize (a.keeps.take (n + 1)).map kpD = Y at *
   refine run_goal (rs:=[.cell 2 55,.tmp 3]) (ts:=[55,44]) Tryz.func19 rfl rfl rfl (by kernel_rfl) (by kernel_rfl) (.inl sp_19) (by simp [Tryz.f19]) ?_
   intro T hT
   simp -dsimp -implicitDefEqProofs (disch:=first|omega|assumption) [startSlots,nI,wI,hs,h]
   simpa -dsimp -implicitDefEqProofs (disch:=first|omega|assumption) [nI,wI] using hT
theorem Act_no {l : List UInt8} (hl : l.length < 1000000) {a : Ac} (hf : a.fit) (h : R 26 [W (cutL 32 l)] [] = some ([.agg (a.v 0),.d (.bool false)],a.h)) : R 19 [S l] [] = some ([.agg acN,.d (.int .i64 250)],[]) := by
 have hs := split_W hl
 unfold W at *
 generalize (cutL 32 l).map strD = w at *
 rcases hf.1 with hf | hf
 ·simp only [Ac.v,Ac.h,Ev.v,Ev.h,hf,List.length_nil,rowW,keepO,List.nil_append] at h ⊢
  cases hr : a.e.row.length with
  | zero =>
   simp only [hr,rowW,rowO] at h ⊢
   refine run_goal (rs:=[.cell 2 55,.tmp 3]) (ts:=[55,44]) Tryz.func19 rfl rfl rfl (by kernel_rfl) (by kernel_rfl) (.inl sp_19) (by simp [Tryz.f19]) ?_
   intro T hT
   simp -dsimp -implicitDefEqProofs (disch:=first|omega|assumption) [startSlots,nI,wI,hs,h]
   simpa -dsimp -implicitDefEqProofs (disch:=first|omega|assumption) [nI,wI] using hT
  | succ n =>
   simp only [hr,rowW,rowO] at h ⊢
   generalize (a.e.row.take (n + 1)).map cl = Y at *
   refine run_goal (rs:=[.cell 2 55,.tmp 3]) (ts:=[55,44]) Tryz.func19 rfl rfl rfl (by kernel_rfl) (by kernel_rfl) (.inl sp_19) (by simp [Tryz.f19]) ?_
   intro T hT
   simp -dsimp -implicitDefEqProofs (disch:=first|omega|assumption) [startSlots,nI,wI,hs,h]
   simpa -dsimp -implicitDefEqProofs (disch:=first|omega|assumption) [nI,wI] using hT
 ·simp only [Ac.v,Ac.h,Ev.v,Ev.h,hf,List.length_nil,rowW,rowO,List.append_nil] at h ⊢
  cases hr : a.keeps.length with
  | zero =>
   simp only [hr,rowW,keepO] at h ⊢
   refine run_goal (rs:=[.cell 2 55,.tmp 3]) (ts:=[55,44]) Tryz.func19 rfl rfl rfl (by kernel_rfl) (by kernel_rfl) (.inl sp_19) (by simp [Tryz.f19]) ?_
   intro T hT
   simp -dsimp -implicitDefEqProofs (disch:=first|omega|assumption) [startSlots,nI,wI,hs,h]
   simpa -dsimp -implicitDefEqProofs (disch:=first|omega|assumption) [nI,wI] using hT
  | succ n =>
   simp only [hr,rowW,keepO] at h ⊢
   generalize (a.keeps.take (n + 1)).map kpD = Y at *
   refine run_goal (rs:=[.cell 2 55,.tmp 3]) (ts:=[55,44]) Tryz.func19 rfl rfl rfl (by kernel_rfl) (by kernel_rfl) (.inl sp_19) (by simp [Tryz.f19]) ?_
   intro T hT
   simp -dsimp -implicitDefEqProofs (disch:=first|omega|assumption) [startSlots,nI,wI,hs,h]
   simpa -dsimp -implicitDefEqProofs (disch:=first|omega|assumption) [nI,wI] using hT
end Go.Am.Ab
namespace Go.Am.Ab
open Go.Proofs
set_option maxHeartbeats 4000000
set_option maxRecDepth 4000
abbrev evL (o : Int) (Y : List D) (k n : Int) (s name : ByteArray) (kind : Int) : List D := [.int .u64 0,.int .u8 o,.list Y,.int .u8 k,.int .i64 n,.str s,.str name,.int .u8 kind]
abbrev acL (k n keep age : Int) (Z : List D) (e : List D) : List D := [.int .u8 k,.int .i64 n,.int .i64 keep,.int .u64 age,.list Z] ++ e
theorem same_ev (o k n kind : Int) (s name : ByteArray) (ws : List (List UInt8)) (hn : ws.length < 1000000) : R 16 [.d (.agg (evL o (ws.map cl) k n s name kind)),.d (.agg (evL o (ws.map cl) k n s name kind))] [] = some ([.d (.bool true)],[]) := by
 have e1 : (ws.map cl).length = ws.length := by simp
 have hget : ∀ i (h : i < ws.length) (h' : i < (ws.map cl).length),(ws.map cl)[i] = .agg [.int .u8 (cellR ws[i]).1,.int .i64 (cellR ws[i]).2.1,.str ⟨(cellR ws[i]).2.2.1.toArray⟩] := fun i h h' => by rw [List.getElem_map]; rfl
 generalize hX : ws.map cl = X at *
 refine run_goal (rs:=[.tmp 4]) (ts:=[4]) Tryz.func16 rfl rfl rfl (by kernel_rfl) (by kernel_rfl) (.inl sp_16) (by simp [Tryz.f16]) ?_
 intro T hT
 simp -dsimp -implicitDefEqProofs (disch:=first|omega|assumption) [startSlots,nI,wI,e1]
 generalize hz : loopT _ _ _ _ _ _ = z
 revert z
 refine loop_any (σ:=Nat) (fun i => [(2,.ptr 0 0),(3,.ptr 1 0),(5,I i)]) (fun i => [.box ((evL o X k n s name kind).map .d),.box ((evL o X k n s name kind).map .d)]) (fun i => i ≤ ws.length) (fun i => ws.length - i) 0 ?_ ?_ ?_
 ·exact Nat.zero_le _
 ·simp -dsimp -implicitDefEqProofs (disch:=first|omega|assumption)
 intro T' f hT' i hi ih
 by_cases hlt : i < ws.length
 ·have hlt' : (i : Int) < ws.length := by omega
  have hx := hget i hlt (by omega)
  generalize (cellR ws[i]).1 = ck at *
  generalize (cellR ws[i]).2.1 = cn at *
  generalize (cellR ws[i]).2.2.1 = ct at *
  simp -dsimp -implicitDefEqProofs (disch:=first|omega|assumption) [nI,wI,hlt,hlt',hx,e1]
  refine ih (i + 1) _ _ (by omega) (by omega) ?_
  simp -dsimp -implicitDefEqProofs (disch:=first|omega|assumption)
 ·have hlt' : ¬ (i : Int) < ws.length := by omega
  subst hT'
  simp -dsimp -implicitDefEqProofs (disch:=first|omega|assumption) [nI,wI,hlt,hlt',e1]
  simpa -dsimp -implicitDefEqProofs (disch:=first|omega|assumption) [nI,wI] using hT
theorem same_ac (k n keep age : Int) (ks : List (List UInt8)) (o k2 n2 kind : Int) (s name : ByteArray) (ws : List (List UInt8)) (hk : ks.length < 1000000) (hn : ws.length < 1000000) :
  R 21 [.d (.agg (acL k n keep age (ks.map kpD) (evL o (ws.map cl) k2 n2 s name kind))),.d (.agg (acL k n keep age (ks.map kpD) (evL o (ws.map cl) k2 n2 s name kind)))] [] = some ([.d (.bool true)],[]) := by
 have hE := same_ev o k2 n2 kind s name ws hn
 have e1 : (ks.map kpD).length = ks.length := by simp
 have hget : ∀ i (h : i < ks.length) (h' : i < (ks.map kpD).length),(ks.map kpD)[i] = .int .i64 (numV ks[i]) := fun i h h' => by rw [List.getElem_map]; rfl
 generalize hX : ks.map kpD = X at *
 generalize ws.map cl = Y at *
 refine run_goal (rs:=[.tmp 4]) (ts:=[4]) Tryz.func21 rfl rfl rfl (by kernel_rfl) (by kernel_rfl) (.inl sp_21) (by simp [Tryz.f21]) ?_
 intro T hT
 simp -dsimp -implicitDefEqProofs (disch:=first|omega|assumption) [startSlots,nI,wI,e1,hE]
 generalize hz : loopT _ _ _ _ _ _ = z
 revert z
 refine loop_any (σ:=Nat) (fun i => [(2,.ptr 0 0),(3,.ptr 1 0),(5,I i)]) (fun i => [.box ((acL k n keep age X (evL o Y k2 n2 s name kind)).map .d),.box ((acL k n keep age X (evL o Y k2 n2 s name kind)).map .d)]) (fun i => i ≤ ks.length) (fun i => ks.length - i) 0 ?_ ?_ ?_
 ·exact Nat.zero_le _
 ·simp -dsimp -implicitDefEqProofs (disch:=first|omega|assumption)
 intro T' f hT' i hi ih
 by_cases hlt : i < ks.length
 ·have hlt' : (i : Int) < ks.length := by omega
  have hx := hget i hlt (by omega)
  generalize numV ks[i] = v at *
  simp -dsimp -implicitDefEqProofs (disch:=first|omega|assumption) [nI,wI,hlt,hlt',hx,e1]
  refine ih (i + 1) _ _ (by omega) (by omega) ?_
  simp -dsimp -implicitDefEqProofs (disch:=first|omega|assumption)
 ·have hlt' : ¬ (i : Int) < ks.length := by omega
  subst hT'
  simp -dsimp -implicitDefEqProofs (disch:=first|omega|assumption) [nI,wI,hlt,hlt',e1]
  simpa -dsimp -implicitDefEqProofs (disch:=first|omega|assumption) [nI,wI] using hT
end Go.Am.Ab
namespace Go.Am.Ab
open Go.Proofs
set_option maxHeartbeats 8000000
set_option maxRecDepth 6000
def Sh (sz : Nat) (Y : List D) (v : V) (h : List Obj) : Prop := (Y = [] ∧ v = .nilS ∧ h = []) ∨ (∃ m,Y.length = m + 1 ∧ v = .arr 0 (m + 1) ∧ h = [.arr sz Y 0])
theorem sh_row (r : List (List UInt8)) : Sh 3 (r.map cl) (rowW 0 r.length) (rowO r r.length) := by
 cases h : r.length with
 | zero => rw [List.length_eq_zero_iff.1 h]; exact .inl ⟨rfl,rfl,rfl⟩
 | succ m => exact .inr ⟨m,by simp [h],rfl,by simp only [rowO]; rw [List.take_of_length_le (by omega)]⟩
theorem sh_keep (r : List (List UInt8)) : Sh 1 (r.map kpD) (rowW 0 r.length) (keepO r r.length) := by
 cases h : r.length with
 | zero => rw [List.length_eq_zero_iff.1 h]; exact .inl ⟨rfl,rfl,rfl⟩
 | succ m => exact .inr ⟨m,by simp [h],rfl,by simp only [keepO]; rw [List.take_of_length_le (by omega)]⟩
def Sh2 (Z Y : List D) (u v : V) (h : List Obj) : Prop := (Z = [] ∧ u = .nilS ∧ Sh 3 Y v h) ∨ (Y = [] ∧ v = .nilS ∧ Sh 1 Z u h)
theorem sh_ac {a : Ac} (hf : a.fit) : Sh2 (a.keeps.map kpD) (a.e.row.map cl) (rowW 0 a.keeps.length) (rowW 0 a.e.row.length) a.h := by
 rcases hf.1 with hf | hf
 ·refine .inl ⟨by rw [hf]; rfl,by rw [hf]; rfl, ?_⟩
  unfold Ac.h; rw [hf]; exact sh_row _
 ·refine .inr ⟨by rw [hf]; rfl,by rw [hf]; rfl, ?_⟩
  unfold Ac.h Ev.h; rw [hf]; simp only [List.length_nil,rowO,List.append_nil]; exact sh_keep _
theorem cut_mem : ∀ (l : List UInt8), ∀ w ∈ cutL 32 l,w.length ≤ l.length
 | [],w,h => by simp [cutL] at h; simp [h]
 | x :: l,w,h => by
  have ih := cut_mem l
  unfold cutL at h
  split at h
  ·rcases List.mem_cons.1 h with rfl | h
   ·simp
   ·have := ih w h; simp; omega
  ·split at h
   ·rcases List.mem_cons.1 h with rfl | h
    ·simp
    ·cases h
   ·rename_i p ps hp
    rcases List.mem_cons.1 h with rfl | h
    ·have := ih p (by rw [hp]; simp); simp; omega
    ·have := ih w (by rw [hp]; exact List.mem_cons_of_mem _ h); simp; omega
theorem reads_runs (l : List UInt8) : R 5 [S l] [] = some ([.d (.bool true)],[]) := by
 have hA := alive_runs
 have hsz : (⟨l.toArray⟩ : ByteArray).size = l.length := strD_size l
 by_cases hl : ¬ l.length ≤ 5000
 ·have g1 : (5000 : Int) < l.length := by omega
  refine run_goal (rs:=[.tmp 2]) (ts:=[4]) Tryz.func5 rfl rfl rfl (by kernel_rfl) (by kernel_rfl) (.inl sp_5) (by simp [Tryz.f5]) ?_
  intro T hT
  simp -dsimp -implicitDefEqProofs (disch:=first|omega|assumption) [startSlots,nI,wI,hA,hsz,g1]
  simpa -dsimp -implicitDefEqProofs (disch:=first|omega|assumption) [nI,wI] using hT
 have hl : l.length ≤ 5000 := by omega
 have g1 : ¬ (5000 : Int) < l.length := by omega
 have hC := cut_runs l (by omega)
 rw [show (cutL 32 l).length = ((cutL 32 l).map strD).length by simp] at hC
 have hne := cutL_ne l
 have hmem : ∀ w ∈ cutL 32 l,w.length < 1000000 := fun w hw => by have := cut_mem l w hw; omega
 have hlen : (cutL 32 l).length < 1000000 := by have := cutL_len l; omega
 have evs : (∃ (o k n kind : Int) (s name : ByteArray) (Y : List D) (v : V) (h : List Obj),Sh 3 Y v h ∧ R 15 [S l] [] = some ([.agg (evV o v k n s name kind),.d (.int .i64 0)],h) ∧ R 17 [W (cutL 32 l)] [] = some ([.agg (evV o v k n s name kind),.d (.bool true)],h) ∧ R 16 [.d (.agg (evL o Y k n s name kind)),.d (.agg (evL o Y k n s name kind))] [] = some ([.d (.bool true)],[])) ∨
   (R 15 [S l] [] = some ([.agg evN,.d (.int .i64 250)],[]) ∧ R 17 [W (cutL 32 l)] [] = some ([.agg evN,.d (.bool false)],[])) := by
  obtain ⟨e1,e2⟩ := event_runs hne hmem
  have e3 := revent_runs hne hmem hlen
  cases he : evOf (cutL 32 l) with
  | some e =>
   rw [he] at e3
   have hrow : e.row.length < 1000000 := by have := evOf_row he; omega
   exact .inl ⟨e.o,e.k,e.n,e.kind,_,_,_,_,_,sh_row e.row,Event_ok (by omega) (e1 e he),e3,same_ev e.o e.k e.n e.kind _ _ e.row hrow⟩
  | none =>
   rw [he] at e3
   obtain ⟨e,h1,h2⟩ := e2 he
   exact .inr ⟨Event_no (by omega) h1 h2,e3⟩
 have acs : (∃ (k n keep age o k2 n2 kind : Int) (s name : ByteArray) (Z Y : List D) (u v : V) (h : List Obj),Sh2 Z Y u v h ∧ R 19 [S l] [] = some ([.agg (acV k n keep age u (evV o v k2 n2 s name kind)),.d (.int .i64 0)],h) ∧ R 20 [W (cutL 32 l)] [] = some ([.agg (acV k n keep age u (evV o v k2 n2 s name kind)),.d (.bool true)],h) ∧ R 21 [.d (.agg (acL k n keep age Z (evL o Y k2 n2 s name kind))),.d (.agg (acL k n keep age Z (evL o Y k2 n2 s name kind)))] [] = some ([.d (.bool true)],[])) ∨
   (R 19 [S l] [] = some ([.agg acN,.d (.int .i64 250)],[]) ∧ ∃ (k n keep age o k2 n2 kind : Int) (s name : ByteArray) (Z Y : List D) (u v : V) (h : List Obj),Sh2 Z Y u v h ∧ R 20 [W (cutL 32 l)] [] = some ([.agg (acV k n keep age u (evV o v k2 n2 s name kind)),.d (.bool false)],h)) := by
  rcases acts hne hmem hlen with ⟨a,hf,h1,h2⟩ | ⟨⟨a,hf,h1⟩,⟨b,hg,h2⟩⟩
  ·exact .inl ⟨a.k,a.n,a.keep,a.age,a.e.o,a.e.k,a.e.n,a.e.kind,_,_,_,_,_,_,_,sh_ac hf,Act_ok (by omega) hf h1,h2,same_ac a.k a.n a.keep a.age a.keeps a.e.o a.e.k a.e.n a.e.kind _ _ a.e.row hf.2.1 hf.2.2⟩
  ·exact .inr ⟨Act_no (by omega) hf h1,b.k,b.n,b.keep,b.age,b.e.o,b.e.k,b.e.n,b.e.kind,_,_,_,_,_,_,_,sh_ac hg,h2⟩
 have hS0 := same_ev 0 0 0 0 ⟨#[]⟩ ⟨#[]⟩ [] (by simp)
 have hSa0 := same_ac 0 0 0 0 [] 0 0 0 0 ⟨#[]⟩ ⟨#[]⟩ [] (by simp) (by simp)
 simp only [List.map_nil,List.cons_append,List.nil_append] at hS0 hSa0 acs
 unfold W at evs acs
 generalize (cutL 32 l).map strD = X at *
 clear hne hmem hlen
 rcases evs with ⟨o1,k1,n1,kind1,s1,name1,Y1,v1,h1,hsh1,hE,hE2,hS⟩ | ⟨hE,hE2⟩
 ·rcases hsh1 with ⟨rfl,rfl,rfl⟩ | ⟨q1,hq1,rfl,rfl⟩
  ·clear hS0
   rcases acs with ⟨k,n,keep,age,o,k2,n2,kind,s,name,Z,Y,u,v,h,hsh,hB,hB2,hSa⟩ | ⟨hB,k,n,keep,age,o,k2,n2,kind,s,name,Z,Y,u,v,h,hsh,hB2⟩
   ·rcases hsh with ⟨rfl,rfl,⟨rfl,rfl,rfl⟩ | ⟨q,hq,rfl,rfl⟩⟩ | ⟨rfl,rfl,⟨rfl,rfl,rfl⟩ | ⟨q,hq,rfl,rfl⟩⟩
    ·refine run_goal (rs:=[.tmp 2]) (ts:=[4]) Tryz.func5 rfl rfl rfl (by kernel_rfl) (by kernel_rfl) (.inl sp_5) (by simp [Tryz.f5]) ?_
     intro T hT
     simp -dsimp -implicitDefEqProofs (disch:=first|omega|assumption) [startSlots,nI,wI,hA,hsz,g1,hC,hE,hE2,hS,hB,hB2,hSa]
     simpa -dsimp -implicitDefEqProofs (disch:=first|omega|assumption) [nI,wI] using hT
    ·refine run_goal (rs:=[.tmp 2]) (ts:=[4]) Tryz.func5 rfl rfl rfl (by kernel_rfl) (by kernel_rfl) (.inl sp_5) (by simp [Tryz.f5]) ?_
     intro T hT
     simp -dsimp -implicitDefEqProofs (disch:=first|omega|assumption) [startSlots,nI,wI,hA,hsz,g1,hC,hE,hE2,hS,hB,hB2,hSa,hq]
     simpa -dsimp -implicitDefEqProofs (disch:=first|omega|assumption) [nI,wI] using hT
    ·refine run_goal (rs:=[.tmp 2]) (ts:=[4]) Tryz.func5 rfl rfl rfl (by kernel_rfl) (by kernel_rfl) (.inl sp_5) (by simp [Tryz.f5]) ?_
     intro T hT
     simp -dsimp -implicitDefEqProofs (disch:=first|omega|assumption) [startSlots,nI,wI,hA,hsz,g1,hC,hE,hE2,hS,hB,hB2,hSa]
     simpa -dsimp -implicitDefEqProofs (disch:=first|omega|assumption) [nI,wI] using hT
    ·refine run_goal (rs:=[.tmp 2]) (ts:=[4]) Tryz.func5 rfl rfl rfl (by kernel_rfl) (by kernel_rfl) (.inl sp_5) (by simp [Tryz.f5]) ?_
     intro T hT
     simp -dsimp -implicitDefEqProofs (disch:=first|omega|assumption) [startSlots,nI,wI,hA,hsz,g1,hC,hE,hE2,hS,hB,hB2,hSa,hq]
     simpa -dsimp -implicitDefEqProofs (disch:=first|omega|assumption) [nI,wI] using hT
   ·rcases hsh with ⟨rfl,rfl,⟨rfl,rfl,rfl⟩ | ⟨q,hq,rfl,rfl⟩⟩ | ⟨rfl,rfl,⟨rfl,rfl,rfl⟩ | ⟨q,hq,rfl,rfl⟩⟩
    ·refine run_goal (rs:=[.tmp 2]) (ts:=[4]) Tryz.func5 rfl rfl rfl (by kernel_rfl) (by kernel_rfl) (.inl sp_5) (by simp [Tryz.f5]) ?_
     intro T hT
     simp -dsimp -implicitDefEqProofs (disch:=first|omega|assumption) [startSlots,nI,wI,hA,hsz,g1,hC,hE,hE2,hS,hB,hB2,hSa0]
     simpa -dsimp -implicitDefEqProofs (disch:=first|omega|assumption) [nI,wI] using hT
    ·refine run_goal (rs:=[.tmp 2]) (ts:=[4]) Tryz.func5 rfl rfl rfl (by kernel_rfl) (by kernel_rfl) (.inl sp_5) (by simp [Tryz.f5]) ?_
     intro T hT
     simp -dsimp -implicitDefEqProofs (disch:=first|omega|assumption) [startSlots,nI,wI,hA,hsz,g1,hC,hE,hE2,hS,hB,hB2,hSa0,hq]
     simpa -dsimp -implicitDefEqProofs (disch:=first|omega|assumption) [nI,wI] using hT
    ·refine run_goal (rs:=[.tmp 2]) (ts:=[4]) Tryz.func5 rfl rfl rfl (by kernel_rfl) (by kernel_rfl) (.inl sp_5) (by simp [Tryz.f5]) ?_
     intro T hT
     simp -dsimp -implicitDefEqProofs (disch:=first|omega|assumption) [startSlots,nI,wI,hA,hsz,g1,hC,hE,hE2,hS,hB,hB2,hSa0]
     simpa -dsimp -implicitDefEqProofs (disch:=first|omega|assumption) [nI,wI] using hT
    ·refine run_goal (rs:=[.tmp 2]) (ts:=[4]) Tryz.func5 rfl rfl rfl (by kernel_rfl) (by kernel_rfl) (.inl sp_5) (by simp [Tryz.f5]) ?_
     intro T hT
     simp -dsimp -implicitDefEqProofs (disch:=first|omega|assumption) [startSlots,nI,wI,hA,hsz,g1,hC,hE,hE2,hS,hB,hB2,hSa0,hq]
     simpa -dsimp -implicitDefEqProofs (disch:=first|omega|assumption) [nI,wI] using hT
  ·clear hS0
   rcases acs with ⟨k,n,keep,age,o,k2,n2,kind,s,name,Z,Y,u,v,h,hsh,hB,hB2,hSa⟩ | ⟨hB,k,n,keep,age,o,k2,n2,kind,s,name,Z,Y,u,v,h,hsh,hB2⟩
   ·rcases hsh with ⟨rfl,rfl,⟨rfl,rfl,rfl⟩ | ⟨q,hq,rfl,rfl⟩⟩ | ⟨rfl,rfl,⟨rfl,rfl,rfl⟩ | ⟨q,hq,rfl,rfl⟩⟩
    ·refine run_goal (rs:=[.tmp 2]) (ts:=[4]) Tryz.func5 rfl rfl rfl (by kernel_rfl) (by kernel_rfl) (.inl sp_5) (by simp [Tryz.f5]) ?_
     intro T hT
     simp -dsimp -implicitDefEqProofs (disch:=first|omega|assumption) [startSlots,nI,wI,hA,hsz,g1,hC,hE,hE2,hS,hq1,hB,hB2,hSa]
     simpa -dsimp -implicitDefEqProofs (disch:=first|omega|assumption) [nI,wI] using hT
    ·refine run_goal (rs:=[.tmp 2]) (ts:=[4]) Tryz.func5 rfl rfl rfl (by kernel_rfl) (by kernel_rfl) (.inl sp_5) (by simp [Tryz.f5]) ?_
     intro T hT
     simp -dsimp -implicitDefEqProofs (disch:=first|omega|assumption) [startSlots,nI,wI,hA,hsz,g1,hC,hE,hE2,hS,hq1,hB,hB2,hSa,hq]
     simpa -dsimp -implicitDefEqProofs (disch:=first|omega|assumption) [nI,wI] using hT
    ·refine run_goal (rs:=[.tmp 2]) (ts:=[4]) Tryz.func5 rfl rfl rfl (by kernel_rfl) (by kernel_rfl) (.inl sp_5) (by simp [Tryz.f5]) ?_
     intro T hT
     simp -dsimp -implicitDefEqProofs (disch:=first|omega|assumption) [startSlots,nI,wI,hA,hsz,g1,hC,hE,hE2,hS,hq1,hB,hB2,hSa]
     simpa -dsimp -implicitDefEqProofs (disch:=first|omega|assumption) [nI,wI] using hT
    ·refine run_goal (rs:=[.tmp 2]) (ts:=[4]) Tryz.func5 rfl rfl rfl (by kernel_rfl) (by kernel_rfl) (.inl sp_5) (by simp [Tryz.f5]) ?_
     intro T hT
     simp -dsimp -implicitDefEqProofs (disch:=first|omega|assumption) [startSlots,nI,wI,hA,hsz,g1,hC,hE,hE2,hS,hq1,hB,hB2,hSa,hq]
     simpa -dsimp -implicitDefEqProofs (disch:=first|omega|assumption) [nI,wI] using hT
   ·rcases hsh with ⟨rfl,rfl,⟨rfl,rfl,rfl⟩ | ⟨q,hq,rfl,rfl⟩⟩ | ⟨rfl,rfl,⟨rfl,rfl,rfl⟩ | ⟨q,hq,rfl,rfl⟩⟩
    ·refine run_goal (rs:=[.tmp 2]) (ts:=[4]) Tryz.func5 rfl rfl rfl (by kernel_rfl) (by kernel_rfl) (.inl sp_5) (by simp [Tryz.f5]) ?_
     intro T hT
     simp -dsimp -implicitDefEqProofs (disch:=first|omega|assumption) [startSlots,nI,wI,hA,hsz,g1,hC,hE,hE2,hS,hq1,hB,hB2,hSa0]
     simpa -dsimp -implicitDefEqProofs (disch:=first|omega|assumption) [nI,wI] using hT
    ·refine run_goal (rs:=[.tmp 2]) (ts:=[4]) Tryz.func5 rfl rfl rfl (by kernel_rfl) (by kernel_rfl) (.inl sp_5) (by simp [Tryz.f5]) ?_
     intro T hT
     simp -dsimp -implicitDefEqProofs (disch:=first|omega|assumption) [startSlots,nI,wI,hA,hsz,g1,hC,hE,hE2,hS,hq1,hB,hB2,hSa0,hq]
     simpa -dsimp -implicitDefEqProofs (disch:=first|omega|assumption) [nI,wI] using hT
    ·refine run_goal (rs:=[.tmp 2]) (ts:=[4]) Tryz.func5 rfl rfl rfl (by kernel_rfl) (by kernel_rfl) (.inl sp_5) (by simp [Tryz.f5]) ?_
     intro T hT
     simp -dsimp -implicitDefEqProofs (disch:=first|omega|assumption) [startSlots,nI,wI,hA,hsz,g1,hC,hE,hE2,hS,hq1,hB,hB2,hSa0]
     simpa -dsimp -implicitDefEqProofs (disch:=first|omega|assumption) [nI,wI] using hT
    ·refine run_goal (rs:=[.tmp 2]) (ts:=[4]) Tryz.func5 rfl rfl rfl (by kernel_rfl) (by kernel_rfl) (.inl sp_5) (by simp [Tryz.f5]) ?_
     intro T hT
     simp -dsimp -implicitDefEqProofs (disch:=first|omega|assumption) [startSlots,nI,wI,hA,hsz,g1,hC,hE,hE2,hS,hq1,hB,hB2,hSa0,hq]
     simpa -dsimp -implicitDefEqProofs (disch:=first|omega|assumption) [nI,wI] using hT
 ·clear hl
  rcases acs with ⟨k,n,keep,age,o,k2,n2,kind,s,name,Z,Y,u,v,h,hsh,hB,hB2,hSa⟩ | ⟨hB,k,n,keep,age,o,k2,n2,kind,s,name,Z,Y,u,v,h,hsh,hB2⟩
  ·rcases hsh with ⟨rfl,rfl,⟨rfl,rfl,rfl⟩ | ⟨q,hq,rfl,rfl⟩⟩ | ⟨rfl,rfl,⟨rfl,rfl,rfl⟩ | ⟨q,hq,rfl,rfl⟩⟩
   ·refine run_goal (rs:=[.tmp 2]) (ts:=[4]) Tryz.func5 rfl rfl rfl (by kernel_rfl) (by kernel_rfl) (.inl sp_5) (by simp [Tryz.f5]) ?_
    intro T hT
    simp -dsimp -implicitDefEqProofs (disch:=first|omega|assumption) [startSlots,nI,wI,hA,hsz,g1,hC,hE,hE2,hS0,hB,hB2,hSa]
    simpa -dsimp -implicitDefEqProofs (disch:=first|omega|assumption) [nI,wI] using hT
   ·refine run_goal (rs:=[.tmp 2]) (ts:=[4]) Tryz.func5 rfl rfl rfl (by kernel_rfl) (by kernel_rfl) (.inl sp_5) (by simp [Tryz.f5]) ?_
    intro T hT
    simp -dsimp -implicitDefEqProofs (disch:=first|omega|assumption) [startSlots,nI,wI,hA,hsz,g1,hC,hE,hE2,hS0,hB,hB2,hSa,hq]
    simpa -dsimp -implicitDefEqProofs (disch:=first|omega|assumption) [nI,wI] using hT
   ·refine run_goal (rs:=[.tmp 2]) (ts:=[4]) Tryz.func5 rfl rfl rfl (by kernel_rfl) (by kernel_rfl) (.inl sp_5) (by simp [Tryz.f5]) ?_
    intro T hT
    simp -dsimp -implicitDefEqProofs (disch:=first|omega|assumption) [startSlots,nI,wI,hA,hsz,g1,hC,hE,hE2,hS0,hB,hB2,hSa]
    simpa -dsimp -implicitDefEqProofs (disch:=first|omega|assumption) [nI,wI] using hT
   ·refine run_goal (rs:=[.tmp 2]) (ts:=[4]) Tryz.func5 rfl rfl rfl (by kernel_rfl) (by kernel_rfl) (.inl sp_5) (by simp [Tryz.f5]) ?_
    intro T hT
    simp -dsimp -implicitDefEqProofs (disch:=first|omega|assumption) [startSlots,nI,wI,hA,hsz,g1,hC,hE,hE2,hS0,hB,hB2,hSa,hq]
    simpa -dsimp -implicitDefEqProofs (disch:=first|omega|assumption) [nI,wI] using hT
  ·rcases hsh with ⟨rfl,rfl,⟨rfl,rfl,rfl⟩ | ⟨q,hq,rfl,rfl⟩⟩ | ⟨rfl,rfl,⟨rfl,rfl,rfl⟩ | ⟨q,hq,rfl,rfl⟩⟩
   ·refine run_goal (rs:=[.tmp 2]) (ts:=[4]) Tryz.func5 rfl rfl rfl (by kernel_rfl) (by kernel_rfl) (.inl sp_5) (by simp [Tryz.f5]) ?_
    intro T hT
    simp -dsimp -implicitDefEqProofs (disch:=first|omega|assumption) [startSlots,nI,wI,hA,hsz,g1,hC,hE,hE2,hS0,hB,hB2,hSa0]
    simpa -dsimp -implicitDefEqProofs (disch:=first|omega|assumption) [nI,wI] using hT
   ·refine run_goal (rs:=[.tmp 2]) (ts:=[4]) Tryz.func5 rfl rfl rfl (by kernel_rfl) (by kernel_rfl) (.inl sp_5) (by simp [Tryz.f5]) ?_
    intro T hT
    simp -dsimp -implicitDefEqProofs (disch:=first|omega|assumption) [startSlots,nI,wI,hA,hsz,g1,hC,hE,hE2,hS0,hB,hB2,hSa0,hq]
    simpa -dsimp -implicitDefEqProofs (disch:=first|omega|assumption) [nI,wI] using hT
   ·refine run_goal (rs:=[.tmp 2]) (ts:=[4]) Tryz.func5 rfl rfl rfl (by kernel_rfl) (by kernel_rfl) (.inl sp_5) (by simp [Tryz.f5]) ?_
    intro T hT
    simp -dsimp -implicitDefEqProofs (disch:=first|omega|assumption) [startSlots,nI,wI,hA,hsz,g1,hC,hE,hE2,hS0,hB,hB2,hSa0]
    simpa -dsimp -implicitDefEqProofs (disch:=first|omega|assumption) [nI,wI] using hT
   ·refine run_goal (rs:=[.tmp 2]) (ts:=[4]) Tryz.func5 rfl rfl rfl (by kernel_rfl) (by kernel_rfl) (.inl sp_5) (by simp [Tryz.f5]) ?_
    intro T hT
    simp -dsimp -implicitDefEqProofs (disch:=first|omega|assumption) [startSlots,nI,wI,hA,hsz,g1,hC,hE,hE2,hS0,hB,hB2,hSa0,hq]
    simpa -dsimp -implicitDefEqProofs (disch:=first|omega|assumption) [nI,wI] using hT
end Go.Am.Ab
