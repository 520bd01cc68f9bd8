/- SinkWrong, on the machine. Printed by mksnk4.py. -/
import Derived.Test.YtldceipbpilipaaGreatDoorSnkA
import Derived.Test.YtldceipbpilipaaGreatDoorEvtC
import Derived.Test.YtldceipbpilipaaGreatDoorEv23
set_option linter.all false
namespace Go.Am.Ab
open Go.Proofs
set_option maxHeartbeats 16000000
set_option maxRecDepth 4000
def evsOk : Sch → Nat → List Evt → Prop
 | _,_,[] => True
 | s,n,e :: r => (e.off = (n : Int) + 1 ∧ echk s e = 0 ∧ EvtI e ∧ greatE e = false) ∧ evsOk (stepS s e) (n + 1) r
theorem well_ok : ∀ (l : List Evt) (s : Sch) (n : Nat),(∀ e ∈ l,EvtI e) → evsOk s n (well s n l)
 | [],_,_,_ => trivial
 | e :: r,s,n,h => by
  unfold well
  have he := h e (by simp)
  split
  ·rename_i hc
   exact ⟨⟨rfl,hc.2,⟨he.row,he.key,he.k0,he.k1⟩,hc.1⟩,well_ok r (stepS s e) (n + 1) fun x hx => h x (List.mem_cons_of_mem _ hx)⟩
  ·exact well_ok r s n fun x hx => h x (List.mem_cons_of_mem _ hx)
def twoS : Sch := ⟨1,[⟨1,⟨#[105,100]⟩,1,true⟩,⟨2,⟨#[110,97,109,101]⟩,3,false⟩]⟩
theorem twoS_w : SchW twoS := ⟨by decide,by decide,fun f hf => by
 simp only [twoS,List.mem_cons,List.not_mem_nil,or_false] at hf
 rcases hf with rfl | rfl <;> exact ⟨by decide,by decide,by decide⟩,by decide⟩
theorem source_runs (l : List Evt) (hl : ∀ e ∈ l,EvtI e) (hn : l.length ≤ 9223372036854775807) : R 8 [.d (.list (l.map Evt.d)),.d (.int .i64 30)] [] = some ([.arr 0 (well twoS 0 (l.take 30)).length],[.arr 8 ((well twoS 0 (l.take 30)).map Evt.d) 0]) := by
 have h1 := two_runs
 have h2 := well_runs twoS_w l hl hn 30 (by decide)
 have h3 : twoS.d = .agg [.int .u32 1,.list twoX] := rfl
 have h4 : twoX.length = 2 := rfl
 rw [h3] at h2
 rw [show ((30 : Nat) : Int) = 30 from rfl] at h2
 generalize twoX = Q at *
 generalize l.map Evt.d = Y at *
 have h5 : ((well twoS 0 (l.take 30)).map Evt.d).length = (well twoS 0 (l.take 30)).length := List.length_map _
 generalize (well twoS 0 (l.take 30)).map Evt.d = Z at *
 generalize (well twoS 0 (l.take 30)).length = m at *
 refine run_goal (rs:=[.tmp 4]) (ts:=[25]) Tryz.func8 rfl rfl rfl (by kernel_rfl) (by kernel_rfl) (.inl sp_8) (by simp [Tryz.f8]) ?_
 intro T hT
 simp -dsimp -implicitDefEqProofs (disch:=first|omega|assumption) [startSlots,nI,wI,h1,h2,h4,h5]
 simpa -dsimp -implicitDefEqProofs (disch:=first|omega|assumption) [nI,wI] using hT
def snkL (tk gp sid : Int) (X : List D) (tak wgt : Int) (es : List (D × V)) (bs : List Nat) (ck : Nat) : List D → List Obj
 | [] => [snkB 3 4 tk gp sid X tak wgt .nilS,catB 5,.map es bs ck,stoB 6,stoM]
 | f :: F => [snkB 3 4 tk gp sid X tak wgt (.arr 5 (F.length + 1)),catB 6,.map es bs ck,.arr 4 (f :: F) 0,stoB 7,stoM]
structure SnkI (E : List Evt) (i : Nat) (s : Sch) (wgt : Int) (es : List (D × V)) (F : List D) : Prop where
 a1 : i ≤ E.length
 a2 : evsOk s i (E.drop i)
 a3 : SchW s
 a4 : EsG es
 a5 : 0 ≤ wgt
 a6 : wgt ≤ 25552 * (i : Int)
 a7 : F.length ≤ i
 a8 : s.fields.length ≤ i + 2
theorem rsame_runs (s : Sch) (hl : s.fields.length ≤ 1000000) : R 17 [.d s.d,.d s.d] [] = some ([.d (.bool true)],[]) := by
 obtain ⟨sid,fs⟩ := s
 simp only [Sch.d] at hl ⊢
 obtain ⟨Y,hY⟩ : ∃ Y,Y = fs.map Fld.d := ⟨_,rfl⟩
 have hYl : Y.length = fs.length := by rw [hY,List.length_map]
 rw [← hY]
 refine run_goal (rs:=[.tmp 4]) (ts:=[4]) Tryz.func17 rfl rfl rfl (by kernel_rfl) (by kernel_rfl) (.inl sp_17) (by simp [Tryz.f17]) ?_
 intro T hT
 simp -dsimp -implicitDefEqProofs (disch:=first|omega|assumption) [startSlots,nI,wI]
 generalize hz : loopT _ _ _ _ _ _ = z
 revert z
 refine loop_any (σ:=Nat) (fun i => [(2,.ptr 0 0),(3,.ptr 1 0),(5,.d (.int .i64 i))]) (fun _ => [.box [.d (.int .u32 sid),.d (.list Y)],.box [.d (.int .u32 sid),.d (.list Y)]]) (fun i => i ≤ fs.length) (fun i => fs.length - i) 0 ?_ ?_ ?_
 ·exact Nat.zero_le _
 ·simp -dsimp -implicitDefEqProofs (disch:=first|omega|assumption)
 intro T' f hT' i hi ih
 by_cases h1 : i < fs.length
 ·have h2 : i < Y.length := by omega
  obtain ⟨⟨a,b,c,d⟩,hr1⟩ : ∃ r,fs[i] = r := ⟨_,rfl⟩
  have hYi : Y[i] = Fld.d ⟨a,b,c,d⟩ := by simp only [hY,List.getElem_map,hr1]
  simp only [Fld.d] at hYi
  simp -dsimp -implicitDefEqProofs (disch:=first|omega|assumption) [nI,wI,h1,h2,hYi,str_beq]
  refine ih (i + 1) _ _ h1 (by omega) (by simp -dsimp -implicitDefEqProofs (disch:=first|omega|assumption))
 ·subst hT'
  have h2 : ¬ i < Y.length := by omega
  simp -dsimp -implicitDefEqProofs (disch:=first|omega|assumption) [nI,wI,h2]
  simpa -dsimp -implicitDefEqProofs (disch:=first|omega|assumption) [nI,wI] using hT
theorem sinkWrong_runs (cnt byt tk gp : Int) (l : List Evt) (hl : ∀ e ∈ l,EvtI e) (hn : l.length ≤ 9223372036854775807) (e : Evt) (he : EvtI e) :
  R 3 [.d (.agg [.int .i64 cnt,.int .i64 byt,.int .u64 tk,.int .i64 gp]),.d (.list (l.map Evt.d)),.d e.d] [] = some ([.d (.bool true)],[]) := by
 have al := alive23_runs
 have hgr := great_runs e
 have hge : (decide (50 < e.row.length) || decide (500 < e.key.s.size) || decide (500 < e.name.size) || e.row.any fun c => decide (500 < c.s.size)) = greatE e := rfl
 rw [hge] at hgr
 have hxd : e.d = .agg [.int .u64 e.off,.int .u8 e.op,.list (ce e.row),.int .u8 e.key.kind,.int .i64 e.key.n,.str e.key.s,.str e.name,.int .u8 e.kind] := rfl
 rw [hxd] at hgr ⊢
 cases hgv : greatE e with
 | true =>
  rw [hgv] at hgr
  generalize l.map Evt.d = Y at *
  obtain ⟨off,op,row,⟨ck,cn,cs⟩,nm,kd⟩ := e
  simp only at hgr ⊢
  generalize ce row = Y2 at *
  refine run_goal (rs:=[.tmp 6]) (ts:=[4]) Tryz.func3 rfl rfl rfl (by kernel_rfl) (by kernel_rfl) (.inl sp_3) (by simp [Tryz.f3]) ?_
  intro T hT
  simp -dsimp -implicitDefEqProofs (disch:=first|omega|assumption) [startSlots,nI,wI,al,hgr]
  simpa -dsimp -implicitDefEqProofs (disch:=first|omega|assumption) [nI,wI] using hT
 | false =>
 rw [hgv] at hgr
 obtain ⟨hwf,h5,hk5,hz5⟩ := evt_wf he hgv
 have hsr := source_runs l hl hn
 have hok := well_ok (l.take 30) twoS 0 (fun x hx => hl x (List.mem_of_mem_take hx))
 have hEl := well_len (l.take 30) twoS 0
 rw [List.length_take] at hEl
 obtain ⟨E,hE⟩ : ∃ E,well twoS 0 (l.take 30) = E := ⟨_,rfl⟩
 rw [hE] at hsr hok hEl
 have hst := store_runs
 have htw := two_runs
 have hnw := new_runs tk gp
 have h4 : twoX.length = 2 := rfl
 have hX : twoS.fields.map Fld.d = twoX := rfl
 have hEd : (E.map Evt.d).length = E.length := List.length_map _
 generalize grp gp = gq at *
 have hI0 : SnkI E 0 twoS 0 [] [] := ⟨Nat.zero_le _,by rw [List.drop_zero]; exact hok,twoS_w,(fun p hp => by cases hp),Int.le_refl _,by omega,Nat.le_refl _,by decide⟩
 obtain ⟨Q,hQ⟩ : ∃ Q,twoX = Q := ⟨_,rfl⟩
 simp only [stoN,snkB,catB,stoB,stoM,hQ] at htw hnw h4
 generalize l.map Evt.d = Y at *
 obtain ⟨off,op,row,⟨ck0,cn0,cs0⟩,nm,kd⟩ := e
 simp only at hgr ⊢
 refine run_goal (rs:=[.tmp 6]) (ts:=[4]) Tryz.func3 rfl rfl rfl (by kernel_rfl) (by kernel_rfl) (.inl sp_3) (by simp [Tryz.f3]) ?_
 intro T hT
 simp -dsimp -implicitDefEqProofs (disch:=first|omega|assumption) [startSlots,nI,wI,al,hgr,hsr,hst,stoN,htw,hnw,h4,hEd]
 generalize hz : loopT _ _ _ _ _ _ = z
 revert z
 refine loop_any (σ:=Nat × Sch × Int × List (D × V) × List Nat × Nat × List D) (fun x => [(5,.ptr 0 0),(7,.arr 1 E.length),(8,.ptr 2 0),(10,.d (.int .i64 x.1))]) (fun x => [.box [.d (.int .u64 off),.d (.int .u8 op),.d (.list (ce row)),.d (.int .u8 ck0),.d (.int .i64 cn0),.d (.str cs0),.d (.str nm),.d (.int .u8 kd)],.arr 8 (E.map Evt.d) 0] ++ snkL tk gq x.2.1.id (x.2.1.fields.map Fld.d) x.1 x.2.2.1 x.2.2.2.1 x.2.2.2.2.1 x.2.2.2.2.2.1 x.2.2.2.2.2.2) (fun x => SnkI E x.1 x.2.1 x.2.2.1 x.2.2.2.1 x.2.2.2.2.2.2) (fun x => E.length - x.1) (0,twoS,0,[],[],0,[]) ?_ ?_ ?_
 ·exact hI0
 ·simp -dsimp -implicitDefEqProofs (disch:=first|omega|assumption) [snkL,snkB,catB,stoB,stoM,hX,hQ,show twoS.id = 1 from rfl]
 rintro T' f hT' ⟨i,s,wgt,es,bs,ck,F⟩ hI ih
 simp only at hI ih ⊢
 obtain ⟨hi,hev,hs,hes,hw0,hw1,hF,hsl⟩ := hI
 by_cases h1 : i < E.length
 ·obtain ⟨e1,hx⟩ : ∃ e1,E[i] = e1 := ⟨_,rfl⟩
  rw [List.drop_eq_getElem_cons h1,hx] at hev
  obtain ⟨⟨ho,hc,hei,hg1⟩,hev2⟩ := hev
  obtain ⟨hwf1,h51,hk51,hz51⟩ := evt_wf hei hg1
  have hxd1 : e1.d = .agg [.int .u64 e1.off,.int .u8 e1.op,.list (ce e1.row),.int .u8 e1.key.kind,.int .i64 e1.key.n,.str e1.key.s,.str e1.name,.int .u8 e1.kind] := rfl
  obtain ⟨hsk,hop⟩ := echk_ok hc
  have hwk := wg_le hk51 (by omega)
  have hwr := wgs_le (k := 500) (by omega) e1.row 0 hz51
  have hwe : wgs e1.row = e1.row.foldl (fun a c => a + wg c) 0 := rfl
  rw [← hwe] at hwr
  have hsw := stepS_w hs hwf1 hc
  have hms : E.length - (i + 1) < E.length - i := by omega
  cases F with
  | nil =>
   rcases hop with ⟨h1o,hr,hrl,hrp⟩ | h1o | ⟨h1o,h0⟩
   ·obtain ⟨es',bs',ck',hg',hO⟩ := offer_put0 (tk := tk) (gp := gq) (s := s) (es := es) (bs := bs) (ck := ck) hs hwf1 hes (tak := i) (wgt := wgt) (by omega) hw0 (by omega) ho hc h1o hk51 hz51 h51 hrp
    have hst1 : stepS s e1 = s := by unfold stepS; rw [if_neg (by omega)]
    rw [hst1] at hev2 hsw
    have hinv : SnkI E (i + 1) s (wgt + 1 + wg e1.key + wgs e1.row) es' [] := ⟨by omega,hev2,hsw,hg',by omega,by omega,by simp only [List.length_nil,List.length_cons,List.length_append]; omega,by omega⟩
    have ihn := ih (i + 1,s,wgt + 1 + wg e1.key + wgs e1.row,es',bs',ck',[])
    simp only at ihn
    rw [hxd1] at hO
    clear hst1 hev2 hsw hei hwf1 hc hsk
    rw [show ((i + 1 : Nat) : Int) = (i : Int) + 1 by omega] at ihn
    simp only [snkL,snkH,snkW,snkB,catB,stoB,stoM,hQ] at ihn hO ⊢
    generalize s.fields.map Fld.d = X at *
    obtain ⟨off1,op1,row1,⟨ck1,cn1,cs1⟩,nm1,kd1⟩ := e1
    simp only at hO hxd1 ho ihn
    simp -dsimp -implicitDefEqProofs (disch:=first|omega|assumption) [nI,wI,h1,hx,hxd1,hO,hEd,rg5,rg6]
    refine ihn _ _ hinv hms ?_
    simp -dsimp -implicitDefEqProofs (disch:=first|omega|assumption)
   ·obtain ⟨es',bs',ck',hg',hO⟩ := offer_rem0 (tk := tk) (gp := gq) (s := s) (es := es) (bs := bs) (ck := ck) hs hwf1 hes (tak := i) (wgt := wgt) (by omega) hw0 (by omega) ho hc h1o hk51
    have hst1 : stepS s e1 = s := by unfold stepS; rw [if_neg (by omega)]
    rw [hst1] at hev2 hsw
    have hinv : SnkI E (i + 1) s (wgt + 1 + wg e1.key) es' [] := ⟨by omega,hev2,hsw,hg',by omega,by omega,by simp only [List.length_nil,List.length_cons,List.length_append]; omega,by omega⟩
    have ihn := ih (i + 1,s,wgt + 1 + wg e1.key,es',bs',ck',[])
    simp only at ihn
    rw [hxd1] at hO
    clear hst1 hev2 hsw hei hwf1 hc hsk
    rw [show ((i + 1 : Nat) : Int) = (i : Int) + 1 by omega] at ihn
    simp only [snkL,snkH,snkW,snkB,catB,stoB,stoM,hQ] at ihn hO ⊢
    generalize s.fields.map Fld.d = X at *
    obtain ⟨off1,op1,row1,⟨ck1,cn1,cs1⟩,nm1,kd1⟩ := e1
    simp only at hO hxd1 ho ihn
    simp -dsimp -implicitDefEqProofs (disch:=first|omega|assumption) [nI,wI,h1,hx,hxd1,hO,hEd,rg5,rg6]
    refine ihn _ _ hinv hms ?_
    simp -dsimp -implicitDefEqProofs (disch:=first|omega|assumption)
   ·have hO := offer_wid0 (tk := tk) (gp := gq) (s := s) (es := es) (bs := bs) (ck := ck) hs hwf1 hes (tak := i) (wgt := wgt) (by omega) hw0 (by omega) ho hc h1o hk51 h0
    have hst1 : stepS s e1 = (sgrow s e1.name e1.kind) := by unfold stepS; rw [if_pos h1o]
    rw [hst1] at hev2 hsw
    have hinv : SnkI E (i + 1) (sgrow s e1.name e1.kind) (wgt + 1 + wg e1.key) es [D.agg [.int .u32 0,.str e1.name,.int .u8 e1.kind,.bool false]] := ⟨by omega,hev2,hsw,hes,by omega,by omega,by simp only [List.length_nil,List.length_cons,List.length_append]; omega,by simp only [sgrow,List.length_append,List.length_cons,List.length_nil]; omega⟩
    have ihn := ih (i + 1,(sgrow s e1.name e1.kind),wgt + 1 + wg e1.key,es,bs,ck,[D.agg [.int .u32 0,.str e1.name,.int .u8 e1.kind,.bool false]])
    simp only at ihn
    rw [hxd1] at hO
    clear hst1 hev2 hsw hei hwf1 hc hsk
    rw [show ((i + 1 : Nat) : Int) = (i : Int) + 1 by omega] at ihn
    simp only [snkL,snkH,snkW,snkB,catB,stoB,stoM,hQ,List.length_append,List.length_cons,List.length_nil] at ihn hO ⊢
    generalize s.fields.map Fld.d = X at *
    obtain ⟨off1,op1,row1,⟨ck1,cn1,cs1⟩,nm1,kd1⟩ := e1
    simp only at hO hxd1 ho ihn
    simp -dsimp -implicitDefEqProofs (disch:=first|omega|assumption) [nI,wI,h1,hx,hxd1,hO,hEd,rg5,rg6]
    refine ihn _ _ hinv hms ?_
    simp -dsimp -implicitDefEqProofs (disch:=first|omega|assumption)
  | cons f0 F =>
   rw [List.length_cons] at hF
   rcases hop with ⟨h1o,hr,hrl,hrp⟩ | h1o | ⟨h1o,h0⟩
   ·obtain ⟨es',bs',ck',hg',hO⟩ := offer_put1 (tk := tk) (gp := gq) (s := s) (es := es) (bs := bs) (ck := ck) (f0 := f0) (F := F) hs hwf1 hes (tak := i) (wgt := wgt) (by omega) hw0 (by omega) ho hc h1o hk51 hz51 h51 hrp
    have hst1 : stepS s e1 = s := by unfold stepS; rw [if_neg (by omega)]
    rw [hst1] at hev2 hsw
    have hinv : SnkI E (i + 1) s (wgt + 1 + wg e1.key + wgs e1.row) es' (f0 :: F) := ⟨by omega,hev2,hsw,hg',by omega,by omega,by simp only [List.length_nil,List.length_cons,List.length_append]; omega,by omega⟩
    have ihn := ih (i + 1,s,wgt + 1 + wg e1.key + wgs e1.row,es',bs',ck',(f0 :: F))
    simp only at ihn
    rw [hxd1] at hO
    clear hst1 hev2 hsw hei hwf1 hc hsk
    rw [show ((i + 1 : Nat) : Int) = (i : Int) + 1 by omega] at ihn
    simp only [snkL,snkH,snkW,snkB,catB,stoB,stoM,hQ] at ihn hO ⊢
    generalize s.fields.map Fld.d = X at *
    obtain ⟨off1,op1,row1,⟨ck1,cn1,cs1⟩,nm1,kd1⟩ := e1
    simp only at hO hxd1 ho ihn
    simp -dsimp -implicitDefEqProofs (disch:=first|omega|assumption) [nI,wI,h1,hx,hxd1,hO,hEd,rg5,rg6]
    refine ihn _ _ hinv hms ?_
    simp -dsimp -implicitDefEqProofs (disch:=first|omega|assumption)
   ·obtain ⟨es',bs',ck',hg',hO⟩ := offer_rem1 (tk := tk) (gp := gq) (s := s) (es := es) (bs := bs) (ck := ck) (f0 := f0) (F := F) hs hwf1 hes (tak := i) (wgt := wgt) (by omega) hw0 (by omega) ho hc h1o hk51
    have hst1 : stepS s e1 = s := by unfold stepS; rw [if_neg (by omega)]
    rw [hst1] at hev2 hsw
    have hinv : SnkI E (i + 1) s (wgt + 1 + wg e1.key) es' (f0 :: F) := ⟨by omega,hev2,hsw,hg',by omega,by omega,by simp only [List.length_nil,List.length_cons,List.length_append]; omega,by omega⟩
    have ihn := ih (i + 1,s,wgt + 1 + wg e1.key,es',bs',ck',(f0 :: F))
    simp only at ihn
    rw [hxd1] at hO
    clear hst1 hev2 hsw hei hwf1 hc hsk
    rw [show ((i + 1 : Nat) : Int) = (i : Int) + 1 by omega] at ihn
    simp only [snkL,snkH,snkW,snkB,catB,stoB,stoM,hQ] at ihn hO ⊢
    generalize s.fields.map Fld.d = X at *
    obtain ⟨off1,op1,row1,⟨ck1,cn1,cs1⟩,nm1,kd1⟩ := e1
    simp only at hO hxd1 ho ihn
    simp -dsimp -implicitDefEqProofs (disch:=first|omega|assumption) [nI,wI,h1,hx,hxd1,hO,hEd,rg5,rg6]
    refine ihn _ _ hinv hms ?_
    simp -dsimp -implicitDefEqProofs (disch:=first|omega|assumption)
   ·have hO := offer_wid1 (tk := tk) (gp := gq) (s := s) (es := es) (bs := bs) (ck := ck) (f0 := f0) (F := F) hs hwf1 hes (tak := i) (wgt := wgt) (by omega) hw0 (by omega) ho hc h1o hk51 h0 (by omega)
    have hst1 : stepS s e1 = (sgrow s e1.name e1.kind) := by unfold stepS; rw [if_pos h1o]
    rw [hst1] at hev2 hsw
    have hinv : SnkI E (i + 1) (sgrow s e1.name e1.kind) (wgt + 1 + wg e1.key) es (f0 :: (F ++ [D.agg [.int .u32 0,.str e1.name,.int .u8 e1.kind,.bool false]])) := ⟨by omega,hev2,hsw,hes,by omega,by omega,by simp only [List.length_nil,List.length_cons,List.length_append]; omega,by simp only [sgrow,List.length_append,List.length_cons,List.length_nil]; omega⟩
    have ihn := ih (i + 1,(sgrow s e1.name e1.kind),wgt + 1 + wg e1.key,es,bs,ck,(f0 :: (F ++ [D.agg [.int .u32 0,.str e1.name,.int .u8 e1.kind,.bool false]])))
    simp only at ihn
    rw [hxd1] at hO
    clear hst1 hev2 hsw hei hwf1 hc hsk
    rw [show ((i + 1 : Nat) : Int) = (i : Int) + 1 by omega] at ihn
    simp only [snkL,snkH,snkW,snkB,catB,stoB,stoM,hQ,List.length_append,List.length_cons,List.length_nil] at ihn hO ⊢
    generalize s.fields.map Fld.d = X at *
    obtain ⟨off1,op1,row1,⟨ck1,cn1,cs1⟩,nm1,kd1⟩ := e1
    simp only at hO hxd1 ho ihn
    simp -dsimp -implicitDefEqProofs (disch:=first|omega|assumption) [nI,wI,h1,hx,hxd1,hO,hEd,rg5,rg6]
    refine ihn _ _ hinv hms ?_
    simp -dsimp -implicitDefEqProofs (disch:=first|omega|assumption)
 ·have hie : i = E.length := by omega
  have hi30 : i ≤ 30 := by omega
  subst hT'
  have hsr2 := rsame_runs s (by omega)
  have hat := evt_at hwf i
  have hck := rechk_runs s _ hs hat he.k1
  have hxd2 : (Evt.at ⟨off,op,row,⟨ck0,cn0,cs0⟩,nm,kd⟩ i).d = .agg [.int .u64 ((i : Int) + 1),.int .u8 op,.list (ce row),.int .u8 ck0,.int .i64 cn0,.str cs0,.str nm,.int .u8 kd] := rfl
  have hne : ¬ (i : Int) < (E.length : Int) := by omega
  have hwf2 := evt_wf (e := ⟨off,op,row,⟨ck0,cn0,cs0⟩,nm,kd⟩) he hgv
  by_cases hc : echk s (Evt.at ⟨off,op,row,⟨ck0,cn0,cs0⟩,nm,kd⟩ i) = 0
  ·rw [hc] at hck
   obtain ⟨hsk,hop⟩ := echk_ok hc
   cases F with
   | nil =>
    have hre := snk_resume0 (tk := tk) (gp := gq) (sid := s.id) (X := s.fields.map Fld.d) (es := es) (bs := bs) (ck := ck) (tak := i) (wgt := wgt) (by omega)
    have hwa := snk_wait0 (tk := tk) (gp := gq) (sid := s.id) (X := s.fields.map Fld.d) (es := es) (bs := bs) (ck := ck) (tak := i) (wgt := wgt) (by omega)
    have hsc := snk_schema0 (tk := tk) (gp := gq) (s := s) (es := es) (bs := bs) (ck := ck) (tak := i) (wgt := wgt) (by omega)
    rcases hop with ⟨h1o,hr,hrl,hrp⟩ | h1o | ⟨h1o,h0⟩
    ·obtain ⟨es',bs',ck',hg',hO⟩ := offer_put0 (tk := tk) (gp := gq) (s := s) (es := es) (bs := bs) (ck := ck) hs hat hes (tak := i) (wgt := wgt) (by omega) hw0 (by omega) rfl hc h1o hk5 hz5 h5 hrp
     have hre2 := snk_resume0 (tk := tk) (gp := gq) (sid := s.id) (X := s.fields.map Fld.d) (es := es') (bs := bs') (ck := ck') (tak := i + 1) (wgt := (wgt + 1 + wg ⟨ck0,cn0,cs0⟩ + wgs row)) (by omega)
     rw [show ((i + 1 : Nat) : Int) = (i : Int) + 1 by omega] at hre2
     rw [hxd2] at hO hck
     simp only [snkL,snkH,snkW,snkB,catB,stoB,stoM,hQ,Sch.d,Evt.at,List.length_append,List.length_cons,List.length_nil] at hre hwa hsc hck hO hre2 ⊢
     generalize s.fields.map Fld.d = X at *
     generalize ce row = Y2 at *
     have w1 : IntKind.wrap .u64 ((i : Int) + 1) = i + 1 := wrap_u64 (by omega) (by omega)
     have w2 : IntKind.wrap .u64 ((i : Int) + 1 + 1) = i + 1 + 1 := wrap_u64 (by omega) (by omega)
     simp -dsimp -implicitDefEqProofs (disch:=first|omega|assumption) [nI,wI,hne,hEd,hre,hwa,hsc,hck,hO,hre2,w1,w2,rg5,rg6]
     simpa -dsimp -implicitDefEqProofs (disch:=first|omega|assumption) [nI,wI] using hT
    ·obtain ⟨es',bs',ck',hg',hO⟩ := offer_rem0 (tk := tk) (gp := gq) (s := s) (es := es) (bs := bs) (ck := ck) hs hat hes (tak := i) (wgt := wgt) (by omega) hw0 (by omega) rfl hc h1o hk5
     have hre2 := snk_resume0 (tk := tk) (gp := gq) (sid := s.id) (X := s.fields.map Fld.d) (es := es') (bs := bs') (ck := ck') (tak := i + 1) (wgt := (wgt + 1 + wg ⟨ck0,cn0,cs0⟩)) (by omega)
     rw [show ((i + 1 : Nat) : Int) = (i : Int) + 1 by omega] at hre2
     rw [hxd2] at hO hck
     simp only [snkL,snkH,snkW,snkB,catB,stoB,stoM,hQ,Sch.d,Evt.at,List.length_append,List.length_cons,List.length_nil] at hre hwa hsc hck hO hre2 ⊢
     generalize s.fields.map Fld.d = X at *
     generalize ce row = Y2 at *
     have w1 : IntKind.wrap .u64 ((i : Int) + 1) = i + 1 := wrap_u64 (by omega) (by omega)
     have w2 : IntKind.wrap .u64 ((i : Int) + 1 + 1) = i + 1 + 1 := wrap_u64 (by omega) (by omega)
     simp -dsimp -implicitDefEqProofs (disch:=first|omega|assumption) [nI,wI,hne,hEd,hre,hwa,hsc,hck,hO,hre2,w1,w2,rg5,rg6]
     simpa -dsimp -implicitDefEqProofs (disch:=first|omega|assumption) [nI,wI] using hT
    ·have hO := offer_wid0 (tk := tk) (gp := gq) (s := s) (es := es) (bs := bs) (ck := ck) hs hat hes (tak := i) (wgt := wgt) (by omega) hw0 (by omega) rfl hc h1o hk5 h0
     have hre2 := snk_resume1 (tk := tk) (gp := gq) (sid := (sgrow s nm kd).id) (X := (sgrow s nm kd).fields.map Fld.d) (es := es) (bs := bs) (ck := ck) (f0 := .agg [.int .u32 0,.str nm,.int .u8 kd,.bool false]) (F := []) (tak := i + 1) (wgt := (wgt + 1 + wg ⟨ck0,cn0,cs0⟩)) (by omega)
     rw [show ((i + 1 : Nat) : Int) = (i : Int) + 1 by omega] at hre2
     rw [hxd2] at hO hck
     simp only [snkL,snkH,snkW,snkB,catB,stoB,stoM,hQ,Sch.d,Evt.at,List.length_append,List.length_cons,List.length_nil] at hre hwa hsc hck hO hre2 ⊢
     generalize (sgrow s nm kd).fields.map Fld.d = X3 at *
     generalize (sgrow s nm kd).id = z3 at *
     generalize s.fields.map Fld.d = X at *
     generalize ce row = Y2 at *
     have w1 : IntKind.wrap .u64 ((i : Int) + 1) = i + 1 := wrap_u64 (by omega) (by omega)
     have w2 : IntKind.wrap .u64 ((i : Int) + 1 + 1) = i + 1 + 1 := wrap_u64 (by omega) (by omega)
     simp -dsimp -implicitDefEqProofs (disch:=first|omega|assumption) [nI,wI,hne,hEd,hre,hwa,hsc,hck,hO,hre2,w1,w2,rg5,rg6]
     simpa -dsimp -implicitDefEqProofs (disch:=first|omega|assumption) [nI,wI] using hT
   | cons f0 F =>
    rw [List.length_cons] at hF
    have hre := snk_resume1 (tk := tk) (gp := gq) (sid := s.id) (X := s.fields.map Fld.d) (es := es) (bs := bs) (ck := ck) (f0 := f0) (F := F) (tak := i) (wgt := wgt) (by omega)
    have hwa := snk_wait1 (tk := tk) (gp := gq) (sid := s.id) (X := s.fields.map Fld.d) (es := es) (bs := bs) (ck := ck) (f0 := f0) (F := F) (tak := i) (wgt := wgt) (by omega)
    have hsc := snk_schema1 (tk := tk) (gp := gq) (s := s) (es := es) (bs := bs) (ck := ck) (f0 := f0) (F := F) (tak := i) (wgt := wgt) (by omega)
    rcases hop with ⟨h1o,hr,hrl,hrp⟩ | h1o | ⟨h1o,h0⟩
    ·obtain ⟨es',bs',ck',hg',hO⟩ := offer_put1 (tk := tk) (gp := gq) (s := s) (es := es) (bs := bs) (ck := ck) (f0 := f0) (F := F) hs hat hes (tak := i) (wgt := wgt) (by omega) hw0 (by omega) rfl hc h1o hk5 hz5 h5 hrp
     have hre2 := snk_resume1 (tk := tk) (gp := gq) (sid := s.id) (X := s.fields.map Fld.d) (es := es') (bs := bs') (ck := ck') (f0 := f0) (F := F) (tak := i + 1) (wgt := (wgt + 1 + wg ⟨ck0,cn0,cs0⟩ + wgs row)) (by omega)
     rw [show ((i + 1 : Nat) : Int) = (i : Int) + 1 by omega] at hre2
     rw [hxd2] at hO hck
     simp only [snkL,snkH,snkW,snkB,catB,stoB,stoM,hQ,Sch.d,Evt.at,List.length_append,List.length_cons,List.length_nil] at hre hwa hsc hck hO hre2 ⊢
     generalize s.fields.map Fld.d = X at *
     generalize ce row = Y2 at *
     have w1 : IntKind.wrap .u64 ((i : Int) + 1) = i + 1 := wrap_u64 (by omega) (by omega)
     have w2 : IntKind.wrap .u64 ((i : Int) + 1 + 1) = i + 1 + 1 := wrap_u64 (by omega) (by omega)
     simp -dsimp -implicitDefEqProofs (disch:=first|omega|assumption) [nI,wI,hne,hEd,hre,hwa,hsc,hck,hO,hre2,w1,w2,rg5,rg6]
     simpa -dsimp -implicitDefEqProofs (disch:=first|omega|assumption) [nI,wI] using hT
    ·obtain ⟨es',bs',ck',hg',hO⟩ := offer_rem1 (tk := tk) (gp := gq) (s := s) (es := es) (bs := bs) (ck := ck) (f0 := f0) (F := F) hs hat hes (tak := i) (wgt := wgt) (by omega) hw0 (by omega) rfl hc h1o hk5
     have hre2 := snk_resume1 (tk := tk) (gp := gq) (sid := s.id) (X := s.fields.map Fld.d) (es := es') (bs := bs') (ck := ck') (f0 := f0) (F := F) (tak := i + 1) (wgt := (wgt + 1 + wg ⟨ck0,cn0,cs0⟩)) (by omega)
     rw [show ((i + 1 : Nat) : Int) = (i : Int) + 1 by omega] at hre2
     rw [hxd2] at hO hck
     simp only [snkL,snkH,snkW,snkB,catB,stoB,stoM,hQ,Sch.d,Evt.at,List.length_append,List.length_cons,List.length_nil] at hre hwa hsc hck hO hre2 ⊢
     generalize s.fields.map Fld.d = X at *
     generalize ce row = Y2 at *
     have w1 : IntKind.wrap .u64 ((i : Int) + 1) = i + 1 := wrap_u64 (by omega) (by omega)
     have w2 : IntKind.wrap .u64 ((i : Int) + 1 + 1) = i + 1 + 1 := wrap_u64 (by omega) (by omega)
     simp -dsimp -implicitDefEqProofs (disch:=first|omega|assumption) [nI,wI,hne,hEd,hre,hwa,hsc,hck,hO,hre2,w1,w2,rg5,rg6]
     simpa -dsimp -implicitDefEqProofs (disch:=first|omega|assumption) [nI,wI] using hT
    ·have hO := offer_wid1 (tk := tk) (gp := gq) (s := s) (es := es) (bs := bs) (ck := ck) (f0 := f0) (F := F) hs hat hes (tak := i) (wgt := wgt) (by omega) hw0 (by omega) rfl hc h1o hk5 h0 (by omega)
     have hre2 := snk_resume1 (tk := tk) (gp := gq) (sid := (sgrow s nm kd).id) (X := (sgrow s nm kd).fields.map Fld.d) (es := es) (bs := bs) (ck := ck) (f0 := f0) (F := F ++ [.agg [.int .u32 0,.str nm,.int .u8 kd,.bool false]]) (tak := i + 1) (wgt := (wgt + 1 + wg ⟨ck0,cn0,cs0⟩)) (by omega)
     rw [show ((i + 1 : Nat) : Int) = (i : Int) + 1 by omega] at hre2
     rw [hxd2] at hO hck
     simp only [snkL,snkH,snkW,snkB,catB,stoB,stoM,hQ,Sch.d,Evt.at,List.length_append,List.length_cons,List.length_nil] at hre hwa hsc hck hO hre2 ⊢
     generalize (sgrow s nm kd).fields.map Fld.d = X3 at *
     generalize (sgrow s nm kd).id = z3 at *
     generalize s.fields.map Fld.d = X at *
     generalize ce row = Y2 at *
     have w1 : IntKind.wrap .u64 ((i : Int) + 1) = i + 1 := wrap_u64 (by omega) (by omega)
     have w2 : IntKind.wrap .u64 ((i : Int) + 1 + 1) = i + 1 + 1 := wrap_u64 (by omega) (by omega)
     simp -dsimp -implicitDefEqProofs (disch:=first|omega|assumption) [nI,wI,hne,hEd,hre,hwa,hsc,hck,hO,hre2,w1,w2,rg5,rg6]
     simpa -dsimp -implicitDefEqProofs (disch:=first|omega|assumption) [nI,wI] using hT
  ·cases F with
   | nil =>
    have hre := snk_resume0 (tk := tk) (gp := gq) (sid := s.id) (X := s.fields.map Fld.d) (es := es) (bs := bs) (ck := ck) (tak := i) (wgt := wgt) (by omega)
    have hwa := snk_wait0 (tk := tk) (gp := gq) (sid := s.id) (X := s.fields.map Fld.d) (es := es) (bs := bs) (ck := ck) (tak := i) (wgt := wgt) (by omega)
    have hsc := snk_schema0 (tk := tk) (gp := gq) (s := s) (es := es) (bs := bs) (ck := ck) (tak := i) (wgt := wgt) (by omega)
    have hO := offer_no0 (tk := tk) (gp := gq) (s := s) (es := es) (bs := bs) (ck := ck) hs hat (tak := i) (wgt := wgt) (by omega) (by omega) rfl hc
    generalize echk s (Evt.at ⟨off,op,row,⟨ck0,cn0,cs0⟩,nm,kd⟩ i) = q at *
    rw [hxd2] at hO hck
    simp only [snkL,snkH,snkW,snkB,catB,stoB,stoM,hQ,Sch.d,Evt.at] at hre hwa hsc hck hO hsr2 ⊢
    generalize s.fields.map Fld.d = X at *
    generalize ce row = Y2 at *
    have w1 : IntKind.wrap .u64 ((i : Int) + 1) = i + 1 := wrap_u64 (by omega) (by omega)
    simp -dsimp -implicitDefEqProofs (disch:=first|omega|assumption) [nI,wI,hne,hEd,hre,hwa,hsc,hck,hO,hc,hsr2,w1,rg5,rg6]
    simpa -dsimp -implicitDefEqProofs (disch:=first|omega|assumption) [nI,wI] using hT
   | cons f0 F =>
    rw [List.length_cons] at hF
    have hre := snk_resume1 (tk := tk) (gp := gq) (sid := s.id) (X := s.fields.map Fld.d) (es := es) (bs := bs) (ck := ck) (f0 := f0) (F := F) (tak := i) (wgt := wgt) (by omega)
    have hwa := snk_wait1 (tk := tk) (gp := gq) (sid := s.id) (X := s.fields.map Fld.d) (es := es) (bs := bs) (ck := ck) (f0 := f0) (F := F) (tak := i) (wgt := wgt) (by omega)
    have hsc := snk_schema1 (tk := tk) (gp := gq) (s := s) (es := es) (bs := bs) (ck := ck) (f0 := f0) (F := F) (tak := i) (wgt := wgt) (by omega)
    have hO := offer_no1 (tk := tk) (gp := gq) (s := s) (es := es) (bs := bs) (ck := ck) (f0 := f0) (F := F) hs hat (tak := i) (wgt := wgt) (by omega) (by omega) rfl hc
    generalize echk s (Evt.at ⟨off,op,row,⟨ck0,cn0,cs0⟩,nm,kd⟩ i) = q at *
    rw [hxd2] at hO hck
    simp only [snkL,snkH,snkW,snkB,catB,stoB,stoM,hQ,Sch.d,Evt.at] at hre hwa hsc hck hO hsr2 ⊢
    generalize s.fields.map Fld.d = X at *
    generalize ce row = Y2 at *
    have w1 : IntKind.wrap .u64 ((i : Int) + 1) = i + 1 := wrap_u64 (by omega) (by omega)
    simp -dsimp -implicitDefEqProofs (disch:=first|omega|assumption) [nI,wI,hne,hEd,hre,hwa,hsc,hck,hO,hc,hsr2,w1,rg5,rg6]
    simpa -dsimp -implicitDefEqProofs (disch:=first|omega|assumption) [nI,wI] using hT
end Go.Am.Ab
