/- Rows written and read. -/
import Derived.Test.YtkhlpcccjacnhaaGreatDoorDecode
import Derived.Test.YtkhlpcccjacnhaaGreatDoorEv25
import Derived.Test.YtkhlpcccjacnhaaGreatDoorLinB
import Derived.Test.YtkhlpcccjacnhaaGreatDoorLinF
import Derived.Test.YtkhlpcccjacnhaaGreatDoorRowA
set_option linter.all false
namespace Go.Am.Ab
open Go.Proofs
theorem cut_join : ∀ {ws : List (List UInt8)},ws ≠ [] → (∀ w ∈ ws,32 ∉ w) → cutL 32 (joinL [32] ws) = ws
 | [],h,_ => absurd rfl h
 | [x],_,h => cutL_none (h x (by simp))
 | x :: y :: r,_,h => by
  have ih := cut_join (ws := y :: r) (by simp) (fun w hw => h w (List.mem_cons_of_mem _ hw))
  simp only [joinL,List.append_assoc,List.cons_append,List.nil_append] at ih ⊢
  rw [cutL_app _ (h x (by simp)),ih]
theorem clean_ascii {L : List UInt8} (h : ∀ c ∈ L,c.toNat < 128) : cleanL L = true := by
 have hb : ∀ j,j < L.length → bt ⟨L.toArray⟩ j < 128 := fun j hj => by
  rw [bt_list L hj]; exact h _ (List.getElem_mem hj)
 have key : ∀ m i,(sgL ⟨L.toArray⟩ m i).all (·.2.2) = true := by
  intro m
  induction m with
  | zero => intro i; rfl
  | succ m ih =>
   intro i
   simp only [sgL]
   split
   ·rename_i hi
    rw [strD_size] at hi
    have e : bt (rst ⟨L.toArray⟩ i) 0 = bt ⟨L.toArray⟩ i := by unfold bt; rw [rst_get,Nat.add_zero]
    have hs : sig (rst ⟨L.toArray⟩ i) = (bt (rst ⟨L.toArray⟩ i) 0,1,true) := by
     unfold sig; rw [if_pos (by rw [e]; exact hb i hi)]
    rw [hs]
    simp only [List.all_cons,Bool.true_and]
    exact ih _
   ·rfl
 exact key _ _
def cRead (c : Cel) : Prop := chk c = 0 ∧ (c.kind = 1 → -999999999 ≤ c.n ∧ c.n ≤ 999999999) ∧ (∀ b ∈ c.s.data.toList,b ≠ 32 ∧ b.toNat < 128)
theorem noS_list {s : ByteArray} (h : s = noS) : s.data.toList = [] := by rw [h]
theorem cell_read {c : Cel} (h : cRead c) : cellR (wd c) = ((c.kind : Int),c.n,c.s.data.toList,true) := by
 obtain ⟨hc,h1,hb⟩ := h
 obtain ⟨k3,ks,kn,k2,k64⟩ := chk_kind hc
 obtain ⟨k,n,s⟩ := c
 simp only at k3 ks kn k2 k64 h1 hb ⊢
 have hk4 : k = 0 ∨ k = 1 ∨ k = 2 ∨ k = 3 := by omega
 rcases hk4 with rfl | rfl | rfl | rfl
 ·rw [kn (by decide) (by decide),noS_list (ks (by decide))]; rfl
 ·obtain ⟨b1,b2⟩ := h1 rfl
  obtain ⟨v1,v2⟩ := num_itoa (n := n) (by omega) (by omega) (-999999999)
  obtain ⟨c,r,hcr,hc⟩ := itoaL_cons n
  have e : wd ⟨1,n,s⟩ = itoaL n := rfl
  rw [e,noS_list (ks (by decide))]
  unfold cellR
  rw [if_neg (fun e => by rw [hcr] at e; cases e; revert hc; decide),if_neg (fun e => by rw [hcr] at e; cases e; revert hc; decide),if_neg (fun e => by rw [hcr] at e; cases e; revert hc; decide),if_neg (fun e => by rw [hcr] at e; simp only [List.head?_cons,Option.some.injEq] at e; subst e; revert hc; decide),v1,v2,decide_eq_true b1,decide_eq_true b2]
  rfl
 ·rw [noS_list (ks (by decide))]
  rcases k2 rfl with rfl | rfl <;> rfl
 ·have e : wd ⟨3,n,s⟩ = 39 :: s.data.toList := rfl
  have e64 : s.data.toList.length ≤ 64 := k64
  rw [e,kn (by decide) (by decide)]
  unfold cellR
  rw [if_neg (fun e => by cases e),if_neg (fun e => by cases e),if_neg (fun e => by cases e),List.head?_cons,if_pos rfl,List.tail_cons,clean_ascii (fun b hb' => (hb b hb').2),decide_eq_true e64]
  rfl
theorem cl_read {c : Cel} (h : cRead c) : cl (wd c) = c.d := by
 unfold cl
 rw [cell_read h]
 rfl
theorem ok_read {c : Cel} (h : cRead c) : okC (wd c) = true := by
 unfold okC
 rw [cell_read h]
theorem wd_no32 {c : Cel} (h : cRead c) : 32 ∉ wd c := by
 obtain ⟨hc,-,hb⟩ := h
 unfold wd
 split
 ·decide
 ·split
  ·exact itoa_no32 _
  ·split
   ·split <;> decide
   ·intro hm
    rcases List.mem_cons.1 hm with hm | hm
    ·cases hm
    ·exact (hb _ hm).1 rfl
theorem wv_val {c : Cel} (h : chk c = 0) : wv (valOf c) = wd c := by
 obtain ⟨k3,ks,kn,k2,k64⟩ := chk_kind h
 have e : fix c = c := by simp [fix,h]
 unfold valOf
 rw [e]
 obtain ⟨k,n,s⟩ := c
 simp only at k3 ks kn k2 k64 ⊢
 have hk4 : k = 0 ∨ k = 1 ∨ k = 2 ∨ k = 3 := by omega
 rcases hk4 with rfl | rfl | rfl | rfl
 ·rfl
 ·rfl
 ·rcases k2 rfl with rfl | rfl <;> rfl
 ·rfl
end Go.Am.Ab
namespace Go.Am.Ab
open Go.Proofs
set_option maxHeartbeats 8000000
set_option maxRecDepth 6000
def celI (c : Cel) : Prop := c.kind < 256 ∧ (-9223372036854775808 ≤ c.n ∧ c.n ≤ 9223372036854775807) ∧ c.s.size ≤ 9223372036854775807
theorem fix_cOk {c : Cel} (h : celI c) : cOk (fix c) := by
 have hk := chk_kind (fix_ok c)
 refine ⟨hk.1, ?_,hk.2.2.2.2⟩
 unfold fix
 split
 ·exact h.2.1
 ·exact ⟨by decide,by decide⟩
theorem cOk_celI {c : Cel} (h : cOk c) : celI c := ⟨by have := h.1; omega,h.2.1,by have := h.2.2; omega⟩
theorem put_event {row : List Cel} (h1 : 1 ≤ row.length) (h8 : row.length ≤ 8) (hr : ∀ c ∈ row,cRead c) (ho : ∀ c ∈ row,cOk c) : R 15 [S ([112,117,116,32] ++ joinL [32] (row.map wd))] [] = some ([.agg (evV 1 (.arr 0 row.length) 0 0 ⟨#[]⟩ ⟨#[]⟩ 0),.d (.int .i64 0)],[.arr 3 (ce row) 0]) := by
 have hj := join_len (sep := [32]) (k := 70) (ws := row.map wd) (fun w hw => by
  obtain ⟨c,hc,rfl⟩ := List.mem_map.1 hw
  exact wd_len (ho c hc))
 simp only [List.length_map,List.length_cons,List.length_nil] at hj
 have hne : row.map wd ≠ [] := by
  intro e
  have := congrArg List.length e
  rw [List.length_map,List.length_nil] at this
  omega
 have hcut : cutL 32 ([112,117,116,32] ++ joinL [32] (row.map wd)) = wPut :: row.map wd := by
  rw [show [112,117,116,32] ++ joinL [32] (row.map wd) = wPut ++ 32 :: joinL [32] (row.map wd) from rfl,cutL_app _ (by decide),cut_join hne]
  intro w hw
  obtain ⟨c,hc,rfl⟩ := List.mem_map.1 hw
  exact wd_no32 (hr c hc)
 have hall : (row.map wd).all okC = true := by
  rw [List.all_eq_true]
  intro w hw
  obtain ⟨c,hc,rfl⟩ := List.mem_map.1 hw
  exact ok_read (hr c hc)
 have hcl : (row.map wd).map cl = ce row := by
  rw [List.map_map]
  exact List.map_congr_left fun c hc => cl_read (hr c hc)
 have hev := event_put (r := row.map wd) (by rw [List.length_map]; exact h1) (by rw [List.length_map]; exact h8) (fun w hw => by
  obtain ⟨c,hc,rfl⟩ := List.mem_map.1 hw
  have := wd_len (ho c hc)
  omega)
 rw [hall,if_pos rfl] at hev
 have hE := Event_ok (l := [112,117,116,32] ++ joinL [32] (row.map wd)) (e := ⟨1,row.map wd,0,0,[],[],0⟩) (by simp only [List.length_append,List.length_cons,List.length_nil]; omega) (by rw [hcut]; exact hev)
 rw [hE]
 simp only [Ev.v,Ev.h]
 rw [rowW_pos (by rw [List.length_map]; omega),rowO_pos (by rw [List.length_map]; omega),List.length_map,List.take_of_length_le (by rw [List.length_map]; omega),hcl]
theorem rows_runs (l : List Cel) (hl : ∀ c ∈ l,celI c) : R 4 [.d (.list (ce l))] [] = some ([.d (.bool true)],[]) := by
 have hA := alive_runs
 have e3 : (ce l).length = l.length := by simp
 by_cases h100 : ¬ l.length ≤ 100
 ·have g1 : (100 : Int) < l.length := by omega
  generalize ce l = Z at *
  refine run_goal (rs:=[.tmp 2]) (ts:=[4]) Tryz.func4 rfl rfl rfl (by kernel_rfl) (by kernel_rfl) (.inl sp_4) (by simp [Tryz.f4]) ?_
  intro T hT
  simp -dsimp -implicitDefEqProofs (disch:=first|omega|assumption) [startSlots,nI,wI,hA,g1,e3]
  simpa -dsimp -implicitDefEqProofs (disch:=first|omega|assumption) [nI,wI] using hT
 have h100 : l.length ≤ 100 := by omega
 have hF := fixRow_runs l (fun c hc => ⟨(hl c hc).1,(hl c hc).2.2⟩) (by omega)
 obtain ⟨row,hrow⟩ : ∃ row,row = l.map fix := ⟨_,rfl⟩
 have hlen : row.length = l.length := by rw [hrow,List.length_map]
 have ho : ∀ c ∈ row,cOk c := fun c hc => by
  rw [hrow] at hc
  obtain ⟨x,hx,rfl⟩ := List.mem_map.1 hc
  exact fix_cOk (hl x hx)
 have hk0 : ∀ c ∈ row,chk c = 0 := fun c hc => by
  rw [hrow] at hc
  obtain ⟨x,hx,rfl⟩ := List.mem_map.1 hc
  exact fix_ok x
 have hV := row_runs row (fun c hc => ⟨(cOk_celI (ho c hc)).1,(cOk_celI (ho c hc)).2.2⟩) (by omega)
 have hwv : (row.map valOf).map wv = row.map wd := by
  rw [List.map_map]
  exact List.map_congr_left fun c hc => wv_val (hk0 c hc)
 have hW := lrow_runs (row.map valOf) (fun v hv => by
  obtain ⟨c,hc,rfl⟩ := List.mem_map.1 hv
  have h1 := ho c hc
  have e : fix c = c := by simp [fix,hk0 c hc]
  unfold valOf
  rw [e]
  split
  ·exact h1.2.1
  ·split
   ·trivial
   ·split
    ·exact h1.2.2
    ·trivial) (by rw [List.length_map]; omega)
 have hD := rrow_runs row ho (by omega)
 rw [hwv] at hW
 rw [← hrow,← hlen] at hF
 rw [← hlen] at h100 e3
 have g1 : ¬ (100 : Int) < row.length := by omega
 have e1 : (ce row).length = row.length := by simp
 have e2 : (vs (row.map valOf)).length = row.length := by simp
 have hput := fun h1 h8 (hr : ∀ c ∈ row,cRead c) => put_event (row := row) h1 h8 hr ho
 have hget : ∀ i (h : i < row.length) (h' : i < (ce row).length),(ce row)[i] = .agg [.int .u8 (row[i]).kind,.int .i64 (row[i]).n,.str (row[i]).s] := fun i h h' => by rw [List.getElem_map]; rfl
 have hsame := same_ev 1 0 0 0 ⟨#[]⟩ ⟨#[]⟩ (row.map wd) (by rw [List.length_map]; omega)
 have hcl : (∀ c ∈ row,cRead c) → (row.map wd).map cl = ce row := fun hr => by
  rw [List.map_map]
  exact List.map_congr_left fun c hc => cl_read (hr c hc)
 have hj := join_len (sep := [32]) (k := 70) (ws := row.map wd) (fun w hw => by
  obtain ⟨c,hc,rfl⟩ := List.mem_map.1 hw
  exact wd_len (ho c hc))
 simp only [List.length_map,List.length_cons,List.length_nil] at hj
 have hjl : (joinL [32] (row.map wd)).length ≤ 7100 := by omega
 have had : (⟨#[112,117,116,32]⟩ : ByteArray) ++ ⟨(joinL [32] (row.map wd)).toArray⟩ = ⟨([112,117,116,32] ++ joinL [32] (row.map wd)).toArray⟩ := mk_add [112,117,116,32] _
 have hfull : (ce row).take row.length = ce row := List.take_of_length_le (by simp)
 generalize vs (row.map valOf) = Y at *
 generalize ce l = Z at *
 clear hwv hrow hlen hl hj
 generalize hs : joinL [32] (row.map wd) = s at *
 generalize hX : ce row = X at *
 generalize hP : [112,117,116,32] ++ s = P at *
 have hPl : P.length ≤ 7104 := by rw [← hP]; simp only [List.length_append,List.length_cons,List.length_nil]; omega
 by_cases h1 : row.length < 1
 ·have g2 : (row.length : Int) < 1 := by omega
  refine run_goal (rs:=[.tmp 2]) (ts:=[4]) Tryz.func4 rfl rfl rfl (by kernel_rfl) (by kernel_rfl) (.inl sp_4) (by simp [Tryz.f4]) ?_
  intro T hT
  simp -dsimp -implicitDefEqProofs (disch:=first|omega|assumption) [startSlots,nI,wI,hA,g1,g2,hF,hV,hW,hD,e1,e2,e3]
  simpa -dsimp -implicitDefEqProofs (disch:=first|omega|assumption) [nI,wI] using hT
 by_cases h8 : 8 < row.length
 ·have g2 : ¬ (row.length : Int) < 1 := by omega
  have g3 : (8 : Int) < row.length := by omega
  refine run_goal (rs:=[.tmp 2]) (ts:=[4]) Tryz.func4 rfl rfl rfl (by kernel_rfl) (by kernel_rfl) (.inl sp_4) (by simp [Tryz.f4]) ?_
  intro T hT
  simp -dsimp -implicitDefEqProofs (disch:=first|omega|assumption) [startSlots,nI,wI,hA,g1,g2,g3,hF,hV,hW,hD,e1,e2,e3]
  simpa -dsimp -implicitDefEqProofs (disch:=first|omega|assumption) [nI,wI] using hT
 have g2 : ¬ (row.length : Int) < 1 := by omega
 have g3 : ¬ (8 : Int) < row.length := by omega
 have hput := hput (by omega) (by omega)
 refine run_goal (rs:=[.tmp 2]) (ts:=[4]) Tryz.func4 rfl rfl rfl (by kernel_rfl) (by kernel_rfl) (.inl sp_4) (by simp [Tryz.f4]) ?_
 intro T hT
 simp -dsimp -implicitDefEqProofs (disch:=first|omega|assumption) [startSlots,nI,wI,hA,g1,g2,g3,hF,hV,hW,hD,e1,e2,e3]
 generalize hz : loopT _ _ _ _ _ _ = z
 revert z
 refine loop_any (σ:=Nat) (fun i => [(3,.arr 0 row.length),(4,S s),(5,.arr 1 i),(6,I i)]) (fun i => [.arr 3 X row.length,.arr 3 (X.take i) 0]) (fun i => i ≤ row.length ∧ ∀ c ∈ row.take i,cRead c) (fun i => row.length - i) 0 ?_ ?_ ?_
 ·exact ⟨Nat.zero_le _,fun c hc => by simp at hc⟩
 ·simp -dsimp -implicitDefEqProofs (disch:=first|omega|assumption) [e1]
 intro T' f hT' i ⟨hi,hr⟩ ih
 by_cases hlt : i < row.length
 ·have hlt' : (i : Int) < row.length := by omega
  have hx := hget i hlt (by omega)
  have htk : X.take (i + 1) = X.take i ++ [X[i]'(by omega)] := by rw [List.take_add_one,List.getElem?_eq_getElem (by omega)]; rfl
  have htl : (X.take i).length = i := by rw [List.length_take]; omega
  have hc0 := hk0 row[i] (List.getElem_mem hlt)
  have hco := ho row[i] (List.getElem_mem hlt)
  have hstep : cRead row[i] → ∀ c ∈ row.take (i + 1),cRead c := fun h c hc => by
   rw [List.take_add_one,List.getElem?_eq_getElem hlt] at hc
   rcases List.mem_append.1 hc with hc | hc
   ·exact hr c hc
   ·simp at hc; rw [hc]; exact h
  unfold cRead at hstep
  rw [hx] at htk
  obtain ⟨c1,c2,c3⟩ := hco
  generalize (row[i]).kind = ck at *
  generalize (row[i]).n = cn at *
  generalize (row[i]).s = cs at *
  by_cases hbad : ck = 1 ∧ ¬ (-999999999 ≤ cn ∧ cn ≤ 999999999)
  ·obtain ⟨k1,k2⟩ := hbad
   subst k1
   subst hT'
   by_cases k3 : 999999999 < cn
   ·simp -dsimp -implicitDefEqProofs (disch:=first|omega|assumption) [nI,wI,hlt,hlt',hx,e1,htl,k3]
    simpa -dsimp -implicitDefEqProofs (disch:=first|omega|assumption) [nI,wI] using hT
   ·have k4 : cn < -999999999 := by omega
    simp -dsimp -implicitDefEqProofs (disch:=first|omega|assumption) [nI,wI,hlt,hlt',hx,e1,htl,k3,k4]
    simpa -dsimp -implicitDefEqProofs (disch:=first|omega|assumption) [nI,wI] using hT
  have hgood : ((ck = 1 ∧ ¬ 999999999 < cn ∧ ¬ cn < -999999999) ∨ ¬ (ck : Int) = 1) := by omega
  have hc1 : ck = 1 → -999999999 ≤ cn ∧ cn ≤ 999999999 := fun h => Classical.byContradiction fun hn => hbad ⟨h,hn⟩
  clear hbad
  have hX2 : (X.take i ++ [D.agg [.int .u8 ck,.int .i64 cn,.str cs]]).length = i + 1 := by rw [List.length_append,htl]; rfl
  rcases hgood with ⟨k1,k2,k3⟩ | k1
  ·subst k1
   simp -dsimp -implicitDefEqProofs (disch:=first|omega|assumption) [nI,wI,hlt,hlt',hx,e1,htl,k2,k3]
   generalize hz : loopT _ _ _ _ _ _ = z
   revert z
   refine loop_any (σ:=Nat) (fun k => [(3,.arr 0 row.length),(4,S s),(5,.arr 1 (i + 1)),(6,I i),(7,.ptr 2 0),(8,I k)]) (fun k => [.arr 3 X row.length,.arr 3 (X.take i ++ [D.agg [.int .u8 1,.int .i64 cn,.str cs]]) 0,.box [.d (.int .u8 1),.d (.int .i64 cn),.d (.str cs)]]) (fun k => k ≤ cs.size ∧ ∀ j,j < k → bt cs j ≠ 32 ∧ bt cs j < 128) (fun k => cs.size - k) 0 ?_ ?_ ?_
   ·exact ⟨Nat.zero_le _,fun j hj => by omega⟩
   ·simp -dsimp -implicitDefEqProofs (disch:=first|omega|assumption)
   intro T2 f2 hT2 k ⟨hk,hb⟩ ih2
   by_cases hkl : k < cs.size
   ·have hkl' : (k : Int) < cs.size := by omega
    have hg := bt_idx hkl
    have hbl := bt_lt cs k
    generalize hbb : bt cs k = b at *
    by_cases j1 : b = 32
    ·subst j1
     subst hT2
     subst hT'
     simp -dsimp -implicitDefEqProofs (disch:=first|omega|assumption) [nI,wI,hkl,hkl',hg]
     simpa -dsimp -implicitDefEqProofs (disch:=first|omega|assumption) [nI,wI] using hT
    ·have j1' : ¬ (b : Int) = 32 := by omega
     by_cases j2 : b < 128
     ·have j2' : ¬ (127 : Int) < b := by omega
      simp -dsimp -implicitDefEqProofs (disch:=first|omega|assumption) [nI,wI,hkl,hkl',hg,j1',j2']
      refine ih2 (k + 1) _ _ ⟨by omega,fun j hj => ?_⟩ (by omega) ?_
      ·by_cases hjk : j = k
       ·subst hjk; rw [hbb]; exact ⟨j1,j2⟩
       ·exact hb j (by omega)
      ·simp -dsimp -implicitDefEqProofs (disch:=first|omega|assumption)
     ·have j2' : (127 : Int) < b := by omega
      subst hT2
      subst hT'
      simp -dsimp -implicitDefEqProofs (disch:=first|omega|assumption) [nI,wI,hkl,hkl',hg,j1',j2']
      simpa -dsimp -implicitDefEqProofs (disch:=first|omega|assumption) [nI,wI] using hT
   ·have hke : k = cs.size := by omega
    subst hke
    subst hT2
    have hread := hstep ⟨hc0,hc1,fun x hx' => by
     obtain ⟨j,hj,e⟩ := List.getElem_of_mem hx'
     have hj' : j < cs.size := hj
     have := hb j hj'
     have e2 := bt_idx hj'
     have e3 : (cs[j]) = x := by rw [← e]; rfl
     rw [e3] at e2
     exact ⟨fun h => by rw [h] at e2; exact this.1 e2.symm,by omega⟩⟩
    simp -dsimp -implicitDefEqProofs (disch:=first|omega|assumption) [nI,wI]
    refine ih (i + 1) _ _ ⟨by omega,hread⟩ (by omega) ?_
    simp -dsimp -implicitDefEqProofs (disch:=first|omega|assumption) [htk]
  ·simp -dsimp -implicitDefEqProofs (disch:=first|omega|assumption) [nI,wI,hlt,hlt',hx,e1,htl,k1]
   generalize hz : loopT _ _ _ _ _ _ = z
   revert z
   refine loop_any (σ:=Nat) (fun k => [(3,.arr 0 row.length),(4,S s),(5,.arr 1 (i + 1)),(6,I i),(7,.ptr 2 0),(8,I k)]) (fun k => [.arr 3 X row.length,.arr 3 (X.take i ++ [D.agg [.int .u8 ck,.int .i64 cn,.str cs]]) 0,.box [.d (.int .u8 ck),.d (.int .i64 cn),.d (.str cs)]]) (fun k => k ≤ cs.size ∧ ∀ j,j < k → bt cs j ≠ 32 ∧ bt cs j < 128) (fun k => cs.size - k) 0 ?_ ?_ ?_
   ·exact ⟨Nat.zero_le _,fun j hj => by omega⟩
   ·simp -dsimp -implicitDefEqProofs (disch:=first|omega|assumption)
   intro T2 f2 hT2 k ⟨hk,hb⟩ ih2
   by_cases hkl : k < cs.size
   ·have hkl' : (k : Int) < cs.size := by omega
    have hg := bt_idx hkl
    have hbl := bt_lt cs k
    generalize hbb : bt cs k = b at *
    by_cases j1 : b = 32
    ·subst j1
     subst hT2
     subst hT'
     simp -dsimp -implicitDefEqProofs (disch:=first|omega|assumption) [nI,wI,hkl,hkl',hg]
     simpa -dsimp -implicitDefEqProofs (disch:=first|omega|assumption) [nI,wI] using hT
    ·have j1' : ¬ (b : Int) = 32 := by omega
     by_cases j2 : b < 128
     ·have j2' : ¬ (127 : Int) < b := by omega
      simp -dsimp -implicitDefEqProofs (disch:=first|omega|assumption) [nI,wI,hkl,hkl',hg,j1',j2']
      refine ih2 (k + 1) _ _ ⟨by omega,fun j hj => ?_⟩ (by omega) ?_
      ·by_cases hjk : j = k
       ·subst hjk; rw [hbb]; exact ⟨j1,j2⟩
       ·exact hb j (by omega)
      ·simp -dsimp -implicitDefEqProofs (disch:=first|omega|assumption)
     ·have j2' : (127 : Int) < b := by omega
      subst hT2
      subst hT'
      simp -dsimp -implicitDefEqProofs (disch:=first|omega|assumption) [nI,wI,hkl,hkl',hg,j1',j2']
      simpa -dsimp -implicitDefEqProofs (disch:=first|omega|assumption) [nI,wI] using hT
   ·have hke : k = cs.size := by omega
    subst hke
    subst hT2
    have hread := hstep ⟨hc0,hc1,fun x hx' => by
     obtain ⟨j,hj,e⟩ := List.getElem_of_mem hx'
     have hj' : j < cs.size := hj
     have := hb j hj'
     have e2 := bt_idx hj'
     have e3 : (cs[j]) = x := by rw [← e]; rfl
     rw [e3] at e2
     exact ⟨fun h => by rw [h] at e2; exact this.1 e2.symm,by omega⟩⟩
    simp -dsimp -implicitDefEqProofs (disch:=first|omega|assumption) [nI,wI]
    refine ih (i + 1) _ _ ⟨by omega,hread⟩ (by omega) ?_
    simp -dsimp -implicitDefEqProofs (disch:=first|omega|assumption) [htk]
 ·have e : i = row.length := by omega
  subst e
  subst hT'
  rw [List.take_length] at hr
  have hput := hput hr
  rw [hcl hr] at hsame
  rw [hfull]
  simp -dsimp -implicitDefEqProofs (disch:=first|omega|assumption) [nI,wI,e1,had,hput,hsame,hjl,ba_size]
  simpa -dsimp -implicitDefEqProofs (disch:=first|omega|assumption) [nI,wI] using hT
end Go.Am.Ab
namespace Go.Am.Ab
open Go.Proofs
structure CelI where
 kind : Int
 n : Int
 s : ByteArray
def CelI.d (c : CelI) : D := .agg [.int .u8 c.kind,.int .i64 c.n,.str c.s]
attribute [simp] CelI.d
def CelI.wf (c : CelI) : Prop := 0 ≤ c.kind ∧ c.kind ≤ 255 ∧ -9223372036854775808 ≤ c.n ∧ c.n ≤ 9223372036854775807 ∧ c.s.size ≤ maxLen
variable {m : Nat} {x : D}
theorem CelI.dec (h : HasTy Tryz.prog m 40 x) : ∃ a : CelI,x = a.d ∧ a.wf := by
 obtain ⟨ys,rfl,g⟩ := hasTy_struct h Tryz.underlying40
 obtain ⟨y0,ys,rfl,h0,g⟩ := all2_cons g
 obtain ⟨y1,ys,rfl,h1,g⟩ := all2_cons g
 obtain ⟨y2,ys,rfl,h2,g⟩ := all2_cons g
 have hn := all2_nil g
 subst hn
 obtain ⟨v0,rfl,h0v,h0w⟩ := dec_u8 h0 Tryz.underlying38
 obtain ⟨v1,rfl,h1v,h1w⟩ := dec_i64 h1 Tryz.underlying2
 obtain ⟨v2,rfl,h2w⟩ := hasTy_str h2 Tryz.underlying9
 refine ⟨⟨v0,v1,v2⟩,by simp, ?_⟩
 unfold CelI.wf
 simp only
 and_intros <;> (first | assumption | trivial)
theorem cel_dec (h : HasTy Tryz.prog m 40 x) : ∃ a : Cel,x = a.d ∧ celI a := by
 obtain ⟨⟨k,n,s⟩,rfl,h1,h2,h3,h4,h5⟩ := CelI.dec h
 simp only at h1 h2 h3 h4 h5
 refine ⟨⟨k.toNat,n,s⟩, ?_,by simp only; omega,⟨h3,h4⟩,by unfold maxLen at h5; exact h5⟩
 simp only [CelI.d,Cel.d,Int.toNat_of_nonneg h1]
theorem cells_dec (h : HasTy Tryz.prog m 32 x) : ∃ l : List Cel,x = .list (ce l) ∧ (∀ c ∈ l,celI c) := by
 obtain ⟨ys,rfl,hl,ha⟩ := hasTy_list h Tryz.underlying32
 obtain ⟨l,rfl,hw⟩ := list_of (f := Cel.d) (p := celI) (fun y hy => cel_dec (ha y hy))
 exact ⟨l,rfl,hw⟩
end Go.Am.Ab
