/- Columns of the document, written. -/
import Derived.Test.YtlgdomajdebbdaaGreatDoorRColA
set_option linter.all false
namespace Go.Am.Ab
open Go.Proofs
set_option maxHeartbeats 8000000
set_option maxRecDepth 4000
theorem fixRow_runs (l : List Cel) (hl : ∀ c ∈ l,c.kind < 256 ∧ c.s.size ≤ 9223372036854775807) (hn : l.length ≤ 1000000) : R 18 [.d (.list (ce l))] [] = some ([.arr 0 l.length],[.arr 3 (ce (l.map fix)) 0]) := by
 have hend : ce (l.map fix) = preD (fun c => (fix c).d) l l.length := by
  rw [preD_end (Nat.le_refl _)]
  show (l.map fix).map Cel.d = _
  rw [List.map_map]; rfl
 rw [hend]
 refine run_goal (rs:=[.tmp 2]) (ts:=[22]) Tryz.func18 rfl rfl rfl (by kernel_rfl) (by kernel_rfl) (.inl sp_18) (by simp [Tryz.f18]) ?_
 intro T hT
 simp -dsimp -implicitDefEqProofs (disch:=first|omega|assumption) [startSlots,nI,wI]
 generalize hz : loopT _ _ _ _ _ _ = z
 revert z
 refine loop_any (σ:=Nat) (fun i => [(0,.d (.list (ce l))),(3,.arr 0 i),(4,.d (.int .i64 i))]) (fun i => [.arr 3 (preD (fun c => (fix c).d) l i) 0]) (fun i => i ≤ l.length) (fun i => l.length - i) 0 ?_ ?_ ?_
 ·exact Nat.zero_le _
 ·simp -dsimp -implicitDefEqProofs (disch:=first|omega|assumption) [preD_zero]
 intro T' f hT' i hi ih
 by_cases h1 : i < l.length
 ·have hc := hl l[i] (List.getElem_mem _)
  have h := rfix_runs l[i] hc.1 hc.2
  rw [cel_d] at h
  have hcc := cel_cells l[i]
  have hsz : (fix l[i]).d.cells.length = 3 := rfl
  have htk := preD_succ (g := fun c => (fix c).d) h1
  have hlen := preD_length (g := fun c => (fix c).d) hi
  simp -dsimp -implicitDefEqProofs (disch:=first|omega|assumption) [nI,wI,h1,h,hlen,hcc,hsz]
  refine ih (i + 1) _ _ h1 (by omega) ?_
  rw [htk]
  simp -dsimp -implicitDefEqProofs (disch:=first|omega|assumption)
 ·have e : i = l.length := by omega
  subst e
  subst hT'
  simp -dsimp -implicitDefEqProofs (disch:=first|omega|assumption) [nI,wI]
  simpa -dsimp -implicitDefEqProofs (disch:=first|omega|assumption) [nI,wI] using hT
def bitD (c : Cel) : D := .int .u64 ((bit (decide (c.kind ≠ 0)) : Nat) : Int)
def wrapD (c : Cel) : D := .int .u64 (IntKind.u64.wrap c.n)
def numD (c : Cel) : D := .int .i64 c.n
def strD (c : Cel) : D := .str c.s
theorem rwrite_kind (k : Nat) (hk : k < 256) (h : ¬ (1 ≤ k ∧ k ≤ 3)) (l : List Cel) : R 67 [.d (.int .i64 k),.d (.list (ce l))] [] = badW 10 := by
 unfold badW
 by_cases h1 : k < 1
 ·have h1' : (k : Int) < 1 := by omega
  refine run_goal (rs:=[.tmp 4,.tmp 5]) (ts:=[24,3]) Tryz.func67 rfl rfl rfl (by kernel_rfl) (by kernel_rfl) (.inl sp_67) (by simp [Tryz.f67]) ?_
  intro T hT
  simp -dsimp -implicitDefEqProofs (disch:=first|omega|assumption) [startSlots,nI,wI,h1']
  simpa -dsimp -implicitDefEqProofs (disch:=first|omega|assumption) [nI,wI,E] using hT
 ·have h1' : ¬ (k : Int) < 1 := by omega
  have h2' : (3 : Int) < k := by omega
  refine run_goal (rs:=[.tmp 4,.tmp 5]) (ts:=[24,3]) Tryz.func67 rfl rfl rfl (by kernel_rfl) (by kernel_rfl) (.inl sp_67) (by simp [Tryz.f67]) ?_
  intro T hT
  simp -dsimp -implicitDefEqProofs (disch:=first|omega|assumption) [startSlots,nI,wI,h1',h2']
  simpa -dsimp -implicitDefEqProofs (disch:=first|omega|assumption) [nI,wI,E] using hT
theorem rwrite_odd (k : Nat) (hk : 1 ≤ k ∧ k ≤ 3) (l : List Cel) (hl : ∀ c ∈ l,c.kind < 256) (hn : l.length ≤ 1000000) (h : l.any (oddC k) = true) : R 67 [.d (.int .i64 k),.d (.list (ce l))] [] = badW 10 := by
 unfold badW
 have h1' : ¬ (k : Int) < 1 := by omega
 have h2' : ¬ (3 : Int) < k := by omega
 refine run_goal (rs:=[.tmp 4,.tmp 5]) (ts:=[24,3]) Tryz.func67 rfl rfl rfl (by kernel_rfl) (by kernel_rfl) (.inl sp_67) (by simp [Tryz.f67]) ?_
 intro T hT
 simp -dsimp -implicitDefEqProofs (disch:=first|omega|assumption) [startSlots,nI,wI,h1',h2']
 generalize hz : loopT _ _ _ _ _ _ = z
 revert z
 refine loop_any (σ:=Nat) (fun i => [(0,.d (.int .i64 k)),(1,.d (.list (ce l))),(6,.d (.int .i64 i))]) (fun i => []) (fun i => i ≤ l.length ∧ ∀ j,(hj : j < i) → (hl : j < l.length) → oddC k l[j] = false) (fun i => l.length - i) 0 ?_ ?_ ?_
 ·exact ⟨Nat.zero_le _,fun j hj => by omega⟩
 ·simp -dsimp -implicitDefEqProofs (disch:=first|omega|assumption)
 intro T' f hT' i ⟨hi,hok⟩ ih
 by_cases h1 : i < l.length
 ·have step : oddC k l[i] = false → ∀ j,(hj : j < i + 1) → (hl : j < l.length) → oddC k l[j] = false := fun e j hj hl => by
   by_cases c : j = i
   ·subst c; exact e
   ·exact hok j (by omega) hl
  have hc := hl l[i] (List.getElem_mem _)
  obtain ⟨⟨ck,n,s⟩,hx⟩ : ∃ x,x = l[i] := ⟨_,rfl⟩
  have gx := hx.symm
  rw [← hx] at hc step
  simp only at hc
  have hw : IntKind.i64.wrap (ck : Int) = ck := wI (by omega) (by omega)
  have zk : ¬ k = 0 := by omega
  by_cases z : ck = 0
  ·subst z
   simp -dsimp -implicitDefEqProofs (disch:=first|omega|assumption) [nI,wI,h1,gx,Cel.d]
   exact ih (i + 1) _ _ ⟨h1,step (by simp [oddC])⟩ (by omega) (by simp -dsimp -implicitDefEqProofs (disch:=first|omega|assumption))
  ·have z' : ¬ (ck : Int) = 0 := by omega
   by_cases e : ck = k
   ·have e' : (ck : Int) = k := by omega
    simp -dsimp -implicitDefEqProofs (disch:=first|omega|assumption) [nI,wI,h1,gx,Cel.d,z',z,zk,hw,e',e]
    exact ih (i + 1) _ _ ⟨h1,step (by simp [oddC,e])⟩ (by omega) (by simp -dsimp -implicitDefEqProofs (disch:=first|omega|assumption))
   ·have e' : ¬ (ck : Int) = k := by omega
    subst hT'
    simp -dsimp -implicitDefEqProofs (disch:=first|omega|assumption) [nI,wI,h1,gx,Cel.d,z',z,zk,hw,e',e]
    simpa -dsimp -implicitDefEqProofs (disch:=first|omega|assumption) [nI,wI,E] using hT
 ·exfalso
  obtain ⟨v,hv,e⟩ := List.any_eq_true.1 h
  obtain ⟨j,hj,rfl⟩ := List.mem_iff_getElem.1 hv
  rw [hok j (by omega) hj] at e
  cases e
theorem rwrite_much (k : Nat) (hk : 1 ≤ k ∧ k ≤ 3) (l : List Cel) (hl : ∀ c ∈ l,c.kind < 256) (hn : l.length ≤ 1000000) (hm : 256 < l.length) (hok : l.any (oddC k) = false) : R 67 [.d (.int .i64 k),.d (.list (ce l))] [] = badW 5 := by
 unfold badW
 have h1' : ¬ (k : Int) < 1 := by omega
 have h2' : ¬ (3 : Int) < k := by omega
 refine run_goal (rs:=[.tmp 4,.tmp 5]) (ts:=[24,3]) Tryz.func67 rfl rfl rfl (by kernel_rfl) (by kernel_rfl) (.inl sp_67) (by simp [Tryz.f67]) ?_
 intro T hT
 simp -dsimp -implicitDefEqProofs (disch:=first|omega|assumption) [startSlots,nI,wI,h1',h2']
 generalize hz : loopT _ _ _ _ _ _ = z
 revert z
 refine loop_any (σ:=Nat) (fun i => [(0,.d (.int .i64 k)),(1,.d (.list (ce l))),(6,.d (.int .i64 i))]) (fun i => []) (fun i => i ≤ l.length) (fun i => l.length - i) 0 ?_ ?_ ?_
 ·exact Nat.zero_le _
 ·simp -dsimp -implicitDefEqProofs (disch:=first|omega|assumption)
 intro T' f hT' i hi ih
 by_cases h1 : i < l.length
 ·have hc := hl l[i] (List.getElem_mem _)
  have hok1 := List.any_eq_false.1 hok _ (List.getElem_mem h1)
  obtain ⟨⟨ck,n,s⟩,hx⟩ : ∃ x,x = l[i] := ⟨_,rfl⟩
  have gx := hx.symm
  rw [← hx] at hc hok1
  simp only at hc
  have hw : IntKind.i64.wrap (ck : Int) = ck := wI (by omega) (by omega)
  have zk : ¬ k = 0 := by omega
  by_cases z : ck = 0
  ·subst z
   simp -dsimp -implicitDefEqProofs (disch:=first|omega|assumption) [nI,wI,h1,gx,Cel.d]
   exact ih (i + 1) _ _ h1 (by omega) (by simp -dsimp -implicitDefEqProofs (disch:=first|omega|assumption))
  ·have z' : ¬ (ck : Int) = 0 := by omega
   have e : ck = k := by
    simp [oddC,z] at hok1
    exact hok1
   have e' : (ck : Int) = k := by omega
   simp -dsimp -implicitDefEqProofs (disch:=first|omega|assumption) [nI,wI,h1,gx,Cel.d,z',z,zk,hw,e',e]
   exact ih (i + 1) _ _ h1 (by omega) (by simp -dsimp -implicitDefEqProofs (disch:=first|omega|assumption))
 obtain rfl : i = l.length := by omega
 subst hT'
 clear ih hi h1
 have h256 : (256 : Int) < l.length := by omega
 simp -dsimp -implicitDefEqProofs (disch:=first|omega|assumption) [nI,wI,h256]
 simpa -dsimp -implicitDefEqProofs (disch:=first|omega|assumption) [nI,wI,E] using hT
end Go.Am.Ab
namespace Go.Am.Ab
open Go.Proofs
set_option maxHeartbeats 8000000
set_option maxRecDepth 4000
theorem rwrite1_yes (k : Nat) (hk0 : k = 1) (l : List Cel) (hvl : ∀ c ∈ l,chk c = 0) (hi64 : ∀ c ∈ l,isI64 c.n) (hn : l.length ≤ 256) (hok : l.any (oddC k) = false) : R 67 [.d (.int .i64 k),.d (.list (ce l))] [] = some ([.arr 0 (colB k (l.map valOf)).length,E 0],[.arr 1 (bytes (colB k (l.map valOf))) 0]) := by
 have h1' : ¬ (k : Int) < 1 := by omega
 have h2' : ¬ (3 : Int) < k := by omega
 have hl : ∀ c ∈ l,c.kind < 256 := fun c hc => by have := (chk_kind (hvl c hc)).1; omega
 have hth := there_cel hvl
 have htl : (thereL (l.map valOf)).length = l.length := by rw [thereL_length]; simp
 have hfl := rflags_runs (thereL (l.map valOf)) (by omega)
 have hfb : nats ((thereL (l.map valOf)).map bit) = .list (preD bitD l l.length) := by
  rw [preD_end (Nat.le_refl _),hth,nats,List.map_map,List.map_map]; rfl
 rw [hfb] at hfl
 have hfll := flagsB_len (l := thereL (l.map valOf)) (by omega)
 have hnul : decide (false ∈ thereL (l.map valOf)) = l.any fun c => decide (c.kind = 0) := by
  rw [hth]
  cases e : l.any fun c => decide (c.kind = 0) with
  | true =>
   obtain ⟨c,hc,h⟩ := List.any_eq_true.1 e
   exact decide_eq_true (List.mem_map.2 ⟨c,hc,by simpa using h⟩)
  | false =>
   refine decide_eq_false fun h => ?_
   obtain ⟨c,hc,h⟩ := List.mem_map.1 h
   have := List.any_eq_false.1 e c hc
   simp at h this
   exact this h
 obtain ⟨fl,hfle⟩ : ∃ fl,fl = flagsB (thereL (l.map valOf)) := ⟨_,rfl⟩
 have hH : headB (l.map valOf) = if (l.any fun c => decide (c.kind = 0)) = true then 1 :: fl else [0] := by
  rw [headB,← hnul,← hfle]
  by_cases e : false ∈ thereL (l.map valOf) <;> simp [e]
 rw [← hfle] at hfl hfll
 rw [hk0] at hok
 have hkk : ∀ c ∈ l,c.kind = 0 ∨ c.kind = 1 := fun c hc => by
  have := List.any_eq_false.1 hok c hc
  simp [oddC] at this
  by_cases e : c.kind = 0
  ·exact .inl e
  ·exact .inr (this e)
 rw [← hk0] at hok
 have hw1 := nn_whole hvl hkk
 have hwi : ∀ n ∈ wholes (l.map valOf),isI64 n := by
  rw [← hw1]
  intro n hn
  obtain ⟨c,hc,rfl⟩ := List.mem_map.1 hn
  exact hi64 c (List.mem_filter.1 hc).1
 have hkl := kinds_len (l.map valOf)
 rw [List.length_map] at hkl
 have hbody := rbest_yes (wholes (l.map valOf)) hwi (by omega)
 have hbl := bestB_len hwi (by omega)
 have hform : ints (wholes (l.map valOf)) = .list (preN numD l l.length) := by
  rw [preN_end,← hw1,ints,List.map_map]; rfl
 rw [hform] at hbody
 have hC : colB k (l.map valOf) = headB (l.map valOf) ++ bestB (wholes (l.map valOf)) := by rw [hk0]; rfl
 rw [hC,hH]
 obtain ⟨bd,hbd⟩ : ∃ bd,bd = bestB (wholes (l.map valOf)) := ⟨_,rfl⟩
 rw [← hbd] at hbody hbl ⊢
 have hki : (k : Int) = 1 := by omega
 refine run_goal (rs:=[.tmp 4,.tmp 5]) (ts:=[24,3]) Tryz.func67 rfl rfl rfl (by kernel_rfl) (by kernel_rfl) (.inl sp_67) (by simp [Tryz.f67]) ?_
 intro T hT
 simp -dsimp -implicitDefEqProofs (disch:=first|omega|assumption) [startSlots,nI,wI,h1',h2']
 generalize hz : loopT _ _ _ _ _ _ = z
 revert z
 refine loop_any (σ:=Nat) (fun i => [(0,.d (.int .i64 k)),(1,.d (.list (ce l))),(6,.d (.int .i64 i))]) (fun i => []) (fun i => i ≤ l.length) (fun i => l.length - i) 0 ?_ ?_ ?_
 ·exact Nat.zero_le _
 ·simp -dsimp -implicitDefEqProofs (disch:=first|omega|assumption)
 intro T' f hT' i hi ih
 by_cases h1 : i < l.length
 ·have hc := hl l[i] (List.getElem_mem _)
  have hok1 := List.any_eq_false.1 hok _ (List.getElem_mem h1)
  obtain ⟨⟨ck,n,s⟩,hx⟩ : ∃ x,x = l[i] := ⟨_,rfl⟩
  have gx := hx.symm
  rw [← hx] at hc hok1
  simp only at hc
  have hw : IntKind.i64.wrap (ck : Int) = ck := wI (by omega) (by omega)
  have zk : ¬ k = 0 := by omega
  by_cases z : ck = 0
  ·subst z
   simp -dsimp -implicitDefEqProofs (disch:=first|omega|assumption) [nI,wI,h1,gx,Cel.d]
   exact ih (i + 1) _ _ h1 (by omega) (by simp -dsimp -implicitDefEqProofs (disch:=first|omega|assumption))
  ·have z' : ¬ (ck : Int) = 0 := by omega
   have e : ck = k := by
    simp [oddC,z] at hok1
    exact hok1
   have e' : (ck : Int) = k := by omega
   simp -dsimp -implicitDefEqProofs (disch:=first|omega|assumption) [nI,wI,h1,gx,Cel.d,z',z,zk,hw,e',e]
   exact ih (i + 1) _ _ h1 (by omega) (by simp -dsimp -implicitDefEqProofs (disch:=first|omega|assumption))
 obtain rfl : i = l.length := by omega
 subst hT'
 clear ih hi h1
 have h256 : ¬ (256 : Int) < l.length := by omega
 simp -dsimp -implicitDefEqProofs (disch:=first|omega|assumption) [nI,wI,h256]
 generalize hz : loopT _ _ _ _ _ _ = z
 revert z
 refine loop_any (σ:=Nat) (fun i => [(0,.d (.int .i64 k)),(1,.d (.list (ce l))),(8,.arr 0 i),(9,.arr 1 (preN wrapD l i).length),(10,.arr 2 (preN numD l i).length),(11,.arr 3 (preN strD l i).length),(12,.d (.bool ((l.take i).any fun c => decide (c.kind = 0)))),(13,.d (.int .i64 i))]) (fun i => [.arr 1 (preD bitD l i) 0,.arr 1 (preN wrapD l i) 0,.arr 1 (preN numD l i) 0,.arr 1 (preN strD l i) 0]) (fun i => i ≤ l.length) (fun i => l.length - i) 0 ?_ ?_ ?_
 ·exact Nat.zero_le _
 ·simp -dsimp -implicitDefEqProofs (disch:=first|omega|assumption) [preD_zero,preN_zero]
 intro T2 f2 hT2 i hi ih
 by_cases h1 : i < l.length
 ·have hv := hvl l[i] (List.getElem_mem _)
  have hs64 := (chk_kind hv).2.2.2.2
  have hbs := preD_succ (g := bitD) h1
  have hws := preN_succ (g := wrapD) h1
  have hns := preN_succ (g := numD) h1
  have hss := preN_succ (g := strD) h1
  have hln := preD_length (g := bitD) hi
  have l1 := preN_length wrapD l i
  have l2 := preN_length numD l i
  have l3 := preN_length strD l i
  have hany : (l.take (i + 1)).any (fun c => decide (c.kind = 0)) = ((l.take i).any (fun c => decide (c.kind = 0)) || decide (l[i].kind = 0)) := by
   rw [take_snoc h1,List.any_append]; simp
  obtain ⟨⟨ck,n,s⟩,hx⟩ : ∃ x,x = l[i] := ⟨_,rfl⟩
  have gx := hx.symm
  rw [← hx] at hs64 hbs hws hns hss hany
  simp only at hs64
  have hs' : ¬ (64 : Int) < s.size := by omega
  by_cases z : ck = 0
  ·subst z
   simp only [ne_eq,not_true_eq_false,if_false,List.append_nil,decide_true,Bool.or_true] at hws hns hss hany
   simp -dsimp -implicitDefEqProofs (disch:=first|omega|assumption) [nI,wI,h1,gx,Cel.d,hs',hln]
   refine ih (i + 1) _ _ h1 (by omega) ?_
   rw [hbs,hws,hns,hss,hany]
   simp -dsimp -implicitDefEqProofs (disch:=first|omega|assumption) [hln,bitD,bit]
  ·have z' : ¬ (ck : Int) = 0 := by omega
   simp only [ne_eq,z,not_false_eq_true,if_true,decide_false,Bool.or_false] at hws hns hss hany
   simp -dsimp -implicitDefEqProofs (disch:=first|omega|assumption) [nI,wI,h1,gx,Cel.d,hs',hln,z',z]
   refine ih (i + 1) _ _ h1 (by omega) ?_
   rw [hbs,hws,hns,hss,hany]
   simp -dsimp -implicitDefEqProofs (disch:=first|omega|assumption) [hln,bitD,bit,wrapD,numD,strD,z]
 obtain rfl : i = l.length := by omega
 have hln := preD_length (g := bitD) (Nat.le_refl l.length)
 have l1 := preN_length wrapD l l.length
 have l2 := preN_length numD l l.length
 have l3 := preN_length strD l l.length
 subst hT2
 clear ih hi h1
 rw [List.take_length]
 cases hnl : l.any fun c => decide (c.kind = 0) with
 | true =>
  rw [hnl,if_pos rfl,show (1 :: fl ++ bd).length = 1 + fl.length + bd.length by simp only [List.length_cons,List.length_append]; omega] at hT
  simp -dsimp -implicitDefEqProofs (disch:=first|omega|assumption) [nI,wI,hki,hk0,hfl,hbody,hln]
  simpa -dsimp -implicitDefEqProofs (disch:=first|omega|assumption) [nI,wI,E] using hT
 | false =>
  rw [hnl,if_neg (by simp),show ([(0 : UInt8)] ++ bd).length = 1 + bd.length by simp only [List.length_append,List.length_singleton]] at hT
  simp -dsimp -implicitDefEqProofs (disch:=first|omega|assumption) [nI,wI,hki,hk0,hbody,hln]
  simpa -dsimp -implicitDefEqProofs (disch:=first|omega|assumption) [nI,wI,E] using hT
end Go.Am.Ab
namespace Go.Am.Ab
open Go.Proofs
set_option maxHeartbeats 8000000
set_option maxRecDepth 4000
theorem rwrite2_yes (k : Nat) (hk0 : k = 2) (l : List Cel) (hvl : ∀ c ∈ l,chk c = 0) (hi64 : ∀ c ∈ l,isI64 c.n) (hn : l.length ≤ 256) (hok : l.any (oddC k) = false) : R 67 [.d (.int .i64 k),.d (.list (ce l))] [] = some ([.arr 0 (colB k (l.map valOf)).length,E 0],[.arr 1 (bytes (colB k (l.map valOf))) 0]) := by
 have h1' : ¬ (k : Int) < 1 := by omega
 have h2' : ¬ (3 : Int) < k := by omega
 have hl : ∀ c ∈ l,c.kind < 256 := fun c hc => by have := (chk_kind (hvl c hc)).1; omega
 have hth := there_cel hvl
 have htl : (thereL (l.map valOf)).length = l.length := by rw [thereL_length]; simp
 have hfl := rflags_runs (thereL (l.map valOf)) (by omega)
 have hfb : nats ((thereL (l.map valOf)).map bit) = .list (preD bitD l l.length) := by
  rw [preD_end (Nat.le_refl _),hth,nats,List.map_map,List.map_map]; rfl
 rw [hfb] at hfl
 have hfll := flagsB_len (l := thereL (l.map valOf)) (by omega)
 have hnul : decide (false ∈ thereL (l.map valOf)) = l.any fun c => decide (c.kind = 0) := by
  rw [hth]
  cases e : l.any fun c => decide (c.kind = 0) with
  | true =>
   obtain ⟨c,hc,h⟩ := List.any_eq_true.1 e
   exact decide_eq_true (List.mem_map.2 ⟨c,hc,by simpa using h⟩)
  | false =>
   refine decide_eq_false fun h => ?_
   obtain ⟨c,hc,h⟩ := List.mem_map.1 h
   have := List.any_eq_false.1 e c hc
   simp at h this
   exact this h
 obtain ⟨fl,hfle⟩ : ∃ fl,fl = flagsB (thereL (l.map valOf)) := ⟨_,rfl⟩
 have hH : headB (l.map valOf) = if (l.any fun c => decide (c.kind = 0)) = true then 1 :: fl else [0] := by
  rw [headB,← hnul,← hfle]
  by_cases e : false ∈ thereL (l.map valOf) <;> simp [e]
 rw [← hfle] at hfl hfll
 rw [hk0] at hok
 have hkk : ∀ c ∈ l,c.kind = 0 ∨ c.kind = 2 := fun c hc => by
  have := List.any_eq_false.1 hok c hc
  simp [oddC] at this
  by_cases e : c.kind = 0
  ·exact .inl e
  ·exact .inr (this e)
 rw [← hk0] at hok
 have hw1 := nn_truth hvl hkk
 have hkl := kinds_len (l.map valOf)
 rw [List.length_map] at hkl
 have hbody := rflags_runs (truths (l.map valOf)) (by omega)
 have hbl := flagsB_len (l := truths (l.map valOf)) (by omega)
 have hform : nats ((truths (l.map valOf)).map bit) = .list (preN wrapD l l.length) := by
  rw [preN_end,show (nnz l).map wrapD = ((nnz l).map (fun c => IntKind.u64.wrap c.n)).map (fun n => D.int .u64 n) by rw [List.map_map]; rfl,hw1,nats,List.map_map,List.map_map]; rfl
 rw [hform] at hbody
 have hC : colB k (l.map valOf) = headB (l.map valOf) ++ flagsB (truths (l.map valOf)) := by rw [hk0]; rfl
 rw [hC,hH]
 obtain ⟨bd,hbd⟩ : ∃ bd,bd = flagsB (truths (l.map valOf)) := ⟨_,rfl⟩
 rw [← hbd] at hbody hbl ⊢
 have hki : (k : Int) = 2 := by omega
 refine run_goal (rs:=[.tmp 4,.tmp 5]) (ts:=[24,3]) Tryz.func67 rfl rfl rfl (by kernel_rfl) (by kernel_rfl) (.inl sp_67) (by simp [Tryz.f67]) ?_
 intro T hT
 simp -dsimp -implicitDefEqProofs (disch:=first|omega|assumption) [startSlots,nI,wI,h1',h2']
 generalize hz : loopT _ _ _ _ _ _ = z
 revert z
 refine loop_any (σ:=Nat) (fun i => [(0,.d (.int .i64 k)),(1,.d (.list (ce l))),(6,.d (.int .i64 i))]) (fun i => []) (fun i => i ≤ l.length) (fun i => l.length - i) 0 ?_ ?_ ?_
 ·exact Nat.zero_le _
 ·simp -dsimp -implicitDefEqProofs (disch:=first|omega|assumption)
 intro T' f hT' i hi ih
 by_cases h1 : i < l.length
 ·have hc := hl l[i] (List.getElem_mem _)
  have hok1 := List.any_eq_false.1 hok _ (List.getElem_mem h1)
  obtain ⟨⟨ck,n,s⟩,hx⟩ : ∃ x,x = l[i] := ⟨_,rfl⟩
  have gx := hx.symm
  rw [← hx] at hc hok1
  simp only at hc
  have hw : IntKind.i64.wrap (ck : Int) = ck := wI (by omega) (by omega)
  have zk : ¬ k = 0 := by omega
  by_cases z : ck = 0
  ·subst z
   simp -dsimp -implicitDefEqProofs (disch:=first|omega|assumption) [nI,wI,h1,gx,Cel.d]
   exact ih (i + 1) _ _ h1 (by omega) (by simp -dsimp -implicitDefEqProofs (disch:=first|omega|assumption))
  ·have z' : ¬ (ck : Int) = 0 := by omega
   have e : ck = k := by
    simp [oddC,z] at hok1
    exact hok1
   have e' : (ck : Int) = k := by omega
   simp -dsimp -implicitDefEqProofs (disch:=first|omega|assumption) [nI,wI,h1,gx,Cel.d,z',z,zk,hw,e',e]
   exact ih (i + 1) _ _ h1 (by omega) (by simp -dsimp -implicitDefEqProofs (disch:=first|omega|assumption))
 obtain rfl : i = l.length := by omega
 subst hT'
 clear ih hi h1
 have h256 : ¬ (256 : Int) < l.length := by omega
 simp -dsimp -implicitDefEqProofs (disch:=first|omega|assumption) [nI,wI,h256]
 generalize hz : loopT _ _ _ _ _ _ = z
 revert z
 refine loop_any (σ:=Nat) (fun i => [(0,.d (.int .i64 k)),(1,.d (.list (ce l))),(8,.arr 0 i),(9,.arr 1 (preN wrapD l i).length),(10,.arr 2 (preN numD l i).length),(11,.arr 3 (preN strD l i).length),(12,.d (.bool ((l.take i).any fun c => decide (c.kind = 0)))),(13,.d (.int .i64 i))]) (fun i => [.arr 1 (preD bitD l i) 0,.arr 1 (preN wrapD l i) 0,.arr 1 (preN numD l i) 0,.arr 1 (preN strD l i) 0]) (fun i => i ≤ l.length) (fun i => l.length - i) 0 ?_ ?_ ?_
 ·exact Nat.zero_le _
 ·simp -dsimp -implicitDefEqProofs (disch:=first|omega|assumption) [preD_zero,preN_zero]
 intro T2 f2 hT2 i hi ih
 by_cases h1 : i < l.length
 ·have hv := hvl l[i] (List.getElem_mem _)
  have hs64 := (chk_kind hv).2.2.2.2
  have hbs := preD_succ (g := bitD) h1
  have hws := preN_succ (g := wrapD) h1
  have hns := preN_succ (g := numD) h1
  have hss := preN_succ (g := strD) h1
  have hln := preD_length (g := bitD) hi
  have l1 := preN_length wrapD l i
  have l2 := preN_length numD l i
  have l3 := preN_length strD l i
  have hany : (l.take (i + 1)).any (fun c => decide (c.kind = 0)) = ((l.take i).any (fun c => decide (c.kind = 0)) || decide (l[i].kind = 0)) := by
   rw [take_snoc h1,List.any_append]; simp
  obtain ⟨⟨ck,n,s⟩,hx⟩ : ∃ x,x = l[i] := ⟨_,rfl⟩
  have gx := hx.symm
  rw [← hx] at hs64 hbs hws hns hss hany
  simp only at hs64
  have hs' : ¬ (64 : Int) < s.size := by omega
  by_cases z : ck = 0
  ·subst z
   simp only [ne_eq,not_true_eq_false,if_false,List.append_nil,decide_true,Bool.or_true] at hws hns hss hany
   simp -dsimp -implicitDefEqProofs (disch:=first|omega|assumption) [nI,wI,h1,gx,Cel.d,hs',hln]
   refine ih (i + 1) _ _ h1 (by omega) ?_
   rw [hbs,hws,hns,hss,hany]
   simp -dsimp -implicitDefEqProofs (disch:=first|omega|assumption) [hln,bitD,bit]
  ·have z' : ¬ (ck : Int) = 0 := by omega
   simp only [ne_eq,z,not_false_eq_true,if_true,decide_false,Bool.or_false] at hws hns hss hany
   simp -dsimp -implicitDefEqProofs (disch:=first|omega|assumption) [nI,wI,h1,gx,Cel.d,hs',hln,z',z]
   refine ih (i + 1) _ _ h1 (by omega) ?_
   rw [hbs,hws,hns,hss,hany]
   simp -dsimp -implicitDefEqProofs (disch:=first|omega|assumption) [hln,bitD,bit,wrapD,numD,strD,z]
 obtain rfl : i = l.length := by omega
 have hln := preD_length (g := bitD) (Nat.le_refl l.length)
 have l1 := preN_length wrapD l l.length
 have l2 := preN_length numD l l.length
 have l3 := preN_length strD l l.length
 subst hT2
 clear ih hi h1
 rw [List.take_length]
 cases hnl : l.any fun c => decide (c.kind = 0) with
 | true =>
  rw [hnl,if_pos rfl,show (1 :: fl ++ bd).length = 1 + fl.length + bd.length by simp only [List.length_cons,List.length_append]; omega] at hT
  simp -dsimp -implicitDefEqProofs (disch:=first|omega|assumption) [nI,wI,hki,hk0,hfl,hbody,hln]
  simpa -dsimp -implicitDefEqProofs (disch:=first|omega|assumption) [nI,wI,E] using hT
 | false =>
  rw [hnl,if_neg (by simp),show ([(0 : UInt8)] ++ bd).length = 1 + bd.length by simp only [List.length_append,List.length_singleton]] at hT
  simp -dsimp -implicitDefEqProofs (disch:=first|omega|assumption) [nI,wI,hki,hk0,hbody,hln]
  simpa -dsimp -implicitDefEqProofs (disch:=first|omega|assumption) [nI,wI,E] using hT
end Go.Am.Ab
namespace Go.Am.Ab
open Go.Proofs
set_option maxHeartbeats 8000000
set_option maxRecDepth 4000
@[simp] theorem allSize_app (n : Nat) : ∀ a b : List D,allSize n (a ++ b) = (allSize n a && allSize n b)
 | [],b => by simp [allSize]
 | x :: a,b => by
  have := allSize_app n a b
  simp [allSize,this,Bool.and_assoc]
def ixD (u : List ByteArray) (s : ByteArray) : D := .int .i64 ((ixS u s : Nat) : Int)
theorem ixS_before {u : List ByteArray} {s : ByteArray} {j : Nat} (h : j < ixS u s) (hj : j < u.length) : u[j] ≠ s := by
 have := List.not_of_lt_findIdx (p := fun t => decide (t = s)) (xs := u) (i := j) h
 simpa using this
theorem rwrite3_yes (k : Nat) (hk0 : k = 3) (l : List Cel) (hvl : ∀ c ∈ l,chk c = 0) (hn : l.length ≤ 256) (hok : l.any (oddC k) = false) : R 67 [.d (.int .i64 k),.d (.list (ce l))] [] = some ([.arr 0 (colB k (l.map valOf)).length,E 0],[.arr 1 (bytes (colB k (l.map valOf))) 0]) := by
 have h1' : ¬ (k : Int) < 1 := by omega
 have h2' : ¬ (3 : Int) < k := by omega
 have hl : ∀ c ∈ l,c.kind < 256 := fun c hc => by have := (chk_kind (hvl c hc)).1; omega
 have hth := there_cel hvl
 have htl : (thereL (l.map valOf)).length = l.length := by rw [thereL_length]; simp
 have hfl := rflags_runs (thereL (l.map valOf)) (by omega)
 have hfb : nats ((thereL (l.map valOf)).map bit) = .list (preD bitD l l.length) := by
  rw [preD_end (Nat.le_refl _),hth,nats,List.map_map,List.map_map]; rfl
 rw [hfb] at hfl
 have hfll := flagsB_len (l := thereL (l.map valOf)) (by omega)
 have hnul : decide (false ∈ thereL (l.map valOf)) = l.any fun c => decide (c.kind = 0) := by
  rw [hth]
  cases e : l.any fun c => decide (c.kind = 0) with
  | true =>
   obtain ⟨c,hc,h⟩ := List.any_eq_true.1 e
   exact decide_eq_true (List.mem_map.2 ⟨c,hc,by simpa using h⟩)
  | false =>
   refine decide_eq_false fun h => ?_
   obtain ⟨c,hc,h⟩ := List.mem_map.1 h
   have := List.any_eq_false.1 e c hc
   simp at h this
   exact this h
 obtain ⟨fl,hfle⟩ : ∃ fl,fl = flagsB (thereL (l.map valOf)) := ⟨_,rfl⟩
 have hH : headB (l.map valOf) = if (l.any fun c => decide (c.kind = 0)) = true then 1 :: fl else [0] := by
  rw [headB,← hnul,← hfle]
  by_cases e : false ∈ thereL (l.map valOf) <;> simp [e]
 rw [← hfle] at hfl hfll
 rw [hk0] at hok
 have hkk : ∀ c ∈ l,c.kind = 0 ∨ c.kind = 3 := fun c hc => by
  have := List.any_eq_false.1 hok c hc
  simp [oddC] at this
  by_cases e : c.kind = 0
  ·exact .inl e
  ·exact .inr (this e)
 rw [← hk0] at hok
 have hw1 := nn_text hvl hkk
 have hkl := kinds_len (l.map valOf)
 rw [List.length_map] at hkl
 have hC : colB k (l.map valOf) = headB (l.map valOf) ++ wordsB (texts (l.map valOf)) := by rw [hk0]; rfl
 rw [hC,hH]
 have hW64 : ∀ s ∈ texts (l.map valOf),s.size ≤ 64 := texts_is (no_long hvl)
 have hSD : preN strD l l.length = ss (texts (l.map valOf)) := by
  rw [preN_end,← hw1,ss,List.map_map]; rfl
 obtain ⟨W,hWe⟩ : ∃ W,W = texts (l.map valOf) := ⟨_,rfl⟩
 rw [← hWe] at hkl hW64 hSD ⊢
 have hWl : W.length ≤ 256 := by omega
 have hun := runlikeT_runs W hWl
 have hul := uniS_length_le W
 have hum64 : ∀ s ∈ uniS W,s.size ≤ 64 := fun s h => hW64 s (uniS_mem.1 h)
 have humem : ∀ s ∈ W,s ∈ uniS W := fun s h => uniS_mem.2 h
 have htW := rtexts_runs W hW64 hWl
 have htU := rtexts_runs (uniS W) hum64 (by omega)
 have htwl := textsB_len hW64 hWl
 have htul := textsB_len hum64 (by omega)
 have hput := rput_runs (uniS W).length (by omega)
 have hputl := put_len (n := (uniS W).length) (by omega)
 have hpi := placesS_is hWl
 have hppl : (placesS W).length = W.length := by simp [placesS]
 have hbest := rbest_yes (placesS W) hpi (by omega)
 have hbl := bestB_len hpi (by omega)
 have hplD : ints (placesS W) = .list (preD (ixD (uniS W)) W W.length) := by
  rw [preD_end (Nat.le_refl _),ints,placesS,List.map_map]; rfl
 rw [hplD] at hbest
 have hw : wordsB W = if (listT W).length < (plainT W).length then listT W else plainT W := rfl
 have hLT : listT W = (1 :: put (uniS W).length) ++ textsB (uniS W) ++ bestB (placesS W) := rfl
 have hPT : plainT W = [0] ++ textsB W := rfl
 rw [hw,hLT,hPT]
 clear hw hLT hPT hC hH hWe hplD hw1 hkk
 obtain ⟨u,hue⟩ : ∃ u,u = uniS W := ⟨_,rfl⟩
 rw [← hue] at hun hul humem htU htul hput hputl hbest ⊢
 obtain ⟨tu,htue⟩ : ∃ tu,tu = textsB u := ⟨_,rfl⟩
 obtain ⟨tl,htle⟩ : ∃ tl,tl = textsB W := ⟨_,rfl⟩
 obtain ⟨bp,hbpe⟩ : ∃ bp,bp = bestB (placesS W) := ⟨_,rfl⟩
 obtain ⟨pu,hpue⟩ : ∃ pu,pu = put u.length := ⟨_,rfl⟩
 rw [← htue] at htU htul ⊢
 rw [← htle] at htW htwl ⊢
 rw [← hbpe] at hbest hbl ⊢
 rw [← hpue] at hput hputl ⊢
 have hw0 : IntKind.u64.wrap (u.length : Int) = u.length := wrap_u64 (by omega) (by omega)
 clear hue htue htle hbpe hpue hum64 hW64 hpi hppl
 have e3 : (1 :: pu ++ tu ++ bp).length = 1 + pu.length + tu.length + bp.length := by simp only [List.length_cons,List.length_append]; omega
 have e4 : ([0] ++ tl).length = 1 + tl.length := by simp only [List.length_append,List.length_cons,List.length_nil]
 rw [e3,e4]
 have hk3 : (k : Int) = 3 := by omega
 refine run_goal (rs:=[.tmp 4,.tmp 5]) (ts:=[24,3]) Tryz.func67 rfl rfl rfl (by kernel_rfl) (by kernel_rfl) (.inl sp_67) (by simp [Tryz.f67]) ?_
 intro T hT
 simp -dsimp -implicitDefEqProofs (disch:=first|omega|assumption) [startSlots,nI,wI,h1',h2']
 generalize hz : loopT _ _ _ _ _ _ = z
 revert z
 refine loop_any (σ:=Nat) (fun i => [(0,.d (.int .i64 k)),(1,.d (.list (ce l))),(6,.d (.int .i64 i))]) (fun i => []) (fun i => i ≤ l.length) (fun i => l.length - i) 0 ?_ ?_ ?_
 ·exact Nat.zero_le _
 ·simp -dsimp -implicitDefEqProofs (disch:=first|omega|assumption)
 intro T' f hT' i hi ih
 by_cases h1 : i < l.length
 ·have hc := hl l[i] (List.getElem_mem _)
  have hok1 := List.any_eq_false.1 hok _ (List.getElem_mem h1)
  obtain ⟨⟨ck,n,s⟩,hx⟩ : ∃ x,x = l[i] := ⟨_,rfl⟩
  have gx := hx.symm
  rw [← hx] at hc hok1
  simp only at hc
  have hw : IntKind.i64.wrap (ck : Int) = ck := wI (by omega) (by omega)
  have zk : ¬ k = 0 := by omega
  by_cases z : ck = 0
  ·subst z
   simp -dsimp -implicitDefEqProofs (disch:=first|omega|assumption) [nI,wI,h1,gx,Cel.d]
   exact ih (i + 1) _ _ h1 (by omega) (by simp -dsimp -implicitDefEqProofs (disch:=first|omega|assumption))
  ·have z' : ¬ (ck : Int) = 0 := by omega
   have e : ck = k := by
    simp [oddC,z] at hok1
    exact hok1
   have e' : (ck : Int) = k := by omega
   simp -dsimp -implicitDefEqProofs (disch:=first|omega|assumption) [nI,wI,h1,gx,Cel.d,z',z,zk,hw,e',e]
   exact ih (i + 1) _ _ h1 (by omega) (by simp -dsimp -implicitDefEqProofs (disch:=first|omega|assumption))
 obtain rfl : i = l.length := by omega
 subst hT'
 clear ih hi h1
 have h256 : ¬ (256 : Int) < l.length := by omega
 simp -dsimp -implicitDefEqProofs (disch:=first|omega|assumption) [nI,wI,h256]
 generalize hz : loopT _ _ _ _ _ _ = z
 revert z
 refine loop_any (σ:=Nat) (fun i => [(0,.d (.int .i64 k)),(1,.d (.list (ce l))),(8,.arr 0 i),(9,.arr 1 (preN wrapD l i).length),(10,.arr 2 (preN numD l i).length),(11,.arr 3 (preN strD l i).length),(12,.d (.bool ((l.take i).any fun c => decide (c.kind = 0)))),(13,.d (.int .i64 i))]) (fun i => [.arr 1 (preD bitD l i) 0,.arr 1 (preN wrapD l i) 0,.arr 1 (preN numD l i) 0,.arr 1 (preN strD l i) 0]) (fun i => i ≤ l.length) (fun i => l.length - i) 0 ?_ ?_ ?_
 ·exact Nat.zero_le _
 ·simp -dsimp -implicitDefEqProofs (disch:=first|omega|assumption) [preD_zero,preN_zero]
 intro T2 f2 hT2 i hi ih
 by_cases h1 : i < l.length
 ·have hv := hvl l[i] (List.getElem_mem _)
  have hs64 := (chk_kind hv).2.2.2.2
  have hbs := preD_succ (g := bitD) h1
  have hws := preN_succ (g := wrapD) h1
  have hns := preN_succ (g := numD) h1
  have hss := preN_succ (g := strD) h1
  have hln := preD_length (g := bitD) hi
  have l1 := preN_length wrapD l i
  have l2 := preN_length numD l i
  have l3 := preN_length strD l i
  have hany : (l.take (i + 1)).any (fun c => decide (c.kind = 0)) = ((l.take i).any (fun c => decide (c.kind = 0)) || decide (l[i].kind = 0)) := by
   rw [take_snoc h1,List.any_append]; simp
  obtain ⟨⟨ck,n,s⟩,hx⟩ : ∃ x,x = l[i] := ⟨_,rfl⟩
  have gx := hx.symm
  rw [← hx] at hs64 hbs hws hns hss hany
  simp only at hs64
  have hs' : ¬ (64 : Int) < s.size := by omega
  by_cases z : ck = 0
  ·subst z
   simp only [ne_eq,not_true_eq_false,if_false,List.append_nil,decide_true,Bool.or_true] at hws hns hss hany
   simp -dsimp -implicitDefEqProofs (disch:=first|omega|assumption) [nI,wI,h1,gx,Cel.d,hs',hln]
   refine ih (i + 1) _ _ h1 (by omega) ?_
   rw [hbs,hws,hns,hss,hany]
   simp -dsimp -implicitDefEqProofs (disch:=first|omega|assumption) [hln,bitD,bit]
  ·have z' : ¬ (ck : Int) = 0 := by omega
   simp only [ne_eq,z,not_false_eq_true,if_true,decide_false,Bool.or_false] at hws hns hss hany
   simp -dsimp -implicitDefEqProofs (disch:=first|omega|assumption) [nI,wI,h1,gx,Cel.d,hs',hln,z',z]
   refine ih (i + 1) _ _ h1 (by omega) ?_
   rw [hbs,hws,hns,hss,hany]
   simp -dsimp -implicitDefEqProofs (disch:=first|omega|assumption) [hln,bitD,bit,wrapD,numD,strD,z]
 obtain rfl : i = l.length := by omega
 have hln := preD_length (g := bitD) (Nat.le_refl l.length)
 have l1 := preN_length wrapD l l.length
 have l2 := preN_length numD l l.length
 have l3 := preN_length strD l l.length
 subst hT2
 clear ih hi h1
 rw [List.take_length]
 rw [hSD]
 have hsl : (ss W).length = W.length := by simp
 cases hnl : l.any fun c => decide (c.kind = 0) with
 | true =>
  rw [hnl,if_pos rfl] at hT
  simp -dsimp -implicitDefEqProofs (disch:=first|omega|assumption) [nI,wI,hk3,hk0,hun,hln,hfl,hsl]
  generalize hz : loopT _ _ _ _ _ _ = z
  revert z
  refine loop_any (σ:=Nat) (fun i => [(11,.arr 0 W.length),(15,.arr 1 (1 + fl.length)),(18,.arr 2 u.length),(19,.arr 3 i),(20,.d (.int .i64 i))]) (fun i => [.arr 1 (ss W) W.length,.arr 1 (.int .u8 1 :: bytes fl) 0,.arr 1 (ss u) 0,.arr 1 (preD (ixD u) W i) 0]) (fun i => i ≤ W.length) (fun i => W.length - i) 0 ?_ ?_ ?_
  ·exact Nat.zero_le _
  ·simp -dsimp -implicitDefEqProofs (disch:=first|omega|assumption) [preD_zero,hfl,hsl]
  intro T3 f3 hT3 i hi ih
  by_cases h1 : i < W.length
  ·have hpd := preD_succ (g := ixD u) h1
   have hpl := preD_length (g := ixD u) hi
   obtain ⟨w,hwe⟩ : ∃ w,w = W[i] := ⟨_,rfl⟩
   have gw := hwe.symm
   have hwm := humem w (hwe ▸ List.getElem_mem h1)
   have hix := ixS_lt hwm
   rw [gw] at hpd
   simp -dsimp -implicitDefEqProofs (disch:=first|omega|assumption) [nI,wI,h1,gw]
   generalize hz : loopT _ _ _ _ _ _ = z
   revert z
   refine loop_any (σ:=Nat) (fun a => [(11,.arr 0 W.length),(15,.arr 1 (1 + fl.length)),(18,.arr 2 u.length),(19,.arr 3 i),(20,.d (.int .i64 i)),(21,.d (.int .i64 a))]) (fun a => [.arr 1 (ss W) W.length,.arr 1 (.int .u8 1 :: bytes fl) 0,.arr 1 (ss u) 0,.arr 1 (preD (ixD u) W i) 0]) (fun a => a ≤ ixS u w) (fun a => ixS u w - a) 0 ?_ ?_ ?_
   ·exact Nat.zero_le _
   ·simp -dsimp -implicitDefEqProofs (disch:=first|omega|assumption) [hpl,hfl,hsl]
   intro T5 f5 hT5 a ha ih5
   have hau : a < u.length := by omega
   obtain ⟨y,hye⟩ : ∃ y,y = u[a] := ⟨_,rfl⟩
   have gy := hye.symm
   by_cases h2 : a < ixS u w
   ·have hne : ¬ y = w := by rw [hye]; exact ixS_before h2 hau
    simp -dsimp -implicitDefEqProofs (disch:=first|omega|assumption) [nI,wI,h1,gw,hau,gy,str_beq,hne]
    exact ih5 (a + 1) _ _ h2 (by omega) (by simp -dsimp -implicitDefEqProofs (disch:=first|omega|assumption) [hpl,hfl,hsl])
   ·obtain rfl : a = ixS u w := by omega
    have hyw : y = w := by rw [hye]; exact ixS_get hau
    subst hT5
    simp -dsimp -implicitDefEqProofs (disch:=first|omega|assumption) [nI,wI,h1,gw,hau,gy,hyw,hpl]
    refine ih (i + 1) _ _ h1 (by omega) ?_
    rw [hpd]
    simp -dsimp -implicitDefEqProofs (disch:=first|omega|assumption) [hpl,ixD,hfl,hsl]
  ·obtain rfl : i = W.length := by omega
   have hpl := preD_length (g := ixD u) hi
   subst hT3
   by_cases hlt : 1 + pu.length + tu.length + bp.length < 1 + tl.length
   ·have hlt' : (1 + (pu.length : Int) + tu.length + bp.length) < 1 + tl.length := by omega
    rw [if_pos hlt] at hT
    rw [show (((1 : UInt8) :: fl) ++ ((1 : UInt8) :: pu ++ tu ++ bp)).length = 1 + fl.length + (pu.length + (tu.length + (bp.length + 1))) by simp only [List.length_cons,List.length_append]; omega] at hT
    simp -dsimp -implicitDefEqProofs (disch:=first|omega|assumption) [nI,wI,hpl,htW,hput,hw0,htU,hbest,hlt']
    simpa -dsimp -implicitDefEqProofs (disch:=first|omega|assumption) [nI,wI,E,List.append_assoc,Nat.add_assoc] using hT
   ·have hlt' : ¬ (1 + (pu.length : Int) + tu.length + bp.length) < 1 + tl.length := by omega
    rw [if_neg hlt] at hT
    rw [show (((1 : UInt8) :: fl) ++ ([(0 : UInt8)] ++ tl)).length = 1 + fl.length + (tl.length + 1) by simp only [List.length_cons,List.length_append,List.length_nil]; omega] at hT
    simp -dsimp -implicitDefEqProofs (disch:=first|omega|assumption) [nI,wI,hpl,htW,hput,hw0,htU,hbest,hlt']
    simpa -dsimp -implicitDefEqProofs (disch:=first|omega|assumption) [nI,wI,E,List.append_assoc,Nat.add_assoc] using hT
 | false =>
  rw [hnl,if_neg (by simp)] at hT
  simp -dsimp -implicitDefEqProofs (disch:=first|omega|assumption) [nI,wI,hk3,hk0,hun,hln,hsl]
  generalize hz : loopT _ _ _ _ _ _ = z
  revert z
  refine loop_any (σ:=Nat) (fun i => [(11,.arr 0 W.length),(15,.arr 1 1),(18,.arr 2 u.length),(19,.arr 3 i),(20,.d (.int .i64 i))]) (fun i => [.arr 1 (ss W) W.length,.arr 1 ([.int .u8 0]) 0,.arr 1 (ss u) 0,.arr 1 (preD (ixD u) W i) 0]) (fun i => i ≤ W.length) (fun i => W.length - i) 0 ?_ ?_ ?_
  ·exact Nat.zero_le _
  ·simp -dsimp -implicitDefEqProofs (disch:=first|omega|assumption) [preD_zero,hsl]
  intro T3 f3 hT3 i hi ih
  by_cases h1 : i < W.length
  ·have hpd := preD_succ (g := ixD u) h1
   have hpl := preD_length (g := ixD u) hi
   obtain ⟨w,hwe⟩ : ∃ w,w = W[i] := ⟨_,rfl⟩
   have gw := hwe.symm
   have hwm := humem w (hwe ▸ List.getElem_mem h1)
   have hix := ixS_lt hwm
   rw [gw] at hpd
   simp -dsimp -implicitDefEqProofs (disch:=first|omega|assumption) [nI,wI,h1,gw]
   generalize hz : loopT _ _ _ _ _ _ = z
   revert z
   refine loop_any (σ:=Nat) (fun a => [(11,.arr 0 W.length),(15,.arr 1 1),(18,.arr 2 u.length),(19,.arr 3 i),(20,.d (.int .i64 i)),(21,.d (.int .i64 a))]) (fun a => [.arr 1 (ss W) W.length,.arr 1 ([.int .u8 0]) 0,.arr 1 (ss u) 0,.arr 1 (preD (ixD u) W i) 0]) (fun a => a ≤ ixS u w) (fun a => ixS u w - a) 0 ?_ ?_ ?_
   ·exact Nat.zero_le _
   ·simp -dsimp -implicitDefEqProofs (disch:=first|omega|assumption) [hpl,hsl]
   intro T5 f5 hT5 a ha ih5
   have hau : a < u.length := by omega
   obtain ⟨y,hye⟩ : ∃ y,y = u[a] := ⟨_,rfl⟩
   have gy := hye.symm
   by_cases h2 : a < ixS u w
   ·have hne : ¬ y = w := by rw [hye]; exact ixS_before h2 hau
    simp -dsimp -implicitDefEqProofs (disch:=first|omega|assumption) [nI,wI,h1,gw,hau,gy,str_beq,hne]
    exact ih5 (a + 1) _ _ h2 (by omega) (by simp -dsimp -implicitDefEqProofs (disch:=first|omega|assumption) [hpl,hsl])
   ·obtain rfl : a = ixS u w := by omega
    have hyw : y = w := by rw [hye]; exact ixS_get hau
    subst hT5
    simp -dsimp -implicitDefEqProofs (disch:=first|omega|assumption) [nI,wI,h1,gw,hau,gy,hyw,hpl]
    refine ih (i + 1) _ _ h1 (by omega) ?_
    rw [hpd]
    simp -dsimp -implicitDefEqProofs (disch:=first|omega|assumption) [hpl,ixD,hsl]
  ·obtain rfl : i = W.length := by omega
   have hpl := preD_length (g := ixD u) hi
   subst hT3
   by_cases hlt : 1 + pu.length + tu.length + bp.length < 1 + tl.length
   ·have hlt' : (1 + (pu.length : Int) + tu.length + bp.length) < 1 + tl.length := by omega
    rw [if_pos hlt] at hT
    rw [show ([(0 : UInt8)] ++ (1 :: pu ++ tu ++ bp)).length = 1 + (pu.length + (tu.length + (bp.length + 1))) by simp only [List.length_cons,List.length_append,List.length_nil]; omega] at hT
    simp -dsimp -implicitDefEqProofs (disch:=first|omega|assumption) [nI,wI,hpl,htW,hput,hw0,htU,hbest,hlt']
    simpa -dsimp -implicitDefEqProofs (disch:=first|omega|assumption) [nI,wI,E,List.append_assoc,Nat.add_assoc] using hT
   ·have hlt' : ¬ (1 + (pu.length : Int) + tu.length + bp.length) < 1 + tl.length := by omega
    rw [if_neg hlt] at hT
    rw [show ([(0 : UInt8)] ++ ([(0 : UInt8)] ++ tl)).length = 1 + (tl.length + 1) by simp only [List.length_cons,List.length_append,List.length_nil]; omega] at hT
    simp -dsimp -implicitDefEqProofs (disch:=first|omega|assumption) [nI,wI,hpl,htW,hput,hw0,htU,hbest,hlt']
    simpa -dsimp -implicitDefEqProofs (disch:=first|omega|assumption) [nI,wI,E,List.append_assoc,Nat.add_assoc] using hT
end Go.Am.Ab
