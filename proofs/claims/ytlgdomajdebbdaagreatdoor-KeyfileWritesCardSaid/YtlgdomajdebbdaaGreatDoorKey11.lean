/- The statements on files of keys: those that are turned; what is written. -/
import Derived.Test.YtlgdomajdebbdaaGreatDoorKeyC
set_option linter.all false
namespace Go.Am.Ab
open Go.Proofs
set_option maxHeartbeats 8000000
set_option maxRecDepth 4000
theorem keyfileWrites_runs (k : Nat) (hk : k < 256) (l : List Cel) (hl : ∀ c ∈ l,c.kind < 256 ∧ isI64 c.n ∧ c.s.size ≤ 9223372036854775807) (hn : l.length ≤ 9223372036854775807) : R 3 [.d (.int .u8 k),.d (.list (ce l))] [] = some ([.d (.bool true)],[]) := by
 have al := alive11e
 have hki : IntKind.i64.wrap (k : Int) = k := wI (by omega) (by omega)
 by_cases h4 : 400 < l.length
 ·have h4' : (400 : Int) < l.length := by omega
  refine run_goal (rs:=[.tmp 4]) (ts:=[4]) Tryz.func3 rfl rfl rfl (by kernel_rfl) (by kernel_rfl) (.inl sp_3) (by simp [Tryz.f3]) ?_
  intro T hT
  simp -dsimp -implicitDefEqProofs (disch:=first|omega|assumption) [startSlots,nI,wI,al,h4']
  simpa -dsimp -implicitDefEqProofs (disch:=first|omega|assumption) [nI,wI] using hT
 have h4' : ¬ (400 : Int) < l.length := by omega
 have hls : ∀ c ∈ l,c.kind < 256 ∧ c.s.size ≤ 9223372036854775807 := fun c hc => ⟨(hl c hc).1,(hl c hc).2.2⟩
 have hr := row_runs l hls (by omega)
 have hf := fixRow_runs l hls (by omega)
 have hvl : ∀ c ∈ l.map fix,chk c = 0 := fun c hc => by
  obtain ⟨a,_,rfl⟩ := List.mem_map.1 hc
  exact fix_ok a
 have hi : ∀ c ∈ l.map fix,isI64 c.n := fun c hc => by
  obtain ⟨a,ha,rfl⟩ := List.mem_map.1 hc
  unfold fix
  split
  ·exact (hl a ha).2.1
  ·show isI64 0
   unfold isI64; omega
 obtain ⟨X,hX⟩ : ∃ X,X = l.map valOf := ⟨_,rfl⟩
 have hcX : l.map fix = X.map cellOf := by
  rw [hX,List.map_map]
  apply List.map_congr_left
  intro c _
  have := cell_back (fix_ok c)
  simp only [Function.comp,valOf,fix_fix] at this ⊢
  exact this.symm
 have hXl : X.length = l.length := by rw [hX,List.length_map]
 rw [← hX] at hr
 rw [hcX] at hf hvl hi
 have hboth : ∃ (b : List UInt8) (e : Nat),R 15 [.d (.int .u8 k),.d (.list (vs X))] [] = some ([.arr 0 b.length,E e],[.arr 1 (bytes b) 0]) ∧ R 17 [.d (.int .i64 k),.d (.list (ce (X.map cellOf)))] [] = some ([.arr 0 b.length,E e],[.arr 1 (bytes b) 0]) := by
  by_cases h13 : k = 1 ∨ k = 3
  case neg => exact ⟨[],10,kwrite_kind k hk (fun e => h13 (.inl e)) (fun e => h13 (.inr e)) X,rkwrite_kind k hk (fun e => h13 (.inl e)) (fun e => h13 (.inr e)) _⟩
  have hk3 : 1 ≤ k ∧ k ≤ 3 := by omega
  by_cases ha : ∀ v ∈ X,v.kind = k
  case neg =>
   have ho : ∃ v ∈ X,v.kind ≠ k := by
    apply Classical.byContradiction
    intro h
    exact ha fun v hv => Classical.byContradiction fun e => h ⟨v,hv,e⟩
   refine ⟨[],10, ?_, ?_⟩
   ·rcases h13 with rfl | rfl
    ·exact kwrite_odd1 X (by omega) ho
    ·exact kwrite_odd3 X (by omega) ho
   ·obtain ⟨v,hv,hne⟩ := ho
    refine rkwrite_odd k h13 _ (fun c hc => ?_) (by simp; omega) ⟨cellOf v,List.mem_map.2 ⟨v,hv,rfl⟩,by rw [cell_kind]; exact hne⟩
    obtain ⟨v',_,rfl⟩ := List.mem_map.1 hc
    rw [cell_kind]
    cases v' <;> simp [Val.kind]
  have hodd : (X.map cellOf).any (oddC k) = false := by
   rw [List.any_eq_false]
   intro c hc
   obtain ⟨v,hv,rfl⟩ := List.mem_map.1 hc
   simp [oddC,cell_kind,ha v hv]
  have hXX : (X.map cellOf).map valOf = X := by rw [← hcX,hX,List.map_map]; apply List.map_congr_left; intro c _; simp only [Function.comp,valOf,fix_fix]
  have g : Good k X := by
   have := cels_good (k := k) hvl hi hodd
   rwa [hXX] at this
  have gu := uniV_good g
  have hul := uniV_length X
  have hau : ∀ v ∈ uniV X,v.kind = k := fun v hv => ha v (uniV_mem.1 hv)
  have hou : (uniV X).any (oddV k) = false := gu.odd
  have hkk : ∀ c ∈ X.map cellOf,c.kind = k := fun c hc => by
   obtain ⟨v,hv,rfl⟩ := List.mem_map.1 hc
   rw [cell_kind]; exact ha v hv
  obtain ⟨q1,q2,q3⟩ := celC_good hk3 gu
  obtain ⟨b,e,hbl,hp,hrw⟩ := both_write k hk ((uniV X).map cellOf) q1 q2 (by simp; omega)
  rw [q3] at hp
  rw [← uniC_map] at hrw
  have hlen : (uniC (X.map cellOf)).length = (uniV X).length := by rw [uniC_map,List.length_map]
  have hbl2 : b.length ≤ 200000 := by
   by_cases hm : 256 < (uniV X).length
   ·have := writeA_much k hk3 (uniV X) (by omega) hm hou
    rw [hp] at this
    unfold badW at this
    simp only [Option.some.injEq,Prod.mk.injEq,List.cons.injEq,V.arr.injEq] at this
    omega
   ·have h1 := write_ok k hk3 (uniV X) gu (by omega)
    have h2 := colB_len hk3 gu (by omega)
    rw [hp] at h1
    simp only [Option.some.injEq,Prod.mk.injEq,List.cons.injEq,V.arr.injEq] at h1
    omega
  have f1 : R 15 [.d (.int .u8 k),.d (.list (vs X))] [] = if e ≠ 0 then badW e else some ([.arr 0 (sealB (keyT k (uniV X).length b)).length,E 0],[.arr 1 (bytes (sealB (keyT k (uniV X).length b))) 0]) := by
   rcases h13 with rfl | rfl
   ·exact kwrite_step1 X (by omega) ha b e hbl2 hp
   ·exact kwrite_step3 X (by omega) ha b e hbl2 hp
  have f2 : R 17 [.d (.int .i64 k),.d (.list (ce (X.map cellOf)))] [] = if e ≠ 0 then badW e else some ([.arr 0 (sealB (keyT k (uniV X).length b)).length,E 0],[.arr 1 (bytes (sealB (keyT k (uniV X).length b))) 0]) := by
   rw [← hlen]
   rcases h13 with rfl | rfl
   ·exact rkwrite_step1 (X.map cellOf) (by simp; omega) hkk b e hbl hrw
   ·exact rkwrite_step3 (X.map cellOf) (by simp; omega) hkk b e hbl hrw
  by_cases e0 : e ≠ 0
  ·rw [if_pos e0] at f1 f2
   exact ⟨[],e,f1,f2⟩
  ·rw [if_neg e0] at f1 f2
   exact ⟨_,0,f1,f2⟩
 obtain ⟨b,e,ha,hb⟩ := hboth
 have hM := mapM_bytes b
 obtain ⟨v1,hv1⟩ : ∃ v1,v1 = vs X := ⟨_,rfl⟩
 obtain ⟨c1,hc1⟩ : ∃ c1,c1 = ce (X.map cellOf) := ⟨_,rfl⟩
 have hv1l : v1.length = l.length := by rw [hv1,← hXl]; simp
 have hc1l : c1.length = l.length := by rw [hc1,← hXl]; simp
 rw [← hv1] at hr ha
 rw [← hc1] at hf hb
 clear hv1 hc1
 refine run_goal (rs:=[.tmp 4]) (ts:=[4]) Tryz.func3 rfl rfl rfl (by kernel_rfl) (by kernel_rfl) (.inl sp_3) (by simp [Tryz.f3]) ?_
 intro T hT
 simp -dsimp -implicitDefEqProofs (disch:=first|omega|assumption) [startSlots,nI,wI,al,h4',hki,hr,hf,ha,hb,hM,hv1l,hc1l]
 simpa -dsimp -implicitDefEqProofs (disch:=first|omega|assumption) [nI,wI] using hT
end Go.Am.Ab
