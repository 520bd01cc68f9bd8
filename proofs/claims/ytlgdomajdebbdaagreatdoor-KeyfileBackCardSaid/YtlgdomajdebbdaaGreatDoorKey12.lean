/- The statement that keys that were written are the set's. -/
import Derived.Test.YtlgdomajdebbdaaGreatDoorKey11
set_option linter.all false
namespace Go.Am.Ab
open Go.Proofs
set_option maxHeartbeats 8000000
set_option maxRecDepth 4000
def dblC (l : List Cel) : List Cel := l.flatMap fun c => [c,c]
theorem dblC_length (l : List Cel) : (dblC l).length = 2 * l.length := by
 induction l with
 | nil => rfl
 | cons c r ih =>
  unfold dblC at ih ⊢
  rw [List.flatMap_cons,List.length_append,ih]
  simp only [List.length_cons,List.length_nil]; omega
theorem dblC_mem {l : List Cel} {c : Cel} : c ∈ dblC l ↔ c ∈ l := by simp [dblC]
theorem dblC_snoc (l : List Cel) (c : Cel) : dblC (l ++ [c]) = dblC l ++ [c,c] := by simp [dblC]
theorem keyfileBack_runs (t : Bool) (l : List Cel) (hl : ∀ c ∈ l,c.kind < 256 ∧ isI64 c.n ∧ c.s.size ≤ 9223372036854775807) (hn : l.length ≤ 9223372036854775807) (ask : Cel) (hask : ask.kind < 256 ∧ ask.s.size ≤ 9223372036854775807) :
  R 6 [.d (.bool t),.d (.list (ce l)),.d ask.d] [] = some ([.d (.bool true)],[]) := by
 have al := alive11
 have hl1 : ∀ c ∈ l,c.kind < 256 ∧ isI64 c.n := fun c hc => ⟨(hl c hc).1,(hl c hc).2.1⟩
 have hl2 : ∀ c ∈ l,c.kind < 256 ∧ c.s.size ≤ 9223372036854775807 := fun c hc => ⟨(hl c hc).1,(hl c hc).2.2⟩
 obtain ⟨k,hk,hks⟩ : ∃ k : Nat,(k = 1 ∨ k = 3) ∧ R 19 [.d (.bool t),.d (.list (ce l))] [] = some ([.d (.int .u8 k),.arr 0 (keysC k l).length],[.arr 3 (ce (keysC k l)) 0]) := by
  cases t with
  | false => exact ⟨1,.inl rfl,keys1_runs l hl2 hn⟩
  | true => exact ⟨3,.inr rfl,keys3_runs l hl2 hn⟩
 have hxl := keysC_length k l
 have hxs := keysC_small (k := k) hl1
 obtain ⟨g,hall,hb,hX⟩ := keysC_vals hk hl1
 have hr := row_runs (keysC k l) hxs (by omega)
 obtain ⟨hw,hwl⟩ := keys_write hk hl1
 obtain ⟨x,hx⟩ : ∃ x,x = keysC k l := ⟨_,rfl⟩
 rw [← hx] at hks hr hw hwl hb g hall hX hxl hxs
 obtain ⟨X,hXe⟩ : ∃ X,X = x.map valOf := ⟨_,rfl⟩
 rw [← hXe] at hr hw hwl hb g hall hX
 have hXl : X.length = x.length := by rw [hXe,List.length_map]
 have hris := uniV_rises X
 have hul := uniV_length X
 have gu := uniV_good g
 have hau : ∀ v ∈ uniV X,v.kind = k := fun v hv => hall v (uniV_mem.1 hv)
 have ho := kopen_runs (keyF k (uniV X)) hwl
 rw [openK_back hk gu hau hris (by omega)] at ho
 unfold KoR at ho
 simp only at ho
 obtain ⟨w,hso⟩ := rsort_any x (by omega)
 have hsc : uniC x = (uniV X).map cellOf := by rw [← hb]; exact uniC_map X
 rw [hsc,List.length_map] at hso
 have hkd := skind_runs k (vs (uniV X)) (uniV X).length (uniV X).length
 have hln := slen_runs k (vs (uniV X)) (uniV X).length
 have hky := skeys_runs k (uniV X) (by omega)
 have hcs := cells_runs (uniV X) (by omega)
 have hsr := sameRow_runs ((uniV X).map cellOf) ((uniV X).map cellOf) (by simp; omega)
 rw [decide_eq_true rfl] at hsr
 have hhas := fun v => has_runs k hk (uniV X) hau hris (by omega) v
 -- turned
 have hmem : ∀ y,y ∈ (dblC x.reverse).map valOf ↔ y ∈ X := fun y => by
  rw [hXe]
  simp only [List.mem_map,dblC_mem,List.mem_reverse]
 have hut : uniV ((dblC x.reverse).map valOf) = uniV X := uniV_ext hmem
 have hdl : (dblC x.reverse).length = 2 * x.length := by rw [dblC_length,List.length_reverse]
 have hrt := row_runs (dblC x.reverse) (fun c hc => hxs c (by simpa [dblC_mem] using hc)) (by omega)
 have hwt : R 15 [.d (.int .u8 k),.d (.list (vs ((dblC x.reverse).map valOf)))] [] = some ([.arr 0 (keyF k (uniV X)).length,E 0],[.arr 1 (bytes (keyF k (uniV X))) 0]) := by
  have hk3 : 1 ≤ k ∧ k ≤ 3 := by omega
  have h1 := write_ok k hk3 (uniV X) gu (by omega)
  have h2 := colB_len hk3 gu (by omega)
  have h3 : ∀ v ∈ (dblC x.reverse).map valOf,v.kind = k := fun v hv => hall v ((hmem v).1 hv)
  rcases hk with rfl | rfl
  ·have := kwrite_step1 ((dblC x.reverse).map valOf) (by rw [List.length_map]; omega) h3 _ 0 h2 (by rw [hut]; exact h1)
   rw [hut,if_neg (by simp)] at this
   exact this
  ·have := kwrite_step3 ((dblC x.reverse).map valOf) (by rw [List.length_map]; omega) h3 _ 0 h2 (by rw [hut]; exact h1)
   rw [hut,if_neg (by simp)] at this
   exact this
 -- what is asked
 have hfx := rfix_runs ask hask.1 hask.2
 have hfs : (fix ask).kind < 256 ∧ (fix ask).s.size ≤ 9223372036854775807 := by
  obtain ⟨a1,a2,a3,a4,a5⟩ := chk_kind (fix_ok ask)
  exact ⟨by omega,by omega⟩
 have hva := value_runs (fix ask) hfs.1 hfs.2
 have hha := hhas (valOf (fix ask))
 have hhr := rhas_runs ((uniV X).map cellOf) (fix ask) (by simp; omega)
 have hans : decide (fix ask ∈ (uniV X).map cellOf) = decide (valOf (fix ask) ∈ uniV X) := by
  refine decide_eq_decide.2 ⟨fun h => ?_,fun h => ?_⟩
  ·obtain ⟨v,hv,e⟩ := List.mem_map.1 h
   rw [← e,(val_cell (gu v hv)).1]; exact hv
  ·exact List.mem_map.2 ⟨_,h,cell_back (fix_ok ask)⟩
 rw [hans] at hhr
 obtain ⟨⟨ak,an,as0⟩,hae⟩ : ∃ c,c = ask := ⟨_,rfl⟩
 obtain ⟨⟨fk,fn,fs⟩,hfe⟩ : ∃ c,c = fix ask := ⟨_,rfl⟩
 rw [← hfe] at hfx hva hha hhr
 clear hfe hfs hask
 rw [← hae] at hfx ⊢
 generalize decide (valOf ⟨fk,fn,fs⟩ ∈ uniV X) = q at *
 have hin : ∀ i,(h : i < x.length) → decide (valOf x[i] ∈ uniV X) = true := fun i h => by
  refine decide_eq_true (uniV_mem.2 ?_)
  rw [hXe]
  exact List.mem_map.2 ⟨x[i],List.getElem_mem _,rfl⟩
 have hval := fun i (h : i < x.length) => value_runs x[i] (hxs _ (List.getElem_mem _)).1 (hxs _ (List.getElem_mem _)).2
 have hhi : ∀ i,(h : i < x.length) → _ := fun i h => hhas (valOf x[i])
 have hvul : (vs (uniV X)).length = (uniV X).length := by simp
 rw [hvul] at hln
 have hflu : flatL (vs (uniV X)) = true := flatL_vs _
 have hcul : (ce ((uniV X).map cellOf)).length = (uniV X).length := by simp
 have hvXl : (vs X).length = x.length := by rw [← hXl]; simp
 have hvtl : (vs ((dblC x.reverse).map valOf)).length = 2 * x.length := by rw [← hdl]; simp
 have hMb := mapM_bytes (keyF k (uniV X))
 clear hb g hall hX hwl gu hau hris hsc hmem hut hans hXe hx hl hl1 hl2 hk hul
 generalize keyF k (uniV X) = b at *
 generalize vs (uniV X) = vu at *
 generalize ce ((uniV X).map cellOf) = cu at *
 generalize vs X = vX at *
 generalize vs ((dblC x.reverse).map valOf) = vt at *
 generalize hun : (uniV X).length = un at *
 simp only [Cel.d] at hfx hva hhr ⊢
 refine run_goal (rs:=[.tmp 6]) (ts:=[4]) Tryz.func6 rfl rfl rfl (by kernel_rfl) (by kernel_rfl) (.inl sp_6) (by simp [Tryz.f6]) ?_
 intro T hT
 simp -dsimp -implicitDefEqProofs (disch:=first|omega|assumption) [startSlots,nI,wI,al,hks,hr,hw,ho,hso,hkd,hln,hky,hcs,hsr,hvul,hflu,hcul,hvXl]
 generalize hz : loopT _ _ _ _ _ _ = z
 revert z
 refine loop_any (σ:=Nat) (fun i => [(5,.ptr 0 0),(7,.d (.int .u8 k)),(8,.arr 1 x.length),(9,.arr 2 b.length),(11,.ptr 3 0),(13,.arr 4 un),(14,.d (.int .i64 i))]) (fun i => [.box [.d (.int .u8 ak),.d (.int .i64 an),.d (.str as0)],.arr 3 (ce x) x.length,.arr 1 (bytes b) 0,.box [.d (.int .u8 k),.arr 5 un],.arr 3 cu un,.arr 1 vu un]) (fun i => i ≤ x.length) (fun i => x.length - i) 0 ?_ ?_ ?_
 ·exact Nat.zero_le _
 ·simp -dsimp -implicitDefEqProofs (disch:=first|omega|assumption)
 intro T' f hT' i hi ih
 by_cases h1 : i < x.length
 ·have q1 := hval i h1
  have q2 := hhi i h1
  rw [hin i h1] at q2
  have hcc := cel_cells x[i]
  rw [cel_d] at q1
  simp -dsimp -implicitDefEqProofs (disch:=first|omega|assumption) [nI,wI,h1,q1,q2,hcc]
  exact ih (i + 1) _ _ h1 (by omega) (by simp -dsimp -implicitDefEqProofs (disch:=first|omega|assumption))
 obtain rfl : i = x.length := by omega
 subst hT'
 clear ih hi h1 hin hval hhi hhas
 simp -dsimp -implicitDefEqProofs (disch:=first|omega|assumption) [nI,wI]
 generalize hz : loopT _ _ _ _ _ _ = z
 revert z
 refine loop_any (σ:=Nat × List Cel) (fun z => [(5,.ptr 0 0),(7,.d (.int .u8 k)),(8,.arr 1 x.length),(9,.arr 2 b.length),(11,.ptr 3 0),(13,.arr 4 un),(15,.arr 5 z.2.length),(16,.d (.int .i64 ((z.1 : Int) - 1)))]) (fun z => [.box [.d (.int .u8 ak),.d (.int .i64 an),.d (.str as0)],.arr 3 (ce x) x.length,.arr 1 (bytes b) 0,.box [.d (.int .u8 k),.arr 6 un],.arr 3 cu un,.arr 3 (ce z.2) 0,.arr 1 vu un]) (fun z => z.1 ≤ x.length ∧ z.2.length ≤ 512 ∧ z.2 = dblC (x.drop z.1).reverse) (fun z => z.1) (x.length,[]) ?_ ?_ ?_
 ·exact ⟨Nat.le_refl _,by simp,by simp [dblC]⟩
 ·simp -dsimp -implicitDefEqProofs (disch:=first|omega|assumption)
 intro T2 f2 hT2 ⟨j,td⟩ ⟨hj,htl,htd⟩ ih2
 simp only at hj htl htd ih2
 cases j with
 | succ m =>
  have e0 : ((m + 1 : Nat) : Int) - 1 = m := by omega
  have hm : m < x.length := by omega
  have hdr : x.drop m = x[m] :: x.drop (m + 1) := List.drop_eq_getElem_cons hm
  have hst : dblC (x.drop m).reverse = td ++ [x[m],x[m]] := by rw [hdr,List.reverse_cons,dblC_snoc,← htd]
  obtain ⟨⟨ck,cn,cs0⟩,hce⟩ : ∃ c,c = x[m] := ⟨_,rfl⟩
  have gx := hce.symm
  rw [← hce] at hst
  have hl2 : td.length + 2 ≤ 512 := by
   have h := congrArg List.length hst
   rw [dblC_length,List.length_reverse,List.length_drop,List.length_append] at h
   simp only [List.length_cons,List.length_nil] at h
   omega
  simp -dsimp -implicitDefEqProofs (disch:=first|omega|assumption) [nI,wI,e0,hm,gx,Cel.d]
  refine ih2 (m,td ++ [⟨ck,cn,cs0⟩,⟨ck,cn,cs0⟩]) _ _ ⟨by simp only; omega,by simp only [List.length_append,List.length_cons,List.length_nil]; omega,hst.symm⟩ (by simp only; omega) (by simp -dsimp -implicitDefEqProofs (disch:=first|omega|assumption) [Cel.d])
 | zero =>
  rw [List.drop_zero] at htd
  subst htd
  subst hT2
  generalize dblC x.reverse = td at *
  simp -dsimp -implicitDefEqProofs (disch:=first|omega|assumption) [nI,wI,hrt,hwt,hfx,hva,hha,hhr,hMb,hcul,hvtl]
  simpa -dsimp -implicitDefEqProofs (disch:=first|omega|assumption) [nI,wI] using hT
end Go.Am.Ab
