/- The statement that keys that are handed in stay as they were, and those that are told may be written over. -/
import Derived.Test.YtlgdomajdebbdaaGreatDoorKey11
set_option linter.all false
namespace Go.Am.Ab
open Go.Proofs
set_option maxHeartbeats 8000000
set_option maxRecDepth 4000
theorem keyfileOwn_runs (t : Bool) (l : List Cel) (hl : ∀ c ∈ l,c.kind < 256 ∧ isI64 c.n ∧ c.s.size ≤ 9223372036854775807) (hn : l.length ≤ 9223372036854775807) :
  R 5 [.d (.bool t),.d (.list (ce l))] [] = some ([.d (.bool true)],[]) := by
 have al := alive11
 have hl1 : ∀ c ∈ l,c.kind < 256 ∧ isI64 c.n := fun c hc => ⟨(hl c hc).1,(hl c hc).2.1⟩
 have hl2 : ∀ c ∈ l,c.kind < 256 ∧ c.s.size ≤ 9223372036854775807 := fun c hc => ⟨(hl c hc).1,(hl c hc).2.2⟩
 obtain ⟨k,hk,hks⟩ : ∃ k : Nat,(k = 1 ∨ k = 3) ∧ R 19 [.d (.bool t),.d (.list (ce l))] [] = some ([.d (.int .u8 k),.arr 0 (keysC k l).length],[.arr 3 (ce (keysC k l)) 0]) := by
  cases t with
  | false => exact ⟨1,.inl rfl,keys1_runs l hl2 hn⟩
  | true => exact ⟨3,.inr rfl,keys3_runs l hl2 hn⟩
 have hxl := keysC_length k l
 have hxs := keysC_small (k := k) hl1
 obtain ⟨g,hall,hb,hX⟩ := keysC_vals hk hl1
 have hr := row_runs (keysC k l) hxs (by omega)
 obtain ⟨hw,hwl⟩ := keys_write hk hl1
 obtain ⟨x,hx⟩ : ∃ x,x = keysC k l := ⟨_,rfl⟩
 rw [← hx] at hks hr hw hwl hb g hall hX hxl hxs
 obtain ⟨X,hXe⟩ : ∃ X,X = x.map valOf := ⟨_,rfl⟩
 rw [← hXe] at hr hw hwl hb g hall hX
 have hXl : X.length = x.length := by rw [hXe,List.length_map]
 have hris := uniV_rises X
 have hul := uniV_length X
 have gu := uniV_good g
 have hau : ∀ v ∈ uniV X,v.kind = k := fun v hv => hall v (uniV_mem.1 hv)
 have ho := kopen_runs (keyF k (uniV X)) hwl
 rw [openK_back hk gu hau hris (by omega)] at ho
 unfold KoR at ho
 simp only at ho
 have hcX := cells_runs X (by omega)
 rw [hb,hXl] at hcX
 have hsX := sameRow_runs x x (by omega)
 rw [decide_eq_true rfl] at hsX
 obtain ⟨w,hso⟩ := rsort_any x (by omega)
 have hsc : uniC x = (uniV X).map cellOf := by rw [← hb]; exact uniC_map X
 rw [hsc,List.length_map] at hso
 have hky := skeys_runs k (uniV X) (by omega)
 have hcs := cells_runs (uniV X) (by omega)
 have hsr := sameRow_runs ((uniV X).map cellOf) ((uniV X).map cellOf) (by simp; omega)
 rw [decide_eq_true rfl] at hsr
 have hvul : (vs (uniV X)).length = (uniV X).length := by simp
 have hflu : flatL (vs (uniV X)) = true := flatL_vs _
 have hcul : (ce ((uniV X).map cellOf)).length = (uniV X).length := by simp
 have hvXl : (vs X).length = x.length := by rw [← hXl]; simp
 have hunb : (uniV X).length ≤ 256 := by omega
 clear hb g hall hX gu hau hris hsc hXe hx hl hl1 hl2 hk hul
 generalize keyF k (uniV X) = b at *
 generalize vs (uniV X) = vu at *
 generalize ce ((uniV X).map cellOf) = cu at *
 generalize vs X = vX at *
 generalize hun : (uniV X).length = un at *
 clear hun
 refine run_goal (rs:=[.tmp 4]) (ts:=[4]) Tryz.func5 rfl rfl rfl (by kernel_rfl) (by kernel_rfl) (.inl sp_5) (by simp [Tryz.f5]) ?_
 intro T hT
 simp -dsimp -implicitDefEqProofs (disch:=first|omega|assumption) [startSlots,nI,wI,al,hks,hr,hw,ho,hcX,hsX,hky,hvul,hflu,hvXl]
 generalize hz : loopT _ _ _ _ _ _ = z
 revert z
 refine loop_any (σ:=Nat × List D) (fun z => [(6,.arr 0 x.length),(8,.arr 1 b.length),(10,.ptr 2 0),(12,.arr 3 un),(13,.d (.int .i64 z.1))]) (fun z => [.arr 3 (ce x) x.length,.arr 1 (bytes b) 0,.box [.d (.int .u8 k),.arr 4 un],.arr 1 z.2 0,.arr 1 vu un]) (fun z => z.1 ≤ un ∧ z.2.length = un) (fun z => un - z.1) (0,vu) ?_ ?_ ?_
 ·exact ⟨Nat.zero_le _,hvul⟩
 ·simp -dsimp -implicitDefEqProofs (disch:=first|omega|assumption)
 intro T' f hT' ⟨i,ki⟩ ⟨hi,hkl⟩ ih
 simp only at hi hkl ih
 by_cases h1 : i < un
 ·obtain ⟨d,hd⟩ : ∃ d,ki[i]? = some d := ⟨_,List.getElem?_eq_getElem (by omega)⟩
  simp -dsimp -implicitDefEqProofs (disch:=first|omega|assumption) [nI,wI,h1,hkl,hd]
  exact ih (i + 1,ki.set i .nilI) _ _ ⟨h1,by rw [List.length_set]; exact hkl⟩ (by simp only; omega) (by simp -dsimp -implicitDefEqProofs (disch:=first|omega|assumption))
 obtain rfl : i = un := by omega
 subst hT'
 clear ih hi h1
 simp -dsimp -implicitDefEqProofs (disch:=first|omega|assumption) [nI,wI,hkl]
 generalize hz : loopT _ _ _ _ _ _ = z
 revert z
 refine loop_any (σ:=Nat × List UInt8) (fun z => [(6,.arr 0 x.length),(8,.arr 1 b.length),(10,.ptr 2 0),(14,.d (.int .i64 z.1))]) (fun z => [.arr 3 (ce x) x.length,.arr 1 (bytes z.2) 0,.box [.d (.int .u8 k),.arr 3 i],.arr 1 vu i]) (fun z => z.1 ≤ b.length ∧ z.2.length = b.length) (fun z => b.length - z.1) (0,b) ?_ ?_ ?_
 ·exact ⟨Nat.zero_le _,rfl⟩
 ·simp -dsimp -implicitDefEqProofs (disch:=first|omega|assumption)
 intro T2 f2 hT2 ⟨j,bj⟩ ⟨hj,hbl⟩ ih2
 simp only at hj hbl ih2
 by_cases h2 : j < b.length
 ·have hjb : j < bj.length := by omega
  have hset : (List.map byteD bj).set j (.int .u8 (((bj[j].toNat : Int) + 1) % 256)) = List.map byteD (bj.set j (bj[j] + 1)) := by
   rw [List.map_set]
   congr 1
  simp -dsimp -implicitDefEqProofs (disch:=first|omega|assumption) [nI,wI,h2,hjb,hbl,hset,-List.map_set]
  exact ih2 (j + 1,bj.set j (bj[j] + 1)) _ _ ⟨h2,by rw [List.length_set]; exact hbl⟩ (by simp only; omega) (by simp -dsimp -implicitDefEqProofs (disch:=first|omega|assumption) [-List.map_set])
 obtain rfl : j = b.length := by omega
 subst hT2
 simp -dsimp -implicitDefEqProofs (disch:=first|omega|assumption) [nI,wI,hky,hcs,hso,hsr,hvul,hcul]
 simpa -dsimp -implicitDefEqProofs (disch:=first|omega|assumption) [nI,wI] using hT
end Go.Am.Ab
