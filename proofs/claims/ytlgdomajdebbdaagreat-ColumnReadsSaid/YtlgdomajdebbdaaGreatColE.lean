/- Statements on columns. -/
import Derived.Test.YtlgdomajdebbdaaGreatColD
import Derived.Test.YtlgdomajdebbdaaGreatILaw1
set_option linter.all false
namespace Go.Am.Ab
open Go.Proofs
set_option maxHeartbeats 4000000
set_option maxRecDepth 4000
theorem byteOf_u8 (n : Int) : byteOf? (.int .u8 n) = some (UInt8.ofNat n.toNat) := rfl
theorem best77 : bestB [7,7] = [0,14,14] := by
 have h0 : encB 0 [7,7] = [14,14] := by simp [encB,plainB,putInt,zig,put_lt,u8n]
 have h1 : encB 1 [7,7] = [14,0] := by simp [encB,deltaB,deltas,plainB,putInt,zig,put_lt,wrap_i64,u8n]
 have h2 : encB 2 [7,7] = [14,2] := by simp [encB,runsB,runsF,cnt,putInt,zig,put_lt,u8n]
 have h3 : encB 3 [7,7] = [1,14] := by
  have hu : uniq [7,7] = [7] := by decide
  have hp : places [7] [7,7] = [0,0] := by decide
  have hw : width [0,0] = 0 := by decide
  simp [encB,dictB,hu,hp,hw,riseB,gaps,putInt,zig,put_lt,u8n,packed,packN,le]
 have h4 : encB 4 [7,7] = [14,0] := by
  have hm : minL [7,7] = 7 := by decide
  have hp : mores [7,7] = [0,0] := by decide
  have hw : width [0,0] = 0 := by decide
  simp [encB,packedB,hm,hp,hw,putInt,zig,put_lt,u8n,packed,packN,le]
 simp [bestB,bestTo,h0,h1,h2,h3,h4,u8n]
theorem best11 : bestB [1,1] = [0,2,2] := by
 have h0 : encB 0 [1,1] = [2,2] := by simp [encB,plainB,putInt,zig,put_lt,u8n]
 have h1 : encB 1 [1,1] = [2,0] := by simp [encB,deltaB,deltas,plainB,putInt,zig,put_lt,wrap_i64,u8n]
 have h2 : encB 2 [1,1] = [2,2] := by simp [encB,runsB,runsF,cnt,putInt,zig,put_lt,u8n]
 have h3 : encB 3 [1,1] = [1,2] := by
  have hu : uniq [1,1] = [1] := by decide
  have hp : places [1] [1,1] = [0,0] := by decide
  have hw : width [0,0] = 0 := by decide
  simp [encB,dictB,hu,hp,hw,riseB,gaps,putInt,zig,put_lt,u8n,packed,packN,le]
 have h4 : encB 4 [1,1] = [2,0] := by
  have hm : minL [1,1] = 1 := by decide
  have hp : mores [1,1] = [0,0] := by decide
  have hw : width [0,0] = 0 := by decide
  simp [encB,packedB,hm,hp,hw,putInt,zig,put_lt,u8n,packed,packN,le]
 simp [bestB,bestTo,h0,h1,h2,h3,h4,u8n]
theorem best00 : bestB [0,0] = [0,0,0] := by
 have h0 : encB 0 [0,0] = [0,0] := by simp [encB,plainB,putInt,zig,put_lt,u8n]
 have h1 : encB 1 [0,0] = [0,0] := by simp [encB,deltaB,deltas,plainB,putInt,zig,put_lt,wrap_i64,u8n]
 have h2 : encB 2 [0,0] = [0,2] := by simp [encB,runsB,runsF,cnt,putInt,zig,put_lt,u8n]
 have h3 : encB 3 [0,0] = [1,0] := by
  have hu : uniq [0,0] = [0] := by decide
  have hp : places [0] [0,0] = [0,0] := by decide
  have hw : width [0,0] = 0 := by decide
  simp [encB,dictB,hu,hp,hw,riseB,gaps,putInt,zig,put_lt,u8n,packed,packN,le]
 have h4 : encB 4 [0,0] = [0,0] := by
  have hm : minL [0,0] = 0 := by decide
  have hp : mores [0,0] = [0,0] := by decide
  have hw : width [0,0] = 0 := by decide
  simp [encB,packedB,hm,hp,hw,putInt,zig,put_lt,u8n,packed,packN,le]
 simp [bestB,bestTo,h0,h1,h2,h3,h4,u8n]
theorem best1 : bestB [1] = [0,2] := by
 have h0 : encB 0 [1] = [2] := by simp [encB,plainB,putInt,zig,put_lt,u8n]
 have h1 : encB 1 [1] = [2] := by simp [encB,deltaB,deltas,plainB,putInt,zig,put_lt,wrap_i64,u8n]
 have h2 : encB 2 [1] = [2,1] := by simp [encB,runsB,runsF,cnt,putInt,zig,put_lt,u8n]
 have h3 : encB 3 [1] = [1,2] := by
  have hu : uniq [1] = [1] := by decide
  have hp : places [1] [1] = [0] := by decide
  have hw : width [0] = 0 := by decide
  simp [encB,dictB,hu,hp,hw,riseB,gaps,putInt,zig,put_lt,u8n,packed,packN,le]
 have h4 : encB 4 [1] = [2,0] := by
  have hm : minL [1] = 1 := by decide
  have hp : mores [1] = [0] := by decide
  have hw : width [0] = 0 := by decide
  simp [encB,packedB,hm,hp,hw,putInt,zig,put_lt,u8n,packed,packN,le]
 simp [bestB,bestTo,h0,h1,h2,h3,h4,u8n]
def sA : ByteArray := ⟨#[97]⟩
theorem ex_c1 : colB 1 [.whole 7,.null,.whole 7] = [1,5,0,14,14] := by
 have hb : bestB (wholes [.whole 7,.null,.whole 7]) = [0,14,14] := best77
 have hf : flagsB (thereL [.whole 7,.null,.whole 7]) = [5] := by decide
 have hh : headB [.whole 7,.null,.whole 7] = [1,5] := by
  unfold headB
  rw [if_pos (by decide),hf]
 rw [colB,hh]
 show [1,5] ++ bestB (wholes [.whole 7,.null,.whole 7]) = _
 rw [hb]; rfl
theorem ex_c2 : colB 2 [.truth true,.truth false] = [0,1] := by
 have hf : flagsB (truths [.truth true,.truth false]) = [1] := by decide
 have hh : headB [.truth true,.truth false] = [0] := by
  unfold headB
  rw [if_neg (by decide)]
 rw [colB,hh]
 show [0] ++ flagsB (truths [.truth true,.truth false]) = _
 rw [hf]; rfl
theorem ex_c3 : colB 3 [.text sA,.text sA] = [0,0,3,0,2,2,97,97] := by
 have hh : headB [.text sA,.text sA] = [0] := by
  unfold headB
  rw [if_neg (by decide)]
 have h11 : bestB [1,1] = [0,2,2] := best11
 have h00 : bestB [0,0] = [0,0,0] := best00
 have hu : uniS [sA,sA] = [sA] := by simp [uniS,insS,lsS_irrefl]
 have hp : plainT [sA,sA] = [0,3,0,2,2,97,97] := by
  have hz : sizesL [sA,sA] = [1,1] := rfl
  have hf : flatT [sA,sA] 2 = [97,97] := rfl
  simp [plainT,textsB,hz,countedB,h11,hf,put_lt,u8n]
 have hl : 7 ≤ (listT [sA,sA]).length := by
  have hpl : placesS [sA,sA] = [0,0] := by simp [placesS,hu,ixS]
  have hz : sizesL [sA] = [1] := rfl
  have hfl : (flatT [sA] 1).length = 1 := rfl
  simp only [listT,hu,hpl,h00,textsB,countedB,hz,best1,List.length_append,List.length_cons,List.length_nil,hfl]
  omega
 have hw : wordsB [sA,sA] = [0,3,0,2,2,97,97] := by
  unfold wordsB
  rw [if_neg (by rw [hp]; simp only [List.length_cons,List.length_nil]; omega),hp]
 rw [colB,hh]
 show [0] ++ wordsB [sA,sA] = _
 rw [hw]; rfl
theorem alive06 : R 4 [] [] = some ([.d (.bool true)],[]) := by
 have g1 : Good 1 [.whole 7,.null,.whole 7] := by
  intro v hv
  simp at hv
  rcases hv with rfl | rfl | rfl
  ·exact .inr ⟨rfl,fun n e => (by cases e; unfold isI64; omega),fun s e => by cases e⟩
  ·exact .inl rfl
  ·exact .inr ⟨rfl,fun n e => (by cases e; unfold isI64; omega),fun s e => by cases e⟩
 have g2 : Good 2 [.truth true,.truth false] := by
  intro v hv
  simp at hv
  rcases hv with rfl | rfl
  all_goals exact .inr ⟨rfl,fun n e => (by cases e),fun s e => by cases e⟩
 have g3 : Good 3 [.text sA,.text sA] := by
  intro v hv
  simp at hv
  subst hv
  exact .inr ⟨rfl,fun n e => (by cases e),fun s e => by cases e; decide⟩
 have a := write_ok 1 (by decide) _ g1 (by decide)
 have b := write_ok 2 (by decide) _ g2 (by decide)
 have c := write_ok 3 (by decide) _ g3 (by decide)
 have d := top_back (by decide) g3 (by decide)
 rw [ex_c1] at a
 rw [ex_c2] at b
 rw [ex_c3] at c d
 have e := col_read_runs 3 (by decide) [0,0,3,0,2,2,97,97] 2 (by unfold isI64; omega) (by decide)
 rw [show (2 : Int) = (([Val.text sA,Val.text sA] : List Val).length : Int) from rfl,d] at e
 have f := cell_runs (.text sA)
 have a' : R 9 [.d (.int .u8 1),.d (.list [.iface 2 (.int .i64 7),.nilI,.iface 2 (.int .i64 7)])] [] = some ([.arr 0 5,.d (.int .i64 0)],[.arr 1 [.int .u8 1,.int .u8 5,.int .u8 0,.int .u8 14,.int .u8 14] 0]) := a
 have b' : R 9 [.d (.int .u8 2),.d (.list [.iface 4 (.bool true),.iface 4 (.bool false)])] [] = some ([.arr 0 2,.d (.int .i64 0)],[.arr 1 [.int .u8 0,.int .u8 1] 0]) := b
 have c' : R 9 [.d (.int .u8 3),.d (.list [.iface 9 (.str ⟨#[97]⟩),.iface 9 (.str ⟨#[97]⟩)])] [] = some ([.arr 0 8,.d (.int .i64 0)],[.arr 1 [.int .u8 0,.int .u8 0,.int .u8 3,.int .u8 0,.int .u8 2,.int .u8 2,.int .u8 97,.int .u8 97] 0]) := c
 have e' : R 5 [.d (.int .u8 3),.d (.list [.int .u8 0,.int .u8 0,.int .u8 3,.int .u8 0,.int .u8 2,.int .u8 2,.int .u8 97,.int .u8 97]),.d (.int .i64 2)] [] = some ([.arr 0 2,.d (.int .i64 0)],[.arr 1 [.iface 9 (.str ⟨#[97]⟩),.iface 9 (.str ⟨#[97]⟩)] 2]) := e
 have f' : R 10 [.d (.iface 9 (.str ⟨#[97]⟩))] [] = some ([.d (.agg [.int .u8 3,.int .i64 0,.str ⟨#[97]⟩])],[]) := f
 refine run_goal (rs := [.tmp 0]) (ts := [4]) Tryz.func4 (c := _) rfl rfl rfl (by kernel_rfl) (by kernel_rfl) (.inl sp_4) (by simp [Tryz.f4]) ?_
 intro T hT
 simp -dsimp -implicitDefEqProofs (disch:=first|omega|assumption) [startSlots,Int.natCast_inj,wrap_i64,a',b',c',e',f',byteOf_u8]
 simpa -dsimp -implicitDefEqProofs (disch:=first|omega|assumption) [Int.natCast_inj,wrap_i64] using hT
end Go.Am.Ab
namespace Go.Am.Ab
open Go.Proofs
set_option maxHeartbeats 4000000
set_option maxRecDepth 4000
theorem fix_same {c : Cel} (h : chk c = 0) : fix c = c := by rw [fix,if_pos h]
theorem valOf_good {k : Nat} (hk : 1 ≤ k ∧ k ≤ 3) {c : Cel} (h : chk c = 0) (hi : isI64 c.n) (hc : c = Cel.none ∨ c.kind = k) : goodV k (valOf c) := by
 rcases hc with rfl | hc
 ·exact .inl rfl
 ·obtain ⟨h1,h2,h3,h4,h5⟩ := chk_kind h
  unfold valOf
  rw [fix_same h]
  right
  split
  ·exact ⟨by simp only [Val.kind]; omega,fun n e => (by cases e; exact hi),fun s e => by cases e⟩
  ·split
   ·exact ⟨by simp only [Val.kind]; omega,fun n e => (by cases e),fun s e => by cases e⟩
   ·rw [if_pos (by omega)]
    exact ⟨by simp only [Val.kind]; omega,fun n e => (by cases e),fun s e => by cases e; exact h5⟩
theorem cell_back {c : Cel} (h : chk c = 0) : cellOf (valOf c) = c := by
 obtain ⟨h1,h2,h3,h4,h5⟩ := chk_kind h
 unfold valOf
 rw [fix_same h]
 obtain ⟨k,n,s⟩ := c
 simp only at h1 h2 h3 h4 h5 ⊢
 have hk : k = 0 ∨ k = 1 ∨ k = 2 ∨ k = 3 := by omega
 rcases hk with rfl | rfl | rfl | rfl
 ·rw [h2 (by decide),h3 (by decide) (by decide)]; rfl
 ·rw [h2 (by decide)]; rfl
 ·rw [h2 (by decide)]
  rcases h4 rfl with rfl | rfl <;> rfl
 ·have : chk ⟨3,n,s⟩ = 0 := h
  have hn : n = 0 := h3 (by decide) (by decide)
  rw [hn]; rfl
end Go.Am.Ab
