/- Lists of the document. -/
import Derived.Test.YtlgdomajdebbdaaGreatDoorIntsB
set_option linter.all false
namespace Go.Am.Ab
open Go.Proofs
set_option maxHeartbeats 4000000
def insG (x : Int) : Bool → List Int → List Int
 | done,[] => if done then [] else [x]
 | done,y :: r => if y = x then y :: insG x true r else if done then y :: insG x true r else if x < y then x :: y :: insG x true r else y :: insG x false r
theorem insG_true (x : Int) : ∀ l,insG x true l = l
 | [] => rfl
 | y :: r => by simp [insG,insG_true x r]
theorem insG_false (x : Int) : ∀ l,insG x false l = ins x l
 | [] => rfl
 | y :: r => by
  simp only [insG,ins,insG_true,insG_false x r,Bool.false_eq_true,if_false]
  by_cases h1 : y = x
  ·subst h1; simp
  ·have h2 : ¬ x = y := fun e => h1 e.symm
   simp [h1,h2]
theorem insG_step {x : Int} {u : List Int} {k : Nat} (h : k < u.length) (done : Bool) : insG x done (u.drop k) = (if at' u k = x then [at' u k] else if done then [at' u k] else if x < at' u k then [x,at' u k] else [at' u k]) ++ insG x (done || decide (x = at' u k) || decide (x < at' u k)) (u.drop (k + 1)) := by
 rw [List.drop_eq_getElem_cons h,get_at h,insG]
 by_cases h1 : at' u k = x
 ·have h2 : x = at' u k := h1.symm
  rw [if_pos h1,if_pos h1,decide_eq_true h2]; simp
 ·have h2 : ¬ x = at' u k := fun e => h1 e.symm
  rw [if_neg h1,if_neg h1,decide_eq_false h2]
  cases done with
  | true => simp
  | false =>
   by_cases h3 : x < at' u k
   ·simp [h3]
   ·simp [h3]
theorem runlike_runs (l : List Int) (hn : l.length ≤ 256) : R 224 [.d (ints l)] [] = some ([.arr 0 (uniq l).length],[.arr 1 (cs (uniq l)) 0]) := by
 have hsnoc : ∀ i,i < l.length → uniq (l.take (i + 1)) = ins (at' l i) (uniq (l.take i)) := fun i hi => by
  unfold uniq
  rw [take_snoc hi,List.foldl_append,get_at hi]; rfl
 refine run_goal (rs:=[.tmp 2]) (ts:=[179]) Tryz.func224 rfl rfl rfl (by kernel_rfl) (by kernel_rfl) (.inl sp_224) (by simp [Tryz.f224]) ?_
 intro T hT
 simp -dsimp -implicitDefEqProofs (disch:=first|omega|assumption) [startSlots,nI,wI]
 generalize hz : loopT _ _ _ _ _ _ = z
 revert z
 refine loop_any (σ:=Nat) (fun i => [(0,.d (ints l)),(3,.arr 0 (uniq (l.take i)).length),(4,.d (.int .i64 i))]) (fun i => [.arr 1 (cs (uniq (l.take i))) 0]) (fun i => i ≤ l.length) (fun i => l.length - i) 0 ?_ ?_ ?_
 ·simp
 ·simp -dsimp -implicitDefEqProofs (disch:=first|omega|assumption) [uniq]
 intro T' f hT' i hi ih
 by_cases h1 : i < l.length
 ·have gi := get_at h1
  have hun := uniq_length_le (l.take i)
  rw [List.length_take] at hun
  have hins := ins_length (at' l i) (uniq (l.take i))
  rw [← hsnoc i h1] at hins
  obtain ⟨u,hu⟩ : ∃ u,u = uniq (l.take i) := ⟨_,rfl⟩
  obtain ⟨x,hx⟩ : ∃ x,x = at' l i := ⟨_,rfl⟩
  have hs := hsnoc i h1
  rw [← hu,← hx] at hs
  rw [← hu] at hun hins
  rw [← hx] at gi
  rw [← hu]
  simp -dsimp -implicitDefEqProofs (disch:=first|omega|assumption) [nI,wI,h1,gi]
  generalize hz : loopT _ _ _ _ _ _ = z
  revert z
  refine loop_any (σ:=Nat × Bool × List Int) (fun y => [(0,.d (ints l)),(3,.arr 0 u.length),(4,.d (.int .i64 i)),(5,.arr 1 y.2.2.length),(6,.d (.bool y.2.1)),(7,.d (.int .i64 y.1))]) (fun y => [.arr 1 (cs u) 0,.arr 1 (cs y.2.2) 0]) (fun y => y.1 ≤ u.length ∧ y.2.2.length ≤ 2 * y.1 ∧ y.2.2 ++ insG x y.2.1 (u.drop y.1) = uniq (l.take (i + 1))) (fun y => u.length - y.1) (0,false,[]) ?_ ?_ ?_
  ·refine ⟨Nat.zero_le _,Nat.le_refl _, ?_⟩
   simp only [List.nil_append,List.drop_zero]
   rw [insG_false,hs]
  ·simp -dsimp -implicitDefEqProofs (disch:=first|omega|assumption)
  intro T2 f2 hT2 ⟨k,done,nx⟩ ⟨k1,k2,k3⟩ ih2
  simp only at k1 k2 k3 ih2
  by_cases h2 : k < u.length
  ·have gk := get_at h2
   have hst := insG_step (x := x) h2 done
   rw [hst,← List.append_assoc] at k3
   have nd : u.drop (k + 1) = u.drop (k + 1) := rfl
   have fin : ∀ (d2 : Bool) (n2 : List Int),n2 = nx ++ (if at' u k = x then [at' u k] else if done then [at' u k] else if x < at' u k then [x,at' u k] else [at' u k]) → d2 = (done || decide (x = at' u k) || decide (x < at' u k)) → (k + 1 ≤ u.length ∧ n2.length ≤ 2 * (k + 1) ∧ n2 ++ insG x d2 (u.drop (k + 1)) = uniq (l.take (i + 1))) := by
    intro d2 n2 e1 e2
    refine ⟨h2, ?_,by rw [e1,e2]; exact k3⟩
    rw [e1,List.length_append]
    have : (if at' u k = x then [at' u k] else if done then [at' u k] else if x < at' u k then [x,at' u k] else [at' u k]).length ≤ 2 := by split <;> (try split) <;> (try split) <;> simp
    omega
   by_cases c1 : at' u k = x
   ·have c1' : x = at' u k := c1.symm
    simp -dsimp -implicitDefEqProofs (disch:=first|omega|assumption) [nI,wI,h1,h2,gi,gk,c1]
    refine ih2 (k + 1,true,nx ++ [x]) _ _ (fin _ _ (by rw [if_pos c1,c1]) (by rw [decide_eq_true c1']; simp)) (by simp only; omega) ?_
    simp -dsimp -implicitDefEqProofs (disch:=first|omega|assumption) [c1]
   ·have c1' : ¬ x = at' u k := fun e => c1 e.symm
    cases done with
    | true =>
     simp -dsimp -implicitDefEqProofs (disch:=first|omega|assumption) [nI,wI,h1,h2,gi,gk,c1]
     refine ih2 (k + 1,true,nx ++ [at' u k]) _ _ (fin _ _ (by rw [if_neg c1]; rfl) (by simp)) (by simp only; omega) ?_
     simp -dsimp -implicitDefEqProofs (disch:=first|omega|assumption) [c1]
    | false =>
     by_cases c2 : x < at' u k
     ·simp -dsimp -implicitDefEqProofs (disch:=first|omega|assumption) [nI,wI,h1,h2,gi,gk,c1,c2]
      refine ih2 (k + 1,true,nx ++ [x,at' u k]) _ _ (fin _ _ (by rw [if_neg c1,if_neg (by simp),if_pos c2]) (by simp [c2])) (by simp only; omega) ?_
      simp -dsimp -implicitDefEqProofs (disch:=first|omega|assumption) [c1]
     ·simp -dsimp -implicitDefEqProofs (disch:=first|omega|assumption) [nI,wI,h1,h2,gi,gk,c1,c2]
      refine ih2 (k + 1,false,nx ++ [at' u k]) _ _ (fin _ _ (by rw [if_neg c1,if_neg (by simp),if_neg c2]) (by simp [c2,c1'])) (by simp only; omega) ?_
      simp -dsimp -implicitDefEqProofs (disch:=first|omega|assumption) [c1]
  ·have h2' : k = u.length := by omega
   rw [List.drop_of_length_le (by omega)] at k3
   have hnl : (uniq (l.take (i + 1))).length ≤ 257 := by omega
   subst hT2
   cases done with
   | true =>
    have k4 : nx = uniq (l.take (i + 1)) := by rw [← k3]; simp [insG]
    simp -dsimp -implicitDefEqProofs (disch:=first|omega|assumption) [nI,wI,h1,h2,gi]
    refine ih (i + 1) _ _ h1 (by omega) ?_
    rw [← k4]
    simp -dsimp -implicitDefEqProofs (disch:=first|omega|assumption)
   | false =>
    have k4 : nx ++ [x] = uniq (l.take (i + 1)) := by rw [← k3]; simp [insG]
    simp -dsimp -implicitDefEqProofs (disch:=first|omega|assumption) [nI,wI,h1,h2,gi]
    refine ih (i + 1) _ _ h1 (by omega) ?_
    rw [← k4]
    simp -dsimp -implicitDefEqProofs (disch:=first|omega|assumption)
 ·have hil : i = l.length := by omega
  rw [List.take_of_length_le (by omega)]
  subst hT'
  simp -dsimp -implicitDefEqProofs (disch:=first|omega|assumption) [nI,wI,h1]
  simpa -dsimp -implicitDefEqProofs (disch:=first|omega|assumption) [nI,wI] using hT
theorem place_runs (u : List Int) (n : Int) (hu : u.length ≤ 256) (hr : Rises u) (hm : n ∈ u) : R 225 [.d (ints u),.d (.int .i64 n)] [] = some ([.d (.int .u64 (idx u n))],[]) := by
 have hk := idx_lt hm
 have ha := at_idx hm
 have hur := rises_iff.1 hr
 obtain ⟨k,hkk⟩ : ∃ k,k = idx u n := ⟨_,rfl⟩
 rw [← hkk] at hk ha ⊢
 refine run_goal (rs:=[.tmp 4]) (ts:=[113]) Tryz.func225 rfl rfl rfl (by kernel_rfl) (by kernel_rfl) (.inl sp_225) (by simp [Tryz.f225]) ?_
 intro T hT
 simp -dsimp -implicitDefEqProofs (disch:=first|omega|assumption) [startSlots,nI,wI]
 generalize hz : loopT _ _ _ _ _ _ = z
 revert z
 refine loop_any (σ:=Nat) (fun i => [(0,.d (ints u)),(1,.d (.int .i64 n)),(5,.d (.int .i64 i))]) (fun i => []) (fun i => i ≤ k) (fun i => k - i) 0 ?_ ?_ ?_
 ·simp
 ·simp -dsimp -implicitDefEqProofs (disch:=first|omega|assumption)
 intro T' f hT' i hi ih
 have hiu : i < u.length := by omega
 have gi := get_at hiu
 by_cases h1 : i = k
 ·have gk := get_at hk
  have hw : IntKind.u64.wrap (k : Int) = k := wrap_u64 (by omega) (by omega)
  subst hT'
  rw [h1]
  simp -dsimp -implicitDefEqProofs (disch:=first|omega|assumption) [nI,wI,hk,gk,ha,hw]
  simpa -dsimp -implicitDefEqProofs (disch:=first|omega|assumption) [nI,wI,hw] using hT
 ·have h2 : ¬ at' u i = n := by
   have := hur i k (by omega) hk
   omega
  simp -dsimp -implicitDefEqProofs (disch:=first|omega|assumption) [nI,wI,hiu,gi,h2]
  exact ih (i + 1) _ _ (by omega) (by omega) (by simp -dsimp -implicitDefEqProofs (disch:=first|omega|assumption))
end Go.Am.Ab
namespace Go.Am.Ab
open Go.Proofs
set_option maxHeartbeats 4000000
theorem renc0 (l : List Int) (hl : ∀ n ∈ l,isI64 n) (hn : l.length ≤ 256) : R 187 [.d (.int .i64 0),.d (ints l)] [] = some ([.arr 0 (plainB l).length,.d (.bool true)],[.arr 1 (bytes (plainB l)) 0]) := by
 have h6 : ¬ (256 : Int) < l.length := by omega
 have h6' : ¬ 256 < l.length := by omega
 refine run_goal (rs:=[.tmp 4,.tmp 5]) (ts:=[24,4]) Tryz.func187 rfl rfl rfl (by kernel_rfl) (by kernel_rfl) (.inl sp_187) (by simp [Tryz.f187]) ?_
 intro T hT
 simp -dsimp -implicitDefEqProofs (disch:=first|omega|assumption) [startSlots,nI,wI,h6,h6']
 generalize hz : loopT _ _ _ _ _ _ = z
 revert z
 refine loop_any (σ:=Nat) (fun i => [(1,.d (ints l)),(6,.arr 0 (plainB (l.take i)).length),(7,.d (.int .i64 i))]) (fun i => [.arr 1 (bytes (plainB (l.take i))) 0]) (fun i => i ≤ l.length) (fun i => l.length - i) 0 ?_ ?_ ?_
 ·simp
 ·simp -dsimp -implicitDefEqProofs (disch:=first|omega|assumption) [plainB]
 intro T' f hT' i hi ih
 by_cases h1 : i < l.length
 ·have hb := hl l[i] (by simp)
  have hp := rputInt_runs l[i] hb.1 hb.2
  have hlen := putInt_len hb
  have hlen2 := plainB_len (l := l.take i) fun n h => hl n (List.mem_of_mem_take h)
  rw [List.length_take] at hlen2
  simp -dsimp -implicitDefEqProofs (disch:=first|omega|assumption) [nI,wI,h1,hp]
  refine ih (i + 1) _ _ h1 (by omega) ?_
  rw [take_snoc h1,plainB_snoc]
  simp -dsimp -implicitDefEqProofs (disch:=first|omega|assumption)
 ·rw [List.take_of_length_le (by omega)]
  subst hT'
  simp -dsimp -implicitDefEqProofs (disch:=first|omega|assumption) [nI,wI,h1]
  simpa -dsimp -implicitDefEqProofs (disch:=first|omega|assumption) [nI,wI] using hT
theorem deltas_snoc (x : Int) : ∀ (l : List Int) (a : Int),deltas a (l ++ [x]) = deltas a l ++ [IntKind.i64.wrap (x - l.getLastD a)]
 | [],a => by simp [deltas]
 | y :: r,a => by rw [List.cons_append,deltas,deltas_snoc x r y,deltas,List.cons_append,List.getLastD_cons]
theorem deltaB_take {l : List Int} {i : Nat} (h : i < l.length) : deltaB (l.take (i + 1)) = deltaB (l.take i) ++ putInt (IntKind.i64.wrap (at' l i - if i = 0 then 0 else at' l (i - 1))) := by
 unfold deltaB
 rw [take_snoc h,deltas_snoc,plainB_snoc,get_at h]
 congr 3
 cases i with
 | zero => simp
 | succ j =>
  rw [if_neg (by omega),take_snoc (by omega),get_at]
  simp
theorem renc1 (l : List Int) (hl : ∀ n ∈ l,isI64 n) (hn : l.length ≤ 256) : R 187 [.d (.int .i64 1),.d (ints l)] [] = some ([.arr 0 (deltaB l).length,.d (.bool true)],[.arr 1 (bytes (deltaB l)) 0]) := by
 have h6 : ¬ (256 : Int) < l.length := by omega
 have h6' : ¬ 256 < l.length := by omega
 refine run_goal (rs:=[.tmp 4,.tmp 5]) (ts:=[24,4]) Tryz.func187 rfl rfl rfl (by kernel_rfl) (by kernel_rfl) (.inl sp_187) (by simp [Tryz.f187]) ?_
 intro T hT
 simp -dsimp -implicitDefEqProofs (disch:=first|omega|assumption) [startSlots,nI,wI,h6,h6']
 generalize hz : loopT _ _ _ _ _ _ = z
 revert z
 refine loop_any (σ:=Nat) (fun i => [(1,.d (ints l)),(6,.arr 0 (deltaB (l.take i)).length),(8,.d (.int .i64 i))]) (fun i => [.arr 1 (bytes (deltaB (l.take i))) 0]) (fun i => i ≤ l.length) (fun i => l.length - i) 0 ?_ ?_ ?_
 ·simp
 ·simp -dsimp -implicitDefEqProofs (disch:=first|omega|assumption) [deltaB,deltas,plainB]
 intro T' f hT' i hi ih
 by_cases h1 : i < l.length
 ·have gi := get_at h1
  have hb : isI64 (at' l i) := by rw [← gi]; exact hl _ (List.getElem_mem _)
  have hlen2 := deltaB_len (l.take i)
  rw [List.length_take] at hlen2
  have hs := deltaB_take h1
  by_cases h0 : i = 0
  ·subst h0
   have hwr : IntKind.i64.wrap (at' l 0 - 0) = at' l 0 := by unfold isI64 at hb; rw [wI (by omega) (by omega)]; omega
   rw [if_pos rfl,hwr] at hs
   have hp := rputInt_runs (at' l 0) hb.1 hb.2
   have hlen := putInt_len hb
   have hd0 : deltaB [] = [] := rfl
   simp -dsimp -implicitDefEqProofs (disch:=first|omega|assumption) [nI,wI,h1,gi,hp,hd0]
   refine ih (0 + 1) _ _ h1 (by omega) ?_
   rw [hs]
   simp -dsimp -implicitDefEqProofs (disch:=first|omega|assumption) [hd0]
  ·obtain ⟨w,hw⟩ : ∃ w,i = w + 1 := ⟨i - 1,by omega⟩
   have q0 : (i : Int) - 1 = w := by omega
   have hwl : w < l.length := by omega
   have gw := get_at hwl
   have hbw : isI64 (at' l w) := by rw [← gw]; exact hl _ (List.getElem_mem _)
   rw [if_neg h0,show i - 1 = w by omega] at hs
   obtain ⟨v,hv⟩ : ∃ v,v = IntKind.i64.wrap (at' l i - at' l w) := ⟨_,rfl⟩
   rw [← hv] at hs
   have hvi : isI64 v := by rw [hv]; exact wrap_is _
   have hp := rputInt_runs v hvi.1 hvi.2
   have hlen := putInt_len hvi
   have hsub : IntKind.i64.wrap (IntKind.u64.wrap (IntKind.u64.wrap (at' l i) - IntKind.u64.wrap (at' l w))) = v := by
    rw [hv,wrap_mod_u64,wrap_mod_u64,wrap_mod_u64,wrap_mod_i64,wrap_mod_i64]
    have e : ((at' l i % 18446744073709551616 - at' l w % 18446744073709551616) % 18446744073709551616) % 18446744073709551616 = (at' l i - at' l w) % 18446744073709551616 := by omega
    rw [e]
   have h0' : ¬ (i : Int) = 0 := by omega
   simp -dsimp -implicitDefEqProofs (disch:=first|omega|assumption) [nI,wI,h1,gi,gw,hwl,h0,h0',q0,hsub,hp]
   refine ih (i + 1) _ _ h1 (by omega) ?_
   rw [hs]
   simp -dsimp -implicitDefEqProofs (disch:=first|omega|assumption)
 ·rw [List.take_of_length_le (by omega)]
  subst hT'
  simp -dsimp -implicitDefEqProofs (disch:=first|omega|assumption) [nI,wI,h1]
  simpa -dsimp -implicitDefEqProofs (disch:=first|omega|assumption) [nI,wI] using hT
theorem cnt_rep (x : Int) (r : List Int) (h : r.head? ≠ some x) : ∀ k,cnt x (List.replicate k x ++ r) = k
 | 0 => by
  cases r with
  | nil => rfl
  | cons y r =>
   have : ¬ y = x := fun e => h (by simp [e])
   simp [cnt,this]
 | k + 1 => by rw [List.replicate_succ,List.cons_append,cnt,if_pos rfl,cnt_rep x r h k]
theorem runsB_rep (x : Int) (r : List Int) (k : Nat) (h : r.head? ≠ some x) : runsB (List.replicate (k + 1) x ++ r) = putInt x ++ (put (k + 1) ++ runsB r) := by
 rw [runsB_cons (x := x) (r := List.replicate k x ++ r) (by rw [List.replicate_succ]; rfl),cnt_rep x r h,List.drop_left' (by simp)]
theorem head_drop {l : List Int} {i : Nat} (h : i < l.length) : (l.drop i).head? = some (at' l i) := by
 rw [List.drop_eq_getElem_cons h,get_at h]; rfl
theorem rep_drop {l : List Int} {i k : Nat} (h : i < l.length) : List.replicate k (at' l i) ++ l.drop i = List.replicate (k + 1) (at' l i) ++ l.drop (i + 1) := by
 rw [List.drop_eq_getElem_cons h,get_at h,List.replicate_succ',List.append_assoc]; rfl
theorem renc2 (l : List Int) (hl : ∀ n ∈ l,isI64 n) (hn : l.length ≤ 256) : R 187 [.d (.int .i64 2),.d (ints l)] [] = some ([.arr 0 (runsB l).length,.d (.bool true)],[.arr 1 (bytes (runsB l)) 0]) := by
 have h6 : ¬ (256 : Int) < l.length := by omega
 have h6' : ¬ 256 < l.length := by omega
 have hbnd := runsF_len l.length l hl (by omega) (Nat.le_refl _)
 rw [show runsF l.length l = runsB l from rfl] at hbnd
 refine run_goal (rs:=[.tmp 4,.tmp 5]) (ts:=[24,4]) Tryz.func187 rfl rfl rfl (by kernel_rfl) (by kernel_rfl) (.inl sp_187) (by simp [Tryz.f187]) ?_
 intro T hT
 simp -dsimp -implicitDefEqProofs (disch:=first|omega|assumption) [startSlots,nI,wI,h6,h6']
 generalize hz : loopT _ _ _ _ _ _ = z
 revert z
 refine loop_any (σ:=Nat × Nat × List UInt8) (fun x => [(1,.d (ints l)),(6,.arr 0 x.2.2.length),(9,.d (.int .i64 x.2.1)),(10,.d (.int .i64 x.1))]) (fun x => [.arr 1 (bytes x.2.2) 0]) (fun x => x.1 ≤ l.length ∧ x.2.1 ≤ x.1 ∧ (0 < x.2.1 → x.1 < l.length) ∧ x.2.2 ++ runsB (List.replicate x.2.1 (at' l x.1) ++ l.drop x.1) = runsB l) (fun x => l.length - x.1) (0,0,[]) ?_ ?_ ?_
 ·exact ⟨Nat.zero_le _,Nat.le_refl _,fun h => by simp only at h; omega,by simp⟩
 ·simp -dsimp -implicitDefEqProofs (disch:=first|omega|assumption)
 intro T' f hT' ⟨i,c,b⟩ ⟨hi,hc,hc2,hb⟩ ih
 simp only at hi hc hc2 hb ih
 by_cases h1 : i < l.length
 ·have gi := get_at h1
  have hbi : isI64 (at' l i) := by rw [← gi]; exact hl _ (List.getElem_mem _)
  have hp := rputInt_runs (at' l i) hbi.1 hbi.2
  have hlen := putInt_len hbi
  have hp2 := rput_runs (c + 1) (by omega)
  have hlen2 := put_len (n := c + 1) (by omega)
  have hc1 : ((c + 1 : Nat) : Int) = (c : Int) + 1 := by omega
  rw [hc1] at hp2
  have hw : IntKind.u64.wrap ((c : Int) + 1) = (c : Int) + 1 := wrap_u64 (by omega) (by omega)
  rw [rep_drop h1] at hb
  have emit : (l.drop (i + 1)).head? ≠ some (at' l i) → (b ++ (putInt (at' l i) ++ put (c + 1))) ++ runsB (List.replicate 0 (at' l (i + 1)) ++ l.drop (i + 1)) = runsB l := by
   intro h
   rw [← hb,runsB_rep _ _ _ h]; simp
  have hbl : b.length ≤ (runsB l).length := by rw [← hb]; simp
  by_cases h2 : i + 1 = l.length
  ·have h2' : (l.length : Int) - 1 = i := by omega
   have he := emit (by rw [List.drop_of_length_le (by omega)]; simp)
   simp -dsimp -implicitDefEqProofs (disch:=first|omega|assumption) [nI,wI,h1,gi,h2',hp,hp2,hw]
   refine ih (i + 1,0,b ++ (putInt (at' l i) ++ put (c + 1))) _ _ ⟨h1,Nat.zero_le _,fun h => by simp only at h; omega,he⟩ (by simp only; omega) ?_
   simp -dsimp -implicitDefEqProofs (disch:=first|omega|assumption) [h2',Nat.add_assoc]
  ·have h2' : ¬ (i : Int) = (l.length : Int) - 1 := by omega
   have h3 : i + 1 < l.length := by omega
   have gj := get_at h3
   by_cases h4 : at' l (i + 1) = at' l i
   ·simp -dsimp -implicitDefEqProofs (disch:=first|omega|assumption) [nI,wI,h1,gi,h2',h3,gj,h4]
    refine ih (i + 1,c + 1,b) _ _ ⟨h1,by simp only; omega,fun _ => h3,by simp only; rw [h4]; exact hb⟩ (by simp only; omega) ?_
    simp -dsimp -implicitDefEqProofs (disch:=first|omega|assumption)
   ·have he := emit (by rw [head_drop h3]; intro e; exact h4 (Option.some.inj e))
    simp -dsimp -implicitDefEqProofs (disch:=first|omega|assumption) [nI,wI,h1,gi,h2',h3,gj,h4,hp,hp2,hw]
    refine ih (i + 1,0,b ++ (putInt (at' l i) ++ put (c + 1))) _ _ ⟨h1,Nat.zero_le _,fun h => by simp only at h; omega,he⟩ (by simp only; omega) ?_
    simp -dsimp -implicitDefEqProofs (disch:=first|omega|assumption) [Nat.add_assoc]
 ·have hc0 : c = 0 := by omega
  have hbb : b = runsB l := by
   rw [← hb,hc0,List.drop_of_length_le (by omega)]
   simp [runsB,runsF]
  rw [hbb]
  subst hT'
  simp -dsimp -implicitDefEqProofs (disch:=first|omega|assumption) [nI,wI,h1]
  simpa -dsimp -implicitDefEqProofs (disch:=first|omega|assumption) [nI,wI] using hT
end Go.Am.Ab
namespace Go.Am.Ab
open Go.Proofs
set_option maxHeartbeats 4000000
theorem renc3 (l : List Int) (hl : ∀ n ∈ l,isI64 n) (hn : l.length ≤ 256) : R 187 [.d (.int .i64 3),.d (ints l)] [] = some ([.arr 0 (dictB l).length,.d (.bool true)],[.arr 1 (bytes (dictB l)) 0]) := by
 have h6 : ¬ (256 : Int) < l.length := by omega
 have h6' : ¬ 256 < l.length := by omega
 have hun := runlike_runs l hn
 have hul : (uniq l).length ≤ 256 := by have := uniq_length_le l; omega
 have hui : ∀ n ∈ uniq l,isI64 n := fun n h => hl n (uniq_mem.1 h)
 have hrs := uniq_rises l
 have hur := rises_iff.1 hrs
 have hum : ∀ n ∈ l,n ∈ uniq l := fun n h => uniq_mem.2 h
 have hpm := places_lt hn
 have hpl : (places (uniq l) l).length = l.length := by simp [places]
 have hpw := width_le64 hpm
 have hwr := rwidth_runs (places (uniq l) l) hpm (by omega)
 have hpk := rpack_yes (places (uniq l) l) (width (places (uniq l) l)) hpm hpw (by omega) (Nat.le_refl _)
 have hplen := packed_len hpw (by omega : (places (uniq l) l).length ≤ 256)
 rw [show dictB l = put (uniq l).length ++ (riseB (uniq l) ++ packed (width (places (uniq l) l)) (places (uniq l) l)) from rfl]
 obtain ⟨u,hu⟩ : ∃ u,u = uniq l := ⟨_,rfl⟩
 rw [← hu] at hun hul hui hrs hur hum hpm hpl hpw hwr hpk hplen ⊢
 clear hpm hu
 have hput := rput_runs u.length (by omega)
 have hputl := put_len (n := u.length) (by omega)
 have hbi := riseB_len hui
 obtain ⟨wd,hwd⟩ : ∃ wd,wd = width (places u l) := ⟨_,rfl⟩
 rw [← hwd] at hpw hwr hpk hplen ⊢
 obtain ⟨pk,hpkd⟩ : ∃ pk,pk = packed wd (places u l) := ⟨_,rfl⟩
 rw [← hpkd] at hpk hplen ⊢
 have hw0 : IntKind.u64.wrap (u.length : Int) = u.length := wrap_u64 (by omega) (by omega)
 refine run_goal (rs:=[.tmp 4,.tmp 5]) (ts:=[24,4]) Tryz.func187 rfl rfl rfl (by kernel_rfl) (by kernel_rfl) (.inl sp_187) (by simp [Tryz.f187]) ?_
 intro T hT
 simp -dsimp -implicitDefEqProofs (disch:=first|omega|assumption) [startSlots,nI,wI,h6,h6',hun,hput,hw0]
 generalize hz : loopT _ _ _ _ _ _ = z
 revert z
 refine loop_any (σ:=Nat) (fun i => [(1,.d (ints l)),(6,.arr 0 (put u.length ++ riseB (u.take i)).length),(11,.arr 1 u.length),(12,.arr 2 0),(13,.d (.int .i64 i))]) (fun i => [.arr 1 (bytes (put u.length ++ riseB (u.take i))) 0,.arr 1 (cs u) 0,.arr 1 [] 0]) (fun i => i ≤ u.length) (fun i => u.length - i) 0 ?_ ?_ ?_
 ·simp
 ·simp -dsimp -implicitDefEqProofs (disch:=first|omega|assumption) [riseB]
 intro T' f hT' i hi ih
 by_cases h1 : i < u.length
 ·have hbt := riseB_len (l := u.take i) fun n h => hui n (List.mem_of_mem_take h)
  rw [List.length_take] at hbt
  have gi' := get_at h1
  have hri := riseB_take h1
  have hii : isI64 (at' u i) := by rw [← get_at h1]; exact hui _ (List.getElem_mem _)
  by_cases h0 : i = 0
  ·subst h0
   have hr0 : riseB [] = [] := rfl
   have hp := rputInt_runs (at' u 0) hii.1 hii.2
   have hlen := putInt_len hii
   rw [if_pos rfl] at hri
   simp -dsimp -implicitDefEqProofs (disch:=first|omega|assumption) [nI,wI,h1,gi',hp,hr0]
   refine ih (0 + 1) _ _ h1 (by omega) ?_
   rw [hri]
   simp -dsimp -implicitDefEqProofs (disch:=first|omega|assumption) [riseB,Nat.add_assoc]
  ·obtain ⟨w,hw⟩ : ∃ w,i = w + 1 := ⟨i - 1,by omega⟩
   have q0 : (i : Int) - 1 = w := by omega
   have hwl : w < u.length := by omega
   have gw' := get_at hwl
   have hjj : isI64 (at' u w) := by rw [← get_at hwl]; exact hui _ (List.getElem_mem _)
   rw [if_neg h0,show i - 1 = w by omega] at hri
   have hlt := hur w i (by omega) h1
   unfold isI64 at hii hjj
   obtain ⟨v,hv⟩ : ∃ v : Nat,(v : Int) = at' u i - at' u w := ⟨(at' u i - at' u w).toNat,by omega⟩
   have hvv : (at' u i - at' u w).toNat = v := by omega
   rw [hvv] at hri
   have hp := rput_runs v (by omega)
   have hlen := put_len (n := v) (by omega)
   have hsub : IntKind.u64.wrap (IntKind.u64.wrap (at' u i) - IntKind.u64.wrap (at' u w)) = v := by rw [wrap_mod_u64,wrap_mod_u64,wrap_mod_u64]; omega
   have h0' : ¬ (i : Int) = 0 := by omega
   simp -dsimp -implicitDefEqProofs (disch:=first|omega|assumption) [nI,wI,h1,gi',gw',hwl,h0,h0',q0,hsub,hp]
   refine ih (i + 1) _ _ h1 (by omega) ?_
   rw [hri]
   simp -dsimp -implicitDefEqProofs (disch:=first|omega|assumption) [Nat.add_assoc]
 ·rw [List.take_of_length_le (by omega)]
  subst hT'
  simp -dsimp -implicitDefEqProofs (disch:=first|omega|assumption) [nI,wI,h1]
  clear ih hi h1
  generalize hz : loopT _ _ _ _ _ _ = z
  revert z
  refine loop_any (σ:=Nat × Nat) (fun x => [(1,.d (ints l)),(6,.arr 0 (put u.length ++ riseB u).length),(11,.arr 1 u.length),(12,.arr 2 x.1),(14,.d (.int .i64 x.1))]) (fun x => [.arr 1 (bytes (put u.length ++ riseB u)) 0,.arr 1 (cs u) x.2,.arr 1 ((places u (l.take x.1)).map fun (n : Nat) => D.int .u64 (n : Int)) 0]) (fun x => x.1 ≤ l.length) (fun x => l.length - x.1) (0,0) ?_ ?_ ?_
  ·simp
  ·simp -dsimp -implicitDefEqProofs (disch:=first|omega|assumption) [places]
  intro T2 f2 hT2 ⟨i,wm⟩ hi ih
  simp only at hi ih
  have hpi : (places u (l.take i)).length = i := by simp [places]; omega
  by_cases h1 : i < l.length
  ·have hmem := hum l[i] (by simp)
   have hpl := place_runs u l[i] hul hrs hmem
   have hsn : places u (l.take (i + 1)) = places u (l.take i) ++ [idx u l[i]] := by unfold places; rw [take_snoc h1,List.map_append]; rfl
   simp -dsimp -implicitDefEqProofs (disch:=first|omega|assumption) [nI,wI,h1,hpl,hpi]
   refine ih (i + 1,u.length) _ _ h1 (by simp only; omega) ?_
   simp only
   rw [hsn]
   simp -dsimp -implicitDefEqProofs (disch:=first|omega|assumption)
  ·have hil : i = l.length := by omega
   subst hT2
   rw [hil,List.take_length]
   rw [hil,List.take_length] at hpi
   simp -dsimp -implicitDefEqProofs (disch:=first|omega|assumption) [nI,wI,hwr,hpk,hpi]
   simpa -dsimp -implicitDefEqProofs (disch:=first|omega|assumption) [nI,wI,Nat.add_assoc] using hT
end Go.Am.Ab
namespace Go.Am.Ab
open Go.Proofs
set_option maxHeartbeats 4000000
theorem uniq_ne {l : List Int} (h : l ≠ []) : 0 < (uniq l).length := by
 cases l with
 | nil => exact absurd rfl h
 | cons x r => exact List.length_pos_of_mem (uniq_mem.2 (by simp : x ∈ x :: r))
theorem uniq_head {l : List Int} (h : l ≠ []) : at' (uniq l) 0 = minL l := by
 have h0 := uniq_ne h
 have hur := rises_iff.1 (uniq_rises l)
 have h1 : at' (uniq l) 0 ∈ uniq l := by rw [← get_at h0]; exact List.getElem_mem _
 have h2 := minL_le _ (uniq_mem.1 h1)
 obtain ⟨i,hi,he⟩ := mem_at.1 (uniq_mem.2 (minL_mem h))
 by_cases c : i = 0
 ·subst c; exact he
 ·have := hur 0 i (by omega) hi
  omega
theorem renc4_no : R 187 [.d (.int .i64 4),.d (ints [])] [] = some ([.arr 0 0,.d (.bool true)],[.arr 1 [] 0]) := by
 refine run_goal (rs:=[.tmp 4,.tmp 5]) (ts:=[24,4]) Tryz.func187 rfl rfl rfl (by kernel_rfl) (by kernel_rfl) (.inl sp_187) (by simp [Tryz.f187]) ?_
 intro T hT
 simp -dsimp -implicitDefEqProofs (disch:=first|omega|assumption) [startSlots,nI,wI]
 simpa -dsimp -implicitDefEqProofs (disch:=first|omega|assumption) [nI,wI] using hT
theorem renc4 (l : List Int) (h0 : l ≠ []) (hl : ∀ n ∈ l,isI64 n) (hn : l.length ≤ 256) : R 187 [.d (.int .i64 4),.d (ints l)] [] = some ([.arr 0 (packedB l).length,.d (.bool true)],[.arr 1 (bytes (packedB l)) 0]) := by
 have h6 : ¬ (256 : Int) < l.length := by omega
 have h6' : ¬ 256 < l.length := by omega
 have hlen : 0 < l.length := Nat.pos_of_ne_zero (by simpa using h0)
 have hun := runlike_runs l hn
 have hul := uniq_length_le l
 have hu0 := uniq_ne h0
 have gu := get_at hu0
 rw [uniq_head h0] at gu
 have hmlt := mores_lt hl
 have hml : (mores l).length ≤ 256 := by simpa [mores] using hn
 have hmlen : (mores l).length = l.length := by simp [mores]
 have hw := rwidth_runs (mores l) hmlt (by omega)
 have hw64 := width_le64 hmlt
 have hpk := rpack_yes (mores l) (width (mores l)) hmlt hw64 hml (Nat.le_refl _)
 have hplen := packed_len hw64 hml
 obtain ⟨wd,hwd⟩ : ∃ wd,wd = width (mores l) := ⟨_,rfl⟩
 obtain ⟨m,hm⟩ : ∃ m,m = minL l := ⟨_,rfl⟩
 have hmi : isI64 m := by rw [hm]; exact hl _ (minL_mem h0)
 have hpi := rputInt_runs m hmi.1 hmi.2
 have hpil := putInt_len hmi
 have hB : packedB l = putInt m ++ (put wd ++ packed wd (mores l)) := by unfold packedB; rw [if_neg h0,← hm,← hwd]
 rw [← hwd] at hw hw64 hpk hplen
 rw [← hm] at gu
 have hput1 : put wd = [u8n wd] := put_lt (by omega)
 rw [hB,hput1]
 have hbb : byteD (u8n wd) = .int .u8 (wd : Int) := byteD_eq (by rw [u8n_toNat (by omega)])
 have hmod : (wd : Int) % 256 = wd := by omega
 have hne : ¬ (l.length : Int) = 0 := by omega
 obtain ⟨u,hu⟩ : ∃ u,u = uniq l := ⟨_,rfl⟩
 obtain ⟨pk,hpkd⟩ : ∃ pk,pk = packed wd (mores l) := ⟨_,rfl⟩
 rw [← hpkd] at hpk hplen ⊢
 simp only [← hu] at hun hul hu0 gu
 have hmt : ∀ i,i ≤ l.length → ((mores l).take i).length = i := fun i hi => by rw [List.length_take]; omega
 have hms : ∀ i,(h : i < l.length) → (mores l).take (i + 1) = (mores l).take i ++ [(l[i] - m).toNat] := fun i h => by
  rw [take_snoc (by omega : i < (mores l).length)]; simp [mores,hm]
 refine run_goal (rs:=[.tmp 4,.tmp 5]) (ts:=[24,4]) Tryz.func187 rfl rfl rfl (by kernel_rfl) (by kernel_rfl) (.inl sp_187) (by simp [Tryz.f187]) ?_
 intro T hT
 simp -dsimp -implicitDefEqProofs (disch:=first|omega|assumption) [startSlots,nI,wI,h6,h6',h0,hne,hun,hu0,gu]
 generalize hz : loopT _ _ _ _ _ _ = z
 revert z
 refine loop_any (σ:=Nat) (fun i => [(1,.d (ints l)),(17,.d (.int .i64 m)),(18,.arr 0 i),(19,.d (.int .i64 i))]) (fun i => [.arr 1 (((mores l).take i).map fun (n : Nat) => D.int .u64 (n : Int)) 0]) (fun i => i ≤ l.length) (fun i => l.length - i) 0 ?_ ?_ ?_
 ·simp
 ·simp -dsimp -implicitDefEqProofs (disch:=first|omega|assumption)
 intro T' f hT' i hi ih
 have hti := hmt i hi
 by_cases h1 : i < l.length
 ·have hb := hl l[i] (by simp)
  have hle : m ≤ l[i] := by rw [hm]; exact minL_le _ (by simp)
  obtain ⟨v,hv⟩ : ∃ v : Nat,(v : Int) = l[i] - m := ⟨(l[i] - m).toNat,by omega⟩
  have hvv : (l[i] - m).toNat = v := by omega
  have hs := hms i h1
  rw [hvv] at hs
  unfold isI64 at hb hmi
  have hsub : IntKind.u64.wrap (IntKind.u64.wrap l[i] - IntKind.u64.wrap m) = v := by rw [wrap_mod_u64,wrap_mod_u64,wrap_mod_u64]; omega
  simp -dsimp -implicitDefEqProofs (disch:=first|omega|assumption) [nI,wI,h1,hsub,hti]
  refine ih (i + 1) _ _ h1 (by omega) ?_
  rw [hs]
  simp -dsimp -implicitDefEqProofs (disch:=first|omega|assumption)
 ·have hil : i = l.length := by omega
  rw [List.take_of_length_le (by omega)]
  subst hT'
  rw [hil]
  simp -dsimp -implicitDefEqProofs (disch:=first|omega|assumption) [nI,wI,hw,hpk,hpi,hmlen,hmod]
  simpa -dsimp -implicitDefEqProofs (disch:=first|omega|assumption) [nI,wI,Nat.add_assoc,Nat.add_comm] using hT
theorem rencode_yes (c : Nat) (l : List Int) (hl : ∀ n ∈ l,isI64 n) (hn : l.length ≤ 256) (hc : c < 5) : R 187 [.d (.int .i64 c),.d (ints l)] [] = some ([.arr 0 (encB c l).length,.d (.bool true)],[.arr 1 (bytes (encB c l)) 0]) := by
 have h : c = 0 ∨ c = 1 ∨ c = 2 ∨ c = 3 ∨ c = 4 := by omega
 rcases h with rfl | rfl | rfl | rfl | rfl
 ·exact renc0 l hl hn
 ·exact renc1 l hl hn
 ·exact renc2 l hl hn
 ·exact renc3 l hl hn
 ·by_cases h : l = []
  ·subst h; exact renc4_no
  ·exact renc4 l h hl hn
theorem rbest_yes (l : List Int) (hl : ∀ n ∈ l,isI64 n) (hn : l.length ≤ 256) : R 129 [.d (ints l)] [] = some ([.arr 0 (bestB l).length,.d (.bool true)],[.arr 1 (bytes (bestB l)) 0]) := by
 refine run_goal (rs:=[.tmp 2,.tmp 3]) (ts:=[24,4]) Tryz.func129 rfl rfl rfl (by kernel_rfl) (by kernel_rfl) (.inl sp_129) (by simp [Tryz.f129]) ?_
 intro T hT
 simp -dsimp -implicitDefEqProofs (disch:=first|omega|assumption) [startSlots,nI,wI]
 generalize hz : loopT _ _ _ _ _ _ = z
 revert z
 refine loop_any (σ:=Nat) (fun i => [(0,.d (ints l)),(4,.arr 0 (bestTo l i).length),(5,.d (.int .i64 i))]) (fun i => [.arr 1 (bytes (bestTo l i)) 0]) (fun i => i ≤ 5) (fun i => 5 - i) 0 ?_ ?_ ?_
 ·simp
 ·simp -dsimp -implicitDefEqProofs (disch:=first|omega|assumption) [bestTo]
 intro T' f hT' i hi ih
 have hbl := bestTo_len hl hn i
 by_cases h1 : i < 5
 ·have h1' : (i : Int) < 5 := by omega
  have g := rencode_yes i l hl hn h1
  have hel := enc_len i hl hn
  have hw : (i : Int) % 256 = i := by omega
  by_cases h0 : i = 0
  ·subst h0
   have e1 : bestTo l 1 = u8n 0 :: encB 0 l := by rw [bestTo,if_pos (.inl rfl)]
   rw [show ((0 : Nat) : Int) = 0 from rfl] at g
   simp -dsimp -implicitDefEqProofs (disch:=first|omega|assumption) [nI,wI,g]
   refine ih (0 + 1) _ _ (by omega) (by omega) ?_
   rw [Nat.zero_add,e1]
   simp -dsimp -implicitDefEqProofs (disch:=first|omega|assumption) [Nat.add_comm]
  ·have h0' : ¬ (i : Int) = 0 := by omega
   by_cases h2 : (encB i l).length + 1 < (bestTo l i).length
   ·have h2' : ((encB i l).length : Int) + 1 < ((bestTo l i).length : Int) := by omega
    have e1 : bestTo l (i + 1) = u8n i :: encB i l := by rw [bestTo,if_pos (.inr h2)]
    simp -dsimp -implicitDefEqProofs (disch:=first|omega|assumption) [nI,wI,h1',g,h0,h0',h2',hw]
    refine ih (i + 1) _ _ (by omega) (by omega) ?_
    rw [e1]
    simp -dsimp -implicitDefEqProofs (disch:=first|omega|assumption) [hw,Nat.add_comm]
   ·have h2' : ¬ ((encB i l).length : Int) + 1 < ((bestTo l i).length : Int) := by omega
    have e1 : bestTo l (i + 1) = bestTo l i := by rw [bestTo,if_neg (by omega)]
    simp -dsimp -implicitDefEqProofs (disch:=first|omega|assumption) [nI,wI,h1',g,h0,h0',h2',hw]
    refine ih (i + 1) _ _ (by omega) (by omega) ?_
    rw [e1]
    simp -dsimp -implicitDefEqProofs (disch:=first|omega|assumption) [hw]
 ·obtain rfl : i = 5 := by omega
  subst hT'
  simp -dsimp -implicitDefEqProofs (disch:=first|omega|assumption) [nI,wI]
  simpa -dsimp -implicitDefEqProofs (disch:=first|omega|assumption) [nI,wI,bestB] using hT
end Go.Am.Ab
