/- Columns of the document, their parts. -/
import Derived.Test.YtlgdomajdebbdaaGreatDoorBitsA
import Derived.Test.YtlgdomajdebbdaaGreatDoorVars
import Derived.Test.YtlgdomajdebbdaaGreatDoorRefInts
import Derived.Test.YtlgdomajdebbdaaGreatDoorColA
import Derived.Test.YtlgdomajdebbdaaGreatDoorColB
set_option linter.all false
namespace Go.Am.Ab.Str
open Go.Proofs
set_option maxHeartbeats 4000000
set_option maxRecDepth 4000
theorem ins_length (x : Nat) : ∀ l : List Nat,(ins x l).length ≤ l.length + 1
 | [] => by simp [ins]
 | y :: r => by
  unfold ins
  have := ins_length x r
  split
  ·simp
  ·split
   ·simp
   ·simp only [List.length_cons]; omega
theorem uniq_length_le (l : List Nat) : (uniq l).length ≤ l.length := by
 have key : ∀ (l u : List Nat),(l.foldl (fun u x => ins x u) u).length ≤ u.length + l.length := by
  intro l
  induction l with
  | nil => intro u; simp
  | cons x r ih =>
   intro u
   have h1 := ih (ins x u)
   have h2 := ins_length x u
   simp only [List.foldl_cons,List.length_cons]; omega
 have := key l []
 simpa [uniq] using this
def insG (x : Nat) : Bool → List Nat → List Nat
 | done,[] => if done then [] else [x]
 | done,y :: r => if y = x then y :: insG x true r else if done then y :: insG x true r else if x < y then x :: y :: insG x true r else y :: insG x false r
theorem insG_true (x : Nat) : ∀ l,insG x true l = l
 | [] => rfl
 | y :: r => by simp [insG,insG_true x r]
theorem insG_false (x : Nat) : ∀ l,insG x false l = ins x l
 | [] => rfl
 | y :: r => by
  simp only [insG,ins,insG_true,insG_false x r,Bool.false_eq_true,if_false]
  by_cases h1 : y = x
  ·subst h1; simp
  ·have h2 : ¬ x = y := fun e => h1 e.symm
   simp [h1,h2]
theorem insG_step {x : Nat} {u : List Nat} {k : Nat} (h : k < u.length) (done : Bool) : insG x done (u.drop k) = (if at' u k = x then [at' u k] else if done then [at' u k] else if x < at' u k then [x,at' u k] else [at' u k]) ++ insG x (done || decide (x = at' u k) || decide (x < at' u k)) (u.drop (k + 1)) := by
 rw [List.drop_eq_getElem_cons h,get_at h,insG]
 by_cases h1 : at' u k = x
 ·have h2 : x = at' u k := h1.symm
  rw [if_pos h1,if_pos h1,decide_eq_true h2]; simp
 ·have h2 : ¬ x = at' u k := fun e => h1 e.symm
  rw [if_neg h1,if_neg h1,decide_eq_false h2]
  cases done with
  | true => simp
  | false =>
   by_cases h3 : x < at' u k
   ·simp [h3]
   ·simp [h3]
theorem runlikeS_runs {wd : Nat → ByteArray} (hwd : Mono wd) (l : List Nat) (hn : l.length ≤ 256) : R 130 [.d (.list (ws wd l))] [] = some ([.arr 0 (uniq l).length],[.arr 1 (ws wd (uniq l)) 0]) := by
 have hsnoc : ∀ i,i < l.length → uniq (l.take (i + 1)) = ins (at' l i) (uniq (l.take i)) := fun i hi => by
  unfold uniq
  rw [take_snoc hi,List.foldl_append,get_at hi]; rfl
 refine run_goal (rs:=[.tmp 2]) (ts:=[180]) Tryz.func130 rfl rfl rfl (by kernel_rfl) (by kernel_rfl) (.inl sp_130) (by simp [Tryz.f130]) ?_
 intro T hT
 simp -dsimp -implicitDefEqProofs (disch:=first|omega|assumption) [startSlots,nI,wI]
 generalize hz : loopT _ _ _ _ _ _ = z
 revert z
 refine loop_any (σ:=Nat) (fun i => [(0,.d (.list (ws wd l))),(3,.arr 0 (uniq (l.take i)).length),(4,.d (.int .i64 i))]) (fun i => [.arr 1 (ws wd (uniq (l.take i))) 0]) (fun i => i ≤ l.length) (fun i => l.length - i) 0 ?_ ?_ ?_
 ·simp
 ·simp -dsimp -implicitDefEqProofs (disch:=first|omega|assumption) [uniq]
 intro T' f hT' i hi ih
 by_cases h1 : i < l.length
 ·have gi := get_at h1
  have hun := uniq_length_le (l.take i)
  rw [List.length_take] at hun
  have hins := ins_length (at' l i) (uniq (l.take i))
  rw [← hsnoc i h1] at hins
  obtain ⟨u,hu⟩ : ∃ u,u = uniq (l.take i) := ⟨_,rfl⟩
  obtain ⟨x,hx⟩ : ∃ x,x = at' l i := ⟨_,rfl⟩
  have hs := hsnoc i h1
  rw [← hu,← hx] at hs
  rw [← hu] at hun hins
  rw [← hx] at gi
  rw [← hu]
  simp -dsimp -implicitDefEqProofs (disch:=first|omega|assumption) [nI,wI,hwd.beq,hwd.lt,h1,gi]
  generalize hz : loopT _ _ _ _ _ _ = z
  revert z
  refine loop_any (σ:=Nat × Bool × List Nat) (fun y => [(0,.d (.list (ws wd l))),(3,.arr 0 u.length),(4,.d (.int .i64 i)),(5,.arr 1 y.2.2.length),(6,.d (.bool y.2.1)),(7,.d (.int .i64 y.1))]) (fun y => [.arr 1 (ws wd u) 0,.arr 1 (ws wd y.2.2) 0]) (fun y => y.1 ≤ u.length ∧ y.2.2.length ≤ 2 * y.1 ∧ y.2.2 ++ insG x y.2.1 (u.drop y.1) = uniq (l.take (i + 1))) (fun y => u.length - y.1) (0,false,[]) ?_ ?_ ?_
  ·refine ⟨Nat.zero_le _,Nat.le_refl _, ?_⟩
   simp only [List.nil_append,List.drop_zero]
   rw [insG_false,hs]
  ·simp -dsimp -implicitDefEqProofs (disch:=first|omega|assumption)
  intro T2 f2 hT2 ⟨k,done,nx⟩ ⟨k1,k2,k3⟩ ih2
  simp only at k1 k2 k3 ih2
  by_cases h2 : k < u.length
  ·have gk := get_at h2
   have hst := insG_step (x := x) h2 done
   rw [hst,← List.append_assoc] at k3
   have nd : u.drop (k + 1) = u.drop (k + 1) := rfl
   have fin : ∀ (d2 : Bool) (n2 : List Nat),n2 = nx ++ (if at' u k = x then [at' u k] else if done then [at' u k] else if x < at' u k then [x,at' u k] else [at' u k]) → d2 = (done || decide (x = at' u k) || decide (x < at' u k)) → (k + 1 ≤ u.length ∧ n2.length ≤ 2 * (k + 1) ∧ n2 ++ insG x d2 (u.drop (k + 1)) = uniq (l.take (i + 1))) := by
    intro d2 n2 e1 e2
    refine ⟨h2, ?_,by rw [e1,e2]; exact k3⟩
    rw [e1,List.length_append]
    have : (if at' u k = x then [at' u k] else if done then [at' u k] else if x < at' u k then [x,at' u k] else [at' u k]).length ≤ 2 := by split <;> (try split) <;> (try split) <;> simp
    omega
   by_cases c1 : at' u k = x
   ·have c1' : x = at' u k := c1.symm
    simp -dsimp -implicitDefEqProofs (disch:=first|omega|assumption) [nI,wI,hwd.beq,hwd.lt,h1,h2,gi,gk,c1]
    refine ih2 (k + 1,true,nx ++ [x]) _ _ (fin _ _ (by rw [if_pos c1,c1]) (by rw [decide_eq_true c1']; simp)) (by simp only; omega) ?_
    simp -dsimp -implicitDefEqProofs (disch:=first|omega|assumption) [c1]
   ·have c1' : ¬ x = at' u k := fun e => c1 e.symm
    cases done with
    | true =>
     simp -dsimp -implicitDefEqProofs (disch:=first|omega|assumption) [nI,wI,hwd.beq,hwd.lt,h1,h2,gi,gk,c1]
     refine ih2 (k + 1,true,nx ++ [at' u k]) _ _ (fin _ _ (by rw [if_neg c1]; rfl) (by simp)) (by simp only; omega) ?_
     simp -dsimp -implicitDefEqProofs (disch:=first|omega|assumption) [c1]
    | false =>
     by_cases c2 : x < at' u k
     ·simp -dsimp -implicitDefEqProofs (disch:=first|omega|assumption) [nI,wI,hwd.beq,hwd.lt,h1,h2,gi,gk,c1,c2]
      refine ih2 (k + 1,true,nx ++ [x,at' u k]) _ _ (fin _ _ (by rw [if_neg c1,if_neg (by simp),if_pos c2]) (by simp [c2])) (by simp only; omega) ?_
      simp -dsimp -implicitDefEqProofs (disch:=first|omega|assumption) [c1]
     ·simp -dsimp -implicitDefEqProofs (disch:=first|omega|assumption) [nI,wI,hwd.beq,hwd.lt,h1,h2,gi,gk,c1,c2]
      refine ih2 (k + 1,false,nx ++ [at' u k]) _ _ (fin _ _ (by rw [if_neg c1,if_neg (by simp),if_neg c2]) (by simp [c2,c1'])) (by simp only; omega) ?_
      simp -dsimp -implicitDefEqProofs (disch:=first|omega|assumption) [c1]
  ·have h2' : k = u.length := by omega
   rw [List.drop_of_length_le (by omega)] at k3
   have hnl : (uniq (l.take (i + 1))).length ≤ 257 := by omega
   subst hT2
   cases done with
   | true =>
    have k4 : nx = uniq (l.take (i + 1)) := by rw [← k3]; simp [insG]
    simp -dsimp -implicitDefEqProofs (disch:=first|omega|assumption) [nI,wI,hwd.beq,hwd.lt,h1,h2,gi]
    refine ih (i + 1) _ _ h1 (by omega) ?_
    rw [← k4]
    simp -dsimp -implicitDefEqProofs (disch:=first|omega|assumption)
   | false =>
    have k4 : nx ++ [x] = uniq (l.take (i + 1)) := by rw [← k3]; simp [insG]
    simp -dsimp -implicitDefEqProofs (disch:=first|omega|assumption) [nI,wI,hwd.beq,hwd.lt,h1,h2,gi]
    refine ih (i + 1) _ _ h1 (by omega) ?_
    rw [← k4]
    simp -dsimp -implicitDefEqProofs (disch:=first|omega|assumption)
 ·have hil : i = l.length := by omega
  rw [List.take_of_length_le (by omega)]
  subst hT'
  simp -dsimp -implicitDefEqProofs (disch:=first|omega|assumption) [nI,wI,hwd.beq,hwd.lt,h1]
  simpa -dsimp -implicitDefEqProofs (disch:=first|omega|assumption) [nI,wI] using hT
end Go.Am.Ab.Str
namespace Go.Am.Ab
open Go.Proofs
theorem runlikeT_runs (l : List ByteArray) (hn : l.length ≤ 256) : R 130 [.d (.list (ss l))] [] = some ([.arr 0 (uniS l).length],[.arr 1 (ss (uniS l)) 0]) := by
 obtain ⟨wd,r,hwd,rfl⟩ := ranks l
 have h := Str.runlikeS_runs hwd r (by simpa using hn)
 rw [uniS_map hwd,ss_map,ss_map,List.length_map]
 exact h
theorem rflags_runs (l : List Bool) (hn : l.length ≤ 256) : R 128 [.d (nats (l.map bit))] [] = some ([.arr 0 (flagsB l).length],[.arr 1 (bytes (flagsB l)) 0]) := by
 have h64 : ∀ n ∈ l.map bit,n < 18446744073709551616 := fun n h => by have := bit_lt l n h; omega
 have hp := rpack_yes (l.map bit) 1 h64 (by omega) (by simpa using hn) (width_bits l)
 rw [show packed 1 (l.map bit) = flagsB l from rfl] at hp
 obtain ⟨q,hq⟩ : ∃ q,q = nats (l.map bit) := ⟨_,rfl⟩
 rw [← hq] at hp ⊢
 have hp' : R 186 [.d q,.d (.int .i64 1)] [] = some ([.arr 0 (flagsB l).length,.d (.bool true)],[.arr 1 (bytes (flagsB l)) 0]) := hp
 refine run_goal (rs:=[.tmp 2]) (ts:=[24]) Tryz.func128 rfl rfl rfl (by kernel_rfl) (by kernel_rfl) (.inl sp_128) (by simp [Tryz.f128]) ?_
 intro T hT
 simp -dsimp -implicitDefEqProofs (disch:=first|omega|assumption) [startSlots,nI,wI,hp']
 simpa -dsimp -implicitDefEqProofs (disch:=first|omega|assumption) [nI,wI] using hT
theorem rcounted_runs (l : List Int) (hl : ∀ n ∈ l,isI64 n) (hn : l.length ≤ 256) : R 188 [.d (ints l)] [] = some ([.arr 0 (countedB l).length],[.arr 1 (bytes (countedB l)) 0]) := by
 have h := rbest_yes l hl hn
 have hb := bestB_len hl hn
 have hp := rput_runs (bestB l).length (by omega)
 have hpl := put_len (n := (bestB l).length) (by omega)
 have hw : IntKind.u64.wrap ((bestB l).length : Int) = (bestB l).length := wrap_u64 (by omega) (by omega)
 refine run_goal (rs:=[.tmp 2]) (ts:=[24]) Tryz.func188 rfl rfl rfl (by kernel_rfl) (by kernel_rfl) (.inl sp_188) (by simp [Tryz.f188]) ?_
 intro T hT
 simp -dsimp -implicitDefEqProofs (disch:=first|omega|assumption) [startSlots,nI,wI,h,hp,hw]
 simpa -dsimp -implicitDefEqProofs (disch:=first|omega|assumption) [nI,wI,countedB] using hT
theorem rtexts_runs (l : List ByteArray) (hl : ∀ s ∈ l,s.size ≤ 64) (hn : l.length ≤ 256) : R 131 [.d (.list (ss l))] [] = some ([.arr 0 (textsB l).length],[.arr 1 (bytes (textsB l)) 0]) := by
 have hsi := sizes_is hl
 have hsl : (sizesL l).length = l.length := by simp [sizesL]
 have hcl := countedB_len hsi (by omega)
 have hfl := flatT_len hl l.length (Nat.le_refl _)
 have hc := rcounted_runs (sizesL l) hsi (by omega)
 have hcs : R 188 [.d (.list (preD sizeD l l.length))] [] = some ([.arr 0 (countedB (sizesL l)).length],[.arr 1 (bytes (countedB (sizesL l))) 0]) := by
  rw [preD_end (Nat.le_refl _),← hc,ints,sizesL,List.map_map]; rfl
 refine run_goal (rs:=[.tmp 2]) (ts:=[24]) Tryz.func131 rfl rfl rfl (by kernel_rfl) (by kernel_rfl) (.inl sp_131) (by simp [Tryz.f131]) ?_
 intro T hT
 simp -dsimp -implicitDefEqProofs (disch:=first|omega|assumption) [startSlots,nI,wI]
 generalize hz : loopT _ _ _ _ _ _ = z
 revert z
 refine loop_any (σ:=Nat) (fun i => [(0,.d (.list (ss l))),(3,.arr 0 i),(4,.arr 1 (flatT l i).length),(5,.d (.int .i64 i))]) (fun i => [.arr 1 (preD sizeD l i) 0,.arr 1 (bytes (flatT l i)) 0]) (fun i => i ≤ l.length) (fun i => l.length - i) 0 ?_ ?_ ?_
 ·exact Nat.zero_le _
 ·simp -dsimp -implicitDefEqProofs (disch:=first|omega|assumption) [preD_zero,flatT_zero]
 intro T' f hT' i hi ih
 by_cases h1 : i < l.length
 ·have hsz := hl l[i] (List.getElem_mem _)
  have htk := preD_succ (g := sizeD) h1
  have hlen := preD_length (g := sizeD) hi
  have hft := flatT_succ h1
  have hfi := flatT_len hl i hi
  have h3 := str_len l[i]
  simp -dsimp -implicitDefEqProofs (disch:=first|omega|assumption) [nI,wI,h1,hlen,h3]
  refine ih (i + 1) _ _ h1 (by omega) ?_
  rw [htk,hft]
  simp -dsimp -implicitDefEqProofs (disch:=first|omega|assumption) [h3,sizeD]
 ·obtain rfl : i = l.length := by omega
  have hlen := preD_length (g := sizeD) hi
  subst hT'
  simp -dsimp -implicitDefEqProofs (disch:=first|omega|assumption) [nI,wI,hcs,hlen]
  simpa -dsimp -implicitDefEqProofs (disch:=first|omega|assumption) [nI,wI,textsB,List.append_assoc,Nat.add_assoc] using hT
end Go.Am.Ab
namespace Go.Am.Ab
open Go.Proofs
set_option maxHeartbeats 4000000
theorem fix_eq {c : Cel} (h : chk c = 0) : fix c = c := by rw [fix,if_pos h]
theorem val_whole {c : Cel} (h : chk c = 0) (hk : c.kind = 1) : valOf c = .whole c.n := by
 unfold valOf; rw [fix_eq h,if_pos hk]
theorem val_truth {c : Cel} (h : chk c = 0) (hk : c.kind = 2) : valOf c = .truth (decide (c.n = 1)) := by
 unfold valOf; rw [fix_eq h,if_neg (by omega),if_pos hk]
theorem val_text {c : Cel} (h : chk c = 0) (hk : c.kind = 3) : valOf c = .text c.s := by
 unfold valOf; rw [fix_eq h,if_neg (by omega),if_neg (by omega),if_pos hk]
theorem val_none {c : Cel} (h : chk c = 0) (hk : c.kind = 0) : valOf c = .null := by
 unfold valOf; rw [fix_eq h,if_neg (by omega),if_neg (by omega),if_neg (by omega)]
theorem val_kind {c : Cel} (h : chk c = 0) : (valOf c).kind = c.kind := by
 have hk := (chk_kind h).1
 have h4 : c.kind = 0 ∨ c.kind = 1 ∨ c.kind = 2 ∨ c.kind = 3 := by omega
 rcases h4 with e | e | e | e
 ·rw [val_none h e,e]; rfl
 ·rw [val_whole h e,e]; rfl
 ·rw [val_truth h e,e]; rfl
 ·rw [val_text h e,e]; rfl
theorem val_nul {c : Cel} (h : chk c = 0) : valOf c = .null ↔ c.kind = 0 := by
 constructor
 ·intro e
  rw [← val_kind h,e]; rfl
 ·exact val_none h
theorem odd_cel {k : Nat} {c : Cel} (h : chk c = 0) : oddV k (valOf c) = (decide (c.kind ≠ 0) && decide (c.kind ≠ k)) := by
 unfold oddV
 rw [val_kind h]
 congr 1
 exact decide_eq_decide.2 (not_congr (val_nul h))
def oddC (k : Nat) (c : Cel) : Bool := decide (c.kind ≠ 0) && decide (c.kind ≠ k)
theorem any_odd {k : Nat} {l : List Cel} (hl : ∀ c ∈ l,chk c = 0) : (l.map valOf).any (oddV k) = l.any (oddC k) := by
 rw [List.any_map]
 induction l with
 | nil => rfl
 | cons c r ih =>
  rw [List.any_cons,List.any_cons,ih fun x hx => hl x (by simp [hx])]
  congr 1
  exact odd_cel (hl c (by simp))
theorem no_long {l : List Cel} (hl : ∀ c ∈ l,chk c = 0) : (l.map valOf).any longV = false := by
 rw [List.any_eq_false]
 intro v hv
 obtain ⟨c,hc,rfl⟩ := List.mem_map.1 hv
 have h := hl c hc
 have hs := (chk_kind h).2.2.2.2
 cases e : valOf c with
 | text s =>
  have hk : c.kind = 3 := by rw [← val_kind h,e]; rfl
  rw [val_text h hk] at e
  cases e
  simp [longV]; omega
 | _ => simp [longV]
def nnz (l : List Cel) : List Cel := l.filter fun c => decide (c.kind ≠ 0)
theorem there_cel {l : List Cel} (hl : ∀ c ∈ l,chk c = 0) : thereL (l.map valOf) = l.map fun c => decide (c.kind ≠ 0) := by
 rw [thereL,List.map_map]
 apply List.map_congr_left
 intro c hc
 exact decide_eq_decide.2 (not_congr (val_nul (hl c hc)))
theorem nn_whole : ∀ {l : List Cel},(∀ c ∈ l,chk c = 0) → (∀ c ∈ l,c.kind = 0 ∨ c.kind = 1) → (nnz l).map (·.n) = wholes (l.map valOf)
 | [],_,_ => rfl
 | c :: r,h,hk => by
  have ih := nn_whole (l := r) (fun x hx => h x (by simp [hx])) fun x hx => hk x (by simp [hx])
  have hc := h c (by simp)
  unfold nnz wholes at *
  rcases hk c (by simp) with e | e
  ·rw [List.filter_cons,if_neg (by simp [e]),List.map_cons,List.filterMap_cons,val_none hc e]; exact ih
  ·rw [List.filter_cons,if_pos (by simp [e]),List.map_cons,List.map_cons,List.filterMap_cons,val_whole hc e,ih]
theorem nn_truth : ∀ {l : List Cel},(∀ c ∈ l,chk c = 0) → (∀ c ∈ l,c.kind = 0 ∨ c.kind = 2) → (nnz l).map (fun c => IntKind.u64.wrap c.n) = (truths (l.map valOf)).map fun b => ((bit b : Nat) : Int)
 | [],_,_ => rfl
 | c :: r,h,hk => by
  have ih := nn_truth (l := r) (fun x hx => h x (by simp [hx])) fun x hx => hk x (by simp [hx])
  have hc := h c (by simp)
  unfold nnz truths at *
  rcases hk c (by simp) with e | e
  ·rw [List.filter_cons,if_neg (by simp [e]),List.map_cons,List.filterMap_cons,val_none hc e]; exact ih
  ·have hn := (chk_kind hc).2.2.2.1 e
   rw [List.filter_cons,if_pos (by simp [e]),List.map_cons,List.map_cons,List.filterMap_cons,val_truth hc e,ih]
   simp only [List.map_cons]
   congr 1
   rcases hn with z | z <;> rw [z] <;> rfl
theorem nn_text : ∀ {l : List Cel},(∀ c ∈ l,chk c = 0) → (∀ c ∈ l,c.kind = 0 ∨ c.kind = 3) → (nnz l).map (·.s) = texts (l.map valOf)
 | [],_,_ => rfl
 | c :: r,h,hk => by
  have ih := nn_text (l := r) (fun x hx => h x (by simp [hx])) fun x hx => hk x (by simp [hx])
  have hc := h c (by simp)
  unfold nnz texts at *
  rcases hk c (by simp) with e | e
  ·rw [List.filter_cons,if_neg (by simp [e]),List.map_cons,List.filterMap_cons,val_none hc e]; exact ih
  ·rw [List.filter_cons,if_pos (by simp [e]),List.map_cons,List.map_cons,List.filterMap_cons,val_text hc e,ih]
def preN (g : Cel → D) (l : List Cel) (i : Nat) : List D := (nnz (l.take i)).map g
theorem preN_zero (g : Cel → D) (l : List Cel) : preN g l 0 = [] := rfl
theorem preN_succ {g : Cel → D} {l : List Cel} {i : Nat} (h : i < l.length) : preN g l (i + 1) = preN g l i ++ (if l[i].kind ≠ 0 then [g l[i]] else []) := by
 unfold preN nnz
 rw [take_snoc h,List.filter_append,List.map_append]
 congr 1
 by_cases e : l[i].kind = 0
 ·simp [e]
 ·simp [e]
theorem preN_length (g : Cel → D) (l : List Cel) (i : Nat) : (preN g l i).length ≤ i := by
 have := List.length_filter_le (fun c : Cel => decide (c.kind ≠ 0)) (l.take i)
 have h2 : (l.take i).length ≤ i := by simp; omega
 simp only [preN,nnz,List.length_map]; omega
theorem preN_end (g : Cel → D) (l : List Cel) : preN g l l.length = (nnz l).map g := by rw [preN,List.take_length]
end Go.Am.Ab
