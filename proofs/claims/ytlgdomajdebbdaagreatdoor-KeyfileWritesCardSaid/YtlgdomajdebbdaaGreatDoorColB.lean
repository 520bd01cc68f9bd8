/- Columns, written. -/
import Derived.Test.YtlgdomajdebbdaaGreatDoorColA
import Derived.Test.YtlgdomajdebbdaaGreatDoorReadA
set_option linter.all false
namespace Go.Am.Ab
open Go.Proofs
set_option maxHeartbeats 4000000
set_option maxRecDepth 4000
def wholes (l : List Val) : List Int := l.filterMap fun v => match v with | .whole n => some n | _ => none
def truths (l : List Val) : List Bool := l.filterMap fun v => match v with | .truth b => some b | _ => none
def texts (l : List Val) : List ByteArray := l.filterMap fun v => match v with | .text s => some s | _ => none
def thereL (l : List Val) : List Bool := l.map fun v => decide (v ≠ .null)
def bodyB (k : Nat) (l : List Val) : List UInt8 := if k = 1 then bestB (wholes l) else if k = 2 then flagsB (truths l) else wordsB (texts l)
def headB (l : List Val) : List UInt8 := if false ∈ thereL l then 1 :: flagsB (thereL l) else [0]
def colB (k : Nat) (l : List Val) : List UInt8 := headB l ++ bodyB k l
def oddV (k : Nat) (v : Val) : Bool := decide (v ≠ .null) && decide (v.kind ≠ k)
def longV (v : Val) : Bool := match v with | .text s => decide (64 < s.size) | _ => false
def thD (l : List Val) (i : Nat) : List D := bs ((thereL l).take i ++ List.replicate (l.length - i) false)
theorem thD_zero (l : List Val) : thD l 0 = List.replicate l.length (D.bool false) := by simp [thD]
theorem thereL_length (l : List Val) : (thereL l).length = l.length := by simp [thereL]
theorem thD_length {l : List Val} {i : Nat} (h : i ≤ l.length) : (thD l i).length = l.length := by simp [thD,thereL_length]; omega
theorem thD_end (l : List Val) : thD l l.length = bs (thereL l) := by rw [thD,List.take_of_length_le (by rw [thereL_length]; exact Nat.le_refl _)]; simp
theorem thD_get {l : List Val} {i : Nat} (h : i < l.length) : (thD l i)[i]? = some (.bool false) := by
 have hl : ((thereL l).take i).length = i := by rw [List.length_take,thereL_length]; omega
 rw [thD,List.getElem?_map,List.getElem?_append_right (by omega),hl,Nat.sub_self,List.getElem?_replicate,if_pos (by omega)]
 rfl
theorem thD_set {l : List Val} {i : Nat} (h : i < l.length) : (thD l i).set i (.bool (decide (l[i] ≠ .null))) = thD l (i + 1) := by
 have hl : ((thereL l).take i).length = i := by rw [List.length_take,thereL_length]; omega
 have e : l.length - i = (l.length - (i + 1)) + 1 := by omega
 have ht : i < (thereL l).length := by rw [thereL_length]; exact h
 rw [thD,thD,← List.map_set,e,List.replicate_succ,List.set_append_right _ _ (by omega),hl,Nat.sub_self,List.set_cons_zero,take_snoc ht,List.append_assoc]
 congr 3
 simp [thereL]
def preW (l : List Val) (i : Nat) : List D := (wholes (l.take i)).map fun n => .int .i64 n
def preB (l : List Val) (i : Nat) : List D := (truths (l.take i)).map D.bool
def preS (l : List Val) (i : Nat) : List D := (texts (l.take i)).map D.str
theorem preW_zero (l : List Val) : preW l 0 = [] := rfl
theorem preB_zero (l : List Val) : preB l 0 = [] := rfl
theorem preS_zero (l : List Val) : preS l 0 = [] := rfl
theorem preW_succ {l : List Val} {i : Nat} (h : i < l.length) : preW l (i + 1) = preW l i ++ (match l[i] with | .whole n => [.int .i64 n] | _ => []) := by
 unfold preW wholes
 rw [take_snoc h,List.filterMap_append]
 cases l[i] <;> simp
theorem preB_succ {l : List Val} {i : Nat} (h : i < l.length) : preB l (i + 1) = preB l i ++ (match l[i] with | .truth b => [.bool b] | _ => []) := by
 unfold preB truths
 rw [take_snoc h,List.filterMap_append]
 cases l[i] <;> simp
theorem preS_succ {l : List Val} {i : Nat} (h : i < l.length) : preS l (i + 1) = preS l i ++ (match l[i] with | .text s => [.str s] | _ => []) := by
 unfold preS texts
 rw [take_snoc h,List.filterMap_append]
 cases l[i] <;> simp
theorem preW_length (l : List Val) (i : Nat) : (preW l i).length ≤ i := by
 have := List.length_filterMap_le (fun v : Val => match v with | .whole n => some n | _ => none) (l.take i)
 have h2 : (l.take i).length ≤ i := by simp; omega
 simp only [preW,wholes,List.length_map]; omega
theorem preB_length (l : List Val) (i : Nat) : (preB l i).length ≤ i := by
 have := List.length_filterMap_le (fun v : Val => match v with | .truth b => some b | _ => none) (l.take i)
 have h2 : (l.take i).length ≤ i := by simp; omega
 simp only [preB,truths,List.length_map]; omega
theorem preS_length (l : List Val) (i : Nat) : (preS l i).length ≤ i := by
 have := List.length_filterMap_le (fun v : Val => match v with | .text s => some s | _ => none) (l.take i)
 have h2 : (l.take i).length ≤ i := by simp; omega
 simp only [preS,texts,List.length_map]; omega
theorem preW_end (l : List Val) : preW l l.length = (wholes l).map fun n => .int .i64 n := by rw [preW,List.take_length]
theorem preB_end (l : List Val) : preB l l.length = (truths l).map D.bool := by rw [preB,List.take_length]
theorem preS_end (l : List Val) : preS l l.length = (texts l).map D.str := by rw [preS,List.take_length]
theorem wholes_is {l : List Val} (hl : ∀ n,Val.whole n ∈ l → isI64 n) : ∀ n ∈ wholes l,isI64 n := by
 intro n h
 obtain ⟨v,hv,e⟩ := List.mem_filterMap.1 h
 cases v <;> simp at e
 subst e
 exact hl _ hv
theorem texts_is {l : List Val} (hl : l.any longV = false) : ∀ s ∈ texts l,s.size ≤ 64 := by
 intro s h
 obtain ⟨v,hv,e⟩ := List.mem_filterMap.1 h
 cases v <;> simp at e
 subst e
 have := List.any_eq_false.1 hl _ hv
 simpa [longV] using this
theorem kinds_len (l : List Val) : (wholes l).length ≤ l.length ∧ (truths l).length ≤ l.length ∧ (texts l).length ≤ l.length := ⟨List.length_filterMap_le _ _,List.length_filterMap_le _ _,List.length_filterMap_le _ _⟩
theorem flagsB_len {l : List Bool} (hn : l.length ≤ 256) : (flagsB l).length ≤ 2048 := packed_len (by omega) (by simpa using hn)
theorem wordsB_len {l : List ByteArray} (hl : ∀ s ∈ l,s.size ≤ 64) (hn : l.length ≤ 256) : (wordsB l).length ≤ 100000 := by
 have h1 := textsB_len hl hn
 have h2 : (plainT l).length ≤ 100000 := by simp only [plainT,List.length_cons]; omega
 unfold wordsB
 split
 ·omega
 ·exact h2
theorem odd_at {k : Nat} {l : List Val} (h : l.any (oddV k) = false) {i : Nat} (hi : i < l.length) : l[i] = .null ∨ l[i].kind = k := by
 have := List.any_eq_false.1 h _ (List.getElem_mem hi)
 simp only [oddV,Bool.and_eq_true,decide_eq_true_eq,not_and,Decidable.not_not] at this
 by_cases c : l[i] = .null
 ·exact .inl c
 ·exact .inr (this c)
theorem ok1 {l : List Val} (h : l.any (oddV 1) = false) {i : Nat} (hi : i < l.length) : l[i] = .null ∨ ∃ n,l[i] = .whole n := by
 rcases odd_at h hi with e | e
 ·exact .inl e
 ·cases hv : l[i] <;> rw [hv] at e <;> simp [Val.kind] at e
  exact .inr ⟨_,rfl⟩
theorem ok2 {l : List Val} (h : l.any (oddV 2) = false) {i : Nat} (hi : i < l.length) : l[i] = .null ∨ ∃ n,l[i] = .truth n := by
 rcases odd_at h hi with e | e
 ·exact .inl e
 ·cases hv : l[i] <;> rw [hv] at e <;> simp [Val.kind] at e
  exact .inr ⟨_,rfl⟩
theorem ok3 {l : List Val} (h : l.any (oddV 3) = false) {i : Nat} (hi : i < l.length) : l[i] = .null ∨ ∃ n,l[i] = .text n := by
 rcases odd_at h hi with e | e
 ·exact .inl e
 ·cases hv : l[i] <;> rw [hv] at e <;> simp [Val.kind] at e
  exact .inr ⟨_,rfl⟩
def badW (e : Nat) : Option (List V × List Obj) := some ([.arr 0 0,E e],[.arr 1 [] 0])
theorem write_no (k : Nat) (hk : k < 256) (h : ¬ (1 ≤ k ∧ k ≤ 3)) (l : List Val) : R 64 [.d (.int .u8 k),.d (.list (vs l))] [] = badW 10 := by
 have hr := right_runs k hk
 rw [decide_eq_false h] at hr
 unfold badW
 refine run_goal (rs:=[.tmp 4,.tmp 5]) (ts:=[24,25]) Tryz.func64 rfl rfl rfl (by kernel_rfl) (by kernel_rfl) (.inl sp_64) (by simp [Tryz.f64]) ?_
 intro T hT
 simp -dsimp -implicitDefEqProofs (disch:=first|omega|assumption) [startSlots,nI,wI,hr]
 simpa -dsimp -implicitDefEqProofs (disch:=first|omega|assumption) [nI,wI,E] using hT
end Go.Am.Ab
namespace Go.Am.Ab
open Go.Proofs
set_option maxHeartbeats 4000000
set_option maxRecDepth 4000
theorem write1_odd (l : List Val) (hn : l.length ≤ 4611686018427387903) (h : l.any (oddV 1) = true) : R 64 [.d (.int .u8 1),.d (.list (vs l))] [] = badW 10 := by
 have hr := right_runs 1 (by decide)
 have hd : decide (1 ≤ 1 ∧ 1 ≤ 3) = true := rfl
 rw [hd] at hr
 simp only [Int.cast_ofNat_Int] at hr
 unfold badW
 refine run_goal (rs:=[.tmp 4,.tmp 5]) (ts:=[24,25]) Tryz.func64 rfl rfl rfl (by kernel_rfl) (by kernel_rfl) (.inl sp_64) (by simp [Tryz.f64]) ?_
 intro T hT
 simp -dsimp -implicitDefEqProofs (disch:=first|omega|assumption) [startSlots,nI,wI,hr]
 generalize hz : loopT _ _ _ _ _ _ = z
 revert z
 refine loop_any (σ:=Nat) (fun i => [(0,.d (.int .u8 1)),(1,.d (.list (vs l))),(26,.d (.list (vs l))),(27,.d (.int .i64 l.length)),(28,.d (.int .i64 i))]) (fun i => []) (fun i => i ≤ l.length ∧ ∀ j,(hj : j < i) → (hl : j < l.length) → oddV 1 l[j] = false) (fun i => l.length - i) 0 ?_ ?_ ?_
 ·exact ⟨Nat.zero_le _,fun j hj => by omega⟩
 ·simp -dsimp -implicitDefEqProofs (disch:=first|omega|assumption)
 intro T' f hT' i ⟨hi,hok⟩ ih
 by_cases h1 : i < l.length
 ·have step : oddV 1 l[i] = false → ∀ j,(hj : j < i + 1) → (hl : j < l.length) → oddV 1 l[j] = false := fun e j hj hl => by
   by_cases c : j = i
   ·subst c; exact e
   ·exact hok j (by omega) hl
  have hkd := kindOf_runs l[i]
  rcases hv : l[i] with _ | n | b | s
  all_goals
   rw [hv] at hkd step
   simp only [Val.d,Val.kind] at hkd
   simp only [Int.cast_ofNat_Int] at hkd
  ·simp -dsimp -implicitDefEqProofs (disch:=first|omega|assumption) [nI,wI,h1,hv,hkd,Val.d]
   exact ih (i + 1) _ _ ⟨h1,step (by simp [oddV,Val.kind])⟩ (by omega) (by simp -dsimp -implicitDefEqProofs (disch:=first|omega|assumption))
  ·simp -dsimp -implicitDefEqProofs (disch:=first|omega|assumption) [nI,wI,h1,hv,hkd,Val.d]
   exact ih (i + 1) _ _ ⟨h1,step (by simp [oddV,Val.kind])⟩ (by omega) (by simp -dsimp -implicitDefEqProofs (disch:=first|omega|assumption))
  ·subst hT'
   simp -dsimp -implicitDefEqProofs (disch:=first|omega|assumption) [nI,wI,h1,hv,hkd,Val.d]
   simpa -dsimp -implicitDefEqProofs (disch:=first|omega|assumption) [nI,wI,E] using hT
  ·subst hT'
   simp -dsimp -implicitDefEqProofs (disch:=first|omega|assumption) [nI,wI,h1,hv,hkd,Val.d]
   simpa -dsimp -implicitDefEqProofs (disch:=first|omega|assumption) [nI,wI,E] using hT
 ·exfalso
  obtain ⟨v,hv,e⟩ := List.any_eq_true.1 h
  obtain ⟨j,hj,rfl⟩ := List.mem_iff_getElem.1 hv
  rw [hok j (by omega) hj] at e
  cases e
theorem write1_much (l : List Val) (hn : l.length ≤ 4611686018427387903) (hm : 256 < l.length) (hok : l.any (oddV 1) = false) : R 64 [.d (.int .u8 1),.d (.list (vs l))] [] = badW 5 := by
 have hr := right_runs 1 (by decide)
 have hd : decide (1 ≤ 1 ∧ 1 ≤ 3) = true := rfl
 rw [hd] at hr
 simp only [Int.cast_ofNat_Int] at hr
 unfold badW
 refine run_goal (rs:=[.tmp 4,.tmp 5]) (ts:=[24,25]) Tryz.func64 rfl rfl rfl (by kernel_rfl) (by kernel_rfl) (.inl sp_64) (by simp [Tryz.f64]) ?_
 intro T hT
 simp -dsimp -implicitDefEqProofs (disch:=first|omega|assumption) [startSlots,nI,wI,hr]
 generalize hz : loopT _ _ _ _ _ _ = z
 revert z
 refine loop_any (σ:=Nat) (fun i => [(0,.d (.int .u8 1)),(1,.d (.list (vs l))),(26,.d (.list (vs l))),(27,.d (.int .i64 l.length)),(28,.d (.int .i64 i))]) (fun i => []) (fun i => i ≤ l.length) (fun i => l.length - i) 0 ?_ ?_ ?_
 ·exact Nat.zero_le _
 ·simp -dsimp -implicitDefEqProofs (disch:=first|omega|assumption)
 intro T' f hT' i hi ih
 by_cases h1 : i < l.length
 ·rcases ok1 hok h1 with hv | ⟨x,hv⟩
  ·simp -dsimp -implicitDefEqProofs (disch:=first|omega|assumption) [nI,wI,h1,hv,Val.d]
   exact ih (i + 1) _ _ h1 (by omega) (by simp -dsimp -implicitDefEqProofs (disch:=first|omega|assumption))
  ·have hkd := kindOf_runs (.whole x)
   simp only [Val.d,Val.kind] at hkd
   simp only [Int.cast_ofNat_Int] at hkd
   simp -dsimp -implicitDefEqProofs (disch:=first|omega|assumption) [nI,wI,h1,hv,hkd,Val.d]
   exact ih (i + 1) _ _ h1 (by omega) (by simp -dsimp -implicitDefEqProofs (disch:=first|omega|assumption))
 obtain rfl : i = l.length := by omega
 subst hT'
 clear ih hi h1
 have h256 : (256 : Int) < l.length := by omega
 simp -dsimp -implicitDefEqProofs (disch:=first|omega|assumption) [nI,wI,h256]
 simpa -dsimp -implicitDefEqProofs (disch:=first|omega|assumption) [nI,wI,E] using hT
theorem write1_yes (l : List Val) (hn : l.length ≤ 256) (hok : l.any (oddV 1) = false) (h64 : ∀ n,Val.whole n ∈ l → isI64 n) : R 64 [.d (.int .u8 1),.d (.list (vs l))] [] = some ([.arr 0 (colB 1 l).length,E 0],[.arr 1 (bytes (colB 1 l)) 0]) := by
 have hr := right_runs 1 (by decide)
 have hd : decide (1 ≤ 1 ∧ 1 ≤ 3) = true := rfl
 rw [hd] at hr
 simp only [Int.cast_ofNat_Int] at hr
 have hkl := kinds_len l
 have htl := thereL_length l
 have hidx := index_runs (thereL l) (by omega)
 rw [← thD_end] at hidx
 have hfl := flags_runs (thereL l) (by omega)
 rw [← thD_end] at hfl
 have hbody : R 124 [.d (.list (preW l l.length))] [] = some ([.arr 0 (bestB (wholes l)).length,.d (.bool true)],[.arr 1 (bytes (bestB (wholes l))) 0]) := by
  rw [preW_end]; exact ibest_yes (wholes l) (wholes_is h64) (by omega)
 have hfll := flagsB_len (l := thereL l) (by omega)
 have hbl := bestB_len (wholes_is h64) (by omega)
 have hC : colB 1 l = headB l ++ bestB (wholes l) := rfl
 rw [hC]
 obtain ⟨bd,hbd⟩ : ∃ bd,bd = bestB (wholes l) := ⟨_,rfl⟩
 rw [← hbd] at hbody hbl ⊢
 refine run_goal (rs:=[.tmp 4,.tmp 5]) (ts:=[24,25]) Tryz.func64 rfl rfl rfl (by kernel_rfl) (by kernel_rfl) (.inl sp_64) (by simp [Tryz.f64]) ?_
 intro T hT
 simp -dsimp -implicitDefEqProofs (disch:=first|omega|assumption) [startSlots,nI,wI,hr]
 generalize hz : loopT _ _ _ _ _ _ = z
 revert z
 refine loop_any (σ:=Nat) (fun i => [(0,.d (.int .u8 1)),(1,.d (.list (vs l))),(26,.d (.list (vs l))),(27,.d (.int .i64 l.length)),(28,.d (.int .i64 i))]) (fun i => []) (fun i => i ≤ l.length) (fun i => l.length - i) 0 ?_ ?_ ?_
 ·exact Nat.zero_le _
 ·simp -dsimp -implicitDefEqProofs (disch:=first|omega|assumption)
 intro T' f hT' i hi ih
 by_cases h1 : i < l.length
 ·rcases ok1 hok h1 with hv | ⟨x,hv⟩
  ·simp -dsimp -implicitDefEqProofs (disch:=first|omega|assumption) [nI,wI,h1,hv,Val.d]
   exact ih (i + 1) _ _ h1 (by omega) (by simp -dsimp -implicitDefEqProofs (disch:=first|omega|assumption))
  ·have hkd := kindOf_runs (.whole x)
   simp only [Val.d,Val.kind] at hkd
   simp only [Int.cast_ofNat_Int] at hkd
   simp -dsimp -implicitDefEqProofs (disch:=first|omega|assumption) [nI,wI,h1,hv,hkd,Val.d]
   exact ih (i + 1) _ _ h1 (by omega) (by simp -dsimp -implicitDefEqProofs (disch:=first|omega|assumption))
 obtain rfl : i = l.length := by omega
 subst hT'
 clear ih hi h1
 have h256 : ¬ (256 : Int) < l.length := by omega
 simp -dsimp -implicitDefEqProofs (disch:=first|omega|assumption) [nI,wI,h256]
 generalize hz : loopT _ _ _ _ _ _ = z
 revert z
 refine loop_any (σ:=Nat) (fun i => [(0,.d (.int .u8 1)),(8,.arr 0 l.length),(9,.arr 1 (preW l (i)).length),(10,.arr 2 0),(11,.arr 3 0),(47,.d (.list (vs l))),(48,.d (.int .i64 l.length)),(49,.d (.int .i64 (i : Nat)))]) (fun i => [.arr 1 (thD l (i)) 0,.arr 1 (preW l (i)) 0,.arr 1 [] 0,.arr 1 [] 0]) (fun i => i ≤ l.length) (fun i => l.length - i) 0 ?_ ?_ ?_
 ·exact Nat.zero_le _
 ·simp -dsimp -implicitDefEqProofs (disch:=first|omega|assumption) [thD_zero,preW_zero]
 intro T2 f2 hT2 i hi ih
 by_cases h1 : i < l.length
 ·have hts := thD_set h1
  have hg := thD_get h1
  have htl1 := thD_length hi
  have htl2 := thD_length (l := l) (i := i + 1) h1
  have hps := preW_succ h1
  have hpl := preW_length l i
  rcases ok1 hok h1 with hv | ⟨x,hv⟩
  ·rw [hv] at hts hps
   simp only [ne_eq,not_true_eq_false,decide_false,List.append_nil] at hts hps
   simp -dsimp -implicitDefEqProofs (disch:=first|omega|assumption) [nI,wI,h1,hv,Val.d,hg,htl1,hts]
   refine ih (i + 1) _ _ h1 (by omega) ?_
   rw [hps]
   simp -dsimp -implicitDefEqProofs (disch:=first|omega|assumption)
  ·rw [hv] at hts hps
   simp only [ne_eq,reduceCtorEq,not_false_eq_true,decide_true] at hts hps
   simp -dsimp -implicitDefEqProofs (disch:=first|omega|assumption) [nI,wI,h1,hv,Val.d,hg,htl1,hts]
   refine ih (i + 1) _ _ h1 (by omega) ?_
   rw [hps]
   simp -dsimp -implicitDefEqProofs (disch:=first|omega|assumption)
 ·obtain rfl : i = l.length := by omega
  have htl1 := thD_length (Nat.le_refl l.length)
  have hpl := preW_length l l.length
  subst hT2
  by_cases hm : false ∈ thereL l
  ·rw [headB,if_pos hm,show (1 :: flagsB (thereL l) ++ bd).length = 1 + (flagsB (thereL l)).length + bd.length by simp only [List.length_cons,List.length_append]; omega] at hT
   simp -dsimp -implicitDefEqProofs (disch:=first|omega|assumption) [nI,wI,hidx,hm,hfl,hbody,htl1]
   simpa -dsimp -implicitDefEqProofs (disch:=first|omega|assumption) [nI,wI,E] using hT
  ·rw [headB,if_neg hm,show ([(0 : UInt8)] ++ bd).length = 1 + bd.length by simp only [List.length_append,List.length_singleton]] at hT
   simp -dsimp -implicitDefEqProofs (disch:=first|omega|assumption) [nI,wI,hidx,hm,hbody,htl1]
   simpa -dsimp -implicitDefEqProofs (disch:=first|omega|assumption) [nI,wI,E] using hT
end Go.Am.Ab
namespace Go.Am.Ab
open Go.Proofs
set_option maxHeartbeats 4000000
set_option maxRecDepth 4000
theorem write2_odd (l : List Val) (hn : l.length ≤ 4611686018427387903) (h : l.any (oddV 2) = true) : R 64 [.d (.int .u8 2),.d (.list (vs l))] [] = badW 10 := by
 have hr := right_runs 2 (by decide)
 have hd : decide (1 ≤ 2 ∧ 2 ≤ 3) = true := rfl
 rw [hd] at hr
 simp only [Int.cast_ofNat_Int] at hr
 unfold badW
 refine run_goal (rs:=[.tmp 4,.tmp 5]) (ts:=[24,25]) Tryz.func64 rfl rfl rfl (by kernel_rfl) (by kernel_rfl) (.inl sp_64) (by simp [Tryz.f64]) ?_
 intro T hT
 simp -dsimp -implicitDefEqProofs (disch:=first|omega|assumption) [startSlots,nI,wI,hr]
 generalize hz : loopT _ _ _ _ _ _ = z
 revert z
 refine loop_any (σ:=Nat) (fun i => [(0,.d (.int .u8 2)),(1,.d (.list (vs l))),(26,.d (.list (vs l))),(27,.d (.int .i64 l.length)),(28,.d (.int .i64 i))]) (fun i => []) (fun i => i ≤ l.length ∧ ∀ j,(hj : j < i) → (hl : j < l.length) → oddV 2 l[j] = false) (fun i => l.length - i) 0 ?_ ?_ ?_
 ·exact ⟨Nat.zero_le _,fun j hj => by omega⟩
 ·simp -dsimp -implicitDefEqProofs (disch:=first|omega|assumption)
 intro T' f hT' i ⟨hi,hok⟩ ih
 by_cases h1 : i < l.length
 ·have step : oddV 2 l[i] = false → ∀ j,(hj : j < i + 1) → (hl : j < l.length) → oddV 2 l[j] = false := fun e j hj hl => by
   by_cases c : j = i
   ·subst c; exact e
   ·exact hok j (by omega) hl
  have hkd := kindOf_runs l[i]
  rcases hv : l[i] with _ | n | b | s
  all_goals
   rw [hv] at hkd step
   simp only [Val.d,Val.kind] at hkd
   simp only [Int.cast_ofNat_Int] at hkd
  ·simp -dsimp -implicitDefEqProofs (disch:=first|omega|assumption) [nI,wI,h1,hv,hkd,Val.d]
   exact ih (i + 1) _ _ ⟨h1,step (by simp [oddV,Val.kind])⟩ (by omega) (by simp -dsimp -implicitDefEqProofs (disch:=first|omega|assumption))
  ·subst hT'
   simp -dsimp -implicitDefEqProofs (disch:=first|omega|assumption) [nI,wI,h1,hv,hkd,Val.d]
   simpa -dsimp -implicitDefEqProofs (disch:=first|omega|assumption) [nI,wI,E] using hT
  ·simp -dsimp -implicitDefEqProofs (disch:=first|omega|assumption) [nI,wI,h1,hv,hkd,Val.d]
   exact ih (i + 1) _ _ ⟨h1,step (by simp [oddV,Val.kind])⟩ (by omega) (by simp -dsimp -implicitDefEqProofs (disch:=first|omega|assumption))
  ·subst hT'
   simp -dsimp -implicitDefEqProofs (disch:=first|omega|assumption) [nI,wI,h1,hv,hkd,Val.d]
   simpa -dsimp -implicitDefEqProofs (disch:=first|omega|assumption) [nI,wI,E] using hT
 ·exfalso
  obtain ⟨v,hv,e⟩ := List.any_eq_true.1 h
  obtain ⟨j,hj,rfl⟩ := List.mem_iff_getElem.1 hv
  rw [hok j (by omega) hj] at e
  cases e
theorem write2_much (l : List Val) (hn : l.length ≤ 4611686018427387903) (hm : 256 < l.length) (hok : l.any (oddV 2) = false) : R 64 [.d (.int .u8 2),.d (.list (vs l))] [] = badW 5 := by
 have hr := right_runs 2 (by decide)
 have hd : decide (1 ≤ 2 ∧ 2 ≤ 3) = true := rfl
 rw [hd] at hr
 simp only [Int.cast_ofNat_Int] at hr
 unfold badW
 refine run_goal (rs:=[.tmp 4,.tmp 5]) (ts:=[24,25]) Tryz.func64 rfl rfl rfl (by kernel_rfl) (by kernel_rfl) (.inl sp_64) (by simp [Tryz.f64]) ?_
 intro T hT
 simp -dsimp -implicitDefEqProofs (disch:=first|omega|assumption) [startSlots,nI,wI,hr]
 generalize hz : loopT _ _ _ _ _ _ = z
 revert z
 refine loop_any (σ:=Nat) (fun i => [(0,.d (.int .u8 2)),(1,.d (.list (vs l))),(26,.d (.list (vs l))),(27,.d (.int .i64 l.length)),(28,.d (.int .i64 i))]) (fun i => []) (fun i => i ≤ l.length) (fun i => l.length - i) 0 ?_ ?_ ?_
 ·exact Nat.zero_le _
 ·simp -dsimp -implicitDefEqProofs (disch:=first|omega|assumption)
 intro T' f hT' i hi ih
 by_cases h1 : i < l.length
 ·rcases ok2 hok h1 with hv | ⟨x,hv⟩
  ·simp -dsimp -implicitDefEqProofs (disch:=first|omega|assumption) [nI,wI,h1,hv,Val.d]
   exact ih (i + 1) _ _ h1 (by omega) (by simp -dsimp -implicitDefEqProofs (disch:=first|omega|assumption))
  ·have hkd := kindOf_runs (.truth x)
   simp only [Val.d,Val.kind] at hkd
   simp only [Int.cast_ofNat_Int] at hkd
   simp -dsimp -implicitDefEqProofs (disch:=first|omega|assumption) [nI,wI,h1,hv,hkd,Val.d]
   exact ih (i + 1) _ _ h1 (by omega) (by simp -dsimp -implicitDefEqProofs (disch:=first|omega|assumption))
 obtain rfl : i = l.length := by omega
 subst hT'
 clear ih hi h1
 have h256 : (256 : Int) < l.length := by omega
 simp -dsimp -implicitDefEqProofs (disch:=first|omega|assumption) [nI,wI,h256]
 simpa -dsimp -implicitDefEqProofs (disch:=first|omega|assumption) [nI,wI,E] using hT
theorem write2_yes (l : List Val) (hn : l.length ≤ 256) (hok : l.any (oddV 2) = false) : R 64 [.d (.int .u8 2),.d (.list (vs l))] [] = some ([.arr 0 (colB 2 l).length,E 0],[.arr 1 (bytes (colB 2 l)) 0]) := by
 have hr := right_runs 2 (by decide)
 have hd : decide (1 ≤ 2 ∧ 2 ≤ 3) = true := rfl
 rw [hd] at hr
 simp only [Int.cast_ofNat_Int] at hr
 have hkl := kinds_len l
 have htl := thereL_length l
 have hidx := index_runs (thereL l) (by omega)
 rw [← thD_end] at hidx
 have hfl := flags_runs (thereL l) (by omega)
 rw [← thD_end] at hfl
 have hbody : R 123 [.d (.list (preB l l.length))] [] = some ([.arr 0 (flagsB (truths l)).length],[.arr 1 (bytes (flagsB (truths l))) 0]) := by
  rw [preB_end]; exact flags_runs (truths l) (by omega)
 have hfll := flagsB_len (l := thereL l) (by omega)
 have hbl := flagsB_len (l := truths l) (by omega)
 have hC : colB 2 l = headB l ++ flagsB (truths l) := rfl
 rw [hC]
 obtain ⟨bd,hbd⟩ : ∃ bd,bd = flagsB (truths l) := ⟨_,rfl⟩
 rw [← hbd] at hbody hbl ⊢
 refine run_goal (rs:=[.tmp 4,.tmp 5]) (ts:=[24,25]) Tryz.func64 rfl rfl rfl (by kernel_rfl) (by kernel_rfl) (.inl sp_64) (by simp [Tryz.f64]) ?_
 intro T hT
 simp -dsimp -implicitDefEqProofs (disch:=first|omega|assumption) [startSlots,nI,wI,hr]
 generalize hz : loopT _ _ _ _ _ _ = z
 revert z
 refine loop_any (σ:=Nat) (fun i => [(0,.d (.int .u8 2)),(1,.d (.list (vs l))),(26,.d (.list (vs l))),(27,.d (.int .i64 l.length)),(28,.d (.int .i64 i))]) (fun i => []) (fun i => i ≤ l.length) (fun i => l.length - i) 0 ?_ ?_ ?_
 ·exact Nat.zero_le _
 ·simp -dsimp -implicitDefEqProofs (disch:=first|omega|assumption)
 intro T' f hT' i hi ih
 by_cases h1 : i < l.length
 ·rcases ok2 hok h1 with hv | ⟨x,hv⟩
  ·simp -dsimp -implicitDefEqProofs (disch:=first|omega|assumption) [nI,wI,h1,hv,Val.d]
   exact ih (i + 1) _ _ h1 (by omega) (by simp -dsimp -implicitDefEqProofs (disch:=first|omega|assumption))
  ·have hkd := kindOf_runs (.truth x)
   simp only [Val.d,Val.kind] at hkd
   simp only [Int.cast_ofNat_Int] at hkd
   simp -dsimp -implicitDefEqProofs (disch:=first|omega|assumption) [nI,wI,h1,hv,hkd,Val.d]
   exact ih (i + 1) _ _ h1 (by omega) (by simp -dsimp -implicitDefEqProofs (disch:=first|omega|assumption))
 obtain rfl : i = l.length := by omega
 subst hT'
 clear ih hi h1
 have h256 : ¬ (256 : Int) < l.length := by omega
 simp -dsimp -implicitDefEqProofs (disch:=first|omega|assumption) [nI,wI,h256]
 generalize hz : loopT _ _ _ _ _ _ = z
 revert z
 refine loop_any (σ:=Nat) (fun i => [(0,.d (.int .u8 2)),(8,.arr 0 l.length),(9,.arr 1 0),(10,.arr 2 (preB l (i)).length),(11,.arr 3 0),(47,.d (.list (vs l))),(48,.d (.int .i64 l.length)),(49,.d (.int .i64 (i : Nat)))]) (fun i => [.arr 1 (thD l (i)) 0,.arr 1 [] 0,.arr 1 (preB l (i)) 0,.arr 1 [] 0]) (fun i => i ≤ l.length) (fun i => l.length - i) 0 ?_ ?_ ?_
 ·exact Nat.zero_le _
 ·simp -dsimp -implicitDefEqProofs (disch:=first|omega|assumption) [thD_zero,preB_zero]
 intro T2 f2 hT2 i hi ih
 by_cases h1 : i < l.length
 ·have hts := thD_set h1
  have hg := thD_get h1
  have htl1 := thD_length hi
  have htl2 := thD_length (l := l) (i := i + 1) h1
  have hps := preB_succ h1
  have hpl := preB_length l i
  rcases ok2 hok h1 with hv | ⟨x,hv⟩
  ·rw [hv] at hts hps
   simp only [ne_eq,not_true_eq_false,decide_false,List.append_nil] at hts hps
   simp -dsimp -implicitDefEqProofs (disch:=first|omega|assumption) [nI,wI,h1,hv,Val.d,hg,htl1,hts]
   refine ih (i + 1) _ _ h1 (by omega) ?_
   rw [hps]
   simp -dsimp -implicitDefEqProofs (disch:=first|omega|assumption)
  ·rw [hv] at hts hps
   simp only [ne_eq,reduceCtorEq,not_false_eq_true,decide_true] at hts hps
   simp -dsimp -implicitDefEqProofs (disch:=first|omega|assumption) [nI,wI,h1,hv,Val.d,hg,htl1,hts]
   refine ih (i + 1) _ _ h1 (by omega) ?_
   rw [hps]
   simp -dsimp -implicitDefEqProofs (disch:=first|omega|assumption)
 ·obtain rfl : i = l.length := by omega
  have htl1 := thD_length (Nat.le_refl l.length)
  have hpl := preB_length l l.length
  subst hT2
  by_cases hm : false ∈ thereL l
  ·rw [headB,if_pos hm,show (1 :: flagsB (thereL l) ++ bd).length = 1 + (flagsB (thereL l)).length + bd.length by simp only [List.length_cons,List.length_append]; omega] at hT
   simp -dsimp -implicitDefEqProofs (disch:=first|omega|assumption) [nI,wI,hidx,hm,hfl,hbody,htl1]
   simpa -dsimp -implicitDefEqProofs (disch:=first|omega|assumption) [nI,wI,E] using hT
  ·rw [headB,if_neg hm,show ([(0 : UInt8)] ++ bd).length = 1 + bd.length by simp only [List.length_append,List.length_singleton]] at hT
   simp -dsimp -implicitDefEqProofs (disch:=first|omega|assumption) [nI,wI,hidx,hm,hbody,htl1]
   simpa -dsimp -implicitDefEqProofs (disch:=first|omega|assumption) [nI,wI,E] using hT
end Go.Am.Ab
namespace Go.Am.Ab
open Go.Proofs
set_option maxHeartbeats 4000000
set_option maxRecDepth 4000
theorem write3_odd (l : List Val) (hn : l.length ≤ 4611686018427387903) (h : l.any (oddV 3) = true) : R 64 [.d (.int .u8 3),.d (.list (vs l))] [] = badW 10 := by
 have hr := right_runs 3 (by decide)
 have hd : decide (1 ≤ 3 ∧ 3 ≤ 3) = true := rfl
 rw [hd] at hr
 simp only [Int.cast_ofNat_Int] at hr
 unfold badW
 refine run_goal (rs:=[.tmp 4,.tmp 5]) (ts:=[24,25]) Tryz.func64 rfl rfl rfl (by kernel_rfl) (by kernel_rfl) (.inl sp_64) (by simp [Tryz.f64]) ?_
 intro T hT
 simp -dsimp -implicitDefEqProofs (disch:=first|omega|assumption) [startSlots,nI,wI,hr]
 generalize hz : loopT _ _ _ _ _ _ = z
 revert z
 refine loop_any (σ:=Nat) (fun i => [(0,.d (.int .u8 3)),(1,.d (.list (vs l))),(26,.d (.list (vs l))),(27,.d (.int .i64 l.length)),(28,.d (.int .i64 i))]) (fun i => []) (fun i => i ≤ l.length ∧ ∀ j,(hj : j < i) → (hl : j < l.length) → oddV 3 l[j] = false) (fun i => l.length - i) 0 ?_ ?_ ?_
 ·exact ⟨Nat.zero_le _,fun j hj => by omega⟩
 ·simp -dsimp -implicitDefEqProofs (disch:=first|omega|assumption)
 intro T' f hT' i ⟨hi,hok⟩ ih
 by_cases h1 : i < l.length
 ·have step : oddV 3 l[i] = false → ∀ j,(hj : j < i + 1) → (hl : j < l.length) → oddV 3 l[j] = false := fun e j hj hl => by
   by_cases c : j = i
   ·subst c; exact e
   ·exact hok j (by omega) hl
  have hkd := kindOf_runs l[i]
  rcases hv : l[i] with _ | n | b | s
  all_goals
   rw [hv] at hkd step
   simp only [Val.d,Val.kind] at hkd
   simp only [Int.cast_ofNat_Int] at hkd
  ·simp -dsimp -implicitDefEqProofs (disch:=first|omega|assumption) [nI,wI,h1,hv,hkd,Val.d]
   exact ih (i + 1) _ _ ⟨h1,step (by simp [oddV,Val.kind])⟩ (by omega) (by simp -dsimp -implicitDefEqProofs (disch:=first|omega|assumption))
  ·subst hT'
   simp -dsimp -implicitDefEqProofs (disch:=first|omega|assumption) [nI,wI,h1,hv,hkd,Val.d]
   simpa -dsimp -implicitDefEqProofs (disch:=first|omega|assumption) [nI,wI,E] using hT
  ·subst hT'
   simp -dsimp -implicitDefEqProofs (disch:=first|omega|assumption) [nI,wI,h1,hv,hkd,Val.d]
   simpa -dsimp -implicitDefEqProofs (disch:=first|omega|assumption) [nI,wI,E] using hT
  ·simp -dsimp -implicitDefEqProofs (disch:=first|omega|assumption) [nI,wI,h1,hv,hkd,Val.d]
   exact ih (i + 1) _ _ ⟨h1,step (by simp [oddV,Val.kind])⟩ (by omega) (by simp -dsimp -implicitDefEqProofs (disch:=first|omega|assumption))
 ·exfalso
  obtain ⟨v,hv,e⟩ := List.any_eq_true.1 h
  obtain ⟨j,hj,rfl⟩ := List.mem_iff_getElem.1 hv
  rw [hok j (by omega) hj] at e
  cases e
theorem write3_much (l : List Val) (hn : l.length ≤ 4611686018427387903) (hm : 256 < l.length) (hok : l.any (oddV 3) = false) : R 64 [.d (.int .u8 3),.d (.list (vs l))] [] = badW 5 := by
 have hr := right_runs 3 (by decide)
 have hd : decide (1 ≤ 3 ∧ 3 ≤ 3) = true := rfl
 rw [hd] at hr
 simp only [Int.cast_ofNat_Int] at hr
 unfold badW
 refine run_goal (rs:=[.tmp 4,.tmp 5]) (ts:=[24,25]) Tryz.func64 rfl rfl rfl (by kernel_rfl) (by kernel_rfl) (.inl sp_64) (by simp [Tryz.f64]) ?_
 intro T hT
 simp -dsimp -implicitDefEqProofs (disch:=first|omega|assumption) [startSlots,nI,wI,hr]
 generalize hz : loopT _ _ _ _ _ _ = z
 revert z
 refine loop_any (σ:=Nat) (fun i => [(0,.d (.int .u8 3)),(1,.d (.list (vs l))),(26,.d (.list (vs l))),(27,.d (.int .i64 l.length)),(28,.d (.int .i64 i))]) (fun i => []) (fun i => i ≤ l.length) (fun i => l.length - i) 0 ?_ ?_ ?_
 ·exact Nat.zero_le _
 ·simp -dsimp -implicitDefEqProofs (disch:=first|omega|assumption)
 intro T' f hT' i hi ih
 by_cases h1 : i < l.length
 ·rcases ok3 hok h1 with hv | ⟨x,hv⟩
  ·simp -dsimp -implicitDefEqProofs (disch:=first|omega|assumption) [nI,wI,h1,hv,Val.d]
   exact ih (i + 1) _ _ h1 (by omega) (by simp -dsimp -implicitDefEqProofs (disch:=first|omega|assumption))
  ·have hkd := kindOf_runs (.text x)
   simp only [Val.d,Val.kind] at hkd
   simp only [Int.cast_ofNat_Int] at hkd
   simp -dsimp -implicitDefEqProofs (disch:=first|omega|assumption) [nI,wI,h1,hv,hkd,Val.d]
   exact ih (i + 1) _ _ h1 (by omega) (by simp -dsimp -implicitDefEqProofs (disch:=first|omega|assumption))
 obtain rfl : i = l.length := by omega
 subst hT'
 clear ih hi h1
 have h256 : (256 : Int) < l.length := by omega
 simp -dsimp -implicitDefEqProofs (disch:=first|omega|assumption) [nI,wI,h256]
 simpa -dsimp -implicitDefEqProofs (disch:=first|omega|assumption) [nI,wI,E] using hT
theorem write3_yes (l : List Val) (hn : l.length ≤ 256) (hok : l.any (oddV 3) = false) (hlo : l.any longV = false) : R 64 [.d (.int .u8 3),.d (.list (vs l))] [] = some ([.arr 0 (colB 3 l).length,E 0],[.arr 1 (bytes (colB 3 l)) 0]) := by
 have hr := right_runs 3 (by decide)
 have hd : decide (1 ≤ 3 ∧ 3 ≤ 3) = true := rfl
 rw [hd] at hr
 simp only [Int.cast_ofNat_Int] at hr
 have hkl := kinds_len l
 have htl := thereL_length l
 have hidx := index_runs (thereL l) (by omega)
 rw [← thD_end] at hidx
 have hfl := flags_runs (thereL l) (by omega)
 rw [← thD_end] at hfl
 have hbody : R 125 [.d (.list (preS l l.length))] [] = some ([.arr 0 (wordsB (texts l)).length],[.arr 1 (bytes (wordsB (texts l))) 0]) := by
  rw [preS_end]; exact words_runs (texts l) (texts_is hlo) (by omega)
 have hfll := flagsB_len (l := thereL l) (by omega)
 have hbl := wordsB_len (texts_is hlo) (by omega)
 have hC : colB 3 l = headB l ++ wordsB (texts l) := rfl
 rw [hC]
 obtain ⟨bd,hbd⟩ : ∃ bd,bd = wordsB (texts l) := ⟨_,rfl⟩
 rw [← hbd] at hbody hbl ⊢
 refine run_goal (rs:=[.tmp 4,.tmp 5]) (ts:=[24,25]) Tryz.func64 rfl rfl rfl (by kernel_rfl) (by kernel_rfl) (.inl sp_64) (by simp [Tryz.f64]) ?_
 intro T hT
 simp -dsimp -implicitDefEqProofs (disch:=first|omega|assumption) [startSlots,nI,wI,hr]
 generalize hz : loopT _ _ _ _ _ _ = z
 revert z
 refine loop_any (σ:=Nat) (fun i => [(0,.d (.int .u8 3)),(1,.d (.list (vs l))),(26,.d (.list (vs l))),(27,.d (.int .i64 l.length)),(28,.d (.int .i64 i))]) (fun i => []) (fun i => i ≤ l.length) (fun i => l.length - i) 0 ?_ ?_ ?_
 ·exact Nat.zero_le _
 ·simp -dsimp -implicitDefEqProofs (disch:=first|omega|assumption)
 intro T' f hT' i hi ih
 by_cases h1 : i < l.length
 ·rcases ok3 hok h1 with hv | ⟨x,hv⟩
  ·simp -dsimp -implicitDefEqProofs (disch:=first|omega|assumption) [nI,wI,h1,hv,Val.d]
   exact ih (i + 1) _ _ h1 (by omega) (by simp -dsimp -implicitDefEqProofs (disch:=first|omega|assumption))
  ·have hkd := kindOf_runs (.text x)
   simp only [Val.d,Val.kind] at hkd
   simp only [Int.cast_ofNat_Int] at hkd
   simp -dsimp -implicitDefEqProofs (disch:=first|omega|assumption) [nI,wI,h1,hv,hkd,Val.d]
   exact ih (i + 1) _ _ h1 (by omega) (by simp -dsimp -implicitDefEqProofs (disch:=first|omega|assumption))
 obtain rfl : i = l.length := by omega
 subst hT'
 clear ih hi h1
 have h256 : ¬ (256 : Int) < l.length := by omega
 simp -dsimp -implicitDefEqProofs (disch:=first|omega|assumption) [nI,wI,h256]
 generalize hz : loopT _ _ _ _ _ _ = z
 revert z
 refine loop_any (σ:=Nat) (fun i => [(0,.d (.int .u8 3)),(8,.arr 0 l.length),(9,.arr 1 0),(10,.arr 2 0),(11,.arr 3 (preS l (i)).length),(47,.d (.list (vs l))),(48,.d (.int .i64 l.length)),(49,.d (.int .i64 (i : Nat)))]) (fun i => [.arr 1 (thD l (i)) 0,.arr 1 [] 0,.arr 1 [] 0,.arr 1 (preS l (i)) 0]) (fun i => i ≤ l.length) (fun i => l.length - i) 0 ?_ ?_ ?_
 ·exact Nat.zero_le _
 ·simp -dsimp -implicitDefEqProofs (disch:=first|omega|assumption) [thD_zero,preS_zero]
 intro T2 f2 hT2 i hi ih
 by_cases h1 : i < l.length
 ·have hts := thD_set h1
  have hg := thD_get h1
  have htl1 := thD_length hi
  have htl2 := thD_length (l := l) (i := i + 1) h1
  have hps := preS_succ h1
  have hpl := preS_length l i
  rcases ok3 hok h1 with hv | ⟨x,hv⟩
  ·rw [hv] at hts hps
   simp only [ne_eq,not_true_eq_false,decide_false,List.append_nil] at hts hps
   simp -dsimp -implicitDefEqProofs (disch:=first|omega|assumption) [nI,wI,h1,hv,Val.d,hg,htl1,hts]
   refine ih (i + 1) _ _ h1 (by omega) ?_
   rw [hps]
   simp -dsimp -implicitDefEqProofs (disch:=first|omega|assumption)
  ·rw [hv] at hts hps
   simp only [ne_eq,reduceCtorEq,not_false_eq_true,decide_true] at hts hps
   have hx : ¬ (64 : Int) < x.size := by
    have := List.any_eq_false.1 hlo _ (hv ▸ List.getElem_mem h1)
    simp [longV] at this
    omega
   simp -dsimp -implicitDefEqProofs (disch:=first|omega|assumption) [nI,wI,h1,hv,Val.d,hg,htl1,hts,hx]
   refine ih (i + 1) _ _ h1 (by omega) ?_
   rw [hps]
   simp -dsimp -implicitDefEqProofs (disch:=first|omega|assumption)
 ·obtain rfl : i = l.length := by omega
  have htl1 := thD_length (Nat.le_refl l.length)
  have hpl := preS_length l l.length
  subst hT2
  by_cases hm : false ∈ thereL l
  ·rw [headB,if_pos hm,show (1 :: flagsB (thereL l) ++ bd).length = 1 + (flagsB (thereL l)).length + bd.length by simp only [List.length_cons,List.length_append]; omega] at hT
   simp -dsimp -implicitDefEqProofs (disch:=first|omega|assumption) [nI,wI,hidx,hm,hfl,hbody,htl1]
   simpa -dsimp -implicitDefEqProofs (disch:=first|omega|assumption) [nI,wI,E] using hT
  ·rw [headB,if_neg hm,show ([(0 : UInt8)] ++ bd).length = 1 + bd.length by simp only [List.length_append,List.length_singleton]] at hT
   simp -dsimp -implicitDefEqProofs (disch:=first|omega|assumption) [nI,wI,hidx,hm,hbody,htl1]
   simpa -dsimp -implicitDefEqProofs (disch:=first|omega|assumption) [nI,wI,E] using hT
end Go.Am.Ab
