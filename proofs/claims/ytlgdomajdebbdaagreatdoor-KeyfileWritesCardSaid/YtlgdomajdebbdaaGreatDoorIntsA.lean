/- Lists by codecs 0 to 2 and 4. -/
import Derived.Test.YtlgdomajdebbdaaGreatDoorBitsB
import Derived.Test.YtlgdomajdebbdaaGreatDoorVars
set_option linter.all false
namespace Go.Am.Ab
open Go.Proofs
set_option maxHeartbeats 4000000
abbrev ints (l : List Int) : D := .list (l.map fun n => D.int .i64 n)
def isI64 (n : Int) : Prop := -9223372036854775808 ≤ n ∧ n ≤ 9223372036854775807
theorem wrap_is (x : Int) : isI64 (IntKind.i64.wrap x) := by unfold isI64; rw [wrap_mod_i64]; split <;> omega
def plainB (l : List Int) : List UInt8 := l.flatMap putInt
theorem plainB_snoc (l : List Int) (n : Int) : plainB (l ++ [n]) = plainB l ++ putInt n := by simp [plainB]
theorem putInt_len {n : Int} (h : isI64 n) : (putInt n).length ≤ 10 := put_len (zig_lt h.1 h.2)
theorem plainB_len {l : List Int} (h : ∀ n ∈ l,isI64 n) : (plainB l).length ≤ 10 * l.length := by
 induction l with
 | nil => simp [plainB]
 | cons n l ih =>
  have h1 := putInt_len (h n (by simp))
  have h2 := ih fun m hm => h m (by simp [hm])
  simp only [plainB,List.flatMap_cons,List.length_append,List.length_cons] at *
  omega
theorem plain_runs (l : List Int) (hl : ∀ n ∈ l,isI64 n) (hn : l.length ≤ 256) : R 215 [.d (ints l)] [] = some ([.arr 0 (plainB l).length],[.arr 1 (bytes (plainB l)) 0]) := by
 refine run_goal (rs:=[.tmp 2]) (ts:=[24]) Tryz.func215 rfl rfl rfl (by kernel_rfl) (by kernel_rfl) (.inl sp_215) (by simp [Tryz.f215]) ?_
 intro T hT
 simp -dsimp -implicitDefEqProofs (disch:=first|omega|assumption) [startSlots,nI,wI]
 generalize hz : loopT _ _ _ _ _ _ = z
 revert z
 refine loop_any (σ:=Nat) (fun i => [(3,.arr 0 (plainB (l.take i)).length),(6,.d (ints l)),(7,.d (.int .i64 l.length)),(8,.d (.int .i64 i))]) (fun i => [.arr 1 (bytes (plainB (l.take i))) 0]) (fun i => i ≤ l.length) (fun i => l.length - i) 0 ?_ ?_ ?_
 ·simp
 ·simp -dsimp -implicitDefEqProofs (disch:=first|omega|assumption) [plainB]
 intro T' f hT' i hi ih
 by_cases h1 : i < l.length
 ·have hb := hl l[i] (by simp)
  have hp := putInt_runs l[i] hb.1 hb.2
  have hlen := putInt_len hb
  have hlen2 := plainB_len (l := l.take i) fun n h => hl n (List.mem_of_mem_take h)
  rw [List.length_take] at hlen2
  simp -dsimp -implicitDefEqProofs (disch:=first|omega|assumption) [nI,wI,h1,hp]
  refine ih (i + 1) _ _ h1 (by omega) ?_
  rw [take_snoc h1,plainB_snoc]
  simp -dsimp -implicitDefEqProofs (disch:=first|omega|assumption)
 ·rw [List.take_of_length_le (by omega)]
  subst hT'
  simp -dsimp -implicitDefEqProofs (disch:=first|omega|assumption) [nI,wI,h1]
  simpa -dsimp -implicitDefEqProofs (disch:=first|omega|assumption) [nI,wI] using hT
def deltas : Int → List Int → List Int
 | _,[] => []
 | a,n :: r => IntKind.i64.wrap (n - a) :: deltas n r
def deltaB (l : List Int) : List UInt8 := plainB (deltas 0 l)
theorem deltas_is : ∀ (l : List Int) (a : Int), ∀ n ∈ deltas a l,isI64 n
 | [],_,_,h => by simp [deltas] at h
 | n :: r,a,m,h => by
  simp only [deltas,List.mem_cons] at h
  rcases h with rfl | h
  ·exact wrap_is _
  ·exact deltas_is r n m h
theorem deltas_length : ∀ (l : List Int) (a : Int),(deltas a l).length = l.length
 | [],_ => rfl
 | n :: r,a => by simp [deltas,deltas_length r n]
theorem plainB_cons (n : Int) (l : List Int) : plainB (n :: l) = putInt n ++ plainB l := rfl
theorem deltaB_len (l : List Int) : (deltaB l).length ≤ 10 * l.length := by
 have := plainB_len (deltas_is l 0)
 rwa [deltas_length] at this
theorem delta_runs (l : List Int) (hl : ∀ n ∈ l,isI64 n) (hn : l.length ≤ 256) : R 216 [.d (ints l)] [] = some ([.arr 0 (deltaB l).length],[.arr 1 (bytes (deltaB l)) 0]) := by
 have htot := deltaB_len l
 refine run_goal (rs:=[.tmp 2]) (ts:=[24]) Tryz.func216 rfl rfl rfl (by kernel_rfl) (by kernel_rfl) (.inl sp_216) (by simp [Tryz.f216]) ?_
 intro T hT
 simp -dsimp -implicitDefEqProofs (disch:=first|omega|assumption) [startSlots,nI,wI]
 generalize hz : loopT _ _ _ _ _ _ = z
 revert z
 refine loop_any (σ:=Nat × Int × List UInt8) (fun x => [(3,.arr 0 x.2.2.length),(4,.d (.int .i64 x.2.1)),(7,.d (ints l)),(8,.d (.int .i64 l.length)),(9,.d (.int .i64 x.1))]) (fun x => [.arr 1 (bytes x.2.2) 0]) (fun x => x.1 ≤ l.length ∧ isI64 x.2.1 ∧ x.2.2 ++ plainB (deltas x.2.1 (l.drop x.1)) = deltaB l) (fun x => l.length - x.1) (0,0,[]) ?_ ?_ ?_
 ·exact ⟨by simp,⟨by decide,by decide⟩,rfl⟩
 ·simp -dsimp -implicitDefEqProofs (disch:=first|omega|assumption)
 intro T' f hT' ⟨i,a,bs⟩ ⟨hi,ha,he⟩ ih
 simp only at hi ha he ih
 by_cases h1 : i < l.length
 ·have hb := hl l[i] (by simp)
  have hw := wrap_is (l[i] - a)
  have hp := putInt_runs (IntKind.i64.wrap (l[i] - a)) hw.1 hw.2
  rw [List.drop_eq_getElem_cons h1,deltas,plainB_cons] at he
  have hlen : bs.length + (putInt (IntKind.i64.wrap (l[i] - a))).length ≤ (deltaB l).length := by rw [← he]; simp <;> omega
  obtain ⟨d,hd⟩ : ∃ d,d = IntKind.i64.wrap (l[i] - a) := ⟨_,rfl⟩
  rw [← hd] at hp he hlen
  have hd' : IntKind.i64.wrap (l[i] - a) = d := hd.symm
  simp -dsimp -implicitDefEqProofs (disch:=first|omega|assumption) [nI,wI,h1,hd',hp]
  refine ih (i + 1,l[i],bs ++ putInt d) _ _ ⟨h1,hb,by rw [← he]; simp⟩ (by simp only; omega) ?_
  simp -dsimp -implicitDefEqProofs (disch:=first|omega|assumption)
 ·rw [List.drop_of_length_le (by omega),deltas] at he
  simp only [plainB,List.flatMap_nil,List.append_nil] at he
  subst hT'
  rw [← he] at hT htot
  simp -dsimp -implicitDefEqProofs (disch:=first|omega|assumption) [nI,wI,h1]
  simpa -dsimp -implicitDefEqProofs (disch:=first|omega|assumption) [nI,wI] using hT
def cnt (x : Int) : List Int → Nat
 | [] => 0
 | y :: r => if y = x then cnt x r + 1 else 0
theorem cnt_le (x : Int) : ∀ l,cnt x l ≤ l.length
 | [] => by simp [cnt]
 | y :: r => by have := cnt_le x r; simp only [cnt,List.length_cons]; split <;> omega
def runsF : Nat → List Int → List UInt8
 | 0,_ => []
 | _,[] => []
 | k + 1,x :: r => putInt x ++ (put (cnt x r + 1) ++ runsF k (r.drop (cnt x r)))
def runsB (l : List Int) : List UInt8 := runsF l.length l
theorem runsF_eq : ∀ (k j : Nat) (l : List Int),l.length ≤ k → l.length ≤ j → runsF k l = runsF j l
 | 0,0,_,_,_ => rfl
 | 0,j + 1,l,h,_ => by
  have : l = [] := by simpa using h
  subst this; rfl
 | k + 1,0,l,_,h => by
  have : l = [] := by simpa using h
  subst this; rfl
 | k + 1,j + 1,[],_,_ => rfl
 | k + 1,j + 1,x :: r,h1,h2 => by
  simp only [List.length_cons] at h1 h2
  simp only [runsF]
  rw [runsF_eq k j _ (by simp; omega) (by simp; omega)]
theorem runsB_cons {x : Int} {l r : List Int} (h : l = x :: r) : runsB l = putInt x ++ (put (cnt x l) ++ runsB (l.drop (cnt x l))) := by
 subst h
 have e : cnt x (x :: r) = cnt x r + 1 := by simp [cnt]
 rw [e,List.drop_succ_cons]
 unfold runsB
 simp only [List.length_cons,runsF]
 rw [runsF_eq r.length _ _ (by simp) (Nat.le_refl _)]
theorem runsF_len : ∀ (k : Nat) (l : List Int),(∀ n ∈ l,isI64 n) → l.length ≤ 1000000 → l.length ≤ k → (runsF k l).length ≤ 20 * l.length
 | 0,_,_,_,_ => by simp [runsF]
 | k + 1,[],_,_,_ => by simp [runsF]
 | k + 1,x :: r,h,h2,h3 => by
  simp only [List.length_cons] at h2 h3
  have h4 := cnt_le x r
  have h1 := putInt_len (h x (by simp))
  have h5 := put_len (n := cnt x r + 1) (by omega)
  have h6 := runsF_len k (r.drop (cnt x r)) (fun n hn => h n (by simp [List.mem_of_mem_drop hn])) (by simp; omega) (by simp; omega)
  simp only [runsF,List.length_append,List.length_cons]
  simp only [List.length_drop] at h6
  omega
theorem runs_runs (l : List Int) (hl : ∀ n ∈ l,isI64 n) (hn : l.length ≤ 256) : R 217 [.d (ints l)] [] = some ([.arr 0 (runsB l).length],[.arr 1 (bytes (runsB l)) 0]) := by
 have htot : (runsB l).length ≤ 20 * l.length := runsF_len _ l hl (by omega) (Nat.le_refl _)
 refine run_goal (rs:=[.tmp 2]) (ts:=[24]) Tryz.func217 rfl rfl rfl (by kernel_rfl) (by kernel_rfl) (.inl sp_217) (by simp [Tryz.f217]) ?_
 intro T hT
 simp -dsimp -implicitDefEqProofs (disch:=first|omega|assumption) [startSlots,nI,wI]
 generalize hz : loopT _ _ _ _ _ _ = z
 revert z
 refine loop_any (σ:=Nat × List UInt8) (fun x => [(0,.d (ints l)),(3,.arr 0 x.2.length),(4,.d (.int .i64 x.1))]) (fun x => [.arr 1 (bytes x.2) 0]) (fun x => x.1 ≤ l.length ∧ x.2 ++ runsB (l.drop x.1) = runsB l) (fun x => l.length - x.1) (0,[]) ?_ ?_ ?_
 ·exact ⟨by simp,rfl⟩
 ·simp -dsimp -implicitDefEqProofs (disch:=first|omega|assumption)
 intro T' f hT' ⟨i,bs⟩ ⟨hi,he⟩ ih
 simp only at hi he ih
 by_cases h1 : i < l.length
 ·have hb := hl l[i] (by simp)
  have hp := putInt_runs l[i] hb.1 hb.2
  have hd := List.drop_eq_getElem_cons h1
  rw [runsB_cons hd] at he
  have hcl := cnt_le l[i] (l.drop i)
  rw [List.length_drop] at hcl
  have hcp : 0 < cnt l[i] (l.drop i) := by rw [hd]; simp [cnt]
  obtain ⟨c,hc⟩ : ∃ c,c = cnt l[i] (l.drop i) := ⟨_,rfl⟩
  rw [← hc] at he hcl hcp
  rw [List.drop_drop] at he
  have hq := put_runs c (by omega)
  have hlen : bs.length + (putInt l[i]).length + (put c).length ≤ (runsB l).length := by rw [← he]; simp <;> omega
  simp -dsimp -implicitDefEqProofs (disch:=first|omega|assumption) [nI,wI,h1]
  generalize hz : loopT _ _ _ _ _ _ = z
  revert z
  refine loop_any (σ:=Nat) (fun k => [(0,.d (ints l)),(3,.arr 0 bs.length),(4,.d (.int .i64 i)),(5,.d (.int .i64 k))]) (fun k => [.arr 1 (bytes bs) 0]) (fun k => i ≤ k ∧ k ≤ l.length ∧ c = (k - i) + cnt l[i] (l.drop k)) (fun k => l.length - k) i ?_ ?_ ?_
  ·exact ⟨Nat.le_refl _,hi,by rw [hc]; omega⟩
  ·simp
  intro T2 f2 hT2 k ⟨hk1,hk2,hk3⟩ ih2
  have out : ∀ s1 : Slots,sget s1 0 = .d (ints l) → sget s1 3 = .arr 0 bs.length → sget s1 4 = .d (.int .i64 i) → sget s1 5 = .d (.int .i64 k) → c = k - i → T2 (some (.exit 2,s1,[.arr 1 (bytes bs) 0])) := by
   intro s1 e0 e3 e4 e5 hw
   subst hT2
   have hki : ((k : Int) - i) = (c : Int) := by omega
   have hcw : IntKind.u64.wrap (c : Int) = c := wrap_u64 (by omega) (by omega)
   simp -dsimp -implicitDefEqProofs (disch:=first|omega|assumption) [nI,wI,e0,e3,e4,e5,hki,hcw,hp,hq]
   refine ih (k,bs ++ (putInt l[i] ++ put c)) _ _ ⟨hk2,by rw [← he,show k = i + c by omega]; simp⟩ (by simp only; omega) ?_
   simp -dsimp -implicitDefEqProofs (disch:=first|omega|assumption) [e0,e3,e4,e5,Nat.add_assoc]
  by_cases h2 : k < l.length
  ·rw [List.drop_eq_getElem_cons h2,cnt] at hk3
   by_cases h3 : l[k] = l[i]
   ·rw [if_pos h3] at hk3
    simp -dsimp -implicitDefEqProofs (disch:=first|omega|assumption) [nI,wI,h1,h2,h3]
    exact ih2 (k + 1) _ _ ⟨by omega,h2,by omega⟩ (by omega) (by simp -dsimp -implicitDefEqProofs (disch:=first|omega|assumption))
   ·rw [if_neg h3] at hk3
    simp -dsimp -implicitDefEqProofs (disch:=first|omega|assumption) [nI,wI,h1,h2,h3]
    exact out _ (by simp) (by simp) (by simp) (by simp) (by omega)
  ·rw [List.drop_of_length_le (by omega),cnt] at hk3
   simp -dsimp -implicitDefEqProofs (disch:=first|omega|assumption) [nI,wI,h1,h2]
   exact out _ (by simp) (by simp) (by simp) (by simp) (by omega)
 ·rw [List.drop_of_length_le (by omega)] at he
  simp only [runsB,List.length_nil,runsF,List.append_nil] at he
  change bs = runsB l at he
  subst hT'
  rw [← he] at hT htot
  simp -dsimp -implicitDefEqProofs (disch:=first|omega|assumption) [nI,wI,h1]
  simpa -dsimp -implicitDefEqProofs (disch:=first|omega|assumption) [nI,wI] using hT
end Go.Am.Ab
namespace Go.Am.Ab
open Go.Proofs
set_option maxHeartbeats 4000000
theorem isNaN_runs (n : Int) : R 173 [.d (.int .i64 n)] [] = some ([.d (.bool false)],[]) := by
 refine run_goal (rs:=[.tmp 2]) (ts:=[4]) Tryz.func173 rfl rfl rfl (by kernel_rfl) (by kernel_rfl) (.inl sp_173) (by simp [Tryz.f173]) ?_
 intro T hT
 simp -dsimp -implicitDefEqProofs (disch:=first|omega|assumption) [startSlots,nI,wI]
 simpa -dsimp -implicitDefEqProofs (disch:=first|omega|assumption) [nI,wI] using hT
theorem less_runs (a b : Int) : R 259 [.d (.int .i64 a),.d (.int .i64 b)] [] = some ([.d (.bool (decide (a < b)))],[]) := by
 refine run_goal (rs:=[.tmp 4]) (ts:=[4]) Tryz.func259 rfl rfl rfl (by kernel_rfl) (by kernel_rfl) (.inl sp_259) (by simp [Tryz.f259]) ?_
 intro T hT
 simp -dsimp -implicitDefEqProofs (disch:=first|omega|assumption) [startSlots,nI,wI,isNaN_runs]
 simpa -dsimp -implicitDefEqProofs (disch:=first|omega|assumption) [nI,wI] using hT
def minL : List Int → Int
 | [] => 0
 | x :: r => r.foldl min x
theorem minL_snoc {l : List Int} (h : l ≠ []) (n : Int) : minL (l ++ [n]) = min (minL l) n := by
 cases l with
 | nil => exact absurd rfl h
 | cons x r => simp [minL]
theorem foldl_min_le : ∀ (l : List Int) (a : Int),l.foldl min a ≤ a ∧ (∀ n ∈ l,l.foldl min a ≤ n) ∧ (l.foldl min a = a ∨ l.foldl min a ∈ l)
 | [],a => ⟨Int.le_refl _,by simp,.inl rfl⟩
 | x :: r,a => by
  obtain ⟨h1,h2,h3⟩ := foldl_min_le r (min a x)
  simp only [List.foldl_cons,List.mem_cons]
  refine ⟨by omega,fun n hn => ?_, ?_⟩
  ·rcases hn with rfl | hn
   ·omega
   ·exact h2 n hn
  ·rcases h3 with h3 | h3
   ·rcases Int.le_total a x with h | h
    ·left; omega
    ·right; left; omega
   ·exact .inr (.inr h3)
theorem minL_le {l : List Int} : ∀ n ∈ l,minL l ≤ n := by
 cases l with
 | nil => simp
 | cons x r =>
  intro n hn
  obtain ⟨h1,h2,-⟩ := foldl_min_le r x
  rcases List.mem_cons.1 hn with rfl | hn
  ·exact h1
  ·exact h2 n hn
theorem minL_mem {l : List Int} (h : l ≠ []) : minL l ∈ l := by
 cases l with
 | nil => exact absurd rfl h
 | cons x r =>
  obtain ⟨-,-,h3⟩ := foldl_min_le r x
  rcases h3 with h3 | h3
  ·simp only [minL,h3,List.mem_cons,true_or]
  ·exact List.mem_cons_of_mem _ h3
theorem min_runs (l : List Int) (h0 : l ≠ []) (hn : l.length ≤ 256) : R 238 [.d (ints l)] [] = some ([.d (.int .i64 (minL l))],[]) := by
 have hlen : 0 < l.length := Nat.pos_of_ne_zero (by simpa using h0)
 have a1 : ¬ (l.length : Int) < 1 := by omega
 refine run_goal (rs:=[.tmp 2]) (ts:=[2]) Tryz.func238 rfl rfl rfl (by kernel_rfl) (by kernel_rfl) (.inl sp_238) (by simp [Tryz.f238]) ?_
 intro T hT
 simp -dsimp -implicitDefEqProofs (disch:=first|omega|assumption) [startSlots,nI,wI,a1,hlen,h0]
 generalize hz : loopT _ _ _ _ _ _ = z
 revert z
 refine loop_any (σ:=Nat) (fun i => [(0,.d (ints l)),(3,.d (.int .i64 (minL (l.take i)))),(4,.d (.int .i64 i))]) (fun i => []) (fun i => 1 ≤ i ∧ i ≤ l.length) (fun i => l.length - i) 1 ?_ ?_ ?_
 ·exact ⟨Nat.le_refl _,hlen⟩
 ·cases l with
  | nil => exact absurd rfl h0
  | cons x r => simp -dsimp -implicitDefEqProofs (disch:=first|omega|assumption) [minL]
 intro T' f hT' i ⟨hi1,hi⟩ ih
 by_cases h1 : i < l.length
 ·have hm : minL (l.take (i + 1)) = min (minL (l.take i)) l[i] := by
   rw [take_snoc h1,minL_snoc]
   intro h
   have := congrArg List.length h
   rw [List.length_take,List.length_nil] at this; omega
  simp -dsimp -implicitDefEqProofs (disch:=first|omega|assumption) [nI,wI,h1]
  refine ih (i + 1) _ _ ⟨by omega,h1⟩ (by omega) ?_
  rw [hm]
  simp -dsimp -implicitDefEqProofs (disch:=first|omega|assumption)
  try omega
 ·rw [List.take_of_length_le (by omega)]
  subst hT'
  simp -dsimp -implicitDefEqProofs (disch:=first|omega|assumption) [nI,wI,h1]
  simpa -dsimp -implicitDefEqProofs (disch:=first|omega|assumption) [nI,wI] using hT
theorem ipack_runs (l : List Nat) (hl : ∀ n ∈ l,n < 18446744073709551616) (hn : l.length ≤ 256) : R 237 [.d (nats l)] [] = some ([.arr 0 (packed (width l) l).length],[.arr 1 (bytes (packed (width l) l)) 0]) := by
 have h1 := width_runs l hl (by omega)
 have h2 := pack_yes l (width l) hl (width_le64 hl) hn (Nat.le_refl _)
 refine run_goal (rs:=[.tmp 2]) (ts:=[24]) Tryz.func237 rfl rfl rfl (by kernel_rfl) (by kernel_rfl) (.inl sp_237) (by simp [Tryz.f237]) ?_
 intro T hT
 simp -dsimp -implicitDefEqProofs (disch:=first|omega|assumption) [startSlots,nI,wI,h1,h2]
 simpa -dsimp -implicitDefEqProofs (disch:=first|omega|assumption) [nI,wI] using hT
def restM (f : Int → Nat) (l : List Int) (i : Nat) : List D := ((l.take i).map f ++ List.replicate (l.length - i) 0).map fun (n : Nat) => D.int .u64 (n : Int)
theorem restM_length (f : Int → Nat) (l : List Int) (i : Nat) (h : i ≤ l.length) : (restM f l i).length = l.length := by simp [restM]; omega
theorem set_mid {α : Type} (A R : List α) (x v : α) (i : Nat) (h : A.length = i) : (A ++ x :: R).set i v = A ++ v :: R := by
 subst h; simp [List.set_append]
theorem restM_set (f : Int → Nat) (l : List Int) (i : Nat) (h : i < l.length) : (restM f l i).set i (.int .u64 (f l[i] : Int)) = restM f l (i + 1) := by
 unfold restM
 rw [show l.length - i = (l.length - (i + 1)) + 1 by omega,List.replicate_succ,take_snoc h,← List.map_set,set_mid _ _ _ _ i (by simp; omega),List.map_append (f := f),List.append_assoc]
 rfl
theorem restM_end (f : Int → Nat) (l : List Int) : restM f l l.length = (l.map f).map fun (n : Nat) => D.int .u64 (n : Int) := by simp [restM]
def mores (l : List Int) : List Nat := l.map fun n => (n - minL l).toNat
def packedB (l : List Int) : List UInt8 := if l = [] then [] else putInt (minL l) ++ (put (width (mores l)) ++ packed (width (mores l)) (mores l))
theorem mores_lt {l : List Int} (hl : ∀ n ∈ l,isI64 n) : ∀ n ∈ mores l,n < 18446744073709551616 := by
 intro n hn
 simp only [mores,List.mem_map] at hn
 obtain ⟨m,hm,rfl⟩ := hn
 have h1 := hl m hm
 have h2 := hl _ (minL_mem (l := l) (by rintro rfl; simp at hm))
 unfold isI64 at h1 h2
 omega
theorem packed_len {w : Nat} {l : List Nat} (hw : w ≤ 64) (hn : l.length ≤ 256) : (packed w l).length ≤ 2048 := by
 have : l.length * w ≤ 256 * 64 := Nat.mul_le_mul hn hw
 simp only [packed,le_length]; omega
theorem ipacked_no : R 219 [.d (ints [])] [] = some ([.arr 0 0],[.arr 1 [] 0]) := by
 refine run_goal (rs:=[.tmp 2]) (ts:=[24]) Tryz.func219 rfl rfl rfl (by kernel_rfl) (by kernel_rfl) (.inl sp_219) (by simp [Tryz.f219]) ?_
 intro T hT
 simp -dsimp -implicitDefEqProofs (disch:=first|omega|assumption) [startSlots,nI,wI]
 simpa -dsimp -implicitDefEqProofs (disch:=first|omega|assumption) [nI,wI] using hT
theorem ipacked_runs (l : List Int) (h0 : l ≠ []) (hl : ∀ n ∈ l,isI64 n) (hn : l.length ≤ 256) : R 219 [.d (ints l)] [] = some ([.arr 0 (packedB l).length],[.arr 1 (bytes (packedB l)) 0]) := by
 have hlen : 0 < l.length := Nat.pos_of_ne_zero (by simpa using h0)
 have a1 : ¬ (l.length : Int) = 0 := by omega
 have hmin := min_runs l h0 hn
 have hmlt := mores_lt hl
 have hml : (mores l).length ≤ 256 := by simpa [mores] using hn
 have hw := width_runs (mores l) hmlt (by omega)
 have hw64 := width_le64 hmlt
 have hpk := ipack_runs (mores l) hmlt hml
 have hplen := packed_len hw64 hml
 obtain ⟨wd,hwd⟩ : ∃ wd,wd = width (mores l) := ⟨_,rfl⟩
 have hput := put_runs wd (by omega)
 have hputl := put_len (n := wd) (by omega)
 obtain ⟨m,hm⟩ : ∃ m,m = minL l := ⟨_,rfl⟩
 have hmi : isI64 m := by rw [hm]; exact hl _ (minL_mem h0)
 have hpi := putInt_runs m hmi.1 hmi.2
 have hpil := putInt_len hmi
 have hB : packedB l = putInt m ++ (put wd ++ packed wd (mores l)) := by unfold packedB; rw [if_neg h0,← hm,← hwd]
 rw [← hwd] at hw hw64 hpk hplen
 rw [← hm] at hmin
 rw [hB]
 have hend := restM_end (fun n => (n - m).toNat) l
 have hmo : l.map (fun n => (n - m).toNat) = mores l := by rw [hm]; rfl
 rw [hmo] at hend
 refine run_goal (rs:=[.tmp 2]) (ts:=[24]) Tryz.func219 rfl rfl rfl (by kernel_rfl) (by kernel_rfl) (.inl sp_219) (by simp [Tryz.f219]) ?_
 intro T hT
 simp -dsimp -implicitDefEqProofs (disch:=first|omega|assumption) [startSlots,nI,wI,h0,hmin]
 generalize hz : loopT _ _ _ _ _ _ = z
 revert z
 refine loop_any (σ:=Nat) (fun i => [(3,.d (.int .i64 m)),(4,.arr 0 l.length),(16,.d (ints l)),(17,.d (.int .i64 l.length)),(18,.d (.int .i64 i))]) (fun i => [.arr 1 (restM (fun n => (n - m).toNat) l i) 0]) (fun i => i ≤ l.length) (fun i => l.length - i) 0 ?_ ?_ ?_
 ·simp
 ·simp -dsimp -implicitDefEqProofs (disch:=first|omega|assumption) [restM]
 intro T' f hT' i hi ih
 by_cases h1 : i < l.length
 ·have hb := hl l[i] (by simp)
  have hle : m ≤ l[i] := by rw [hm]; exact minL_le _ (by simp)
  have hset := restM_set (fun n => (n - m).toNat) l i h1
  have hrl := restM_length (fun n => (n - m).toNat) l i hi
  obtain ⟨v,hv⟩ : ∃ v : Nat,(v : Int) = l[i] - m := ⟨(l[i] - m).toNat,by omega⟩
  have hvv : (l[i] - m).toNat = v := by omega
  simp only [hvv] at hset
  unfold isI64 at hb hmi
  have hsub : IntKind.u64.wrap (IntKind.u64.wrap l[i] - IntKind.u64.wrap m) = v := by rw [wrap_mod_u64,wrap_mod_u64,wrap_mod_u64]; omega
  simp -dsimp -implicitDefEqProofs (disch:=first|omega|assumption) [nI,wI,h1,hsub,hset,hrl]
  exact ih (i + 1) _ _ h1 (by omega) (by simp -dsimp -implicitDefEqProofs (disch:=first|omega|assumption))
 ·obtain rfl : i = l.length := by omega
  have hmlen : (mores l).length = l.length := by simp [mores]
  rw [hend]
  subst hT'
  simp -dsimp -implicitDefEqProofs (disch:=first|omega|assumption) [nI,wI,h1,hw,hput,hpi,hpk,hmlen,wrap_u64]
  simpa -dsimp -implicitDefEqProofs (disch:=first|omega|assumption) [nI,wI,Nat.add_assoc] using hT
end Go.Am.Ab
