/- Columns: their parts, written. -/
import Derived.Test.YtlgdomajdebbdaaGreatDoorCellsA
import Derived.Test.YtlgdomajdebbdaaGreatDoorTSortB
import Derived.Test.YtlgdomajdebbdaaGreatDoorIntsB
set_option linter.all false
namespace Go.Am.Ab
open Go.Proofs
set_option maxHeartbeats 4000000
set_option maxRecDepth 4000
abbrev bs (l : List Bool) : List D := l.map D.bool
@[simp] theorem allSize_bs (l : List Bool) : allSize 1 (l.map D.bool) = true := allSize_map l fun _ => rfl
@[simp] theorem flatL_bs (l : List Bool) : flatL (l.map D.bool) = true := flatL_map _ (fun _ => rfl) l
def bit (b : Bool) : Nat := if b then 1 else 0
def flagsB (l : List Bool) : List UInt8 := packed 1 (l.map bit)
theorem bit_lt (l : List Bool) : ∀ n ∈ l.map bit,n < 2 ^ 1 := by
 intro n h
 obtain ⟨b,_,rfl⟩ := List.mem_map.1 h
 cases b <;> decide
theorem width_bits (l : List Bool) : width (l.map bit) ≤ 1 := by
 have key : ∀ (l : List Nat) (w : Nat),w ≤ 1 → (∀ n ∈ l,n < 2 ^ 1) → l.foldl (fun w n => max w (blen n)) w ≤ 1 := by
  intro l
  induction l with
  | nil => intro w h _; exact h
  | cons x r ih =>
   intro w h g
   have hx := g x (by simp)
   have := (blen_le (n := x) (m := 1) (by omega)).2 hx
   exact ih (max w (blen x)) (by omega) fun n hn => g n (by simp [hn])
 exact key _ 0 (by omega) (bit_lt l)
theorem set_bits (l : List Bool) {i : Nat} (h : i < l.length) : ((l.take i).map bit ++ List.replicate (l.length - i) 0).set i 1 = (l.take i).map bit ++ 1 :: List.replicate (l.length - (i + 1)) 0 := by
 have e : l.length - i = (l.length - (i + 1)) + 1 := by omega
 have hlen : ((l.take i).map bit).length = i := by simp; omega
 rw [e,List.replicate_succ,List.set_append_right _ _ (by omega),hlen,Nat.sub_self,List.set_cons_zero]
theorem bitsT_step (l : List Bool) {i : Nat} (h : i < l.length) : (l.take (i + 1)).map bit ++ List.replicate (l.length - (i + 1)) 0 = if l[i] then ((l.take i).map bit ++ List.replicate (l.length - i) 0).set i 1 else (l.take i).map bit ++ List.replicate (l.length - i) 0 := by
 rw [set_bits l h,take_snoc h]
 have e : l.length - i = (l.length - (i + 1)) + 1 := by omega
 cases hb : l[i] with
 | true => simp [bit]
 | false =>
  rw [e,List.replicate_succ]
  simp [bit]
def nat64 (l : List Nat) : List D := l.map fun (n : Nat) => D.int .u64 (n : Int)
theorem nat64_set (l : List Nat) (i v : Nat) : (nat64 l).set i (D.int .u64 v) = nat64 (l.set i v) := by
 unfold nat64; rw [List.map_set]
theorem nat64_length (l : List Nat) : (nat64 l).length = l.length := by simp [nat64]
theorem nat64_rep (n : Nat) : List.replicate n (D.int .u64 0) = nat64 (List.replicate n 0) := by simp [nat64]
theorem flags_runs (l : List Bool) (hn : l.length ≤ 256) : R 123 [.d (.list (bs l))] [] = some ([.arr 0 (flagsB l).length],[.arr 1 (bytes (flagsB l)) 0]) := by
 have h64 : ∀ n ∈ l.map bit,n < 18446744073709551616 := fun n h => by have := bit_lt l n h; omega
 have hwid : width (l.map bit) ≤ 1 := width_bits l
 have hp := pack_yes (l.map bit) 1 h64 (by omega) (by simpa using hn) hwid
 rw [show packed 1 (l.map bit) = flagsB l from rfl] at hp
 have hp' : R 177 [.d (.list (nat64 (l.map bit))),.d (.int .i64 1)] [] = some ([.arr 0 (flagsB l).length,.d (.bool true)],[.arr 1 (bytes (flagsB l)) 0]) := hp
 refine run_goal (rs:=[.tmp 2]) (ts:=[24]) Tryz.func123 rfl rfl rfl (by kernel_rfl) (by kernel_rfl) (.inl sp_123) (by simp [Tryz.f123]) ?_
 intro T hT
 simp -dsimp -implicitDefEqProofs (disch:=first|omega|assumption) [startSlots,nI,wI,nat64_rep]
 generalize hz : loopT _ _ _ _ _ _ = z
 revert z
 refine loop_any (σ:=Nat) (fun i => [(3,.arr 0 l.length),(11,.d (.list (bs l))),(12,.d (.int .i64 l.length)),(13,.d (.int .i64 i))]) (fun i => [.arr 1 (nat64 ((l.take i).map bit ++ List.replicate (l.length - i) 0)) 0]) (fun i => i ≤ l.length) (fun i => l.length - i) 0 ?_ ?_ ?_
 ·exact Nat.zero_le _
 ·simp -dsimp -implicitDefEqProofs (disch:=first|omega|assumption) [nat64_rep]
 intro T' f hT' i hi ih
 by_cases h1 : i < l.length
 ·obtain ⟨m,hm⟩ : ∃ m,m = (l.take i).map bit ++ List.replicate (l.length - i) 0 := ⟨_,rfl⟩
  have hml : (nat64 m).length = l.length := by rw [hm,nat64_length]; simp; omega
  have hs := bitsT_step l h1
  rw [← hm] at hs ⊢
  obtain ⟨w,hw⟩ : ∃ w,(nat64 m)[i]? = some w := ⟨_,List.getElem?_eq_getElem (by omega)⟩
  have hwc : w.cells = [w] := by
   unfold nat64 at hw
   rw [List.getElem?_map,Option.map_eq_some_iff] at hw
   obtain ⟨n,_,rfl⟩ := hw
   rfl
  cases hb : l[i] with
  | true =>
   rw [hb,if_pos rfl] at hs
   simp -dsimp -implicitDefEqProofs (disch:=first|omega|assumption) [nI,wI,h1,hb,hml,hw,hwc]
   refine ih (i + 1) _ _ h1 (by omega) ?_
   rw [hs,← nat64_set]
   simp -dsimp -implicitDefEqProofs (disch:=first|omega|assumption)
  | false =>
   rw [hb] at hs
   simp -dsimp -implicitDefEqProofs (disch:=first|omega|assumption) [nI,wI,h1,hb,hml]
   refine ih (i + 1) _ _ h1 (by omega) ?_
   rw [hs]
   simp -dsimp -implicitDefEqProofs (disch:=first|omega|assumption)
 ·have e : i = l.length := by omega
  subst e
  have hml : (nat64 (l.map bit)).length = l.length := by rw [nat64_length]; simp
  subst hT'
  rw [List.take_length,Nat.sub_self,List.replicate_zero,List.append_nil]
  simp -dsimp -implicitDefEqProofs (disch:=first|omega|assumption) [nI,wI,hml,hp']
  simpa -dsimp -implicitDefEqProofs (disch:=first|omega|assumption) [nI,wI] using hT
def countedB (l : List Int) : List UInt8 := put (bestB l).length ++ bestB l
theorem bestB_len {l : List Int} (hl : ∀ n ∈ l,isI64 n) (hn : l.length ≤ 256) : (bestB l).length ≤ 5121 := bestTo_len hl hn 5
theorem counted_runs (l : List Int) (hl : ∀ n ∈ l,isI64 n) (hn : l.length ≤ 256) : R 180 [.d (ints l)] [] = some ([.arr 0 (countedB l).length],[.arr 1 (bytes (countedB l)) 0]) := by
 have h := ibest_yes l hl hn
 have hb := bestB_len hl hn
 have hp := put_runs (bestB l).length (by omega)
 have hpl := put_len (n := (bestB l).length) (by omega)
 have hw : IntKind.u64.wrap ((bestB l).length : Int) = (bestB l).length := wrap_u64 (by omega) (by omega)
 refine run_goal (rs:=[.tmp 2]) (ts:=[24]) Tryz.func180 rfl rfl rfl (by kernel_rfl) (by kernel_rfl) (.inl sp_180) (by simp [Tryz.f180]) ?_
 intro T hT
 simp -dsimp -implicitDefEqProofs (disch:=first|omega|assumption) [startSlots,nI,wI,h,hp,hw]
 simpa -dsimp -implicitDefEqProofs (disch:=first|omega|assumption) [nI,wI,countedB] using hT
theorem index_runs (l : List Bool) (hn : l.length ≤ 1000000) : R 122 [.d (.list (bs l)),.d (.bool false)] [] = some ([.d (.bool (decide (false ∈ l)))],[]) := by
 have h : ∃ n : Int,(decide (0 ≤ n) = decide (false ∈ l)) ∧ R 176 [.d (.list (bs l)),.d (.bool false)] [] = some ([.d (.int .i64 n)],[]) := by
  by_cases hm : false ∈ l
  ·obtain ⟨k,hk,he⟩ := List.mem_iff_getElem.1 hm
   skip
   refine ⟨(l.idxOf false : Nat),by simp [hm], ?_⟩
   have hx : l.idxOf false < l.length := List.idxOf_lt_length_of_mem hm
   have hy : l[l.idxOf false] = false := List.getElem_idxOf hx
   obtain ⟨x,hxx⟩ : ∃ x,x = l.idxOf false := ⟨_,rfl⟩
   have hmin : ∀ i,(h : i < x) → l[i]'(by omega) = true := by
    intro i h
    rw [hxx] at h
    have := List.not_of_lt_findIdx (p := (· == false)) (xs := l) (i := i) h
    simpa using this
   rw [← hxx] at hx ⊢
   have hy' : l[x] = false := by simpa [hxx] using hy
   refine run_goal (rs:=[.tmp 4]) (ts:=[3]) Tryz.func176 rfl rfl rfl (by kernel_rfl) (by kernel_rfl) (.inl sp_176) (by simp [Tryz.f176]) ?_
   intro T hT
   simp -dsimp -implicitDefEqProofs (disch:=first|omega|assumption) [startSlots,nI,wI]
   generalize hz : loopT _ _ _ _ _ _ = z
   revert z
   refine loop_any (σ:=Nat) (fun i => [(0,.d (.list (bs l))),(1,.d (.bool false)),(7,.d (.int .i64 l.length)),(8,.d (.int .i64 i))]) (fun i => []) (fun i => i ≤ x) (fun i => x - i) 0 ?_ ?_ ?_
   ·exact Nat.zero_le _
   ·simp -dsimp -implicitDefEqProofs (disch:=first|omega|assumption)
   intro T' f hT' i hi ih
   have h1 : i < l.length := by omega
   by_cases h2 : i < x
   ·have g := hmin i h2
    simp -dsimp -implicitDefEqProofs (disch:=first|omega|assumption) [nI,wI,h1,g]
    exact ih (i + 1) _ _ h2 (by omega) (by simp -dsimp -implicitDefEqProofs (disch:=first|omega|assumption))
   ·obtain rfl : i = x := by omega
    subst hT'
    simp -dsimp -implicitDefEqProofs (disch:=first|omega|assumption) [nI,wI,h1,hy']
    simpa -dsimp -implicitDefEqProofs (disch:=first|omega|assumption) [nI,wI] using hT
  ·refine ⟨-1,by simp [hm], ?_⟩
   refine run_goal (rs:=[.tmp 4]) (ts:=[3]) Tryz.func176 rfl rfl rfl (by kernel_rfl) (by kernel_rfl) (.inl sp_176) (by simp [Tryz.f176]) ?_
   intro T hT
   simp -dsimp -implicitDefEqProofs (disch:=first|omega|assumption) [startSlots,nI,wI]
   generalize hz : loopT _ _ _ _ _ _ = z
   revert z
   refine loop_any (σ:=Nat) (fun i => [(0,.d (.list (bs l))),(1,.d (.bool false)),(7,.d (.int .i64 l.length)),(8,.d (.int .i64 i))]) (fun i => []) (fun i => i ≤ l.length) (fun i => l.length - i) 0 ?_ ?_ ?_
   ·exact Nat.zero_le _
   ·simp -dsimp -implicitDefEqProofs (disch:=first|omega|assumption)
   intro T' f hT' i hi ih
   by_cases h1 : i < l.length
   ·have g : l[i] = true := by
     cases e : l[i] with
     | true => rfl
     | false => exact absurd (e ▸ List.getElem_mem h1) hm
    simp -dsimp -implicitDefEqProofs (disch:=first|omega|assumption) [nI,wI,h1,g]
    exact ih (i + 1) _ _ h1 (by omega) (by simp -dsimp -implicitDefEqProofs (disch:=first|omega|assumption))
   ·subst hT'
    simp -dsimp -implicitDefEqProofs (disch:=first|omega|assumption) [nI,wI,h1]
    simpa -dsimp -implicitDefEqProofs (disch:=first|omega|assumption) [nI,wI] using hT
 obtain ⟨n,hn1,hn2⟩ := h
 rw [← hn1]
 refine run_goal (rs:=[.tmp 4]) (ts:=[4]) Tryz.func122 rfl rfl rfl (by kernel_rfl) (by kernel_rfl) (.inl sp_122) (by simp [Tryz.f122]) ?_
 intro T hT
 simp -dsimp -implicitDefEqProofs (disch:=first|omega|assumption) [startSlots,nI,wI,hn2]
 simpa -dsimp -implicitDefEqProofs (disch:=first|omega|assumption) [nI,wI] using hT
end Go.Am.Ab
namespace Go.Am.Ab
open Go.Proofs
set_option maxHeartbeats 4000000
set_option maxRecDepth 4000
abbrev ss (l : List ByteArray) : List D := l.map D.str
@[simp] theorem allSize_ss (l : List ByteArray) : allSize 1 (l.map D.str) = true := allSize_map l fun _ => rfl
def sizeD (s : ByteArray) : D := .int .i64 s.size
def sizesL (l : List ByteArray) : List Int := l.map fun s => (s.size : Int)
theorem str_len (s : ByteArray) : s.data.toList.length = s.size := Array.length_toList
def flatT (l : List ByteArray) (i : Nat) : List UInt8 := (l.take i).flatMap (·.data.toList)
theorem flatT_zero (l : List ByteArray) : flatT l 0 = [] := rfl
theorem flatT_succ {l : List ByteArray} {i : Nat} (h : i < l.length) : flatT l (i + 1) = flatT l i ++ l[i].data.toList := by
 unfold flatT; rw [take_snoc h,List.flatMap_append]; simp
theorem flatT_len {l : List ByteArray} (hl : ∀ s ∈ l,s.size ≤ 64) : ∀ i,i ≤ l.length → (flatT l i).length ≤ 64 * i
 | 0,_ => by simp [flatT]
 | i + 1,h => by
  have h1 := flatT_len hl i (by omega)
  have h2 := hl l[i] (List.getElem_mem _)
  have h3 := str_len l[i]
  rw [flatT_succ (by omega),List.length_append]
  omega
def textsB (l : List ByteArray) : List UInt8 := countedB (sizesL l) ++ flatT l l.length
theorem sizes_is {l : List ByteArray} (hl : ∀ s ∈ l,s.size ≤ 64) : ∀ n ∈ sizesL l,isI64 n := by
 intro n h
 obtain ⟨s,hs,rfl⟩ := List.mem_map.1 h
 have := hl s hs
 unfold isI64; omega
theorem countedB_len {l : List Int} (hl : ∀ n ∈ l,isI64 n) (hn : l.length ≤ 256) : (countedB l).length ≤ 5131 := by
 have h1 := bestB_len hl hn
 have h2 := put_len (n := (bestB l).length) (by omega)
 unfold countedB
 rw [List.length_append]; omega
theorem words1_d (b : List UInt8) (l : List ByteArray) (hb : b.length ≤ 1000) (hl : ∀ s ∈ l,s.size ≤ 64) (hn : l.length ≤ 256) : R 179 [.arr 0 b.length,.d (.list (ss l))] [.arr 1 (bytes b) 0] = some ([.arr 0 (b ++ textsB l).length],[.arr 1 (bytes (b ++ textsB l)) 0]) := by
 have hsi := sizes_is hl
 have hsl : (sizesL l).length = l.length := by simp [sizesL]
 have hcl := countedB_len hsi (by omega)
 have hfl := flatT_len hl l.length (Nat.le_refl _)
 have hc := counted_runs (sizesL l) hsi (by omega)
 have hcs : R 180 [.d (.list (preD sizeD l l.length))] [] = some ([.arr 0 (countedB (sizesL l)).length],[.arr 1 (bytes (countedB (sizesL l))) 0]) := by
  rw [preD_end (Nat.le_refl _),← hc,ints,sizesL,List.map_map]; rfl
 refine run_goal (rs:=[.tmp 4]) (ts:=[24]) Tryz.func179 rfl rfl rfl (by kernel_rfl) (by kernel_rfl) (.inl sp_179) (by simp [Tryz.f179]) ?_
 intro T hT
 simp -dsimp -implicitDefEqProofs (disch:=first|omega|assumption) [startSlots,nI,wI]
 generalize hz : loopT _ _ _ _ _ _ = z
 revert z
 refine loop_any (σ:=Nat) (fun i => [(0,.arr 0 b.length),(5,.arr 1 i),(6,.arr 2 (flatT l i).length),(9,.d (.list (ss l))),(10,.d (.int .i64 l.length)),(11,.d (.int .i64 i))]) (fun i => [.arr 1 (bytes b) 0,.arr 1 (preD sizeD l i) 0,.arr 1 (bytes (flatT l i)) 0]) (fun i => i ≤ l.length) (fun i => l.length - i) 0 ?_ ?_ ?_
 ·exact Nat.zero_le _
 ·simp -dsimp -implicitDefEqProofs (disch:=first|omega|assumption) [preD_zero,flatT_zero]
 intro T' f hT' i hi ih
 by_cases h1 : i < l.length
 ·have hsz := hl l[i] (List.getElem_mem _)
  have htk := preD_succ (g := sizeD) h1
  have hlen := preD_length (g := sizeD) hi
  have hft := flatT_succ h1
  have hfi := flatT_len hl i hi
  have h3 := str_len l[i]
  simp -dsimp -implicitDefEqProofs (disch:=first|omega|assumption) [nI,wI,h1,hlen,h3]
  refine ih (i + 1) _ _ h1 (by omega) ?_
  rw [htk,hft]
  simp -dsimp -implicitDefEqProofs (disch:=first|omega|assumption) [h3,sizeD]
 ·obtain rfl : i = l.length := by omega
  have hlen := preD_length (g := sizeD) hi
  subst hT'
  simp -dsimp -implicitDefEqProofs (disch:=first|omega|assumption) [nI,wI,hcs,hlen]
  simpa -dsimp -implicitDefEqProofs (disch:=first|omega|assumption) [nI,wI,textsB,List.append_assoc,Nat.add_assoc] using hT
theorem words1_arr (b : List UInt8) (l : List ByteArray) (w : Nat) (hb : b.length ≤ 1000) (hl : ∀ s ∈ l,s.size ≤ 64) (hn : l.length ≤ 256) : R 179 [.arr 0 b.length,.arr 1 l.length] [.arr 1 (bytes b) 0,.arr 1 (ss l) w] = some ([.arr 0 (b ++ textsB l).length],[.arr 1 (bytes (b ++ textsB l)) 0,.arr 1 (ss l) w]) := by
 have hsi := sizes_is hl
 have hsl : (sizesL l).length = l.length := by simp [sizesL]
 have hcl := countedB_len hsi (by omega)
 have hfl := flatT_len hl l.length (Nat.le_refl _)
 have hc := counted_runs (sizesL l) hsi (by omega)
 have hcs : R 180 [.d (.list (preD sizeD l l.length))] [] = some ([.arr 0 (countedB (sizesL l)).length],[.arr 1 (bytes (countedB (sizesL l))) 0]) := by
  rw [preD_end (Nat.le_refl _),← hc,ints,sizesL,List.map_map]; rfl
 refine run_goal (rs:=[.tmp 4]) (ts:=[24]) Tryz.func179 rfl rfl rfl (by kernel_rfl) (by kernel_rfl) (.inl sp_179) (by simp [Tryz.f179]) ?_
 intro T hT
 simp -dsimp -implicitDefEqProofs (disch:=first|omega|assumption) [startSlots,nI,wI]
 generalize hz : loopT _ _ _ _ _ _ = z
 revert z
 refine loop_any (σ:=Nat) (fun i => [(0,.arr 0 b.length),(5,.arr 2 i),(6,.arr 3 (flatT l i).length),(9,.arr 1 l.length),(10,.d (.int .i64 l.length)),(11,.d (.int .i64 i))]) (fun i => [.arr 1 (bytes b) 0,.arr 1 (ss l) w,.arr 1 (preD sizeD l i) 0,.arr 1 (bytes (flatT l i)) 0]) (fun i => i ≤ l.length) (fun i => l.length - i) 0 ?_ ?_ ?_
 ·exact Nat.zero_le _
 ·simp -dsimp -implicitDefEqProofs (disch:=first|omega|assumption) [preD_zero,flatT_zero,range2]
 intro T' f hT' i hi ih
 by_cases h1 : i < l.length
 ·have hsz := hl l[i] (List.getElem_mem _)
  have htk := preD_succ (g := sizeD) h1
  have hlen := preD_length (g := sizeD) hi
  have hft := flatT_succ h1
  have hfi := flatT_len hl i hi
  have h3 := str_len l[i]
  simp -dsimp -implicitDefEqProofs (disch:=first|omega|assumption) [nI,wI,h1,hlen,h3,range2]
  refine ih (i + 1) _ _ h1 (by omega) ?_
  rw [htk,hft]
  simp -dsimp -implicitDefEqProofs (disch:=first|omega|assumption) [h3,sizeD,range2]
 ·obtain rfl : i = l.length := by omega
  have hlen := preD_length (g := sizeD) hi
  subst hT'
  simp -dsimp -implicitDefEqProofs (disch:=first|omega|assumption) [nI,wI,hcs,hlen,range2]
  simpa -dsimp -implicitDefEqProofs (disch:=first|omega|assumption) [nI,wI,textsB,List.append_assoc,Nat.add_assoc,range2] using hT
theorem words1_sl (b : List UInt8) (l : List ByteArray) (m : List D) (w : Nat) (hb : b.length ≤ 1000) (hl : ∀ s ∈ l,s.size ≤ 64) (hn : l.length ≤ 256) : R 179 [.arr 0 b.length,.sl 1 (l.length + m.length) 0 l.length] [.arr 1 (bytes b) 0,.arr 1 (ss l ++ m) w] = some ([.arr 0 (b ++ textsB l).length],[.arr 1 (bytes (b ++ textsB l)) 0,.arr 1 (ss l ++ m) w]) := by
 have hsi := sizes_is hl
 have hsl : (sizesL l).length = l.length := by simp [sizesL]
 have hcl := countedB_len hsi (by omega)
 have hfl := flatT_len hl l.length (Nat.le_refl _)
 have hc := counted_runs (sizesL l) hsi (by omega)
 have hcs : R 180 [.d (.list (preD sizeD l l.length))] [] = some ([.arr 0 (countedB (sizesL l)).length],[.arr 1 (bytes (countedB (sizesL l))) 0]) := by
  rw [preD_end (Nat.le_refl _),← hc,ints,sizesL,List.map_map]; rfl
 refine run_goal (rs:=[.tmp 4]) (ts:=[24]) Tryz.func179 rfl rfl rfl (by kernel_rfl) (by kernel_rfl) (.inl sp_179) (by simp [Tryz.f179]) ?_
 intro T hT
 simp -dsimp -implicitDefEqProofs (disch:=first|omega|assumption) [startSlots,nI,wI]
 generalize hz : loopT _ _ _ _ _ _ = z
 revert z
 refine loop_any (σ:=Nat) (fun i => [(0,.arr 0 b.length),(5,.arr 2 i),(6,.arr 3 (flatT l i).length),(9,.sl 1 (l.length + m.length) 0 l.length),(10,.d (.int .i64 l.length)),(11,.d (.int .i64 i))]) (fun i => [.arr 1 (bytes b) 0,.arr 1 (ss l ++ m) w,.arr 1 (preD sizeD l i) 0,.arr 1 (bytes (flatT l i)) 0]) (fun i => i ≤ l.length) (fun i => l.length - i) 0 ?_ ?_ ?_
 ·exact Nat.zero_le _
 ·simp -dsimp -implicitDefEqProofs (disch:=first|omega|assumption) [preD_zero,flatT_zero,range2]
 intro T' f hT' i hi ih
 by_cases h1 : i < l.length
 ·have hsz := hl l[i] (List.getElem_mem _)
  have htk := preD_succ (g := sizeD) h1
  have hlen := preD_length (g := sizeD) hi
  have hft := flatT_succ h1
  have hfi := flatT_len hl i hi
  have h3 := str_len l[i]
  have hget : (ss l ++ m)[i]? = some (D.str l[i]) := by rw [List.getElem?_append_left (by simpa using h1),List.getElem?_map,List.getElem?_eq_getElem h1]; rfl
  simp -dsimp -implicitDefEqProofs (disch:=first|omega|assumption) [nI,wI,h1,hlen,h3,hget,range2]
  refine ih (i + 1) _ _ h1 (by omega) ?_
  rw [htk,hft]
  simp -dsimp -implicitDefEqProofs (disch:=first|omega|assumption) [h3,sizeD,range2]
 ·obtain rfl : i = l.length := by omega
  have hlen := preD_length (g := sizeD) hi
  subst hT'
  simp -dsimp -implicitDefEqProofs (disch:=first|omega|assumption) [nI,wI,hcs,hlen,range2]
  simpa -dsimp -implicitDefEqProofs (disch:=first|omega|assumption) [nI,wI,textsB,List.append_assoc,Nat.add_assoc,range2] using hT
end Go.Am.Ab
namespace Go.Am.Ab
open Go.Proofs
set_option maxHeartbeats 4000000
set_option maxRecDepth 4000
theorem ss_map (wd : Nat → ByteArray) (r : List Nat) : ss (r.map wd) = Str.ws wd r := by
 unfold ss Str.ws; rw [List.map_map]; rfl
def placesS (l : List ByteArray) : List Int := l.map fun s => (ixS (uniS l) s : Int)
def plainT (l : List ByteArray) : List UInt8 := 0 :: textsB l
def listT (l : List ByteArray) : List UInt8 := (1 :: put (uniS l).length) ++ textsB (uniS l) ++ bestB (placesS l)
def wordsB (l : List ByteArray) : List UInt8 := if (listT l).length < (plainT l).length then listT l else plainT l
theorem insS_length (x : ByteArray) : ∀ l : List ByteArray,(insS x l).length ≤ l.length + 1
 | [] => by simp [insS]
 | y :: r => by
  unfold insS
  have := insS_length x r
  split
  ·simp
  ·split
   ·simp
   ·simp only [List.length_cons]; omega
theorem uniS_length_le (l : List ByteArray) : (uniS l).length ≤ l.length := by
 have key : ∀ (l u : List ByteArray),(l.foldl (fun u x => insS x u) u).length ≤ u.length + l.length := by
  intro l
  induction l with
  | nil => intro u; simp
  | cons x r ih =>
   intro u
   have h1 := ih (insS x u)
   have h2 := insS_length x u
   simp only [List.foldl_cons,List.length_cons]; omega
 have := key l []
 simpa [uniS] using this
theorem placesS_is {l : List ByteArray} (hn : l.length ≤ 256) : ∀ n ∈ placesS l,isI64 n := by
 intro n h
 obtain ⟨s,hs,rfl⟩ := List.mem_map.1 h
 have h1 := ixS_lt (uniS_mem.2 hs)
 have h2 := uniS_length_le l
 unfold isI64; omega
theorem textsB_len {l : List ByteArray} (hl : ∀ s ∈ l,s.size ≤ 64) (hn : l.length ≤ 256) : (textsB l).length ≤ 30000 := by
 have h1 := countedB_len (sizes_is hl) (by simpa [sizesL] using hn)
 have h2 := flatT_len hl l.length (Nat.le_refl _)
 unfold textsB
 rw [List.length_append]; omega
def plD (u : List Nat) (x : Nat) : D := .int .i64 ((u.idxOf x : Nat) : Int)
theorem words_runs (l : List ByteArray) (hl : ∀ s ∈ l,s.size ≤ 64) (hn : l.length ≤ 256) : R 125 [.d (.list (ss l))] [] = some ([.arr 0 (wordsB l).length],[.arr 1 (bytes (wordsB l)) 0]) := by
 obtain ⟨wd,r,hwd,hr⟩ := ranks l
 have hul := uniS_length_le l
 have hum : ∀ s ∈ uniS l,s.size ≤ 64 := fun s h => hl s (uniS_mem.1 h)
 have htl := textsB_len hl hn
 have htu := textsB_len hum (by omega)
 have hpi := placesS_is hn
 have hpl : (placesS l).length = l.length := by simp [placesS]
 have hbl := bestB_len hpi (by omega)
 have hbest := ibest_yes (placesS l) hpi (by omega)
 have hput := put_runs (uniS l).length (by omega)
 have hputl := put_len (n := (uniS l).length) (by omega)
 have d1 := words1_d [0] l (by simp) hl hn
 have d2 := fun w => words1_arr (1 :: put (uniS l).length) (uniS l) w (by simp; omega) hum (by omega)
 have d3 := fun m w => words1_sl (1 :: put (uniS l).length) (uniS l) m w (by simp; omega) hum (by omega)
 -- by ranks
 have hu : uniS l = (Str.uniq r).map wd := by rw [← hr]; exact uniS_map hwd r
 have hrl : r.length = l.length := by rw [← hr]; simp
 have hsl : ss l = Str.ws wd r := by rw [← hr]; exact ss_map wd r
 have hsu : ss (uniS l) = Str.ws wd (Str.uniq r) := by rw [hu]; exact ss_map wd _
 have hplD : ints (placesS l) = .list (preD (plD (Str.uniq r)) r r.length) := by
  rw [preD_end (Nat.le_refl _),ints,placesS,hu,← hr,List.map_map,List.map_map]
  congr 1
  apply List.map_congr_left
  intro x _
  simp only [Function.comp,plD,ixS_map hwd]
 have hulen : (uniS l).length = (Str.uniq r).length := by rw [hu]; simp
 have h1 := Str.clone_runs hwd r (by omega)
 obtain ⟨s,h2,h3,h4⟩ := Str.sort_any hwd r (by omega)
 have hlen := h3.len
 have hus : Str.uniq s = Str.uniq r := Str.rises_ext (Str.uniq_rises _) (Str.uniq_rises _) fun y => by rw [Str.uniq_mem,Str.uniq_mem]; exact h3.perm.mem_iff
 rw [← hlen] at h4
 have hP := Str.compact_any hwd s h4 (by omega)
 unfold Str.Packs at hP
 rw [hus] at hP
 have hrise := Str.rises_iff.1 (Str.uniq_rises r)
 have hmem : ∀ x ∈ r,x ∈ Str.uniq r := fun x h => Str.uniq_mem.2 h
 have hW : wordsB l = if (listT l).length < (plainT l).length then listT l else plainT l := rfl
 have hLT : listT l = (1 :: put (uniS l).length) ++ textsB (uniS l) ++ bestB (placesS l) := rfl
 have hPT : plainT l = [0] ++ textsB l := rfl
 rw [hplD] at hbest
 rw [hsl] at d1 ⊢
 rw [hsu] at d2 d3
 rw [hulen] at hul hput hputl d2 d3 hLT
 obtain ⟨u,hue⟩ : ∃ u,u = Str.uniq r := ⟨_,rfl⟩
 rw [← hue] at hul hput hputl d2 d3 hLT hbest hP hrise hmem
 have hsearch : ∀ x ∈ r,R 184 [.d (.list (Str.ws wd u)),.d (.str (wd x))] [] = some ([.d (.int .i64 (u.idxOf x : Nat)),.d (.bool true)],[]) := by
  intro x hx
  have hk := List.idxOf_lt_length_of_mem (hmem x hx)
  have he : Str.at' u (u.idxOf x) = x := by rw [← Str.get_at hk]; exact List.getElem_idxOf hk
  refine Str.search_runs hwd u x (u.idxOf x) hk (by omega) he (fun p hp => ?_) (fun p p1 p2 => ?_)
  ·have := hrise p (u.idxOf x) hp hk
   omega
  ·by_cases e : p = u.idxOf x
   ·subst e; omega
   ·have := hrise (u.idxOf x) p (by omega) p2
    omega
 obtain ⟨tu,htue⟩ : ∃ tu,tu = textsB (uniS l) := ⟨_,rfl⟩
 obtain ⟨tl,htle⟩ : ∃ tl,tl = textsB l := ⟨_,rfl⟩
 obtain ⟨bp,hbpe⟩ : ∃ bp,bp = bestB (placesS l) := ⟨_,rfl⟩
 obtain ⟨pu,hpue⟩ : ∃ pu,pu = put u.length := ⟨_,rfl⟩
 rw [← htue] at htu d2 d3 hLT
 rw [← htle] at htl d1 hPT
 rw [← hbpe] at hbl hbest hLT
 rw [← hpue] at hput hputl d2 d3 hLT
 rw [hW,hLT,hPT]
 have hw0 : IntKind.u64.wrap (u.length : Int) = u.length := wrap_u64 (by omega) (by omega)
 clear hW hLT hPT hsl hsu hplD hu hulen hum hpi hpl hus h3 h4 hbpe htle htue hpue hue hl
 have hul2 : u.length ≤ 256 := by omega
 have hbest' := hbest
 rw [hrl] at hbest'
 rw [hlen] at hP
 have d1' : R 179 [.arr 0 1,.d (.list (Str.ws wd r))] [.arr 1 [.int .u8 0] 0] = some ([.arr 0 (tl.length + 1)],[.arr 1 (.int .u8 0 :: bytes tl) 0]) := d1
 have e1 : (1 :: pu).length = 1 + pu.length := by simp only [List.length_cons]; omega
 have e2 : (1 :: pu ++ tu).length = 1 + pu.length + tu.length := by simp only [List.length_cons,List.length_append]; omega
 have e3 : (1 :: pu ++ tu ++ bp).length = 1 + pu.length + tu.length + bp.length := by simp only [List.length_cons,List.length_append]; omega
 have e4 : ([0] ++ tl).length = tl.length + 1 := by simp
 rw [e3,e4]
 by_cases hlt : 1 + pu.length + tu.length + bp.length < tl.length + 1
 ·rw [if_pos hlt,e3]
  have hlt' : (1 + (pu.length : Int) + tu.length + bp.length) < tl.length + 1 := by omega
  rcases hP with hP | ⟨m,hm,hP⟩
  ·refine run_goal (rs:=[.tmp 2]) (ts:=[24]) Tryz.func125 rfl rfl rfl (by kernel_rfl) (by kernel_rfl) (.inl sp_125) (by simp [Tryz.f125]) ?_
   intro T hT
   simp -dsimp -implicitDefEqProofs (disch:=first|omega|assumption) [startSlots,nI,wI,h1,h2,hP]
   generalize hz : loopT _ _ _ _ _ _ = z
   revert z
   refine loop_any (σ:=Nat × Nat) (fun x => [(0,.d (.list (Str.ws wd r))),(3,.d (.fn 179)),(4,.arr 0 u.length),(5,.arr 1 x.1),(20,.d (.list (Str.ws wd r))),(21,.d (.int .i64 r.length)),(22,.d (.int .i64 x.1))]) (fun x => [.arr 1 (Str.ws wd u) x.2,.arr 1 (preD (plD u) r x.1) 0]) (fun x => x.1 ≤ r.length) (fun x => r.length - x.1) (0,0) ?_ ?_ ?_
   ·exact Nat.zero_le _
   ·simp -dsimp -implicitDefEqProofs (disch:=first|omega|assumption) [preD_zero]
   intro T' f hT' ⟨i,w⟩ hi ih
   simp only at hi ih
   by_cases h5 : i < r.length
   ·have hs := hsearch r[i] (List.getElem_mem _)
    have hpu := preD_succ (g := plD u) h5
    have hpl := preD_length (g := plD u) hi
    simp -dsimp -implicitDefEqProofs (disch:=first|omega|assumption) [nI,wI,h5,hs,hpl]
    refine ih (i + 1,u.length) _ _ h5 (by simp only; omega) ?_
    rw [hpu]
    simp -dsimp -implicitDefEqProofs (disch:=first|omega|assumption) [plD,hpl]
   ·obtain rfl : i = r.length := by omega
    have hpl := preD_length (g := plD u) hi
    have d2' : R 179 [.arr 0 (1 + pu.length),.arr 1 u.length] [.arr 1 (.int .u8 1 :: bytes pu) 0,.arr 1 (Str.ws wd u) w] = some ([.arr 0 (1 + pu.length + tu.length)],[.arr 1 (.int .u8 1 :: bytes (pu ++ tu)) 0,.arr 1 (Str.ws wd u) w]) := by
     have := d2 w
     rw [e2,e1] at this
     exact this
    subst hT'
    simp -dsimp -implicitDefEqProofs (disch:=first|omega|assumption) [nI,wI,hpl,d1',hput,hw0,hbest,d2',hlt']
    simpa -dsimp -implicitDefEqProofs (disch:=first|omega|assumption) [nI,wI] using hT
  ·have hm2 : (u.length + m.length) = r.length := hm
   have hm3 : List.take u.length (Str.ws wd u ++ m) = Str.ws wd u := by rw [List.take_append_of_le_length (by simp),List.take_of_length_le (by simp)]
   refine run_goal (rs:=[.tmp 2]) (ts:=[24]) Tryz.func125 rfl rfl rfl (by kernel_rfl) (by kernel_rfl) (.inl sp_125) (by simp [Tryz.f125]) ?_
   intro T hT
   simp -dsimp -implicitDefEqProofs (disch:=first|omega|assumption) [startSlots,nI,wI,h1,h2,hP]
   generalize hz : loopT _ _ _ _ _ _ = z
   revert z
   refine loop_any (σ:=Nat × Nat) (fun x => [(0,.d (.list (Str.ws wd r))),(3,.d (.fn 179)),(4,.sl 0 r.length 0 u.length),(5,.arr 1 x.1),(20,.d (.list (Str.ws wd r))),(21,.d (.int .i64 r.length)),(22,.d (.int .i64 x.1))]) (fun x => [.arr 1 (Str.ws wd u ++ m) x.2,.arr 1 (preD (plD u) r x.1) 0]) (fun x => x.1 ≤ r.length) (fun x => r.length - x.1) (0,0) ?_ ?_ ?_
   ·exact Nat.zero_le _
   ·simp -dsimp -implicitDefEqProofs (disch:=first|omega|assumption) [preD_zero]
   intro T' f hT' ⟨i,w⟩ hi ih
   simp only at hi ih
   by_cases h5 : i < r.length
   ·have hs := hsearch r[i] (List.getElem_mem _)
    have hpu := preD_succ (g := plD u) h5
    have hpl := preD_length (g := plD u) hi
    simp -dsimp -implicitDefEqProofs (disch:=first|omega|assumption) [nI,wI,h5,hs,hpl,hm2,hm3]
    refine ih (i + 1,r.length) _ _ h5 (by simp only; omega) ?_
    rw [hpu]
    simp -dsimp -implicitDefEqProofs (disch:=first|omega|assumption) [plD,hpl,hm2,hm3]
   ·obtain rfl : i = r.length := by omega
    have hpl := preD_length (g := plD u) hi
    have d2' : R 179 [.arr 0 (1 + pu.length),.sl 1 r.length 0 u.length] [.arr 1 (.int .u8 1 :: bytes pu) 0,.arr 1 (Str.ws wd u ++ m) w] = some ([.arr 0 (1 + pu.length + tu.length)],[.arr 1 (.int .u8 1 :: bytes (pu ++ tu)) 0,.arr 1 (Str.ws wd u ++ m) w]) := by
     have := d3 m w
     rw [e2,e1,hm] at this
     exact this
    subst hT'
    simp -dsimp -implicitDefEqProofs (disch:=first|omega|assumption) [nI,wI,hpl,d1',hput,hw0,hbest,d2',hlt',hm2,hm3]
    simpa -dsimp -implicitDefEqProofs (disch:=first|omega|assumption) [nI,wI] using hT
 ·rw [if_neg hlt,e4]
  have hlt' : ¬ (1 + (pu.length : Int) + tu.length + bp.length) < tl.length + 1 := by omega
  rcases hP with hP | ⟨m,hm,hP⟩
  ·refine run_goal (rs:=[.tmp 2]) (ts:=[24]) Tryz.func125 rfl rfl rfl (by kernel_rfl) (by kernel_rfl) (.inl sp_125) (by simp [Tryz.f125]) ?_
   intro T hT
   simp -dsimp -implicitDefEqProofs (disch:=first|omega|assumption) [startSlots,nI,wI,h1,h2,hP]
   generalize hz : loopT _ _ _ _ _ _ = z
   revert z
   refine loop_any (σ:=Nat × Nat) (fun x => [(0,.d (.list (Str.ws wd r))),(3,.d (.fn 179)),(4,.arr 0 u.length),(5,.arr 1 x.1),(20,.d (.list (Str.ws wd r))),(21,.d (.int .i64 r.length)),(22,.d (.int .i64 x.1))]) (fun x => [.arr 1 (Str.ws wd u) x.2,.arr 1 (preD (plD u) r x.1) 0]) (fun x => x.1 ≤ r.length) (fun x => r.length - x.1) (0,0) ?_ ?_ ?_
   ·exact Nat.zero_le _
   ·simp -dsimp -implicitDefEqProofs (disch:=first|omega|assumption) [preD_zero]
   intro T' f hT' ⟨i,w⟩ hi ih
   simp only at hi ih
   by_cases h5 : i < r.length
   ·have hs := hsearch r[i] (List.getElem_mem _)
    have hpu := preD_succ (g := plD u) h5
    have hpl := preD_length (g := plD u) hi
    simp -dsimp -implicitDefEqProofs (disch:=first|omega|assumption) [nI,wI,h5,hs,hpl]
    refine ih (i + 1,u.length) _ _ h5 (by simp only; omega) ?_
    rw [hpu]
    simp -dsimp -implicitDefEqProofs (disch:=first|omega|assumption) [plD,hpl]
   ·obtain rfl : i = r.length := by omega
    have hpl := preD_length (g := plD u) hi
    have d2' : R 179 [.arr 0 (1 + pu.length),.arr 1 u.length] [.arr 1 (.int .u8 1 :: bytes pu) 0,.arr 1 (Str.ws wd u) w] = some ([.arr 0 (1 + pu.length + tu.length)],[.arr 1 (.int .u8 1 :: bytes (pu ++ tu)) 0,.arr 1 (Str.ws wd u) w]) := by
     have := d2 w
     rw [e2,e1] at this
     exact this
    subst hT'
    simp -dsimp -implicitDefEqProofs (disch:=first|omega|assumption) [nI,wI,hpl,d1',hput,hw0,hbest,d2',hlt']
    simpa -dsimp -implicitDefEqProofs (disch:=first|omega|assumption) [nI,wI] using hT
  ·have hm2 : (u.length + m.length) = r.length := hm
   have hm3 : List.take u.length (Str.ws wd u ++ m) = Str.ws wd u := by rw [List.take_append_of_le_length (by simp),List.take_of_length_le (by simp)]
   refine run_goal (rs:=[.tmp 2]) (ts:=[24]) Tryz.func125 rfl rfl rfl (by kernel_rfl) (by kernel_rfl) (.inl sp_125) (by simp [Tryz.f125]) ?_
   intro T hT
   simp -dsimp -implicitDefEqProofs (disch:=first|omega|assumption) [startSlots,nI,wI,h1,h2,hP]
   generalize hz : loopT _ _ _ _ _ _ = z
   revert z
   refine loop_any (σ:=Nat × Nat) (fun x => [(0,.d (.list (Str.ws wd r))),(3,.d (.fn 179)),(4,.sl 0 r.length 0 u.length),(5,.arr 1 x.1),(20,.d (.list (Str.ws wd r))),(21,.d (.int .i64 r.length)),(22,.d (.int .i64 x.1))]) (fun x => [.arr 1 (Str.ws wd u ++ m) x.2,.arr 1 (preD (plD u) r x.1) 0]) (fun x => x.1 ≤ r.length) (fun x => r.length - x.1) (0,0) ?_ ?_ ?_
   ·exact Nat.zero_le _
   ·simp -dsimp -implicitDefEqProofs (disch:=first|omega|assumption) [preD_zero]
   intro T' f hT' ⟨i,w⟩ hi ih
   simp only at hi ih
   by_cases h5 : i < r.length
   ·have hs := hsearch r[i] (List.getElem_mem _)
    have hpu := preD_succ (g := plD u) h5
    have hpl := preD_length (g := plD u) hi
    simp -dsimp -implicitDefEqProofs (disch:=first|omega|assumption) [nI,wI,h5,hs,hpl,hm2,hm3]
    refine ih (i + 1,r.length) _ _ h5 (by simp only; omega) ?_
    rw [hpu]
    simp -dsimp -implicitDefEqProofs (disch:=first|omega|assumption) [plD,hpl,hm2,hm3]
   ·obtain rfl : i = r.length := by omega
    have hpl := preD_length (g := plD u) hi
    have d2' : R 179 [.arr 0 (1 + pu.length),.sl 1 r.length 0 u.length] [.arr 1 (.int .u8 1 :: bytes pu) 0,.arr 1 (Str.ws wd u ++ m) w] = some ([.arr 0 (1 + pu.length + tu.length)],[.arr 1 (.int .u8 1 :: bytes (pu ++ tu)) 0,.arr 1 (Str.ws wd u ++ m) w]) := by
     have := d3 m w
     rw [e2,e1,hm] at this
     exact this
    subst hT'
    simp -dsimp -implicitDefEqProofs (disch:=first|omega|assumption) [nI,wI,hpl,d1',hput,hw0,hbest,d2',hlt',hm2,hm3]
    simpa -dsimp -implicitDefEqProofs (disch:=first|omega|assumption) [nI,wI] using hT
end Go.Am.Ab
