/- Columns, read. -/
import Derived.Test.YtlgdomajdebbdaaGreatDoorParsing
import Derived.Test.YtlgdomajdebbdaaGreatDoorColB
import Derived.Test.YtlgdomajdebbdaaGreatDoorColC
set_option linter.all false
namespace Go.Am.Ab
open Go.Proofs
set_option maxHeartbeats 4000000
set_option maxRecDepth 4000
def keepFrz (p : Option (D × List Am.Obj)) (t : Nat) (s : Slots) (h : List Am.Obj) (r : List (Nat × Nat)) : Slots × List Am.Obj :=
 match p with
 | some (x,h0) => let (s1,h1) := keepSlots s h0 r; ((t,.d x) :: s1,h1)
 | none => keepSlots s h r
@[simp] theorem keepFrz_some (x : D) (h0 h : List Am.Obj) (t : Nat) (s : Slots) (r : List (Nat × Nat)) : keepFrz (some (x,h0)) t s h r = bind1 (keepSlots s h0 r) (fun p => ((t,.d x) :: p.1,p.2)) ⟨⟩ := rfl
@[simp] theorem keepSlots_frz {s : Slots} {h : List Am.Obj} {sz : Nat} {r : List (Nat × Nat)} : keepSlots s h ((1000015,sz) :: r) = keepFrz (pureV h (sget s 15)) 15 s h r := by
 have key : ∀ t,keepSlots s h ((t + 1000000,sz) :: r) = keepFrz (pureV h (sget s t)) t s h r := by
  intro t
  conv => lhs; unfold keepSlots
  rw [if_neg (by omega),Nat.add_sub_cancel]
  unfold keepFrz
  cases pureV h (sget s t) <;> rfl
 exact key 15
abbrev uz (l : List Int) : List D := l.map fun n => D.int .u64 n
@[simp] theorem allSize_repU (x : Int) : ∀ n,allSize 1 (List.replicate n (D.int .u64 x)) = true
 | 0 => rfl
 | n + 1 => by simp [List.replicate_succ,allSize_repU x n]
@[simp] theorem allSize_uz (l : List Int) : allSize 1 (l.map fun n => D.int .u64 n) = true := allSize_map l fun _ => rfl
@[simp] theorem allSize_ucc (l : List Nat) : allSize 1 (l.map fun (n : Nat) => D.int .u64 (n : Int)) = true := allSize_map l fun _ => rfl
theorem repeatU_runs (x : Int) (n : Nat) (hn : n ≤ 256) : R 189 [.arr 0 1,.d (.int .i64 n)] [.arr 1 [.int .u64 x] 0] = some ([.arr 1 n],[.arr 1 [.int .u64 x] 0,.arr 1 (uz (List.replicate n x)) 0]) := by
 have hm := mul_one_runs n hn
 have hw : IntKind.u64.wrap (n : Int) = n := wrap_u64 (by omega) (by omega)
 have hw1 : IntKind.u64.wrap 1 = 1 := wrap_u64 (by omega) (by omega)
 have hn0 : ¬ (n : Int) < 0 := by omega
 have hfit : ¬ (9223372036854775807 : Int) < n := by omega
 have hqi : IntKind.i64.wrap (n : Int) = n := wI (by omega) (by omega)
 by_cases h0 : n = 0
 ·subst h0
  rw [show ((0 : Nat) : Int) = 0 from rfl] at *
  refine run_goal (rs:=[.tmp 4]) (ts:=[188]) Tryz.func189 rfl rfl rfl (by kernel_rfl) (by kernel_rfl) (.inl sp_189) (by simp [Tryz.f189]) ?_
  intro T hT
  simp -dsimp -implicitDefEqProofs (disch:=first|omega|assumption) [startSlots,nI,wI,hm,hw,hw1]
  generalize hz : loopT _ _ _ _ _ _ = z
  revert z
  refine loop_any (σ:=Unit) (fun _ => [(7,.arr 1 0),(8,.d (.int .i64 0))]) (fun _ => [.arr 1 [.int .u64 x] 0,.arr 1 [] 0]) (fun _ => True) (fun _ => 0) () ?_ ?_ ?_
  ·trivial
  ·simp -dsimp -implicitDefEqProofs (disch:=first|omega|assumption)
  intro T' f hT' _ _ ih
  subst hT'
  simp -dsimp -implicitDefEqProofs (disch:=first|omega|assumption) [nI,wI]
  simpa -dsimp -implicitDefEqProofs (disch:=first|omega|assumption) [nI,wI] using hT
 ·have h0' : ¬ (n : Int) = 0 := by omega
  have hmin : min 1 n = 1 := by omega
  have hpos : 0 < n := by omega
  have hfl : ∀ j,j ≤ n → (filled x n j).length = n := fun j hj => by simp [filled]; omega
  have htk : List.take n [D.int .u64 x] = [D.int .u64 x] := List.take_of_length_le (by simp; omega)
  refine run_goal (rs:=[.tmp 4]) (ts:=[188]) Tryz.func189 rfl rfl rfl (by kernel_rfl) (by kernel_rfl) (.inl sp_189) (by simp [Tryz.f189]) ?_
  intro T hT
  simp -dsimp -implicitDefEqProofs (disch:=first|omega|assumption) [startSlots,nI,wI,hm,hw,hw1,hn0,hfit,hqi,h0,h0',hmin,hpos,htk]
  generalize hz : loopT _ _ _ _ _ _ = z
  revert z
  refine loop_any (σ:=Nat) (fun j => [(7,.arr 1 n),(8,.d (.int .i64 j))]) (fun j => [.arr 1 [.int .u64 x] 0,.arr 1 (uz (filled x n j)) 0]) (fun j => 0 < j ∧ j ≤ n) (fun j => n - j) 1 ?_ ?_ ?_
  ·omega
  ·simp -dsimp -implicitDefEqProofs (disch:=first|omega|assumption) [filled]
  intro T' f hT' j ⟨hj0,hj⟩ ih
  have hfj := hfl j hj
  by_cases h1 : j < n
  ·have h1' : (j : Int) < n := by omega
   have hnj : ¬ 0 = n := by omega
   have hjle : j ≤ n := hj
   obtain ⟨k,hk⟩ : ∃ k,k = min (n - j) j := ⟨_,rfl⟩
   have hk' : min (n - j) j = k := hk.symm
   have hk2 : min j (n - j) = k := by omega
   have hA : List.take j (List.map (fun n => D.int .u64 n) (filled x n j)) = List.replicate j (D.int .u64 x) := by
    unfold filled
    rw [List.map_append,List.take_append_of_le_length (by simp),List.take_of_length_le (by simp)]; simp
   have hC : List.drop (j + k) (List.map (fun n => D.int .u64 n) (filled x n j)) = List.replicate (n - j - k) (D.int .u64 0) := by
    unfold filled
    rw [List.map_append,List.drop_append,List.drop_of_length_le (by simp),List.nil_append]
    simp
   have hD : List.replicate j (D.int .u64 x) ++ (List.replicate k (D.int .u64 x) ++ List.replicate (n - j - k) (D.int .u64 0)) = List.map (fun n => D.int .u64 n) (filled x n (j + k)) := by
    unfold filled
    rw [← List.append_assoc,List.replicate_append_replicate,show n - (j + k) = n - j - k by omega]
    simp
   simp -dsimp -implicitDefEqProofs (disch:=first|omega|assumption) [nI,wI,h1,h1',hfj,hnj,hjle,hA,hk',hk2,hC,hD]
   have hnjk : n - (j + k) = n - j - k := by omega
   exact ih (j + k) _ _ (by omega) (by omega) (by simp -dsimp -implicitDefEqProofs (disch:=first|omega|assumption) [filled,hnjk])
  ·have hjn : j = n := by omega
   have hff : filled x n n = List.replicate n x := by simp [filled]
   subst hT'
   rw [hjn,hff]
   simp -dsimp -implicitDefEqProofs (disch:=first|omega|assumption) [nI,wI]
   simpa -dsimp -implicitDefEqProofs (disch:=first|omega|assumption) [nI,wI] using hT
end Go.Am.Ab
namespace Go.Am.Ab
open Go.Proofs
set_option maxHeartbeats 4000000
end Go.Am.Ab
namespace Go.Am.Ab
open Go.Proofs
set_option maxHeartbeats 4000000
def goodV (k : Nat) (v : Val) : Prop := v = .null ∨ (v.kind = k ∧ (∀ n,v = .whole n → isI64 n) ∧ ∀ s,v = .text s → s.size ≤ 64)
def Good (k : Nat) (l : List Val) : Prop := ∀ v ∈ l,goodV k v
theorem Good.odd {k : Nat} {l : List Val} (g : Good k l) : l.any (oddV k) = false := by
 rw [List.any_eq_false]
 intro v hv
 rcases g v hv with h | ⟨h,_⟩ <;> simp [oddV,h]
theorem Good.long {k : Nat} {l : List Val} (g : Good k l) : l.any longV = false := by
 rw [List.any_eq_false]
 intro v hv
 rcases g v hv with h | ⟨_,_,h⟩
 ·simp [longV,h]
 ·cases v with
  | text s => have := h s rfl; simp [longV]; omega
  | _ => simp [longV]
theorem Good.i64 {k : Nat} {l : List Val} (g : Good k l) : ∀ n,Val.whole n ∈ l → isI64 n := by
 intro n hn
 rcases g _ hn with h | ⟨_,h,_⟩
 ·cases h
 ·exact h n rfl
theorem Good.tail {k : Nat} {v : Val} {l : List Val} (g : Good k (v :: l)) : Good k l := fun x hx => g x (by simp [hx])
def own (l : List Val) : List Val := l.filter fun v => decide (v ≠ .null)
end Go.Am.Ab
namespace Go.Am.Ab
open Go.Proofs
set_option maxHeartbeats 4000000
set_option maxRecDepth 4000
theorem write_ok (k : Nat) (hk : 1 ≤ k ∧ k ≤ 3) (l : List Val) (g : Good k l) (hn : l.length ≤ 256) : R 64 [.d (.int .u8 k),.d (.list (vs l))] [] = some ([.arr 0 (colB k l).length,E 0],[.arr 1 (bytes (colB k l)) 0]) := by
 have hc : k = 1 ∨ k = 2 ∨ k = 3 := by omega
 rcases hc with rfl | rfl | rfl
 ·exact write1_yes l hn g.odd g.i64
 ·exact write2_yes l hn g.odd
 ·exact write3_yes l hn g.odd g.long
theorem colB_len {k : Nat} {l : List Val} (hk : 1 ≤ k ∧ k ≤ 3) (g : Good k l) (hn : l.length ≤ 256) : (colB k l).length ≤ 200000 := by
 have hkl := kinds_len l
 have htl := thereL_length l
 have h1 := flagsB_len (l := thereL l) (by omega)
 have h2 := flagsB_len (l := truths l) (by omega)
 have h3 := bestB_len (wholes_is g.i64) (by omega)
 have h4 := wordsB_len (texts_is g.long) (by omega)
 unfold colB headB bodyB
 rw [List.length_append]
 split <;> split <;> (try split) <;> simp only [List.length_cons,List.length_nil] <;> omega
end Go.Am.Ab
