/- The small parts of the readers. -/
import Derived.Test.YtlgdomajdebbdaaGreatDoorParsing
set_option linter.all false
namespace Go.Am.Ab
open Go.Proofs
set_option maxHeartbeats 4000000
abbrev B (b : List UInt8) : V := .d (.list (bytes b))
abbrev E (e : Nat) : V := .d (.int .i64 (e : Int))
abbrev Z : V := .d (.int .i64 0)
theorem whole_ok (b : List UInt8) (hb : b.length < 4611686018427387904) : R 249 [.ptr 0 0] [.box [B b,Z]] = some ([.d (.int .i64 (zag (get b).1))],[.box [B (b.drop (get b).2.1),E (get b).2.2]]) := by
 have hg := getInt_runs b hb
 have hu := get_used b
 generalize get b = x at *
 have hu' : (x.2.1 : Int) ≤ b.length := by omega
 refine run_goal (rs:=[.tmp 2]) (ts:=[2]) Tryz.func249 rfl rfl rfl (by kernel_rfl) (by kernel_rfl) (.inl sp_249) (by simp [Tryz.f249]) ?_
 intro T hT
 simp -dsimp -implicitDefEqProofs (disch:=first|omega|assumption) [startSlots,nI,wI,hg,hu']
 simpa -dsimp -implicitDefEqProofs (disch:=first|omega|assumption) [nI,wI,B,E] using hT
end Go.Am.Ab
namespace Go.Am.Ab
open Go.Proofs
set_option maxHeartbeats 4000000
abbrev us (l : List Nat) : List D := l.map fun (n : Nat) => D.int .u64 (n : Int)
end Go.Am.Ab
namespace Go.Am.Ab
open Go.Proofs
set_option maxHeartbeats 4000000
theorem equal_runs (a b : List UInt8) (ha : a.length < 4611686018427387904) : R 72 [B a,B b] [] = some ([.d (.bool (decide (a = b)))],[]) := by
 by_cases hl : a.length = b.length
 ·have hl' : (a.length : Int) = b.length := by omega
  refine run_goal (rs:=[.tmp 4]) (ts:=[4]) Tryz.func72 rfl rfl rfl (by kernel_rfl) (by kernel_rfl) (.inl sp_72) (by simp [Tryz.f72]) ?_
  intro T hT
  simp -dsimp -implicitDefEqProofs (disch:=first|omega|assumption) [startSlots,nI,wI,hl,hl']
  generalize hz : loopT _ _ _ _ _ _ = z
  revert z
  refine loop_any (σ:=Nat) (fun i => [(0,B a),(1,B b),(12,.d (.int .i64 a.length)),(13,.d (.int .i64 i))]) (fun i => []) (fun i => i ≤ a.length ∧ ∀ p,p < i → a[p]? = b[p]?) (fun i => a.length - i) 0 ?_ ?_ ?_
  ·exact ⟨Nat.zero_le _,fun p h => by omega⟩
  ·simp -dsimp -implicitDefEqProofs (disch:=first|omega|assumption) [hl]
  intro T' f hT' i ⟨hi,hp⟩ ih
  by_cases h1 : i < a.length
  ·have h2 : i < b.length := by omega
   have h1' : (i : Int) < a.length := by omega
   by_cases h3 : a[i].toNat = b[i].toNat
   ·simp -dsimp -implicitDefEqProofs (disch:=first|omega|assumption) [nI,wI,h1,h1',h2,h3]
    refine ih (i + 1) _ _ ⟨h1,fun p hp2 => ?_⟩ (by omega) (by simp -dsimp -implicitDefEqProofs (disch:=first|omega|assumption))
    by_cases c : p = i
    ·rw [c,List.getElem?_eq_getElem h1,List.getElem?_eq_getElem h2,u8_ext h3]
    ·exact hp p (by omega)
   ·have hab : ¬ a = b := fun e => h3 (by simp only [e])
    subst hT'
    simp -dsimp -implicitDefEqProofs (disch:=first|omega|assumption) [nI,wI,h1,h1',h2,h3]
    simpa -dsimp -implicitDefEqProofs (disch:=first|omega|assumption) [nI,wI,hab] using hT
  ·have hab : a = b := List.ext_getElem? fun p => by
    by_cases c : p < i
    ·exact hp p c
    ·rw [List.getElem?_eq_none (by omega),List.getElem?_eq_none (by omega)]
   have h1' : ¬ (i : Int) < a.length := by omega
   subst hT'
   simp -dsimp -implicitDefEqProofs (disch:=first|omega|assumption) [nI,wI,h1,h1']
   simpa -dsimp -implicitDefEqProofs (disch:=first|omega|assumption) [nI,wI,hab] using hT
 ·have hl' : ¬ (a.length : Int) = b.length := by omega
  have hab : ¬ a = b := fun e => hl (by rw [e])
  refine run_goal (rs:=[.tmp 4]) (ts:=[4]) Tryz.func72 rfl rfl rfl (by kernel_rfl) (by kernel_rfl) (.inl sp_72) (by simp [Tryz.f72]) ?_
  intro T hT
  simp -dsimp -implicitDefEqProofs (disch:=first|omega|assumption) [startSlots,nI,wI,hl,hl']
  simpa -dsimp -implicitDefEqProofs (disch:=first|omega|assumption) [nI,wI,hab] using hT
theorem mul64_one (k : Nat) (hk : k ≤ 256) : R 248 [.d (.int .u64 1),.d (.int .u64 k)] [] = some ([.d (.int .u64 0),.d (.int .u64 k)],[]) := by
 have h1 : k &&& 4294967295 = k := by rw [show (4294967295 : Nat) = 2 ^ 32 - 1 from rfl,and_mask]; omega
 have h2 : (1 : Nat) &&& 4294967295 = 1 := by decide
 have h3 : (k : Int) / 4294967296 = 0 := by omega
 have h4 : (1 : Int) / 4294967296 = 0 := by omega
 have hw : IntKind.u64.wrap (k : Int) = k := wrap_u64 (by omega) (by omega)
 have hw0 : IntKind.u64.wrap 0 = 0 := wrap_u64 (by omega) (by omega)
 have h5 : (0 : Nat) &&& 4294967295 = 0 := by decide
 refine run_goal (rs:=[.tmp 4,.tmp 5]) (ts:=[113,113]) Tryz.func248 rfl rfl rfl (by kernel_rfl) (by kernel_rfl) (.inl sp_248) (by simp [Tryz.f248]) ?_
 intro T hT
 simp -dsimp -implicitDefEqProofs (disch:=first|omega|assumption) [startSlots,nI,wI,h1,h2,h3,h4,h5,hw,hw0]
 simpa -dsimp -implicitDefEqProofs (disch:=first|omega|assumption) [nI,wI] using hT
theorem mul_one_runs (k : Nat) (hk : k ≤ 256) : R 226 [.d (.int .u64 1),.d (.int .u64 k)] [] = some ([.d (.int .u64 0),.d (.int .u64 k)],[]) := by
 have h := mul64_one k hk
 refine run_goal (rs:=[.tmp 4,.tmp 5]) (ts:=[76,76]) Tryz.func226 rfl rfl rfl (by kernel_rfl) (by kernel_rfl) (.inl sp_226) (by simp [Tryz.f226]) ?_
 intro T hT
 simp -dsimp -implicitDefEqProofs (disch:=first|omega|assumption) [startSlots,nI,wI,h]
 simpa -dsimp -implicitDefEqProofs (disch:=first|omega|assumption) [nI,wI] using hT
def filled (x : Int) (n j : Nat) : List Int := List.replicate j x ++ List.replicate (n - j) 0
end Go.Am.Ab
