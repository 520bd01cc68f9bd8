/- The small parts of the readers. -/
import Derived.Test.YtlgdomajdebbdaaGreatDoorParsing
set_option linter.all false
namespace Go.Am.Ab
open Go.Proofs
set_option maxHeartbeats 4000000
abbrev B (b : List UInt8) : V := .d (.list (bytes b))
abbrev E (e : Nat) : V := .d (.int .i64 (e : Int))
abbrev Z : V := .d (.int .i64 0)
theorem E_zero : E 0 = Z := rfl
theorem fail_z (x : D) (k : Int) : R 253 [.ptr 0 0,.d (.int .i64 k)] [.box [.d x,Z]] = some ([],[.box [.d x,.d (.int .i64 k)]]) := by
 refine run_goal (rs:=[]) (ts:=[]) Tryz.func253 rfl rfl rfl (by kernel_rfl) (by kernel_rfl) (.inl sp_253) (by simp [Tryz.f253]) ?_
 intro T hT
 simp -dsimp -implicitDefEqProofs (disch:=first|omega|assumption) [startSlots,nI,wI]
 simpa -dsimp -implicitDefEqProofs (disch:=first|omega|assumption) [nI,wI,E] using hT
theorem fail_zn (k : Int) : R 253 [.ptr 0 0,.d (.int .i64 k)] [.box [.nilS,Z]] = some ([],[.box [.nilS,.d (.int .i64 k)]]) := by
 refine run_goal (rs:=[]) (ts:=[]) Tryz.func253 rfl rfl rfl (by kernel_rfl) (by kernel_rfl) (.inl sp_253) (by simp [Tryz.f253]) ?_
 intro T hT
 simp -dsimp -implicitDefEqProofs (disch:=first|omega|assumption) [startSlots,nI,wI]
 simpa -dsimp -implicitDefEqProofs (disch:=first|omega|assumption) [nI,wI,E] using hT
theorem fail_e (x : D) (e : Nat) (k : Int) (h : e ≠ 0) : R 253 [.ptr 0 0,.d (.int .i64 k)] [.box [.d x,E e]] = some ([],[.box [.d x,E e]]) := by
 refine run_goal (rs:=[]) (ts:=[]) Tryz.func253 rfl rfl rfl (by kernel_rfl) (by kernel_rfl) (.inl sp_253) (by simp [Tryz.f253]) ?_
 intro T hT
 simp -dsimp -implicitDefEqProofs (disch:=first|omega|assumption) [startSlots,nI,wI,h]
 simpa -dsimp -implicitDefEqProofs (disch:=first|omega|assumption) [nI,wI,E] using hT
theorem num_bad (x : D) (e : Nat) (h : e ≠ 0) : R 264 [.ptr 0 0] [.box [.d x,E e]] = some ([.d (.int .u64 0)],[.box [.d x,E e]]) := by
 refine run_goal (rs:=[.tmp 2]) (ts:=[113]) Tryz.func264 rfl rfl rfl (by kernel_rfl) (by kernel_rfl) (.inl sp_264) (by simp [Tryz.f264]) ?_
 intro T hT
 simp -dsimp -implicitDefEqProofs (disch:=first|omega|assumption) [startSlots,nI,wI,h]
 simpa -dsimp -implicitDefEqProofs (disch:=first|omega|assumption) [nI,wI,B,E] using hT
theorem num_ok (b : List UInt8) (hb : b.length < 4611686018427387904) : R 264 [.ptr 0 0] [.box [B b,Z]] = some ([.d (.int .u64 (get b).1)],[.box [B (b.drop (get b).2.1),E (get b).2.2]]) := by
 have hg := get_runs b hb
 have hu := get_used b
 generalize get b = x at *
 have hu' : (x.2.1 : Int) ≤ b.length := by omega
 refine run_goal (rs:=[.tmp 2]) (ts:=[113]) Tryz.func264 rfl rfl rfl (by kernel_rfl) (by kernel_rfl) (.inl sp_264) (by simp [Tryz.f264]) ?_
 intro T hT
 simp -dsimp -implicitDefEqProofs (disch:=first|omega|assumption) [startSlots,nI,wI,hg,hu']
 simpa -dsimp -implicitDefEqProofs (disch:=first|omega|assumption) [nI,wI,B,E] using hT
theorem whole_ok (b : List UInt8) (hb : b.length < 4611686018427387904) : R 249 [.ptr 0 0] [.box [B b,Z]] = some ([.d (.int .i64 (zag (get b).1))],[.box [B (b.drop (get b).2.1),E (get b).2.2]]) := by
 have hg := getInt_runs b hb
 have hu := get_used b
 generalize get b = x at *
 have hu' : (x.2.1 : Int) ≤ b.length := by omega
 refine run_goal (rs:=[.tmp 2]) (ts:=[2]) Tryz.func249 rfl rfl rfl (by kernel_rfl) (by kernel_rfl) (.inl sp_249) (by simp [Tryz.f249]) ?_
 intro T hT
 simp -dsimp -implicitDefEqProofs (disch:=first|omega|assumption) [startSlots,nI,wI,hg,hu']
 simpa -dsimp -implicitDefEqProofs (disch:=first|omega|assumption) [nI,wI,B,E] using hT
end Go.Am.Ab
namespace Go.Am.Ab
open Go.Proofs
set_option maxHeartbeats 4000000
abbrev us (l : List Nat) : List D := l.map fun (n : Nat) => D.int .u64 (n : Int)
theorem packed_err {n w e : Nat} {b : List UInt8} (h : pPacked n w b = .err e) (hn : n ≤ 256) (hw : w ≤ 64) (hb : b.length < 4611686018427387904) :
  R 266 [.ptr 0 0,.d (.int .i64 n),.d (.int .i64 w)] [.box [B b,Z]] = some ([.arr 1 n],[.box [B b,E e],.arr 1 (List.replicate n (.int .u64 0)) 0]) := by
 have hnw : n * w ≤ 256 * 64 := Nat.mul_le_mul hn hw
 unfold pPacked at h
 have hc := unpack_high b n w hn hw
 obtain ⟨lw,hlw⟩ : ∃ lw,lw = n * w := ⟨_,rfl⟩
 have hlw' : (n : Int) * w = lw := by rw [hlw,Int.natCast_mul]
 rw [← hlw] at h hnw hc
 obtain ⟨sz,hsz⟩ : ∃ sz,sz = (lw + 7) / 8 := ⟨_,rfl⟩
 have hszi : ((lw : Int) + 7) / 8 = sz := by omega
 rw [← hsz] at h hc
 have f1 := fail_z (.list (bytes b)) 30
 have f2 := fail_z (.list (bytes b)) 32
 by_cases h1 : b.length < sz
 ·rw [if_pos h1] at h
  cases h
  have h2 : ¬ sz < b.length := by omega
  refine run_goal (rs:=[.tmp 6]) (ts:=[188]) Tryz.func266 rfl rfl rfl (by kernel_rfl) (by kernel_rfl) (.inl sp_266) (by simp [Tryz.f266]) ?_
  intro T hT
  simp -dsimp -implicitDefEqProofs (disch:=first|omega|assumption) [startSlots,nI,wI,hlw',hszi,h1,h2,f1]
  simpa -dsimp -implicitDefEqProofs (disch:=first|omega|assumption) [nI,wI,B,E] using hT
 ·rw [if_neg h1] at h
  by_cases h2 : sz < b.length
  ·rw [if_pos h2] at h
   cases h
   refine run_goal (rs:=[.tmp 6]) (ts:=[188]) Tryz.func266 rfl rfl rfl (by kernel_rfl) (by kernel_rfl) (.inl sp_266) (by simp [Tryz.f266]) ?_
   intro T hT
   simp -dsimp -implicitDefEqProofs (disch:=first|omega|assumption) [startSlots,nI,wI,hlw',hszi,h1,h2,f2]
   simpa -dsimp -implicitDefEqProofs (disch:=first|omega|assumption) [nI,wI,B,E] using hT
  ·rw [if_neg h2] at h
   have h3 : b.length = sz := by omega
   split at h
   ·cases h
   ·rename_i h4
    cases h
    have hu := hc h3 h4
    have f3 := fail_z (.list (bytes b)) 40
    refine run_goal (rs:=[.tmp 6]) (ts:=[188]) Tryz.func266 rfl rfl rfl (by kernel_rfl) (by kernel_rfl) (.inl sp_266) (by simp [Tryz.f266]) ?_
    intro T hT
    simp -dsimp -implicitDefEqProofs (disch:=first|omega|assumption) [startSlots,nI,wI,hlw',hszi,h1,h2,hu,f3]
    simpa -dsimp -implicitDefEqProofs (disch:=first|omega|assumption) [nI,wI,B,E] using hT
theorem packed_ok {n w : Nat} {b r : List UInt8} {p : List Nat} (h : pPacked n w b = .ok p r) (hn : n ≤ 256) (hw : w ≤ 64) (hb : b.length < 4611686018427387904) :
  r = [] ∧ p.length = n ∧ (∀ q ∈ p,q < 18446744073709551616) ∧ R 266 [.ptr 0 0,.d (.int .i64 n),.d (.int .i64 w)] [.box [B b,Z]] = some ([.arr 1 n],[.box [.nilS,Z],.arr 1 (us p) 0]) := by
 have hnw : n * w ≤ 256 * 64 := Nat.mul_le_mul hn hw
 unfold pPacked at h
 have hc := unpack_yes b n w hn hw
 split at h
 ·cases h
 ·rename_i h1
  split at h
  ·cases h
  ·rename_i h2
   split at h
   ·rename_i h4
    cases h
    refine ⟨rfl,ups_length _ _ _,fun q hq => ups_lt hw hq, ?_⟩
    have hu := hc (by omega) h4
    obtain ⟨p,hp⟩ : ∃ p,p = ups w (num b) n := ⟨_,rfl⟩
    rw [← hp] at hu ⊢
    have hpl : p.length = n := by rw [hp]; exact ups_length _ _ _
    obtain ⟨lw,hlw⟩ : ∃ lw,lw = n * w := ⟨_,rfl⟩
    have hlw' : (n : Int) * w = lw := by rw [hlw,Int.natCast_mul]
    rw [← hlw] at h1 h2 hnw
    obtain ⟨sz,hsz⟩ : ∃ sz,sz = (lw + 7) / 8 := ⟨_,rfl⟩
    have hszi : ((lw : Int) + 7) / 8 = sz := by omega
    rw [← hsz] at h1 h2
    refine run_goal (rs:=[.tmp 6]) (ts:=[188]) Tryz.func266 rfl rfl rfl (by kernel_rfl) (by kernel_rfl) (.inl sp_266) (by simp [Tryz.f266]) ?_
    intro T hT
    simp -dsimp -implicitDefEqProofs (disch:=first|omega|assumption) [startSlots,nI,wI,hlw',hszi,h1,h2,hu]
    simpa -dsimp -implicitDefEqProofs (disch:=first|omega|assumption) [nI,wI,B,E] using hT
   ·cases h
end Go.Am.Ab
namespace Go.Am.Ab
open Go.Proofs
set_option maxHeartbeats 4000000
theorem equal_runs (a b : List UInt8) (ha : a.length < 4611686018427387904) : R 72 [B a,B b] [] = some ([.d (.bool (decide (a = b)))],[]) := by
 by_cases hl : a.length = b.length
 ·have hl' : (a.length : Int) = b.length := by omega
  refine run_goal (rs:=[.tmp 4]) (ts:=[4]) Tryz.func72 rfl rfl rfl (by kernel_rfl) (by kernel_rfl) (.inl sp_72) (by simp [Tryz.f72]) ?_
  intro T hT
  simp -dsimp -implicitDefEqProofs (disch:=first|omega|assumption) [startSlots,nI,wI,hl,hl']
  generalize hz : loopT _ _ _ _ _ _ = z
  revert z
  refine loop_any (σ:=Nat) (fun i => [(0,B a),(1,B b),(12,.d (.int .i64 a.length)),(13,.d (.int .i64 i))]) (fun i => []) (fun i => i ≤ a.length ∧ ∀ p,p < i → a[p]? = b[p]?) (fun i => a.length - i) 0 ?_ ?_ ?_
  ·exact ⟨Nat.zero_le _,fun p h => by omega⟩
  ·simp -dsimp -implicitDefEqProofs (disch:=first|omega|assumption) [hl]
  intro T' f hT' i ⟨hi,hp⟩ ih
  by_cases h1 : i < a.length
  ·have h2 : i < b.length := by omega
   have h1' : (i : Int) < a.length := by omega
   by_cases h3 : a[i].toNat = b[i].toNat
   ·simp -dsimp -implicitDefEqProofs (disch:=first|omega|assumption) [nI,wI,h1,h1',h2,h3]
    refine ih (i + 1) _ _ ⟨h1,fun p hp2 => ?_⟩ (by omega) (by simp -dsimp -implicitDefEqProofs (disch:=first|omega|assumption))
    by_cases c : p = i
    ·rw [c,List.getElem?_eq_getElem h1,List.getElem?_eq_getElem h2,u8_ext h3]
    ·exact hp p (by omega)
   ·have hab : ¬ a = b := fun e => h3 (by simp only [e])
    subst hT'
    simp -dsimp -implicitDefEqProofs (disch:=first|omega|assumption) [nI,wI,h1,h1',h2,h3]
    simpa -dsimp -implicitDefEqProofs (disch:=first|omega|assumption) [nI,wI,hab] using hT
  ·have hab : a = b := List.ext_getElem? fun p => by
    by_cases c : p < i
    ·exact hp p c
    ·rw [List.getElem?_eq_none (by omega),List.getElem?_eq_none (by omega)]
   have h1' : ¬ (i : Int) < a.length := by omega
   subst hT'
   simp -dsimp -implicitDefEqProofs (disch:=first|omega|assumption) [nI,wI,h1,h1']
   simpa -dsimp -implicitDefEqProofs (disch:=first|omega|assumption) [nI,wI,hab] using hT
 ·have hl' : ¬ (a.length : Int) = b.length := by omega
  have hab : ¬ a = b := fun e => hl (by rw [e])
  refine run_goal (rs:=[.tmp 4]) (ts:=[4]) Tryz.func72 rfl rfl rfl (by kernel_rfl) (by kernel_rfl) (.inl sp_72) (by simp [Tryz.f72]) ?_
  intro T hT
  simp -dsimp -implicitDefEqProofs (disch:=first|omega|assumption) [startSlots,nI,wI,hl,hl']
  simpa -dsimp -implicitDefEqProofs (disch:=first|omega|assumption) [nI,wI,hab] using hT
theorem mul64_one (k : Nat) (hk : k ≤ 256) : R 248 [.d (.int .u64 1),.d (.int .u64 k)] [] = some ([.d (.int .u64 0),.d (.int .u64 k)],[]) := by
 have h1 : k &&& 4294967295 = k := by rw [show (4294967295 : Nat) = 2 ^ 32 - 1 from rfl,and_mask]; omega
 have h2 : (1 : Nat) &&& 4294967295 = 1 := by decide
 have h3 : (k : Int) / 4294967296 = 0 := by omega
 have h4 : (1 : Int) / 4294967296 = 0 := by omega
 have hw : IntKind.u64.wrap (k : Int) = k := wrap_u64 (by omega) (by omega)
 have hw0 : IntKind.u64.wrap 0 = 0 := wrap_u64 (by omega) (by omega)
 have h5 : (0 : Nat) &&& 4294967295 = 0 := by decide
 refine run_goal (rs:=[.tmp 4,.tmp 5]) (ts:=[113,113]) Tryz.func248 rfl rfl rfl (by kernel_rfl) (by kernel_rfl) (.inl sp_248) (by simp [Tryz.f248]) ?_
 intro T hT
 simp -dsimp -implicitDefEqProofs (disch:=first|omega|assumption) [startSlots,nI,wI,h1,h2,h3,h4,h5,hw,hw0]
 simpa -dsimp -implicitDefEqProofs (disch:=first|omega|assumption) [nI,wI] using hT
theorem mul_one_runs (k : Nat) (hk : k ≤ 256) : R 226 [.d (.int .u64 1),.d (.int .u64 k)] [] = some ([.d (.int .u64 0),.d (.int .u64 k)],[]) := by
 have h := mul64_one k hk
 refine run_goal (rs:=[.tmp 4,.tmp 5]) (ts:=[76,76]) Tryz.func226 rfl rfl rfl (by kernel_rfl) (by kernel_rfl) (.inl sp_226) (by simp [Tryz.f226]) ?_
 intro T hT
 simp -dsimp -implicitDefEqProofs (disch:=first|omega|assumption) [startSlots,nI,wI,h]
 simpa -dsimp -implicitDefEqProofs (disch:=first|omega|assumption) [nI,wI] using hT
def filled (x : Int) (n j : Nat) : List Int := List.replicate j x ++ List.replicate (n - j) 0
theorem repeat_runs (x : Int) (n : Nat) (hn : n ≤ 256) : R 265 [.arr 0 1,.d (.int .i64 n)] [.arr 1 [.int .i64 x] 0] = some ([.arr 1 n],[.arr 1 [.int .i64 x] 0,.arr 1 (cs (List.replicate n x)) 0]) := by
 have hm := mul_one_runs n hn
 have hw : IntKind.u64.wrap (n : Int) = n := wrap_u64 (by omega) (by omega)
 have hw1 : IntKind.u64.wrap 1 = 1 := wrap_u64 (by omega) (by omega)
 have hn0 : ¬ (n : Int) < 0 := by omega
 have hfit : ¬ (9223372036854775807 : Int) < n := by omega
 have hqi : IntKind.i64.wrap (n : Int) = n := wI (by omega) (by omega)
 by_cases h0 : n = 0
 ·subst h0
  rw [show ((0 : Nat) : Int) = 0 from rfl] at *
  refine run_goal (rs:=[.tmp 4]) (ts:=[179]) Tryz.func265 rfl rfl rfl (by kernel_rfl) (by kernel_rfl) (.inl sp_265) (by simp [Tryz.f265]) ?_
  intro T hT
  simp -dsimp -implicitDefEqProofs (disch:=first|omega|assumption) [startSlots,nI,wI,hm,hw,hw1]
  generalize hz : loopT _ _ _ _ _ _ = z
  revert z
  refine loop_any (σ:=Unit) (fun _ => [(7,.arr 1 0),(8,.d (.int .i64 0))]) (fun _ => [.arr 1 [.int .i64 x] 0,.arr 1 [] 0]) (fun _ => True) (fun _ => 0) () ?_ ?_ ?_
  ·trivial
  ·simp -dsimp -implicitDefEqProofs (disch:=first|omega|assumption)
  intro T' f hT' _ _ ih
  subst hT'
  simp -dsimp -implicitDefEqProofs (disch:=first|omega|assumption) [nI,wI]
  simpa -dsimp -implicitDefEqProofs (disch:=first|omega|assumption) [nI,wI] using hT
 ·have h0' : ¬ (n : Int) = 0 := by omega
  have hmin : min 1 n = 1 := by omega
  have hpos : 0 < n := by omega
  have hfl : ∀ j,j ≤ n → (filled x n j).length = n := fun j hj => by simp [filled]; omega
  have htk : List.take n [D.int .i64 x] = [D.int .i64 x] := List.take_of_length_le (by simp; omega)
  refine run_goal (rs:=[.tmp 4]) (ts:=[179]) Tryz.func265 rfl rfl rfl (by kernel_rfl) (by kernel_rfl) (.inl sp_265) (by simp [Tryz.f265]) ?_
  intro T hT
  simp -dsimp -implicitDefEqProofs (disch:=first|omega|assumption) [startSlots,nI,wI,hm,hw,hw1,hn0,hfit,hqi,h0,h0',hmin,hpos,htk]
  generalize hz : loopT _ _ _ _ _ _ = z
  revert z
  refine loop_any (σ:=Nat) (fun j => [(7,.arr 1 n),(8,.d (.int .i64 j))]) (fun j => [.arr 1 [.int .i64 x] 0,.arr 1 (cs (filled x n j)) 0]) (fun j => 0 < j ∧ j ≤ n) (fun j => n - j) 1 ?_ ?_ ?_
  ·omega
  ·simp -dsimp -implicitDefEqProofs (disch:=first|omega|assumption) [filled]
  intro T' f hT' j ⟨hj0,hj⟩ ih
  have hfj := hfl j hj
  by_cases h1 : j < n
  ·have h1' : (j : Int) < n := by omega
   have hnj : ¬ 0 = n := by omega
   have hjle : j ≤ n := hj
   obtain ⟨k,hk⟩ : ∃ k,k = min (n - j) j := ⟨_,rfl⟩
   have hk' : min (n - j) j = k := hk.symm
   have hk2 : min j (n - j) = k := by omega
   have hA : List.take j (List.map (fun n => D.int .i64 n) (filled x n j)) = List.replicate j (D.int .i64 x) := by
    unfold filled
    rw [List.map_append,List.take_append_of_le_length (by simp),List.take_of_length_le (by simp)]; simp
   have hC : List.drop (j + k) (List.map (fun n => D.int .i64 n) (filled x n j)) = List.replicate (n - j - k) (D.int .i64 0) := by
    unfold filled
    rw [List.map_append,List.drop_append,List.drop_of_length_le (by simp),List.nil_append]
    simp
   have hD : List.replicate j (D.int .i64 x) ++ (List.replicate k (D.int .i64 x) ++ List.replicate (n - j - k) (D.int .i64 0)) = List.map (fun n => D.int .i64 n) (filled x n (j + k)) := by
    unfold filled
    rw [← List.append_assoc,List.replicate_append_replicate,show n - (j + k) = n - j - k by omega]
    simp
   simp -dsimp -implicitDefEqProofs (disch:=first|omega|assumption) [nI,wI,h1,h1',hfj,hnj,hjle,hA,hk',hk2,hC,hD]
   have hnjk : n - (j + k) = n - j - k := by omega
   exact ih (j + k) _ _ (by omega) (by omega) (by simp -dsimp -implicitDefEqProofs (disch:=first|omega|assumption) [filled,hnjk])
  ·have hjn : j = n := by omega
   have hff : filled x n n = List.replicate n x := by simp [filled]
   subst hT'
   rw [hjn,hff]
   simp -dsimp -implicitDefEqProofs (disch:=first|omega|assumption) [nI,wI]
   simpa -dsimp -implicitDefEqProofs (disch:=first|omega|assumption) [nI,wI] using hT
end Go.Am.Ab
