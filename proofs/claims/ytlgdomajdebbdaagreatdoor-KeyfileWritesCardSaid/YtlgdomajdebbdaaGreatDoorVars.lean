/- Numbers of varying length. -/
import Derived.Test.YtlgdomajdebbdaaGreatDoorBase
set_option linter.all false
namespace Go.Am.Ab
open Go.Proofs
set_option maxHeartbeats 2000000
def put (n : Nat) : List UInt8 := if n < 128 then [u8n n] else u8n (n % 128 + 128) :: put (n / 128)
termination_by n
decreasing_by omega
theorem put_lt {n : Nat} (h : n < 128) : put n = [u8n n] := by rw [put,if_pos h]
theorem put_ge {n : Nat} (h : 128 ≤ n) : put n = u8n (n % 128 + 128) :: put (n / 128) := by rw [put,if_neg (by omega)]
theorem put_len_le (k : Nat) : ∀ n,n < 128 ^ (k + 1) → (put n).length ≤ k + 1 := by
 induction k with
 | zero => intro n h; rw [put_lt (by simpa using h)]; simp
 | succ k ih =>
  intro n h
  by_cases h1 : n < 128
  ·rw [put_lt h1]; simp
  ·rw [put_ge (by omega)]
   have := ih (n / 128) (by rw [Nat.div_lt_iff_lt_mul (by decide)]; rw [Nat.pow_succ] at h; exact h)
   simpa using this
theorem put_len {n : Nat} (h : n < 18446744073709551616) : (put n).length ≤ 10 := put_len_le 9 n (by simp; omega)
theorem put_runs (n : Nat) (hn : n < 18446744073709551616) : R 65 [.d (.int .u64 n)] [] = some ([.arr 0 (put n).length],[.arr 1 (bytes (put n)) 0]) := by
 have hl := put_len hn
 refine run_goal (rs:=[.tmp 2]) (ts:=[24]) Tryz.func65 rfl rfl rfl (by kernel_rfl) (by kernel_rfl) (.inl sp_65) (by simp [Tryz.f65]) ?_
 intro T hT
 simp -dsimp -implicitDefEqProofs (disch:=first|omega|assumption) [startSlots,nI,wI]
 generalize hz : loopT _ _ _ _ _ _ = z
 revert z
 refine loop_any (σ:=Nat × List UInt8) (fun x => [(0,.d (.int .u64 x.1)),(3,.arr 0 x.2.length)]) (fun x => [.arr 1 (bytes x.2) 0]) (fun x => x.1 < 18446744073709551616 ∧ x.2 ++ put x.1 = put n) (fun x => x.1) (n,[]) ?_ ?_ ?_
 ·simp [hn]
 ·simp
 intro T' f hT' ⟨m,bs⟩ ⟨hm,hb⟩ ih
 simp only at hm hb ih
 have hbl : bs.length ≤ (put n).length := by rw [← hb]; simp
 simp -dsimp -implicitDefEqProofs (disch:=first|omega|assumption) [nI,wI]
 repeat' ((with_reducible refine cond_any ?_ ?_) <;> intro c <;> (try simp only [decide_eq_true_eq,decide_eq_false_iff_not] at c) <;> (try simp -dsimp -implicitDefEqProofs (disch:=first|omega|assumption) [c,nI,wI]))
 ·refine ih (m / 128,bs ++ [u8n (m % 128 + 128)]) _ _ ⟨by omega, ?_⟩ (Nat.div_lt_self (by omega) (by decide)) (by simp -dsimp -implicitDefEqProofs (disch:=first|omega|assumption))
  rw [← hb,put_ge (n := m) (by omega)]; simp
 ·subst hT'
  rw [put_lt (by omega)] at hb
  have hm2 : m % 256 = m := by omega
  have hm3 : ((m : Int) % 256) = m := by omega
  simp only [← hb,List.length_append,List.map_append,List.map_cons,List.map_nil] at hT hl
  simp -dsimp -implicitDefEqProofs (disch:=first|omega|assumption) [nI,wI,hm3]
  simp -dsimp -implicitDefEqProofs (disch:=first|omega|assumption) at hT
  simpa -dsimp -implicitDefEqProofs (disch:=first|omega|assumption) [nI,wI] using hT
def zig (n : Int) : Nat := if 0 ≤ n then (2 * n).toNat else (2 * (-(n + 1)) + 1).toNat
def putInt (n : Int) : List UInt8 := put (zig n)
theorem zig_lt {n : Int} (h1 : -9223372036854775808 ≤ n) (h2 : n ≤ 9223372036854775807) : zig n < 18446744073709551616 := by
 unfold zig; split <;> omega
theorem putInt_runs (n : Int) (h1 : -9223372036854775808 ≤ n) (h2 : n ≤ 9223372036854775807) : R 196 [.d (.int .i64 n)] [] = some ([.arr 0 (putInt n).length],[.arr 1 (bytes (putInt n)) 0]) := by
 have hz := zig_lt h1 h2
 have hp := put_runs (zig n) hz
 by_cases h0 : 0 ≤ n
 ·have e1 : n / 9223372036854775808 = 0 := by omega
  have e2 : IntKind.u64.wrap (IntKind.i64.wrap (n * 2)) = ((zig n : Nat) : Int) := by unfold zig; rw [if_pos h0,wrap_mod_u64,wrap_mod_i64]; split <;> omega
  have e3 : (zig n ^^^ 0) = zig n := Nat.xor_zero _
  refine run_goal (rs:=[.tmp 2]) (ts:=[24]) Tryz.func196 rfl rfl rfl (by kernel_rfl) (by kernel_rfl) (.inl sp_196) (by simp [Tryz.f196]) ?_
  intro T hT
  simp -dsimp -implicitDefEqProofs (disch:=first|omega|assumption) [startSlots,nI,wI,e1,e2,e3,hp,wrap_u64]
  simpa -dsimp -implicitDefEqProofs (disch:=first|omega|assumption) [nI,wI,putInt] using hT
 ·have e1 : n / 9223372036854775808 = -1 := by omega
  obtain ⟨a,ha⟩ : ∃ a : Nat,(a : Int) = n * 2 + 18446744073709551616 := ⟨(n * 2 + 18446744073709551616).toNat,by omega⟩
  have e2 : IntKind.u64.wrap (IntKind.i64.wrap (n * 2)) = (a : Int) := by rw [wrap_mod_u64,wrap_mod_i64]; split <;> omega
  have e3 : (a ^^^ 18446744073709551615) = zig n := by rw [xor_ones (by omega)]; unfold zig; rw [if_neg h0]; omega
  have e4 : IntKind.u64.wrap (-1) = 18446744073709551615 := by decide
  refine run_goal (rs:=[.tmp 2]) (ts:=[24]) Tryz.func196 rfl rfl rfl (by kernel_rfl) (by kernel_rfl) (.inl sp_196) (by simp [Tryz.f196]) ?_
  intro T hT
  simp -dsimp -implicitDefEqProofs (disch:=first|omega|assumption) [startSlots,nI,wI,e1,e2,e3,e4,hp]
  simpa -dsimp -implicitDefEqProofs (disch:=first|omega|assumption) [nI,wI,putInt] using hT
def getFrom : Nat → Nat → List UInt8 → Nat × Nat × Nat
 | _,_,[] => (0,0,30)
 | i,n,c :: r =>
  if i = 9 ∧ 1 < c.toNat then (0,0,31)
  else if c.toNat < 128 then (if c.toNat = 0 ∧ 0 < i then (0,0,31) else (n + c.toNat * 2 ^ (7 * i),i + 1,0))
  else getFrom (i + 1) (n + (c.toNat % 128) * 2 ^ (7 * i)) r
def get (b : List UInt8) : Nat × Nat × Nat := getFrom 0 0 b
theorem get_runs (b : List UInt8) (hb : b.length < 4611686018427387904) : R 70 [.d (.list (bytes b))] [] = some ([.d (.int .u64 (get b).1),.d (.int .i64 (get b).2.1),.d (.int .i64 (get b).2.2)],[]) := by
 refine run_goal (rs:=[.tmp 2,.tmp 3,.tmp 4]) (ts:=[113,3,25]) Tryz.func70 rfl rfl rfl (by kernel_rfl) (by kernel_rfl) (.inl sp_70) (by simp [Tryz.f70]) ?_
 intro T hT
 simp -dsimp -implicitDefEqProofs (disch:=first|omega|assumption) [startSlots,nI,wI]
 generalize hz : loopT _ _ _ _ _ _ = z
 revert z
 refine loop_any (σ:=Nat × Nat) (fun x => [(5,.d (.int .u64 x.2)),(8,.d (.list (bytes b))),(9,.d (.int .i64 b.length)),(10,.d (.int .i64 x.1))]) (fun x => []) (fun x => x.1 ≤ b.length ∧ x.1 ≤ 9 ∧ x.2 < 2 ^ (7 * x.1) ∧ getFrom x.1 x.2 (b.drop x.1) = get b) (fun x => b.length - x.1) (0,0) ?_ ?_ ?_
 ·simp [get]
 ·simp
 intro T' f hT' ⟨i,n⟩ ⟨hi,hi9,hn,hg⟩ ih
 simp only at hi hi9 hn hg ih
 by_cases hlt : i < b.length
 ·have hd : b.drop i = b[i] :: b.drop (i + 1) := (List.drop_eq_getElem_cons hlt)
  have hc : b[i].toNat < 256 := b[i].toNat_lt
  rw [hd,getFrom] at hg
  have hcm : b[i].toNat % 128 < 128 := Nat.mod_lt _ (by decide)
  by_cases h9 : i = 9
  ·subst h9
   have hlt' : (9 : Int) < b.length := by omega
   by_cases h1 : 1 < b[9].toNat
   ·rw [if_pos ⟨rfl,h1⟩] at hg
    rw [← hg] at hT
    have h1' : (1 : Int) < b[9].toNat := by omega
    simp -dsimp -implicitDefEqProofs (disch:=first|omega|assumption) [nI,wI,hlt,hlt',wI,h1']
    subst hT'
    simp -dsimp -implicitDefEqProofs (disch:=first|omega|assumption) [nI,wI]
    simpa -dsimp -implicitDefEqProofs (disch:=first|omega|assumption) [nI,wI] using hT
   ·rw [if_neg (by omega),if_pos (by omega)] at hg
    obtain ⟨m,hm⟩ : ∃ m,m = b[9].toNat * 2 ^ (7 * 9) := ⟨_,rfl⟩
    have hn' : n < 9223372036854775808 := hn
    have hm' : m = b[9].toNat * 9223372036854775808 := hm
    have e1 : IntKind.u64.wrap (IntKind.u64.wrap ((b[9].toNat : Int) % 128) * 9223372036854775808) = (m : Int) := by rw [wrap_mod_u64,wrap_mod_u64]; omega
    have e2 : (n ||| m) = n + m := or_add' (i := 63) (by omega) (by omega)
    rw [← hm] at hg
    have h128' : (b[9].toNat : Int) < 128 := by omega
    have h1' : ¬ (1 : Int) < b[9].toNat := by omega
    simp -dsimp -implicitDefEqProofs (disch:=first|omega|assumption) [nI,wI,hlt,hlt',wI,e1,e2,h1',h128']
    refine cond_any (fun c => ?_) (fun c => ?_) <;> simp only [decide_eq_true_eq,decide_eq_false_iff_not] at c
    ·rw [if_pos ⟨c,by decide⟩] at hg
     rw [← hg] at hT
     simp -dsimp -implicitDefEqProofs (disch:=first|omega|assumption) [nI,wI,c]
     subst hT'
     simpa -dsimp -implicitDefEqProofs (disch:=first|omega|assumption) [nI,wI] using hT
    ·rw [if_neg (fun h => c h.1)] at hg
     rw [← hg] at hT
     simp -dsimp -implicitDefEqProofs (disch:=first|omega|assumption) [nI,wI,c]
     subst hT'
     simpa -dsimp -implicitDefEqProofs (disch:=first|omega|assumption) [nI,wI] using hT
  ·have hi8 : i ≤ 8 := by omega
   have hpw : 2 ^ (7 * i) ≤ 2 ^ 56 := Nat.pow_le_pow_right (by decide) (by omega)
   obtain ⟨m,hm⟩ : ∃ m,m = b[i].toNat % 128 * 2 ^ (7 * i) := ⟨_,rfl⟩
   have hm2 : m ≤ 127 * 2 ^ 56 := by rw [hm]; exact Nat.mul_le_mul (by omega) hpw
   have hn2 : n < 2 ^ 56 := Nat.lt_of_lt_of_le hn hpw
   have hn3 : n < 18446744073709551616 := by omega
   have hm3 : m < 18446744073709551616 := by omega
   have e0 : (7 * (i : Int)).toNat = 7 * i := by omega
   have e1 : IntKind.u64.wrap (IntKind.u64.wrap ((b[i].toNat : Int) % 128) * 2 ^ (7 * i)) = (m : Int) := by
    have h1 : IntKind.u64.wrap ((b[i].toNat : Int) % 128) = ((b[i].toNat % 128 : Nat) : Int) := by rw [wrap_mod_u64]; omega
    have h2 : ((b[i].toNat % 128 : Nat) : Int) * 2 ^ (7 * i) = (m : Int) := by rw [hm,Int.natCast_mul,Int.natCast_pow]; rfl
    rw [h1,h2,wrap_mod_u64]; omega
   have e2 : (n ||| m) = n + m := or_add' (i := 7 * i) (by rw [hm]; exact Nat.mul_mod_left _ _) hn
   have e3 : min (7 * i) 64 = 7 * i := by omega
   rw [if_neg (fun h => h9 h.1)] at hg
   have h9' : ¬ (i : Int) = 9 := by omega
   by_cases h128 : b[i].toNat < 128
   ·rw [if_pos h128] at hg
    have hmm : b[i].toNat % 128 = b[i].toNat := Nat.mod_eq_of_lt h128
    rw [hmm] at hm
    rw [← hm] at hg
    have h128' : (b[i].toNat : Int) < 128 := by omega
    simp -dsimp -implicitDefEqProofs (disch:=first|omega|assumption) [nI,wI,hlt,wI,h9',e0,e3,e1,e2,h128']
    refine cond_any (fun c => ?_) (fun c => ?_) <;> simp only [decide_eq_true_eq,decide_eq_false_iff_not] at c
    ·simp -dsimp -implicitDefEqProofs (disch:=first|omega|assumption) [nI,wI,c]
     refine cond_any (fun d => ?_) (fun d => ?_) <;> simp only [decide_eq_true_eq,decide_eq_false_iff_not] at d
     ·rw [if_pos ⟨c,d⟩] at hg
      rw [← hg] at hT
      simp -dsimp -implicitDefEqProofs (disch:=first|omega|assumption) [nI,wI,d]
      subst hT'
      simpa -dsimp -implicitDefEqProofs (disch:=first|omega|assumption) [nI,wI] using hT
     ·rw [if_neg (fun h => d h.2)] at hg
      rw [← hg] at hT
      simp -dsimp -implicitDefEqProofs (disch:=first|omega|assumption) [nI,wI,d]
      subst hT'
      simpa -dsimp -implicitDefEqProofs (disch:=first|omega|assumption) [nI,wI] using hT
    ·rw [if_neg (fun h => c h.1)] at hg
     rw [← hg] at hT
     simp -dsimp -implicitDefEqProofs (disch:=first|omega|assumption) [nI,wI,c]
     subst hT'
     simpa -dsimp -implicitDefEqProofs (disch:=first|omega|assumption) [nI,wI] using hT
   ·rw [if_neg h128,← hm] at hg
    have h128' : ¬ (b[i].toNat : Int) < 128 := by omega
    simp -dsimp -implicitDefEqProofs (disch:=first|omega|assumption) [nI,wI,hlt,wI,h9',e0,e3,e1,e2,h128',h128]
    refine ih (i + 1,n + m) _ _ ⟨by simp only; omega,by simp only; omega, ?_,hg⟩ (by simp only; omega) (by simp -dsimp -implicitDefEqProofs (disch:=first|omega|assumption))
    have hpe : 2 ^ (7 * (i + 1)) = 128 * 2 ^ (7 * i) := by rw [Nat.mul_add,Nat.pow_add,Nat.mul_comm]
    have hm4 : m ≤ 127 * 2 ^ (7 * i) := by rw [hm]; exact Nat.mul_le_mul_right _ (by omega)
    simp only
    rw [hpe]
    omega
 ·have he : i = b.length := by omega
  have hd : b.drop i = [] := List.drop_of_length_le (by omega)
  rw [hd,getFrom] at hg
  rw [← hg] at hT
  simp -dsimp -implicitDefEqProofs (disch:=first|omega|assumption) [nI,wI,hlt]
  subst hT'
  simp -dsimp -implicitDefEqProofs (disch:=first|omega|assumption) [nI,wI]
  simpa -dsimp -implicitDefEqProofs (disch:=first|omega|assumption) [nI,wI] using hT
def zag (n : Nat) : Int := if n % 2 = 0 then (n / 2 : Nat) else -((n / 2 : Nat) : Int) - 1
theorem getFrom_lt : ∀ (b : List UInt8) (i n : Nat),i ≤ 9 → n < 2 ^ (7 * i) → (getFrom i n b).1 < 18446744073709551616
 | [],_,_,_,_ => by simp [getFrom]
 | c :: r,i,n,hi,hn => by
  have hc : c.toNat < 256 := c.toNat_lt
  rw [getFrom]
  split
  ·simp
  ·rename_i h9
   have hpw : i ≤ 8 → 2 ^ (7 * i) ≤ 2 ^ 56 := fun h => Nat.pow_le_pow_right (by decide) (by omega)
   split
   ·rename_i h128
    split
    ·simp
    ·simp only
     by_cases e : i = 9
     ·subst e
      have : n < 2 ^ 63 := hn
      have : c.toNat ≤ 1 := by omega
      have : c.toNat * 2 ^ (7 * 9) ≤ 1 * 2 ^ 63 := Nat.mul_le_mul_right _ this
      omega
     ·have := hpw (by omega)
      have : c.toNat * 2 ^ (7 * i) ≤ 127 * 2 ^ 56 := Nat.mul_le_mul (by omega) this
      omega
   ·rename_i h128
    have hi8 : i ≤ 8 := by
     by_cases e : i = 9
     ·subst e; omega
     ·omega
    have hpe : 2 ^ (7 * (i + 1)) = 128 * 2 ^ (7 * i) := by rw [Nat.mul_add,Nat.pow_add,Nat.mul_comm]
    refine getFrom_lt r (i + 1) _ (by omega) ?_
    have : c.toNat % 128 * 2 ^ (7 * i) ≤ 127 * 2 ^ (7 * i) := Nat.mul_le_mul_right _ (by omega)
    rw [hpe]; omega
theorem get_lt (b : List UInt8) : (get b).1 < 18446744073709551616 := getFrom_lt b 0 0 (by decide) (by decide)
theorem getInt_runs (b : List UInt8) (hb : b.length < 4611686018427387904) : R 233 [.d (.list (bytes b))] [] = some ([.d (.int .i64 (zag (get b).1)),.d (.int .i64 (get b).2.1),.d (.int .i64 (get b).2.2)],[]) := by
 have hg := get_runs b hb
 have hl := get_lt b
 unfold zag
 generalize get b = x at *
 by_cases h : x.1 % 2 = 0
 ·have h' : (x.1 : Int) % 2 = 0 := by omega
  rw [if_pos h]
  refine run_goal (rs:=[.tmp 2,.tmp 3,.tmp 4]) (ts:=[2,3,25]) Tryz.func233 rfl rfl rfl (by kernel_rfl) (by kernel_rfl) (.inl sp_233) (by simp [Tryz.f233]) ?_
  intro T hT
  simp -dsimp -implicitDefEqProofs (disch:=first|omega|assumption) [startSlots,nI,wI,hg,wrap_u64,h,h']
  simpa -dsimp -implicitDefEqProofs (disch:=first|omega|assumption) [nI,wI] using hT
 ·have h2 : x.1 % 2 = 1 := by omega
  have h' : (x.1 : Int) % 2 = 1 := by omega
  rw [if_neg h]
  refine run_goal (rs:=[.tmp 2,.tmp 3,.tmp 4]) (ts:=[2,3,25]) Tryz.func233 rfl rfl rfl (by kernel_rfl) (by kernel_rfl) (.inl sp_233) (by simp [Tryz.f233]) ?_
  intro T hT
  simp -dsimp -implicitDefEqProofs (disch:=first|omega|assumption) [startSlots,nI,wI,hg,wrap_u64,h2,h']
  simpa -dsimp -implicitDefEqProofs (disch:=first|omega|assumption) [nI,wI] using hT
end Go.Am.Ab
namespace Go.Am.Ab
open Go.Proofs
set_option maxHeartbeats 2000000
theorem rput_runs (n : Nat) : n < 18446744073709551616 → R 68 [.d (.int .u64 n)] [] = some ([.arr 0 (put n).length],[.arr 1 (bytes (put n)) 0]) := by
 induction n using Nat.strongRecOn with
 | _ n ih =>
  intro hn
  have hl := put_len hn
  by_cases h : n < 128
  ·rw [put_lt h]
   have h' : (n : Int) < 128 := by omega
   have h2 : n % 256 = n := by omega
   have h3 : (n : Int) % 256 = n := by omega
   refine run_goal (rs:=[.tmp 2]) (ts:=[24]) Tryz.func68 rfl rfl rfl (by kernel_rfl) (by kernel_rfl) (.inl sp_68) (by simp [Tryz.f68]) ?_
   intro T hT
   simp -dsimp -implicitDefEqProofs (disch:=first|omega|assumption) [startSlots,nI,wI,h',h3]
   simp -dsimp -implicitDefEqProofs (disch:=first|omega|assumption) at hT
   simpa -dsimp -implicitDefEqProofs (disch:=first|omega|assumption) [nI,wI] using hT
  ·have ih' := ih (n / 128) (by omega) (by omega)
   rw [put_ge (by omega)] at hl ⊢
   simp only [List.length_cons] at hl
   have h' : ¬ (n : Int) < 128 := by omega
   have h3 : ((n : Int) % 128 + 128) % 256 = n % 128 + 128 := by omega
   simp only [Int.natCast_ediv,Int.cast_ofNat_Int] at ih'
   refine run_goal (rs:=[.tmp 2]) (ts:=[24]) Tryz.func68 rfl rfl rfl (by kernel_rfl) (by kernel_rfl) (.inl sp_68) (by simp [Tryz.f68]) ?_
   intro T hT
   simp -dsimp -implicitDefEqProofs (disch:=first|omega|assumption) [startSlots,nI,wI,h',h3,wrap_u64,ih']
   simpa -dsimp -implicitDefEqProofs (disch:=first|omega|assumption) [nI,wI,Nat.add_comm 1] using hT
theorem rputInt_runs (n : Int) (h1 : -9223372036854775808 ≤ n) (h2 : n ≤ 9223372036854775807) : R 200 [.d (.int .i64 n)] [] = some ([.arr 0 (putInt n).length],[.arr 1 (bytes (putInt n)) 0]) := by
 have hz := zig_lt h1 h2
 have hp := rput_runs (zig n) hz
 by_cases h0 : 0 ≤ n
 ·have e2 : IntKind.u64.wrap (2 * IntKind.u64.wrap n) = ((zig n : Nat) : Int) := by unfold zig; rw [if_pos h0,wrap_mod_u64,wrap_mod_u64]; omega
  refine run_goal (rs:=[.tmp 2]) (ts:=[24]) Tryz.func200 rfl rfl rfl (by kernel_rfl) (by kernel_rfl) (.inl sp_200) (by simp [Tryz.f200]) ?_
  intro T hT
  simp -dsimp -implicitDefEqProofs (disch:=first|omega|assumption) [startSlots,nI,wI,h0,e2,hp]
  simpa -dsimp -implicitDefEqProofs (disch:=first|omega|assumption) [nI,wI,putInt] using hT
 ·have e2 : IntKind.u64.wrap (IntKind.u64.wrap (2 * IntKind.u64.wrap (-(n + 1))) + 1) = ((zig n : Nat) : Int) := by unfold zig; rw [if_neg h0,wrap_mod_u64,wrap_mod_u64,wrap_mod_u64]; omega
  refine run_goal (rs:=[.tmp 2]) (ts:=[24]) Tryz.func200 rfl rfl rfl (by kernel_rfl) (by kernel_rfl) (.inl sp_200) (by simp [Tryz.f200]) ?_
  intro T hT
  simp -dsimp -implicitDefEqProofs (disch:=first|omega|assumption) [startSlots,nI,wI,h0,e2,hp]
  simpa -dsimp -implicitDefEqProofs (disch:=first|omega|assumption) [nI,wI,putInt] using hT
def val : List UInt8 → Nat
 | [] => 0
 | c :: r => c.toNat % 128 + 128 * val r
end Go.Am.Ab
namespace Go.Am.Ab
open Go.Proofs
set_option maxHeartbeats 2000000
theorem u8_ext {a b : UInt8} (h : a.toNat = b.toNat) : a = b := UInt8.toNat_inj.1 h
end Go.Am.Ab
