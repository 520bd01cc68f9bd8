/- What rows need besides. -/
import Derived.Test.YtkhlpcccjacnhaaGreatDoorLinF
set_option linter.all false
namespace Go.Am
theorem digF_len : ∀ (k u : Nat),(digF k u).length ≤ k
 | 0,_ => Nat.le_refl _
 | k + 1,u => by
  unfold digF
  split
  ·simp
  ·have := digF_len k (u / 10); simp; omega
theorem itoaL_len (n : Int) : (itoaL n).length ≤ 21 := by
 unfold itoaL; split
 ·have := digF_len 20 n.natAbs; simp; omega
 ·have := digF_len 20 n.toNat; omega
theorem itoaL_cons (v : Int) : ∃ c r,itoaL v = c :: r ∧ (c = 45 ∨ (48 ≤ c.toNat ∧ c.toNat ≤ 57)) := by
 unfold itoaL
 split
 ·exact ⟨_,_,rfl,.inl rfl⟩
 ·cases hd : digF 20 v.toNat with
  | nil => exact absurd hd (digF_ne _ _ (by omega))
  | cons c r => exact ⟨c,r,rfl,.inr (dig_first hd)⟩
end Go.Am
namespace Go.Am.Ab
open Go.Proofs
theorem sp_4 : splits G 4 = false := by decide +kernel
theorem sp_11 : splits G 11 = false := by decide +kernel
theorem sp_12 : splits G 12 = false := by decide +kernel
theorem sp_13 : splits G 13 = false := by decide +kernel
theorem sp_14 : splits G 14 = false := by decide +kernel
theorem sp_36 : splits G 36 = false := by decide +kernel
theorem sp_39 : splits G 39 = false := by decide +kernel
@[simp] theorem br_81 : byRef G 81 = false := by decide +kernel
theorem sp_81 : splits G 81 = false := by decide +kernel
@[simp] theorem th_81 : thaws G 81 = false := by decide +kernel
theorem cutL_none : ∀ {w : List UInt8},32 ∉ w → cutL 32 w = [w]
 | [],_ => rfl
 | x :: w,h => by
  simp only [List.mem_cons,not_or] at h
  unfold cutL
  rw [if_neg (fun e => h.1 e.symm),cutL_none h.2]
theorem cutL_app : ∀ {a : List UInt8} (b : List UInt8),32 ∉ a → cutL 32 (a ++ 32 :: b) = a :: cutL 32 b
 | [],b,_ => by simp [cutL]
 | x :: a,b,h => by
  simp only [List.mem_cons,not_or] at h
  rw [List.cons_append]
  conv => lhs; unfold cutL
  rw [if_neg (fun e => h.1 e.symm),cutL_app b h.2]
theorem dig_no32 {c : UInt8} (h : digB c = true) : c ≠ 32 := by
 rintro rfl; revert h; decide
theorem itoa_no32 (n : Int) : 32 ∉ itoaL n := by
 have key : ∀ u,(32 : UInt8) ∉ digF 20 u := fun u hm => dig_no32 (List.all_eq_true.1 (digF_all 20 u) _ hm) rfl
 unfold itoaL
 split
 ·intro hm
  rcases List.mem_cons.1 hm with hm | hm
  ·cases hm
  ·exact key _ hm
 ·exact key _
end Go.Am.Ab
