/- Lists of the document. -/
import Derived.Test.YtekemfffaedmhabIntsB
set_option linter.all false
namespace Go.Am.Ab
open Go.Proofs
set_option maxHeartbeats 4000000

/-- What Unlike does with a number, in a list: once it was there, the rest follows. -/
def insG (x : Int) : Bool → List Int → List Int
  | done, [] => if done then [] else [x]
  | done, y :: r => if y = x then y :: insG x true r else if done then y :: insG x true r else if x < y then x :: y :: insG x true r else y :: insG x false r
theorem insG_true (x : Int) : ∀ l, insG x true l = l
  | [] => rfl
  | y :: r => by simp [insG, insG_true x r]
theorem insG_false (x : Int) : ∀ l, insG x false l = ins x l
  | [] => rfl
  | y :: r => by
    simp only [insG, ins, insG_true, insG_false x r, Bool.false_eq_true, if_false]
    by_cases h1 : y = x
    · subst h1; simp
    · have h2 : ¬ x = y := fun e => h1 e.symm
      simp [h1, h2]
theorem insG_step {x : Int} {u : List Int} {k : Nat} (h : k < u.length) (done : Bool) : insG x done (u.drop k) = (if at' u k = x then [at' u k] else if done then [at' u k] else if x < at' u k then [x, at' u k] else [at' u k]) ++ insG x (done || decide (x = at' u k) || decide (x < at' u k)) (u.drop (k + 1)) := by
  rw [List.drop_eq_getElem_cons h, get_at h, insG]
  by_cases h1 : at' u k = x
  · have h2 : x = at' u k := h1.symm
    rw [if_pos h1, if_pos h1, decide_eq_true h2]; simp
  · have h2 : ¬ x = at' u k := fun e => h1 e.symm
    rw [if_neg h1, if_neg h1, decide_eq_false h2]
    cases done with
    | true => simp
    | false =>
      by_cases h3 : x < at' u k
      · simp [h3]
      · simp [h3]

end Go.Am.Ab
namespace Go.Am.Ab
open Go.Proofs
set_option maxHeartbeats 4000000

theorem deltas_snoc (x : Int) : ∀ (l : List Int) (a : Int), deltas a (l ++ [x]) = deltas a l ++ [IntKind.i64.wrap (x - l.getLastD a)]
  | [], a => by simp [deltas]
  | y :: r, a => by rw [List.cons_append, deltas, deltas_snoc x r y, deltas, List.cons_append, List.getLastD_cons]
theorem deltaB_take {l : List Int} {i : Nat} (h : i < l.length) : deltaB (l.take (i + 1)) = deltaB (l.take i) ++ putInt (IntKind.i64.wrap (at' l i - if i = 0 then 0 else at' l (i - 1))) := by
  unfold deltaB
  rw [take_snoc h, deltas_snoc, plainB_snoc, get_at h]
  congr 3
  cases i with
  | zero => simp
  | succ j =>
    rw [if_neg (by omega), take_snoc (by omega), get_at]
    simp
theorem cnt_rep (x : Int) (r : List Int) (h : r.head? ≠ some x) : ∀ k, cnt x (List.replicate k x ++ r) = k
  | 0 => by
    cases r with
    | nil => rfl
    | cons y r =>
      have : ¬ y = x := fun e => h (by simp [e])
      simp [cnt, this]
  | k + 1 => by rw [List.replicate_succ, List.cons_append, cnt, if_pos rfl, cnt_rep x r h k]
theorem runsB_rep (x : Int) (r : List Int) (k : Nat) (h : r.head? ≠ some x) : runsB (List.replicate (k + 1) x ++ r) = putInt x ++ (put (k + 1) ++ runsB r) := by
  rw [runsB_cons (x := x) (r := List.replicate k x ++ r) (by rw [List.replicate_succ]; rfl), cnt_rep x r h, List.drop_left' (by simp)]
theorem head_drop {l : List Int} {i : Nat} (h : i < l.length) : (l.drop i).head? = some (at' l i) := by
  rw [List.drop_eq_getElem_cons h, get_at h]; rfl
theorem rep_drop {l : List Int} {i k : Nat} (h : i < l.length) : List.replicate k (at' l i) ++ l.drop i = List.replicate (k + 1) (at' l i) ++ l.drop (i + 1) := by
  rw [List.drop_eq_getElem_cons h, get_at h, List.replicate_succ', List.append_assoc]; rfl
end Go.Am.Ab
namespace Go.Am.Ab
open Go.Proofs
set_option maxHeartbeats 4000000

end Go.Am.Ab
namespace Go.Am.Ab
open Go.Proofs
set_option maxHeartbeats 4000000

theorem uniq_ne {l : List Int} (h : l ≠ []) : 0 < (uniq l).length := by
  cases l with
  | nil => exact absurd rfl h
  | cons x r => exact List.length_pos_of_mem (uniq_mem.2 (by simp : x ∈ x :: r))
theorem uniq_head {l : List Int} (h : l ≠ []) : at' (uniq l) 0 = minL l := by
  have h0 := uniq_ne h
  have hur := rises_iff.1 (uniq_rises l)
  have h1 : at' (uniq l) 0 ∈ uniq l := by rw [← get_at h0]; exact List.getElem_mem _
  have h2 := minL_le _ (uniq_mem.1 h1)
  obtain ⟨i, hi, he⟩ := mem_at.1 (uniq_mem.2 (minL_mem h))
  by_cases c : i = 0
  · subst c; exact he
  · have := hur 0 i (by omega) hi
    omega
end Go.Am.Ab
