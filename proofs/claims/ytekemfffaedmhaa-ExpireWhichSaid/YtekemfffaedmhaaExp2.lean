/- Which snapshots go: the document's way, the example, the law. -/
import Derived.Test.YtekemfffaedmhaaExp1
set_option linter.all false
namespace Go.Am.Ab
open Go.Proofs
set_option maxHeartbeats 2000000

theorem rwhich_runs (t : Tab) (keep age time : Int) (hn : t.snaps.length ≤ 1000000) (ht : ∀ s ∈ t.snaps, 0 ≤ s.time) (h0 : 0 ≤ time ∧ time ≤ 18446744073709551615) :
    R 17 [.d t.d, .d (.int .i64 keep), .d (.int .u64 age), .d (.int .u64 time)] [] = some ([.arr 0 (picks keep age time t.snaps t.snaps.length).length], [.arr 1 ((picks keep age time t.snaps t.snaps.length).map u64) 0]) := by
  refine run_goal (rs := [.tmp 8]) (ts := [32]) Try.func17 (c := _) rfl rfl rfl (by kernel_rfl) (by kernel_rfl) (by simp [Try.f17]) ?_
  intro T hT
  simp -implicitDefEqProofs (disch := first | omega | assumption) [startSlots, Int.natCast_inj]
  generalize hz : loopT _ _ _ _ _ _ = z
  revert z
  refine loop_any (σ := Nat) (fun i => [(1, .d (.int .i64 keep)), (2, .d (.int .u64 age)), (3, .d (.int .u64 time)), (4, .ptr 0 0), (9, .arr 1 (picks keep age time t.snaps i).length), (10, .d (.int .i64 i))]) (fun i => [.box t.v, .arr 1 ((picks keep age time t.snaps i).map u64) 0]) (fun i => i ≤ t.snaps.length) (fun i => t.snaps.length - i) 0 ?_ ?_ ?_
  · simp
  · simp [picks]
  intro T' f hT' i hi ih
  by_cases h1 : i < t.snaps.length
  · have ht' := ht t.snaps[i] (by simp)
    have hpl := picks_len keep age time t.snaps i
    have hw1 : IntKind.i64.wrap ((t.snaps.length : Int) - 1) = (t.snaps.length : Int) - 1 := wrap_i64 (by omega) (by omega)
    have hw2 : IntKind.i64.wrap ((t.snaps.length : Int) - 1 - i) = (t.snaps.length : Int) - 1 - i := wrap_i64 (by omega) (by omega)
    simp -implicitDefEqProofs (disch := first | omega | assumption) [Int.natCast_inj, h1, hw1, hw2, wrap_i64]
    repeat' ((with_reducible refine cond_any ?_ ?_) <;> intro c <;> (try simp only [decide_eq_true_eq, decide_eq_false_iff_not] at c) <;> (try simp -implicitDefEqProofs (disch := first | omega | assumption) [c, Int.natCast_inj, wrap_u64, wrap_i64]))
    all_goals first
      | (have hp := picks_no (keep := keep) (age := age) (time := time) h1 (by simp only [goes, Bool.and_eq_false_iff, decide_eq_false_iff_not]; omega)
         refine ih (i + 1) _ _ (by omega) (by omega) (by simp -implicitDefEqProofs (disch := first | omega | assumption) [hp, wrap_i64]); done)
      | (have hp := picks_yes (keep := keep) (age := age) (time := time) h1 (by simp only [goes, Bool.and_eq_true, decide_eq_true_eq]; omega)
         refine ih (i + 1) _ _ (by omega) (by omega) (by simp -implicitDefEqProofs (disch := first | omega | assumption) [hp, wrap_i64]); done)
  have he : i = t.snaps.length := by omega
  subst he
  simp -implicitDefEqProofs (disch := first | omega | assumption) [Int.natCast_inj]
  subst hT'
  simpa using hT

def ex : Tab := ⟨[], [⟨1, 0, 0, 0, 1, 0, []⟩, ⟨2, 0, 0, 0, 5, 0, []⟩, ⟨3, 0, 0, 0, 9, 0, []⟩], 3⟩
theorem ex_times : ∀ s ∈ ex.snaps, 0 ≤ s.time := by simp [ex]

theorem alive20 : R 13 [] [] = some ([.d (.bool true)], []) := by
  have a := which_runs ex ⟨1, 4⟩ 9 (by decide) ex_times (by decide)
  have b := which_runs ex ⟨1, 4⟩ 10 (by decide) ex_times (by decide)
  have c := which_runs ex ⟨2, 0⟩ 10 (by decide) ex_times (by decide)
  have d := which_runs ex ⟨0, 18446744073709551615⟩ 99 (by decide) ex_times (by decide)
  have pa : picks 1 4 9 ex.snaps ex.snaps.length = [1] := by decide
  have pb : picks 1 4 10 ex.snaps ex.snaps.length = [1, 2] := by decide
  have pc : picks 2 0 10 ex.snaps ex.snaps.length = [1] := by decide
  have pd : picks 0 18446744073709551615 99 ex.snaps ex.snaps.length = [] := by decide
  simp only [pa, pb, pc, pd] at a b c d
  simp [ex] at a b c d
  have e1 := ids_runs [1] [1] (by decide)
  have e2 := ids_runs [1, 2] [1, 2] (by decide)
  simp at e1 e2
  refine run_goal (rs := [.tmp 0]) (ts := [4]) Try.func13 (c := _) rfl rfl rfl (by kernel_rfl) (by kernel_rfl) (by simp [Try.f13]) ?_
  intro T hT
  simp -implicitDefEqProofs (disch := first | omega | assumption) [startSlots, Int.natCast_inj, a, b, c, d, e1, e2]
  simpa using hT

theorem expireWhich_runs (t : Tab) (p : Pol) (time : Int) (ht : ∀ s ∈ t.snaps, 0 ≤ s.time) (h0 : 0 ≤ time ∧ time ≤ 18446744073709551615) : R 3 [.d t.d, .d p.d, .d (.int .u64 time)] [] = some ([.d (.bool true)], []) := by
  have a := alive20
  obtain ⟨b, hb, hl⟩ := great_runs t
  cases b with
  | true =>
    simp only [Tab.d] at hb
    refine run_goal (rs := [.tmp 6]) (ts := [4]) Try.func3 (c := _) rfl rfl rfl (by kernel_rfl) (by kernel_rfl) (by simp [Try.f3]) ?_
    intro T hT
    simp -implicitDefEqProofs (disch := first | omega | assumption) [startSlots, Int.natCast_inj, a, hb]
    simpa using hT
  | false =>
    have hn := hl rfl
    have w1 := which_runs t p time (by omega) ht h0
    have w2 := rwhich_runs t p.keep p.age time (by omega) ht h0
    have hp := picks_len p.keep p.age time t.snaps t.snaps.length
    have e := ids_runs (picks p.keep p.age time t.snaps t.snaps.length) (picks p.keep p.age time t.snaps t.snaps.length) (by omega)
    simp only [Tab.d, Pol.d, decide_true] at hb w1 w2 e
    refine run_goal (rs := [.tmp 6]) (ts := [4]) Try.func3 (c := _) rfl rfl rfl (by kernel_rfl) (by kernel_rfl) (by simp [Try.f3]) ?_
    intro T hT
    simp -implicitDefEqProofs (disch := first | omega | assumption) [startSlots, Int.natCast_inj, a, hb, w1, w2, e]
    simpa using hT
end Go.Am.Ab
