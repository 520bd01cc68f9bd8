/- The statement on lists: what is handed in stays as it was, and what is told is new. -/
import Derived.Test.YtekemfffaedmhaaILaw3
set_option linter.all false
namespace Go.Am.Ab
open Go.Proofs
set_option maxHeartbeats 4000000
set_option maxRecDepth 4000

theorem intsOwn_runs (l : List Int) (hl : ∀ n ∈ l, isI64 n) (hn : l.length ≤ 9223372036854775807) (n : Int) (hni : isI64 n) : R 10 [.d (ints l), .d (.int .i64 n)] [] = some ([.d (.bool true)], []) := by
  have al := alive05
  by_cases h6 : 256 < l.length
  · have h6' : (256 : Int) < l.length := by omega
    refine run_goal (rs := [.tmp 4]) (ts := [4]) Try.func10 (c := _) rfl rfl rfl (by kernel_rfl) (by kernel_rfl) (.inl sp_10) (by simp [Try.f10]) ?_
    intro T hT
    simp -implicitDefEqProofs (disch := first | omega | assumption) [startSlots, Int.natCast_inj, wrap_i64, al, h6, h6']
    simpa -implicitDefEqProofs (disch := first | omega | assumption) [Int.natCast_inj, wrap_i64] using hT
  have h6' : ¬ (256 : Int) < l.length := by omega
  have hl256 : l.length ≤ 256 := by omega
  have d := ibest_yes l hl hl256
  have hbl := bestTo_len hl hl256 5
  have r1 := read_runs (bestB l) l.length (by unfold bestB; omega) (by unfold isI64; omega)
  rw [readI_best hl hl256] at r1
  have r2 := read_runs (bestB l) n (by unfold bestB; omega) hni
  obtain ⟨y, hy⟩ : ∃ y, y = readI (bestB l) n := ⟨_, rfl⟩
  rw [← hy] at r2
  have s := same_eq l l (by omega)
  simp only [decide_true] at s
  have hE : (bestB l).length ≤ 5121 := hbl
  obtain ⟨w, hw⟩ : ∃ w, w = bestB l := ⟨_, rfl⟩
  rw [← hw] at d r1 r2 hE
  have r1' : R 26 [B w, .d (.int .i64 l.length)] [] = some ([.arr 0 l.length, Z], [.arr 1 (cs l) 0]) := r1
  refine run_goal (rs := [.tmp 4]) (ts := [4]) Try.func10 (c := _) rfl rfl rfl (by kernel_rfl) (by kernel_rfl) (.inl sp_10) (by simp [Try.f10]) ?_
  intro T hT
  simp -implicitDefEqProofs (disch := first | omega | assumption) [startSlots, Int.natCast_inj, wrap_i64, al, h6, h6', d, r1']
  generalize hz : loopT _ _ _ _ _ _ = z
  revert z
  refine loop_any (σ := Nat × List Int) (fun x => [(0, .d (ints l)), (1, .d (.int .i64 n)), (5, .arr 0 l.length), (6, .arr 1 w.length), (8, .arr 2 w.length), (9, .arr 3 l.length), (11, .d (.int .i64 x.1))]) (fun x => [.arr 1 (cs l) 0, .arr 1 (bytes w) w.length, .arr 1 (bytes w) 0, .arr 1 (cs x.2) 0]) (fun x => x.1 ≤ l.length ∧ x.2.length = l.length) (fun x => l.length - x.1) (0, l) ?_ ?_ ?_
  · exact ⟨Nat.zero_le _, rfl⟩
  · trace_state
    simp -implicitDefEqProofs (disch := first | omega | assumption)
  intro T' f hT' ⟨i, m⟩ ⟨hi, hm⟩ ih
  simp only at hi hm ih
  by_cases h1 : i < l.length
  · have h1' : i < m.length := by omega
    have h1i : (i : Int) < l.length := by omega
    obtain ⟨v, hv⟩ : ∃ v, v = IntKind.i64.wrap (m[i] + 1) := ⟨_, rfl⟩
    have hv' := hv.symm
    simp -implicitDefEqProofs (disch := first | omega | assumption) [Int.natCast_inj, wrap_i64, h1, h1', h1i, hm, hv', cs_set, -List.map_set]
    exact ih (i + 1, m.set i v) _ _ ⟨h1, by simp only [List.length_set]; exact hm⟩ (by simp only; omega) (by simp -implicitDefEqProofs (disch := first | omega | assumption) [-List.map_set])
  · have hil : i = l.length := by omega
    subst hT'
    rw [hil]
    simp -implicitDefEqProofs (disch := first | omega | assumption) [Int.natCast_inj, wrap_i64]
    generalize hz : loopT _ _ _ _ _ _ = z
    revert z
    refine loop_any (σ := Nat) (fun x => [(0, .d (ints l)), (1, .d (.int .i64 n)), (5, .arr 0 l.length), (6, .arr 1 w.length), (8, .arr 2 w.length), (12, .d (.int .u8 x))]) (fun x => [.arr 1 (cs l) 0, .arr 1 (bytes w) w.length, .arr 1 (bytes w) 0]) (fun x => x ≤ 5) (fun x => 5 - x) 0 ?_ ?_ ?_
    · simp
    · simp -implicitDefEqProofs (disch := first | omega | assumption)
    intro T2 f2 hT2 c hc ih2
    by_cases h2 : c < 5
    · have h2' : (c : Int) < 5 := by omega
      have e := iencode_yes c l hl hl256 h2
      have hcm : ((c : Int) + 1) % 256 = (c : Int) + 1 := by omega
      simp -implicitDefEqProofs (disch := first | omega | assumption) [Int.natCast_inj, wrap_i64, h2, h2', e, hcm]
      exact ih2 (c + 1) _ _ (by omega) (by omega) (by simp -implicitDefEqProofs (disch := first | omega | assumption) [hcm])
    · have hc5 : c = 5 := by omega
      subst hc5
      subst hT2
      simp -implicitDefEqProofs (disch := first | omega | assumption) [Int.natCast_inj, wrap_i64, r2, s]
      simpa -implicitDefEqProofs (disch := first | omega | assumption) [Int.natCast_inj, wrap_i64] using hT
end Go.Am.Ab
