/- The statement that the current snapshot, the last Keep ones, and the young ones never go: the walk. -/
import Derived.Test.YtekemfffaedmhaaStayC
set_option linter.all false
namespace Go.Am.Ab
open Go.Proofs
set_option maxHeartbeats 8000000
set_option maxRecDepth 4000

theorem expireStays_runs (t : Tab) (p : Pol) (time : Int) (ht : ∀ s ∈ t.snaps, 0 ≤ s.time) (h0 : 0 ≤ time ∧ time ≤ 18446744073709551615) (hk : -9223372036854775808 ≤ p.keep ∧ p.keep ≤ 9223372036854775807)
    (hw1 : t.schemas.length ≤ 9223372036854775807) (hw2 : t.snaps.length ≤ 9223372036854775807) (hw3 : ∀ s ∈ t.schemas, s.fields.length ≤ 9223372036854775807) (hw4 : ∀ s ∈ t.snaps, s.mans.length ≤ 9223372036854775807) :
    R 4 [.d t.d, .d p.d, .d (.int .u64 time)] [] = some ([.d (.bool true)], []) := by
  have al := alive20
  obtain ⟨b, hb, hl⟩ := great_runs t
  cases b with
  | true =>
    simp only [Tab.d] at hb
    refine run_goal (rs := [.tmp 6]) (ts := [4]) Try.func4 (c := _) rfl rfl rfl (by kernel_rfl) (by kernel_rfl) (.inl sp_4) (by simp [Try.f4]) ?_
    intro T hT
    simp -dsimp -implicitDefEqProofs (disch := first | omega | assumption) [startSlots, Int.natCast_inj, wrap_i64, al, hb]
    simpa -dsimp -implicitDefEqProofs (disch := first | omega | assumption) [Int.natCast_inj, wrap_i64] using hT
  | false =>
  have hn := hl rfl
  obtain ⟨rb, hrb, hri⟩ := right_any t hw1 hw2 hw3 hw4
  cases rb with
  | false =>
    simp only [Tab.d] at hb hrb
    refine run_goal (rs := [.tmp 6]) (ts := [4]) Try.func4 (c := _) rfl rfl rfl (by kernel_rfl) (by kernel_rfl) (.inl sp_4) (by simp [Try.f4]) ?_
    intro T hT
    simp -dsimp -implicitDefEqProofs (disch := first | omega | assumption) [startSlots, Int.natCast_inj, wrap_i64, al, hb, hrb]
    simpa -dsimp -implicitDefEqProofs (disch := first | omega | assumption) [Int.natCast_inj, wrap_i64] using hT
  | true =>
  have hr : rightP t := hri.1 rfl
  have w1 := which_runs t p time (by omega) ht h0
  have hst := stays_plain (keep := p.keep) (age := p.age) (time := time) hr
  have hrd := right_dropped (keep := p.keep) (age := p.age) (time := time) hr
  have hct := picks_count (keep := p.keep) (age := p.age) (time := time) (l := t.snaps) t.snaps.length
  have hpl := picks_len p.keep p.age time t.snaps t.snaps.length
  obtain ⟨ids, hids⟩ : ∃ ids, ids = picks p.keep p.age time t.snaps t.snaps.length := ⟨_, rfl⟩
  rw [← hids] at w1 hst hrd hct hpl
  have hd := drop_runs t ids (fun x hx => by obtain ⟨_, k, e, _⟩ := hst x hx; omega) (fun x hx => (hst x hx).1) (by omega) (by omega)
  unfold IsD at hd
  obtain ⟨kept, hke⟩ : ∃ kept, kept = t.snaps.filter (keeps ids) := ⟨_, rfl⟩
  rw [← hke] at hd hrd
  have hkl : kept.length ≤ t.snaps.length := by rw [hke]; exact List.length_filter_le _ _
  obtain ⟨ub, hub, hui⟩ := right_any ⟨t.schemas, kept, t.current⟩ hw1 (by simp only; omega) hw3 (fun s hs => hw4 s (by simp only [hke] at hs; exact (List.mem_filter.1 hs).1))
  have hut : ub = true := hui.2 hrd
  subst hut
  obtain ⟨kp, hK⟩ : ∃ kp : Int, kp = max 1 p.keep := ⟨_, rfl⟩
  have hmax' : (if 1 < p.keep then p.keep else 1) = kp := by rw [hK]; split <;> omega
  have hwK : IntKind.i64.wrap ((t.snaps.length : Int) - kp) = (t.snaps.length : Int) - kp := wrap_i64 (by omega) (by omega)
  have hno : ¬ (if kp < (t.snaps.length : Int) then (t.snaps.length : Int) - kp else 0) < ids.length := by
    rw [← hK] at hct
    split <;> omega
  simp only [Tab.d, Pol.d] at hb hrb w1 hd hub
  have hlp : ∀ T : Option (List V × List Obj) → Prop, True := fun _ => trivial
  unfold DropR at hd
  by_cases hke0 : kept = []
  · rw [if_pos hke0] at hd
    subst hke0
    simp only [List.map_nil] at hub
    refine run_goal (rs := [.tmp 6]) (ts := [4]) Try.func4 (c := _) rfl rfl rfl (by kernel_rfl) (by kernel_rfl) (.inl sp_4) (by simp [Try.f4]) ?_
    intro T hT
    simp -dsimp -implicitDefEqProofs (disch := first | omega | assumption) [startSlots, Int.natCast_inj, wrap_i64, al, hb, hrb, w1, hmax', hwK, hno]
    generalize hz : loopT _ _ _ _ _ _ = z
    revert z
    refine loop_any (σ := Nat) (fun i => [(2, .d (.int .u64 time)), (3, .ptr 0 0), (7, .arr 1 ids.length), (8, .d (.int .i64 i))]) (fun i => [.box t.v, .arr 1 (ids.map u64) 0]) (fun i => i ≤ ids.length) (fun i => ids.length - i) 0 ?_ ?_ ?_
    · exact Nat.zero_le _
    · simp -dsimp -implicitDefEqProofs (disch := first | omega | assumption)
    intro T' f hT' i hi ih
    by_cases h1 : i < ids.length
    · obtain ⟨x, hx⟩ : ∃ x, x = ids[i] := ⟨_, rfl⟩
      have gx := hx.symm
      obtain ⟨q1, k, e, hkk, hid, htm⟩ := hst x (hx ▸ List.getElem_mem h1)
      have hsn := snap_runs t x (by omega)
      rw [e] at hsn
      simp only [Tab.d] at hsn
      obtain ⟨⟨s0, s1, s2, s3, s4, s5, ms⟩, hs⟩ : ∃ s, s = t.snaps[k] := ⟨_, rfl⟩
      have gs := hs.symm
      rw [← hs] at hid htm
      simp only at hid htm
      have htm' : ¬ time ≤ s4 := by omega
      have hkn : ¬ ((k : Int) < 0) := by omega
      simp -dsimp -implicitDefEqProofs (disch := first | omega | assumption) [Int.natCast_inj, wrap_i64, h1, gx, hsn, q1, hkk, gs, htm', hkn]
      exact ih (i + 1) _ _ h1 (by omega) (by simp -dsimp -implicitDefEqProofs (disch := first | omega | assumption))
    · subst hT'
      simp -dsimp -implicitDefEqProofs (disch := first | omega | assumption) [Int.natCast_inj, wrap_i64, h1, hd, hub]
      simpa -dsimp -implicitDefEqProofs (disch := first | omega | assumption) [Int.natCast_inj, wrap_i64] using hT
  · rw [if_neg hke0] at hd
    refine run_goal (rs := [.tmp 6]) (ts := [4]) Try.func4 (c := _) rfl rfl rfl (by kernel_rfl) (by kernel_rfl) (.inl sp_4) (by simp [Try.f4]) ?_
    intro T hT
    simp -dsimp -implicitDefEqProofs (disch := first | omega | assumption) [startSlots, Int.natCast_inj, wrap_i64, al, hb, hrb, w1, hmax', hwK, hno]
    generalize hz : loopT _ _ _ _ _ _ = z
    revert z
    refine loop_any (σ := Nat) (fun i => [(2, .d (.int .u64 time)), (3, .ptr 0 0), (7, .arr 1 ids.length), (8, .d (.int .i64 i))]) (fun i => [.box t.v, .arr 1 (ids.map u64) 0]) (fun i => i ≤ ids.length) (fun i => ids.length - i) 0 ?_ ?_ ?_
    · exact Nat.zero_le _
    · simp -dsimp -implicitDefEqProofs (disch := first | omega | assumption)
    intro T' f hT' i hi ih
    by_cases h1 : i < ids.length
    · obtain ⟨x, hx⟩ : ∃ x, x = ids[i] := ⟨_, rfl⟩
      have gx := hx.symm
      obtain ⟨q1, k, e, hkk, hid, htm⟩ := hst x (hx ▸ List.getElem_mem h1)
      have hsn := snap_runs t x (by omega)
      rw [e] at hsn
      simp only [Tab.d] at hsn
      obtain ⟨⟨s0, s1, s2, s3, s4, s5, ms⟩, hs⟩ : ∃ s, s = t.snaps[k] := ⟨_, rfl⟩
      have gs := hs.symm
      rw [← hs] at hid htm
      simp only at hid htm
      have htm' : ¬ time ≤ s4 := by omega
      have hkn : ¬ ((k : Int) < 0) := by omega
      simp -dsimp -implicitDefEqProofs (disch := first | omega | assumption) [Int.natCast_inj, wrap_i64, h1, gx, hsn, q1, hkk, gs, htm', hkn]
      exact ih (i + 1) _ _ h1 (by omega) (by simp -dsimp -implicitDefEqProofs (disch := first | omega | assumption))
    · subst hT'
      simp -dsimp -implicitDefEqProofs (disch := first | omega | assumption) [Int.natCast_inj, wrap_i64, h1, hd, hub]
      simpa -dsimp -implicitDefEqProofs (disch := first | omega | assumption) [Int.natCast_inj, wrap_i64] using hT
end Go.Am.Ab
