/- Snapshots that are dropped. -/
import Derived.Test.YtekemfffaedmhaaStay6
set_option linter.all false
namespace Go.Am.Ab
open Go.Proofs
set_option maxHeartbeats 8000000
set_option maxRecDepth 4000

def IsD (q r : Option (List V × List Obj)) : Prop := r = q
theorem not_isD {q : Option (List V × List Obj)} (h : q ≠ none) : ¬ IsD q none := fun g => h g.symm
/-- What Drop tells when all goes well: a table, whose snapshots are these. -/
def DropR (t : Tab) (l : List Snap) : Option (List V × List Obj) :=
  if l = [] then some ([.agg [.d (.list (t.schemas.map Sch.d)), .nilS, .d (.int .u64 t.current)], .d (.int .i64 0)], [])
  else some ([.agg [.d (.list (t.schemas.map Sch.d)), .arr 0 l.length, .d (.int .u64 t.current)], .d (.int .i64 0)], [.arr 7 (l.map Snap.d) 0])
theorem dropR_some (t : Tab) (l : List Snap) : DropR t l ≠ none := by unfold DropR; split <;> simp
def keeps (ids : List Int) (s : Snap) : Bool := decide (s.id ∉ ids)
theorem drop_runs (t : Tab) (ids : List Int) (h1 : ∀ x ∈ ids, 0 ≤ firstI (fun s : Snap => decide (s.id = x)) t.snaps) (h2 : ∀ x ∈ ids, x ≠ t.current) (hn : t.snaps.length ≤ 1000000) (hi : ids.length ≤ 1000000) :
    IsD (DropR t (t.snaps.filter (keeps ids))) (R 20 [.d t.d, .d (.list (ids.map u64))] []) := by
  refine run_any (rs := [.cell 4 26, .tmp 5]) (ts := [26, 3]) Try.func20 (c := _) rfl rfl rfl (by kernel_rfl) (by kernel_rfl) (.inl sp_20) (by simp [Try.f20]) (not_isD (dropR_some _ _)) ?_
  simp -dsimp -implicitDefEqProofs (disch := first | omega | assumption) [startSlots, Int.natCast_inj, wrap_i64]
  generalize hT0 : IsD (DropR t (t.snaps.filter (keeps ids))) = T0
  have fin : ∀ r, r = DropR t (t.snaps.filter (keeps ids)) → T0 r := fun r hr => by rw [← hT0]; exact hr
  generalize hz : loopT _ _ _ _ _ _ = z
  revert z
  refine loop_any (σ := Nat) (fun i => [(1, .d (.list (ids.map u64))), (2, .ptr 0 0), (4, .ptr 1 0), (6, .d (.bool false)), (7, .d (.int .i64 i))]) (fun i => [.box t.v, .box [.nilS, .nilS, .d (.int .u64 0)]]) (fun i => i ≤ ids.length) (fun i => ids.length - i) 0 ?_ ?_ ?_
  · exact Nat.zero_le _
  · simp -dsimp -implicitDefEqProofs (disch := first | omega | assumption)
  intro T' f hT' i hi ih
  by_cases h3 : i < ids.length
  · obtain ⟨x, hx⟩ : ∃ x, x = ids[i] := ⟨_, rfl⟩
    have gx := hx.symm
    have hm : x ∈ ids := hx ▸ List.getElem_mem h3
    have hsn := snap_runs t x (by omega)
    have h0 := h1 x hm
    have hc := h2 x hm
    obtain ⟨n, hne⟩ : ∃ n, n = firstI (fun s : Snap => decide (s.id = x)) t.snaps := ⟨_, rfl⟩
    rw [← hne] at hsn h0
    have h0' : ¬ n < 0 := by omega
    simp only [Tab.d] at hsn
    simp -dsimp -implicitDefEqProofs (disch := first | omega | assumption) [Int.natCast_inj, wrap_i64, h3, gx, hsn, h0', hc]
    exact ih (i + 1) _ _ h3 (by omega) (by simp -dsimp -implicitDefEqProofs (disch := first | omega | assumption))
  subst hT'
  simp -dsimp -implicitDefEqProofs (disch := first | omega | assumption) [Int.natCast_inj, wrap_i64, h3]
  clear h3 ih hi
  generalize hz : loopT _ _ _ _ _ _ = z
  revert z
  refine loop_any (σ := Nat × List Snap) (fun x => [(1, .d (.list (ids.map u64))), (2, .ptr 0 0), (4, .ptr 1 0), (8, .ptr 2 0), (9, .d (.int .i64 x.1))]) (fun x => if x.2 = [] then [.box t.v, .box [.nilS, .nilS, .d (.int .u64 0)], .box [.d (.list (t.schemas.map Sch.d)), .nilS, .d (.int .u64 t.current)]] else [.box t.v, .box [.nilS, .nilS, .d (.int .u64 0)], .box [.d (.list (t.schemas.map Sch.d)), .arr 3 x.2.length, .d (.int .u64 t.current)], .arr 7 (x.2.map Snap.d) 0]) (fun x => x.1 ≤ t.snaps.length ∧ x.2.length ≤ x.1 ∧ t.snaps.filter (keeps ids) = x.2 ++ (t.snaps.drop x.1).filter (keeps ids)) (fun x => t.snaps.length - x.1) (0, []) ?_ ?_ ?_
  · exact ⟨Nat.zero_le _, Nat.zero_le _, by simp⟩
  · simp -dsimp -implicitDefEqProofs (disch := first | omega | assumption)
  intro T2 f2 hT2 ⟨i, dn⟩ ⟨hi, hdl, hf⟩ ih
  simp only at hi hdl hf ih
  by_cases h3 : i < t.snaps.length
  · obtain ⟨⟨s0, s1, s2, s3, s4, s5, ms⟩, hx⟩ : ∃ x, x = t.snaps[i] := ⟨_, rfl⟩
    have gx := hx.symm
    have hdr : t.snaps.drop i = ⟨s0, s1, s2, s3, s4, s5, ms⟩ :: t.snaps.drop (i + 1) := by rw [← gx]; exact List.drop_eq_getElem_cons h3
    rw [hdr, List.filter_cons] at hf
    have step : ∀ j, (h : j < ids.length) → ((decide (s0 ∈ ids.take j) || decide (ids[j] = s0)) = decide (s0 ∈ ids.take (j + 1))) := fun j h => by
      have e : (s0 ∈ ids.take j ++ [ids[j]]) ↔ (s0 ∈ ids.take j ∨ ids[j] = s0) := by
        rw [List.mem_append, List.mem_singleton]
        constructor
        · rintro (h | h)
          · exact .inl h
          · exact .inr h.symm
        · rintro (h | h)
          · exact .inl h
          · exact .inr h.symm
      rw [List.take_succ_eq_append_getElem h, ← Bool.decide_or]
      exact decide_eq_decide.2 e.symm
    by_cases hd : dn = []
    · subst hd
      simp -dsimp -implicitDefEqProofs (disch := first | omega | assumption) [Int.natCast_inj, wrap_i64, h3]
      generalize hz : loopT _ _ _ _ _ _ = z
      revert z
      refine loop_any (σ := Nat) (fun j => [(1, .d (.list (ids.map u64))), (2, .ptr 0 0), (4, .ptr 1 0), (8, .ptr 2 0), (9, .d (.int .i64 i)), (10, .d (.bool (decide (s0 ∈ ids.take j)))), (11, .d (.int .i64 j))]) (fun j => [.box t.v, .box [.nilS, .nilS, .d (.int .u64 0)], .box [.d (.list (t.schemas.map Sch.d)), .nilS, .d (.int .u64 t.current)]]) (fun j => j ≤ ids.length) (fun j => ids.length - j) 0 ?_ ?_ ?_
      · exact Nat.zero_le _
      · simp -dsimp -implicitDefEqProofs (disch := first | omega | assumption)
      intro T4 f4 hT4 j hj ih4
      by_cases h4 : j < ids.length
      · have hst := step j h4
        by_cases a : s0 ∈ ids.take j
        · simp -dsimp -implicitDefEqProofs (disch := first | omega | assumption) [Int.natCast_inj, wrap_i64, h4, h3, a]
          refine ih4 (j + 1) _ _ h4 (by omega) ?_
          rw [← hst]
          simp -dsimp -implicitDefEqProofs (disch := first | omega | assumption) [a]
        · obtain ⟨y, hy⟩ : ∃ y, y = ids[j] := ⟨_, rfl⟩
          have gy := hy.symm
          rw [gy] at hst
          simp -dsimp -implicitDefEqProofs (disch := first | omega | assumption) [Int.natCast_inj, wrap_i64, h4, h3, a, gx, gy]
          refine ih4 (j + 1) _ _ h4 (by omega) ?_
          rw [← hst]
          simp -dsimp -implicitDefEqProofs (disch := first | omega | assumption) [a]
      · obtain rfl : j = ids.length := by omega
        rw [List.take_length]
        subst hT4
        by_cases a : s0 ∈ ids
        · have hk : keeps ids ⟨s0, s1, s2, s3, s4, s5, ms⟩ = false := by simp [keeps, a]
          rw [hk] at hf
          simp -dsimp -implicitDefEqProofs (disch := first | omega | assumption) [Int.natCast_inj, wrap_i64, h4, a]
          exact ih (i + 1, []) _ _ ⟨h3, Nat.zero_le _, hf⟩ (by simp only; omega) (by simp -dsimp -implicitDefEqProofs (disch := first | omega | assumption))
        · have hk : keeps ids ⟨s0, s1, s2, s3, s4, s5, ms⟩ = true := by simp [keeps, a]
          rw [hk] at hf
          simp -dsimp -implicitDefEqProofs (disch := first | omega | assumption) [Int.natCast_inj, wrap_i64, h4, a, h3, gx]
          exact ih (i + 1, [⟨s0, s1, s2, s3, s4, s5, ms⟩]) _ _ ⟨h3, by simp, hf⟩ (by simp only; omega) (by simp -dsimp -implicitDefEqProofs (disch := first | omega | assumption))
    · simp -dsimp -implicitDefEqProofs (disch := first | omega | assumption) [Int.natCast_inj, wrap_i64, h3, hd]
      generalize hz : loopT _ _ _ _ _ _ = z
      revert z
      refine loop_any (σ := Nat) (fun j => [(1, .d (.list (ids.map u64))), (2, .ptr 0 0), (4, .ptr 1 0), (8, .ptr 2 0), (9, .d (.int .i64 i)), (10, .d (.bool (decide (s0 ∈ ids.take j)))), (11, .d (.int .i64 j))]) (fun j => [.box t.v, .box [.nilS, .nilS, .d (.int .u64 0)], .box [.d (.list (t.schemas.map Sch.d)), .arr 3 dn.length, .d (.int .u64 t.current)], .arr 7 (dn.map Snap.d) 0]) (fun j => j ≤ ids.length) (fun j => ids.length - j) 0 ?_ ?_ ?_
      · exact Nat.zero_le _
      · simp -dsimp -implicitDefEqProofs (disch := first | omega | assumption)
      intro T4 f4 hT4 j hj ih4
      by_cases h4 : j < ids.length
      · have hst := step j h4
        by_cases a : s0 ∈ ids.take j
        · simp -dsimp -implicitDefEqProofs (disch := first | omega | assumption) [Int.natCast_inj, wrap_i64, h4, h3, a]
          refine ih4 (j + 1) _ _ h4 (by omega) ?_
          rw [← hst]
          simp -dsimp -implicitDefEqProofs (disch := first | omega | assumption) [a]
        · obtain ⟨y, hy⟩ : ∃ y, y = ids[j] := ⟨_, rfl⟩
          have gy := hy.symm
          rw [gy] at hst
          simp -dsimp -implicitDefEqProofs (disch := first | omega | assumption) [Int.natCast_inj, wrap_i64, h4, h3, a, gx, gy]
          refine ih4 (j + 1) _ _ h4 (by omega) ?_
          rw [← hst]
          simp -dsimp -implicitDefEqProofs (disch := first | omega | assumption) [a]
      · obtain rfl : j = ids.length := by omega
        rw [List.take_length]
        subst hT4
        by_cases a : s0 ∈ ids
        · have hk : keeps ids ⟨s0, s1, s2, s3, s4, s5, ms⟩ = false := by simp [keeps, a]
          rw [hk] at hf
          simp -dsimp -implicitDefEqProofs (disch := first | omega | assumption) [Int.natCast_inj, wrap_i64, h4, a]
          exact ih (i + 1, dn) _ _ ⟨h3, by simp only; omega, hf⟩ (by simp only; omega) (by simp -dsimp -implicitDefEqProofs (disch := first | omega | assumption) [hd])
        · have hk : keeps ids ⟨s0, s1, s2, s3, s4, s5, ms⟩ = true := by simp [keeps, a]
          rw [hk] at hf
          simp -dsimp -implicitDefEqProofs (disch := first | omega | assumption) [Int.natCast_inj, wrap_i64, h4, a, h3, gx]
          refine ih (i + 1, dn ++ [⟨s0, s1, s2, s3, s4, s5, ms⟩]) _ _ ⟨h3, by simp; omega, ?_⟩ (by simp only; omega) (by simp -dsimp -implicitDefEqProofs (disch := first | omega | assumption))
          rw [hf]; simp
  · have he : t.snaps.drop i = [] := List.drop_of_length_le (by omega)
    rw [he, List.filter_nil, List.append_nil] at hf
    subst hT2
    by_cases hd : dn = []
    · subst hd
      simp -dsimp -implicitDefEqProofs (disch := first | omega | assumption) [Int.natCast_inj, wrap_i64, h3]
      refine fin _ ?_
      rw [hf]
      simp [DropR]
    · simp -dsimp -implicitDefEqProofs (disch := first | omega | assumption) [Int.natCast_inj, wrap_i64, h3, hd]
      refine fin _ ?_
      rw [hf]
      simp [DropR, hd]
end Go.Am.Ab
namespace Go.Am.Ab
open Go.Proofs
set_option maxHeartbeats 8000000
set_option maxRecDepth 4000

/-- Of which snapshots the ids go. -/
theorem picks_is {keep age time : Int} {l : List Snap} : ∀ {i : Nat} {x : Int}, x ∈ picks keep age time l i → ∃ j, ∃ h : j < l.length, j < i ∧ l[j].id = x ∧ goes keep age time l.length j l[j] = true
  | 0, x, h => by simp [picks] at h
  | i + 1, x, h => by
    rw [picks, List.mem_append] at h
    rcases h with h | h
    · obtain ⟨j, hj, h1, h2⟩ := picks_is h
      exact ⟨j, hj, by omega, h2⟩
    · cases e : l[i]? with
      | none => rw [e] at h; simp at h
      | some s =>
        rw [e] at h
        simp only at h
        split at h
        · rename_i hg
          obtain ⟨hi, hs⟩ := List.getElem?_eq_some_iff.1 e
          simp only [List.mem_singleton] at h
          exact ⟨i, hi, by omega, by rw [hs, h], by rw [hs]; exact hg⟩
        · simp at h
theorem goes_is {keep age time : Int} {n i : Nat} {s : Snap} (h : goes keep age time n i s = true) : max 1 keep < (n : Int) - i ∧ s.time < time := by
  simp only [goes, Bool.and_eq_true, decide_eq_true_eq] at h
  exact ⟨h.1, h.2.1⟩
theorem picks_count {keep age time : Int} {l : List Snap} : ∀ i, ((picks keep age time l i).length : Int) ≤ max 0 (min (i : Int) ((l.length : Int) - max 1 keep))
  | 0 => by simp [picks]; omega
  | i + 1 => by
    have ih := picks_count (keep := keep) (age := age) (time := time) (l := l) i
    rw [picks, List.length_append]
    cases e : l[i]? with
    | none => simp only [List.length_nil]; omega
    | some s =>
      simp only
      split
      · rename_i hg
        have := (goes_is hg).1
        simp only [List.length_singleton]; omega
      · simp only [List.length_nil]; omega
theorem lastS_at {l : List Snap} {z : Snap} (h : 0 < l.length) : lastS z l = l[l.length - 1]'(by omega) := by
  have h0 : l ≠ [] := by intro e; rw [e] at h; simp at h
  rw [lastS_get h0, List.getLast_eq_getElem]
theorem stays_plain {t : Tab} {keep age time : Int} (hr : rightP t) : ∀ x ∈ picks keep age time t.snaps t.snaps.length, x ≠ t.current ∧ ∃ k, firstI (fun s : Snap => decide (s.id = x)) t.snaps = (k : Nat) ∧ ∃ hk : k < t.snaps.length, t.snaps[k].id = x ∧ t.snaps[k].time < time := by
  intro x hx
  obtain ⟨j, hj, _, he, hg⟩ := picks_is hx
  obtain ⟨g1, g2⟩ := goes_is hg
  obtain ⟨_, _, _, _, hs, hc⟩ := hr
  have hn : 0 < t.snaps.length := by omega
  have hjl : j < t.snaps.length - 1 := by omega
  refine ⟨?_, ?_⟩
  · have h1 := (snaps_ids hs j (t.snaps.length - 1) hjl (by omega)).1
    rw [hc, lastS_at hn, ← he]
    omega
  · have ha : t.snaps.any (fun s => decide (s.id = x)) = true := List.any_eq_true.2 ⟨t.snaps[j], List.getElem_mem _, by simp [he]⟩
    obtain ⟨k, e, hk, hp, hm⟩ := firstI_get ha
    refine ⟨k, e, hk, of_decide_eq_true hp, ?_⟩
    have hkj : k = j := by
      have hpk := of_decide_eq_true hp
      by_cases c : k < j
      · have := (snaps_ids hs k j c hj).1
        omega
      · by_cases d : j < k
        · have := (snaps_ids hs j k d hk).1
          omega
        · omega
    subst hkj
    exact g2
theorem right_dropped {t : Tab} {keep age time : Int} (hr : rightP t) : rightP ⟨t.schemas, t.snaps.filter (keeps (picks keep age time t.snaps t.snaps.length)), t.current⟩ := by
  have hst := stays_plain (keep := keep) (age := age) (time := time) hr
  obtain ⟨h1, h2, h3, h4, h5, h6⟩ := hr
  refine ⟨h1, h2, ?_, h4, snapsOk_filter _ ⟨Int.le_refl _, Int.le_refl _, Int.le_refl _, Int.le_refl _, Int.le_refl _⟩ h5, ?_⟩
  · have := List.length_filter_le (keeps (picks keep age time t.snaps t.snaps.length)) t.snaps
    simp only; omega
  · simp only
    rw [lastS_filter _ fun hne => ?_]
    · exact h6
    · unfold keeps
      apply decide_eq_true
      intro hm
      exact (hst _ hm).1 h6.symm
end Go.Am.Ab
