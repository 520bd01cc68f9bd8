/- The statement on nulls among values. -/
import Derived.Test.YtekemfffaedmhabColE
set_option linter.all false
namespace Go.Am.Ab
open Go.Proofs
set_option maxHeartbeats 4000000
set_option maxRecDepth 4000

def someC (l : List Cel) : List Cel := l.filter fun c => decide (c.kind ≠ 0)
theorem val_null {c : Cel} (h : chk c = 0) : (decide (valOf c ≠ .null)) = decide (c.kind ≠ 0) := by
  obtain ⟨h1, _⟩ := chk_kind h
  unfold valOf
  rw [fix_same h]
  by_cases a : c.kind = 1
  · rw [if_pos a, a]; rfl
  · rw [if_neg a]
    by_cases b : c.kind = 2
    · rw [if_pos b, b]; rfl
    · rw [if_neg b]
      by_cases d : c.kind = 3
      · rw [if_pos d, d]; rfl
      · rw [if_neg d, show c.kind = 0 by omega]; rfl
theorem some_vals : ∀ {l : List Cel}, (∀ c ∈ l, chk c = 0) → (someC l).map valOf = own (l.map valOf)
  | [], _ => rfl
  | c :: r, h => by
    have ih := some_vals (l := r) fun x hx => h x (by simp [hx])
    have hv := val_null (h c (by simp))
    unfold someC own at *
    rw [List.map_cons, List.filter_cons, List.filter_cons, hv]
    split
    · rw [List.map_cons, ih]
    · exact ih
theorem own_body (k : Nat) (l : List Val) : bodyB k (own l) = bodyB k l := by
  have h1 : wholes (own l) = wholes l := by
    induction l with
    | nil => rfl
    | cons v r ih => cases v <;> simp [own, wholes] at ih ⊢ <;> exact ih
  have h2 : truths (own l) = truths l := by
    clear h1
    induction l with
    | nil => rfl
    | cons v r ih => cases v <;> simp [own, truths] at ih ⊢ <;> exact ih
  have h3 : texts (own l) = texts l := by
    clear h1 h2
    induction l with
    | nil => rfl
    | cons v r ih => cases v <;> simp [own, texts] at ih ⊢ <;> exact ih
  unfold bodyB
  rw [h1, h2, h3]
theorem own_there (l : List Val) : false ∉ thereL (own l) := by
  intro h
  obtain ⟨v, hv, e⟩ := List.mem_map.1 h
  have := (List.mem_filter.1 hv).2
  rw [e] at this
  cases this
theorem colB_own (k : Nat) (l : List Val) : colB k (own l) = 0 :: bodyB k l := by
  rw [colB, headB, if_neg (own_there l), own_body]; rfl
theorem own_all : ∀ {l : List Val}, (own l).length = l.length → own l = l
  | [], _ => rfl
  | v :: r, h => by
    have hle : (own r).length ≤ r.length := List.length_filter_le _ _
    unfold own at *
    rw [List.filter_cons] at h ⊢
    split at h
    · rename_i c
      rw [if_pos c]
      simp only [List.length_cons] at h
      have ih := own_all (l := r) (by unfold own; omega)
      unfold own at ih
      rw [ih]
    · simp only [List.length_cons] at h
      omega
theorem own_some {l : List Val} (h : (own l).length ≠ l.length) : false ∈ thereL l := by
  apply Classical.byContradiction
  intro hn
  apply h
  have : ∀ v ∈ l, decide (v ≠ Val.null) = true := fun v hv => by
    cases e : decide (v ≠ Val.null) with
    | true => rfl
    | false => exact absurd (List.mem_map.2 ⟨v, hv, e⟩) hn
  rw [own, List.filter_eq_self.2 this]
theorem Good.own {k : Nat} {l : List Val} (g : Good k l) : Good k (own l) := fun v hv => g v (List.mem_filter.1 hv).1
theorem columnNulls_runs (k : Nat) (hk : k < 256) (l : List Cel) (hl : ∀ c ∈ l, c.kind < 256 ∧ isI64 c.n ∧ c.s.size ≤ 9223372036854775807) (hn : l.length ≤ 9223372036854775807) : R 3 [.d (.int .u8 k), .d (.list (ce l))] [] = some ([.d (.bool true)], []) := by
  have al := alive06
  obtain ⟨m1, m2⟩ := mod3 k hk
  obtain ⟨q, hq⟩ : ∃ q, q = k % 3 := ⟨_, rfl⟩
  rw [← hq] at m1 m2
  obtain ⟨p, hp⟩ : ∃ p, p = 1 + q := ⟨_, rfl⟩
  have hp13 : 1 ≤ p ∧ p ≤ 3 := by omega
  have m3 : IntKind.u8.wrap ((1 : Int) + q) = p := by rw [wrap_u8 (by omega) (by omega)]; omega
  have ho := only_runs p (by omega) l (fun c hc => ⟨(hl c hc).1, (hl c hc).2.2⟩) hn
  obtain ⟨g, hb, hx⟩ := only_row hp13 (l := l) fun c hc => ⟨(hl c hc).1, (hl c hc).2.1⟩
  have hxi := only_is (k := p) (l := l) fun c hc => ⟨(hl c hc).1, (hl c hc).2.1⟩
  have hxs : ∀ c ∈ onlyC p l, c.kind < 256 ∧ c.s.size ≤ 9223372036854775807 := fun c hc => by
    obtain ⟨a1, a2, a3, a4, a5⟩ := chk_kind (hxi c hc).1
    exact ⟨by omega, by omega⟩
  obtain ⟨x, hxe⟩ : ∃ x, x = onlyC p l := ⟨_, rfl⟩
  rw [← hxe] at ho g hb hx hxs hxi
  have hr := row_runs x hxs (by omega)
  have hw := write_ok p hp13 (x.map valOf) g (by simpa using hx)
  have hcl := colB_len hp13 g (by simpa using hx)
  have hsv := some_vals (l := x) fun c hc => (hxi c hc).1
  have hsl : (someC x).length ≤ x.length := List.length_filter_le _ _
  have hr2 := row_runs (someC x) (fun c hc => hxs c (List.mem_filter.1 hc).1) (by omega)
  rw [hsv] at hr2
  have hol : (own (x.map valOf)).length = (someC x).length := by rw [← hsv]; simp
  have hw2 := write_ok p hp13 (own (x.map valOf)) g.own (by omega)
  rw [colB_own] at hw2
  have hfl := flags_length (thereL (x.map valOf))
  rw [thereL_length, List.length_map] at hfl
  have hcase : ((someC x).length = x.length ∧ colB p (x.map valOf) = 0 :: bodyB p (x.map valOf)) ∨ ((someC x).length ≠ x.length ∧ colB p (x.map valOf) = 1 :: (flagsB (thereL (x.map valOf)) ++ bodyB p (x.map valOf))) := by
    by_cases e : (someC x).length = x.length
    · refine .inl ⟨e, ?_⟩
      have := own_all (l := x.map valOf) (by rw [hol, e]; simp)
      rw [← colB_own, this]
    · refine .inr ⟨e, ?_⟩
      have := own_some (l := x.map valOf) (by rw [hol]; simpa using e)
      rw [colB, headB, if_pos this]; rfl
  obtain ⟨v1, hv1⟩ : ∃ v1, v1 = vs (x.map valOf) := ⟨_, rfl⟩
  obtain ⟨v2, hv2⟩ : ∃ v2, v2 = vs (own (x.map valOf)) := ⟨_, rfl⟩
  obtain ⟨fl, hfle⟩ : ∃ fl, fl = flagsB (thereL (x.map valOf)) := ⟨_, rfl⟩
  obtain ⟨bd, hbde⟩ : ∃ bd, bd = bodyB p (x.map valOf) := ⟨_, rfl⟩
  have hv1l : v1.length = x.length := by rw [hv1]; simp
  have hv2l : v2.length = (someC x).length := by rw [hv2, ← hol]; simp
  rw [← hv1] at hr hw
  rw [← hv2] at hr2 hw2
  rw [← hfle] at hfl
  rw [← hfle, ← hbde] at hcase
  rw [← hbde] at hw2
  have hM := mapM_bytes bd
  obtain ⟨sz, hsz⟩ : ∃ sz, sz = (x.length + 7) / 8 := ⟨_, rfl⟩
  have hsz' : ((x.length : Int) + 7) / 8 = sz := by omega
  rw [← hsz] at hfl
  have hcl2 : bd.length ≤ 200000 := by
    rcases hcase with ⟨_, e⟩ | ⟨_, e⟩
    · rw [e] at hcl; simp only [List.length_cons] at hcl; omega
    · rw [e] at hcl; simp only [List.length_cons, List.length_append] at hcl; omega
  have hw2' : R 7 [.d (.int .u8 p), .d (.list v2)] [] = some ([.arr 0 (bd.length + 1), .d (.int .i64 0)], [.arr 1 (.int .u8 0 :: bytes bd) 0]) := hw2
  clear hw2 hsv hol hb g hv1 hv2 hfle hbde hsz
  refine run_goal (rs := [.tmp 4]) (ts := [4]) Try.func3 (c := _) rfl rfl rfl (by kernel_rfl) (by kernel_rfl) (.inl sp_3) (by simp [Try.f3]) ?_
  intro T hT
  simp -dsimp -implicitDefEqProofs (disch := first | omega | assumption) [startSlots, Int.natCast_inj, wrap_i64, al, m1, m2, m3, ho]
  generalize hz : loopT _ _ _ _ _ _ = z
  revert z
  refine loop_any (σ := Nat × List Cel) (fun y => [(0, .d (.int .u8 p)), (5, .arr 0 x.length), (6, .arr 1 y.2.length), (7, .d (.int .i64 y.1))]) (fun y => [.arr 3 (ce x) 0, .arr 3 (ce y.2) 0]) (fun y => y.1 ≤ x.length ∧ y.2.length ≤ y.1 ∧ someC x = y.2 ++ someC (x.drop y.1)) (fun y => x.length - y.1) (0, []) ?_ ?_ ?_
  · exact ⟨Nat.zero_le _, Nat.zero_le _, by simp⟩
  · simp -dsimp -implicitDefEqProofs (disch := first | omega | assumption)
  intro T' f hT' ⟨i, dn⟩ ⟨hi, hdl, hf⟩ ih
  simp only at hi hdl hf ih
  by_cases h1 : i < x.length
  · obtain ⟨⟨k', n', s'⟩, hx'⟩ : ∃ y, y = x[i] := ⟨_, rfl⟩
    have gx := hx'.symm
    have hdr : x.drop i = ⟨k', n', s'⟩ :: x.drop (i + 1) := by rw [← gx]; exact List.drop_eq_getElem_cons h1
    rw [hdr] at hf
    unfold someC at hf
    rw [List.filter_cons] at hf
    by_cases z : k' = 0
    · subst z
      simp -dsimp -implicitDefEqProofs (disch := first | omega | assumption) [Int.natCast_inj, wrap_i64, h1, gx, Cel.d]
      refine ih (i + 1, dn) _ _ ⟨h1, by simp only; omega, ?_⟩ (by simp only; omega) (by simp -dsimp -implicitDefEqProofs (disch := first | omega | assumption))
      unfold someC
      rw [hf]
      simp
    · have z' : ¬ (k' : Int) = 0 := by omega
      simp -dsimp -implicitDefEqProofs (disch := first | omega | assumption) [Int.natCast_inj, wrap_i64, h1, gx, Cel.d, z', z]
      refine ih (i + 1, dn ++ [⟨k', n', s'⟩]) _ _ ⟨h1, by simp; omega, ?_⟩ (by simp only; omega) (by simp -dsimp -implicitDefEqProofs (disch := first | omega | assumption) [Cel.d])
      unfold someC
      rw [hf]
      simp [z]
  obtain rfl : i = x.length := by omega
  rw [List.drop_length] at hf
  have hdn : dn = someC x := by rw [hf]; simp [someC]
  subst hT'
  clear ih
  rw [← hdn] at hr2 hv2l hcase
  clear hf hdn
  rcases hcase with ⟨e, hc⟩ | ⟨e, hc⟩
  · rw [hc] at hw
    have hw' : R 7 [.d (.int .u8 p), .d (.list v1)] [] = some ([.arr 0 (bd.length + 1), .d (.int .i64 0)], [.arr 1 (.int .u8 0 :: bytes bd) 0]) := hw
    have e' : (dn.length : Int) = x.length := by omega
    simp -dsimp -implicitDefEqProofs (disch := first | omega | assumption) [Int.natCast_inj, wrap_i64, hr, hr2, hw', hw2', e, e', hM, byteOf_u8]
    simpa -dsimp -implicitDefEqProofs (disch := first | omega | assumption) [Int.natCast_inj, wrap_i64] using hT
  · rw [hc] at hw
    have hw' : R 7 [.d (.int .u8 p), .d (.list v1)] [] = some ([.arr 0 (fl.length + bd.length + 1), .d (.int .i64 0)], [.arr 1 (.int .u8 1 :: (bytes fl ++ bytes bd)) 0]) := by
      rw [hw]; simp
    rw [hfl] at hw'
    have e' : ¬ (dn.length : Int) = x.length := by omega
    have hdrop : List.drop sz (List.take (sz + bd.length) (bytes fl ++ bytes bd)) = bytes bd := by
      rw [List.take_of_length_le (by simp [hfl]), ← hfl, List.drop_append_of_le_length (by simp), List.drop_of_length_le (by simp), List.nil_append]
    have x1 : ((1 : Int) + sz).toNat = sz + 1 := by omega
    have hle : ((sz : Int) + bd.length + 1 = (bd.length : Int) + 1 + sz) = True := by simp only [eq_iff_iff, iff_true]; omega
    simp -dsimp -implicitDefEqProofs (disch := first | omega | assumption) [Int.natCast_inj, wrap_i64, hr, hr2, hw', hw2', e, e', hM, byteOf_u8, hsz', x1, hdrop, hle, hfl]
    simpa -dsimp -implicitDefEqProofs (disch := first | omega | assumption) [Int.natCast_inj, wrap_i64] using hT
end Go.Am.Ab
