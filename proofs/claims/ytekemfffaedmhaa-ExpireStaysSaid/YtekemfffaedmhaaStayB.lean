/- Schemas, snapshots: the document. -/
import Derived.Test.YtekemfffaedmhaaStayA
set_option linter.all false
namespace Go.Am.Ab
open Go.Proofs
set_option maxHeartbeats 4000000
set_option maxRecDepth 4000

def IntR (r : Option (List V × List Obj)) : Prop := ∃ n : Int, r = some ([.d (.int .i64 n)], [])
theorem not_intR : ¬ IntR none := fun ⟨_, h⟩ => by cases h
theorem check_any (s : Sch) (hl : s.fields.length ≤ 9223372036854775807) : IntR (R 38 [.d s.d] []) := by
  by_cases e1 : s.id = 0
  · refine run_any (rs := [.tmp 2]) (ts := [3]) Try.func38 (c := _) rfl rfl rfl (by kernel_rfl) (by kernel_rfl) (.inl sp_38) (by simp [Try.f38]) not_intR ?_
    simp -dsimp -implicitDefEqProofs (disch := first | omega | assumption) [startSlots, Int.natCast_inj, wrap_i64, e1]
    exact ⟨_, rfl⟩
  by_cases e2 : s.fields.length = 0
  · have e2' : (s.fields.length : Int) = 0 := by omega
    refine run_any (rs := [.tmp 2]) (ts := [3]) Try.func38 (c := _) rfl rfl rfl (by kernel_rfl) (by kernel_rfl) (.inl sp_38) (by simp [Try.f38]) not_intR ?_
    simp -dsimp -implicitDefEqProofs (disch := first | omega | assumption) [startSlots, Int.natCast_inj, wrap_i64, e1, e2, e2']
    exact ⟨_, rfl⟩
  have e2' : ¬ (s.fields.length : Int) = 0 := by omega
  by_cases e3 : 8 < s.fields.length
  · have e3' : (8 : Int) < s.fields.length := by omega
    refine run_any (rs := [.tmp 2]) (ts := [3]) Try.func38 (c := _) rfl rfl rfl (by kernel_rfl) (by kernel_rfl) (.inl sp_38) (by simp [Try.f38]) not_intR ?_
    simp -dsimp -implicitDefEqProofs (disch := first | omega | assumption) [startSlots, Int.natCast_inj, wrap_i64, e1, e2, e2', e3, e3']
    exact ⟨_, rfl⟩
  have e3' : ¬ (8 : Int) < s.fields.length := by omega
  refine run_any (rs := [.tmp 2]) (ts := [3]) Try.func38 (c := _) rfl rfl rfl (by kernel_rfl) (by kernel_rfl) (.inl sp_38) (by simp [Try.f38]) not_intR ?_
  simp -dsimp -implicitDefEqProofs (disch := first | omega | assumption) [startSlots, Int.natCast_inj, wrap_i64, e1, e2, e2', e3, e3']
  generalize hT0 : IntR = T0
  have fin : ∀ n : Int, T0 (some ([.d (.int .i64 n)], [])) := fun n => by rw [← hT0]; exact ⟨n, rfl⟩
  generalize hz : loopT _ _ _ _ _ _ = z
  revert z
  refine loop_any (σ := Nat) (fun i => [(1, .ptr 0 0), (3, .d (.int .i64 i))]) (fun i => [.box s.v]) (fun i => i ≤ s.fields.length) (fun i => s.fields.length - i) 0 ?_ ?_ ?_
  · exact Nat.zero_le _
  · simp -dsimp -implicitDefEqProofs (disch := first | omega | assumption)
  intro T' f hT' i hi ih
  by_cases h1 : i < s.fields.length
  · obtain ⟨⟨fid, fname, fk, need⟩, hx⟩ : ∃ x, x = s.fields[i] := ⟨_, rfl⟩
    have gx := hx.symm
    by_cases a1 : fid = 0
    · subst hT'
      simp -dsimp -implicitDefEqProofs (disch := first | omega | assumption) [Int.natCast_inj, wrap_i64, h1, gx, a1]
      exact fin _
    obtain ⟨ft, hft⟩ : ∃ ft, ft = s.fields.take i := ⟨_, rfl⟩
    have hft' : List.take i (List.map Fld.d s.fields) = List.map Fld.d ft := by rw [hft, List.map_take]
    have hil : i ≤ s.fields.length := hi
    obtain ⟨b1, g1, -⟩ := named08_any fname
    obtain ⟨b2, g2, -⟩ := has_any ft fname (by rw [hft, List.length_take]; omega)
    clear hft
    have rest : ∀ (P : Prop), P → P := fun _ h => h
    by_cases z : i = 0
    · subst z
      cases b1 with
      | false =>
        subst hT'
        simp -dsimp -implicitDefEqProofs (disch := first | omega | assumption) [Int.natCast_inj, wrap_i64, h1, gx, a1, g1]
        exact fin _
      | true =>
        cases b2 with
        | true =>
          subst hT'
          simp -dsimp -implicitDefEqProofs (disch := first | omega | assumption) [Int.natCast_inj, wrap_i64, h1, gx, a1, g1, hft', g2]
          exact fin _
        | false =>
          by_cases k1 : fk < 1
          · subst hT'
            simp -dsimp -implicitDefEqProofs (disch := first | omega | assumption) [Int.natCast_inj, wrap_i64, h1, gx, a1, g1, hft', g2, k1]
            exact fin _
          by_cases k2 : 3 < fk
          · subst hT'
            simp -dsimp -implicitDefEqProofs (disch := first | omega | assumption) [Int.natCast_inj, wrap_i64, h1, gx, a1, g1, hft', g2, k1, k2]
            exact fin _
          cases need with
          | false =>
            subst hT'
            simp -dsimp -implicitDefEqProofs (disch := first | omega | assumption) [Int.natCast_inj, wrap_i64, h1, gx, a1, g1, hft', g2, k1, k2]
            exact fin _
          | true =>
            by_cases k3 : fk = 2
            · subst hT'
              simp -dsimp -implicitDefEqProofs (disch := first | omega | assumption) [Int.natCast_inj, wrap_i64, h1, gx, a1, g1, hft', g2, k1, k2, k3]
              exact fin _
            · simp -dsimp -implicitDefEqProofs (disch := first | omega | assumption) [Int.natCast_inj, wrap_i64, h1, gx, a1, g1, hft', g2, k1, k2, k3]
              exact ih (0 + 1) _ _ h1 (by omega) (by simp -dsimp -implicitDefEqProofs (disch := first | omega | assumption))
    · obtain ⟨w, hw⟩ : ∃ w, i = w + 1 := ⟨i - 1, by omega⟩
      have q0 : (i : Int) - 1 = w := by omega
      have hwl : w < s.fields.length := by omega
      have zi : (0 : Int) < i := by omega
      have zi' : 0 < i := by omega
      have zn : ¬ (i : Int) = 0 := by omega
      obtain ⟨⟨gid, gname, gk, gn⟩, hy⟩ : ∃ x, x = s.fields[w] := ⟨_, rfl⟩
      have gy := hy.symm
      by_cases a2 : fid ≤ gid
      · subst hT'
        simp -dsimp -implicitDefEqProofs (disch := first | omega | assumption) [Int.natCast_inj, wrap_i64, h1, gx, a1, q0, hwl, zi, zi', zn, z, gy, a2]
        exact fin _
      cases b1 with
      | false =>
        subst hT'
        simp -dsimp -implicitDefEqProofs (disch := first | omega | assumption) [Int.natCast_inj, wrap_i64, h1, gx, a1, q0, hwl, zi, zi', zn, z, gy, a2, g1]
        exact fin _
      | true =>
        cases b2 with
        | true =>
          subst hT'
          simp -dsimp -implicitDefEqProofs (disch := first | omega | assumption) [Int.natCast_inj, wrap_i64, h1, gx, a1, q0, hwl, zi, zi', zn, z, gy, a2, g1, hil, hft', g2]
          exact fin _
        | false =>
          by_cases k1 : fk < 1
          · subst hT'
            simp -dsimp -implicitDefEqProofs (disch := first | omega | assumption) [Int.natCast_inj, wrap_i64, h1, gx, a1, q0, hwl, zi, zi', zn, z, gy, a2, g1, hil, hft', g2, k1]
            exact fin _
          by_cases k2 : 3 < fk
          · subst hT'
            simp -dsimp -implicitDefEqProofs (disch := first | omega | assumption) [Int.natCast_inj, wrap_i64, h1, gx, a1, q0, hwl, zi, zi', zn, z, gy, a2, g1, hil, hft', g2, k1, k2]
            exact fin _
          cases need with
          | false =>
            simp -dsimp -implicitDefEqProofs (disch := first | omega | assumption) [Int.natCast_inj, wrap_i64, h1, gx, a1, q0, hwl, zi, zi', zn, z, gy, a2, g1, hil, hft', g2, k1, k2]
            exact ih (i + 1) _ _ h1 (by omega) (by simp -dsimp -implicitDefEqProofs (disch := first | omega | assumption))
          | true =>
            subst hT'
            simp -dsimp -implicitDefEqProofs (disch := first | omega | assumption) [Int.natCast_inj, wrap_i64, h1, gx, a1, q0, hwl, zi, zi', zn, z, gy, a2, g1, hil, hft', g2, k1, k2]
            exact fin _
  · subst hT'
    simp -dsimp -implicitDefEqProofs (disch := first | omega | assumption) [Int.natCast_inj, wrap_i64, h1]
    exact fin _

/-- What Check tells of a schema; what Named tells of a name. -/
noncomputable def chkS (s : Sch) : Int := open Classical in if h : IntR (R 38 [.d s.d] []) then h.choose else 0
theorem chkS_runs (s : Sch) (hl : s.fields.length ≤ 9223372036854775807) : R 38 [.d s.d] [] = some ([.d (.int .i64 (chkS s))], []) := by
  have h := check_any s hl
  unfold chkS
  rw [dif_pos h]
  exact h.choose_spec
noncomputable def nm12 (s : ByteArray) : Bool := (named12_any s).choose
theorem nm12_runs (s : ByteArray) : R 40 [.d (.str s)] [] = some ([.d (.bool (nm12 s))], []) := (named12_any s).choose_spec.1
/-- Where the first one stands of which p holds; -1. -/
def firstI {α : Type} (p : α → Bool) (l : List α) : Int := if l.any p then (l.findIdx p : Int) else -1
theorem firstI_get {α : Type} {p : α → Bool} {l : List α} (h : l.any p = true) : ∃ k, firstI p l = (k : Nat) ∧ ∃ hk : k < l.length, p l[k] = true ∧ ∀ j, (hj : j < k) → p (l[j]'(by omega)) = false := by
  refine ⟨l.findIdx p, by rw [firstI, if_pos h], ?_⟩
  obtain ⟨x, hx, hp⟩ := List.any_eq_true.1 h
  have hk : l.findIdx p < l.length := List.findIdx_lt_length_of_exists ⟨x, hx, hp⟩
  exact ⟨hk, List.findIdx_getElem (w := hk), fun j hj => by simpa using List.not_of_lt_findIdx hj⟩
theorem firstI_none {α : Type} {p : α → Bool} {l : List α} (h : l.any p = false) : firstI p l = -1 := by rw [firstI, if_neg (by simp [h])]
theorem shape_runs (t : Tab) (id : Int) (hl : t.schemas.length ≤ 9223372036854775807) : R 39 [.d t.d, .d (.int .u32 id)] [] = some ([.d (.int .i64 (firstI (fun s => decide (s.id = id)) t.schemas))], []) := by
  obtain ⟨F, hF⟩ : ∃ F, F = firstI (fun s => decide (s.id = id)) t.schemas := ⟨_, rfl⟩
  rw [← hF]
  refine run_goal (rs := [.tmp 4]) (ts := [3]) Try.func39 (c := _) rfl rfl rfl (by kernel_rfl) (by kernel_rfl) (.inl sp_39) (by simp [Try.f39]) ?_
  intro T hT
  simp -dsimp -implicitDefEqProofs (disch := first | omega | assumption) [startSlots, Int.natCast_inj, wrap_i64]
  generalize hz : loopT _ _ _ _ _ _ = z
  revert z
  refine loop_any (σ := Nat) (fun i => [(1, .d (.int .u32 id)), (2, .ptr 0 0), (5, .d (.int .i64 i))]) (fun i => [.box t.v]) (fun i => i ≤ t.schemas.length ∧ ∀ j, (hj : j < i) → (h : j < t.schemas.length) → t.schemas[j].id ≠ id) (fun i => t.schemas.length - i) 0 ?_ ?_ ?_
  · exact ⟨Nat.zero_le _, fun j hj => by omega⟩
  · simp -dsimp -implicitDefEqProofs (disch := first | omega | assumption)
  intro T' f hT' i ⟨hi, hno⟩ ih
  by_cases h1 : i < t.schemas.length
  · obtain ⟨⟨sid, fs⟩, hx⟩ : ∃ x, x = t.schemas[i] := ⟨_, rfl⟩
    have gx := hx.symm
    by_cases h2 : sid = id
    · have hF' : F = i := by
        have ha : t.schemas.any (fun s => decide (s.id = id)) = true := List.any_eq_true.2 ⟨t.schemas[i], List.getElem_mem _, by simp [gx, h2]⟩
        obtain ⟨k, e, hk, hp, hm⟩ := firstI_get ha
        rw [hF, e]
        by_cases c1 : k < i
        · exact absurd (of_decide_eq_true hp) (hno k c1 hk)
        · by_cases c2 : i < k
          · have := hm i c2
            rw [gx] at this
            simp [h2] at this
          · omega
      subst hT'
      rw [hF'] at hT
      simp -dsimp -implicitDefEqProofs (disch := first | omega | assumption) [Int.natCast_inj, wrap_i64, h1, gx, h2]
      simpa -dsimp -implicitDefEqProofs (disch := first | omega | assumption) [Int.natCast_inj, wrap_i64] using hT
    · simp -dsimp -implicitDefEqProofs (disch := first | omega | assumption) [Int.natCast_inj, wrap_i64, h1, gx, h2]
      refine ih (i + 1) _ _ ⟨h1, fun j hj hjl => ?_⟩ (by omega) (by simp -dsimp -implicitDefEqProofs (disch := first | omega | assumption))
      by_cases c : j = i
      · subst c; rw [gx]; exact h2
      · exact hno j (by omega) hjl
  · have ha : t.schemas.any (fun s => decide (s.id = id)) = false := by
      rw [List.any_eq_false]
      intro s hs
      obtain ⟨j, hj, rfl⟩ := List.mem_iff_getElem.1 hs
      have := hno j (by omega) hj
      simpa using this
    rw [firstI_none ha] at hF
    rw [hF] at hT
    subst hT'
    simp -dsimp -implicitDefEqProofs (disch := first | omega | assumption) [Int.natCast_inj, wrap_i64, h1]
    simpa -dsimp -implicitDefEqProofs (disch := first | omega | assumption) [Int.natCast_inj, wrap_i64] using hT
theorem snap_runs (t : Tab) (id : Int) (hl : t.snaps.length ≤ 9223372036854775807) : R 19 [.d t.d, .d (.int .u64 id)] [] = some ([.d (.int .i64 (firstI (fun s => decide (s.id = id)) t.snaps))], []) := by
  obtain ⟨F, hF⟩ : ∃ F, F = firstI (fun s => decide (s.id = id)) t.snaps := ⟨_, rfl⟩
  rw [← hF]
  refine run_goal (rs := [.tmp 4]) (ts := [3]) Try.func19 (c := _) rfl rfl rfl (by kernel_rfl) (by kernel_rfl) (.inl sp_19) (by simp [Try.f19]) ?_
  intro T hT
  simp -dsimp -implicitDefEqProofs (disch := first | omega | assumption) [startSlots, Int.natCast_inj, wrap_i64]
  generalize hz : loopT _ _ _ _ _ _ = z
  revert z
  refine loop_any (σ := Nat) (fun i => [(1, .d (.int .u64 id)), (2, .ptr 0 0), (5, .d (.int .i64 i))]) (fun i => [.box t.v]) (fun i => i ≤ t.snaps.length ∧ ∀ j, (hj : j < i) → (h : j < t.snaps.length) → t.snaps[j].id ≠ id) (fun i => t.snaps.length - i) 0 ?_ ?_ ?_
  · exact ⟨Nat.zero_le _, fun j hj => by omega⟩
  · simp -dsimp -implicitDefEqProofs (disch := first | omega | assumption)
  intro T' f hT' i ⟨hi, hno⟩ ih
  by_cases h1 : i < t.snaps.length
  · obtain ⟨⟨sid, s1, s2, s3, s4, s5, s6⟩, hx⟩ : ∃ x, x = t.snaps[i] := ⟨_, rfl⟩
    have gx := hx.symm
    by_cases h2 : sid = id
    · have hF' : F = i := by
        have ha : t.snaps.any (fun s => decide (s.id = id)) = true := List.any_eq_true.2 ⟨t.snaps[i], List.getElem_mem _, by simp [gx, h2]⟩
        obtain ⟨k, e, hk, hp, hm⟩ := firstI_get ha
        rw [hF, e]
        by_cases c1 : k < i
        · exact absurd (of_decide_eq_true hp) (hno k c1 hk)
        · by_cases c2 : i < k
          · have := hm i c2
            rw [gx] at this
            simp [h2] at this
          · omega
      subst hT'
      rw [hF'] at hT
      simp -dsimp -implicitDefEqProofs (disch := first | omega | assumption) [Int.natCast_inj, wrap_i64, h1, gx, h2]
      simpa -dsimp -implicitDefEqProofs (disch := first | omega | assumption) [Int.natCast_inj, wrap_i64] using hT
    · simp -dsimp -implicitDefEqProofs (disch := first | omega | assumption) [Int.natCast_inj, wrap_i64, h1, gx, h2]
      refine ih (i + 1) _ _ ⟨h1, fun j hj hjl => ?_⟩ (by omega) (by simp -dsimp -implicitDefEqProofs (disch := first | omega | assumption))
      by_cases c : j = i
      · subst c; rw [gx]; exact h2
      · exact hno j (by omega) hjl
  · have ha : t.snaps.any (fun s => decide (s.id = id)) = false := by
      rw [List.any_eq_false]
      intro s hs
      obtain ⟨j, hj, rfl⟩ := List.mem_iff_getElem.1 hs
      have := hno j (by omega) hj
      simpa using this
    rw [firstI_none ha] at hF
    rw [hF] at hT
    subst hT'
    simp -dsimp -implicitDefEqProofs (disch := first | omega | assumption) [Int.natCast_inj, wrap_i64, h1]
    simpa -dsimp -implicitDefEqProofs (disch := first | omega | assumption) [Int.natCast_inj, wrap_i64] using hT
end Go.Am.Ab
namespace Go.Am.Ab
open Go.Proofs
set_option maxHeartbeats 4000000

theorem strS_inj {a b : ByteArray} (h : a.toList = b.toList) : a = b := by
  rw [ByteArray.toList_eq, ByteArray.toList_eq] at h
  obtain ⟨⟨x⟩⟩ := a
  obtain ⟨⟨y⟩⟩ := b
  simp at h
  rw [h]
theorem strS_beq (a b : ByteArray) : (a.toList == b.toList) = decide (a = b) := by
  by_cases e : a = b
  · subst e; simp
  · rw [decide_eq_false e]
    exact beq_false_of_ne fun h => e (strS_inj h)
def eqF (a b : Fld) : Prop := a.id = b.id ∧ a.name = b.name ∧ a.kind = b.kind ∧ a.need = b.need
def stepOk (l : List Sch) (i : Nat) : Prop := ∀ s, l[i]? = some s → chkS s = 0 ∧ ∀ w was, i = w + 1 → l[w]? = some was → was.id < s.id ∧ was.fields.length ≤ s.fields.length ∧ ∀ (k : Nat) f g, was.fields[k]? = some f → s.fields[k]? = some g → eqF g f
def schOk (l : List Sch) : Prop := ∀ i, i < l.length → stepOk l i
def mansOk (ms : List ByteArray) : Prop := ∀ (k : Nat) m, ms[k]? = some m → nm12 m = true ∧ ∀ j, j < k → ms[j]? ≠ some m
def snapOk1 (S : List Sch) (last s : Snap) : Prop := (last.id < s.id ∧ s.parent < s.id ∧ s.id ≤ 1073741824 ∧ s.seq ≤ 1073741824 ∧ s.offset ≤ 1073741824 ∧ s.time ≤ 1073741824) ∧
  (last.seq ≤ s.seq ∧ last.offset ≤ s.offset ∧ last.time ≤ s.time ∧ last.schema ≤ s.schema) ∧ 0 ≤ firstI (fun x : Sch => decide (x.id = s.schema)) S ∧ s.mans.length ≤ 8 ∧ mansOk s.mans
def snapsOk (S : List Sch) : Snap → List Snap → Prop
  | _, [] => True
  | last, s :: r => snapOk1 S last s ∧ snapsOk S s r
def lastS : Snap → List Snap → Snap
  | l, [] => l
  | _, s :: r => lastS s r
def zSnap : Snap := ⟨0, 0, 0, 0, 0, 0, []⟩
def rightP (t : Tab) : Prop := t.schemas.length ≠ 0 ∧ t.schemas.length ≤ 16 ∧ t.snaps.length ≤ 32 ∧ schOk t.schemas ∧ snapsOk t.schemas zSnap t.snaps ∧ t.current = (lastS zSnap t.snaps).id

/-- The snapshot a is not behind b in anything that is asked. -/
def notBehind (a b : Snap) : Prop := a.id ≤ b.id ∧ a.seq ≤ b.seq ∧ a.offset ≤ b.offset ∧ a.time ≤ b.time ∧ a.schema ≤ b.schema
theorem snapsOk_filter {S : List Sch} (p : Snap → Bool) : ∀ {l : List Snap} {last last' : Snap}, notBehind last' last → snapsOk S last l → snapsOk S last' (l.filter p)
  | [], _, _, _, _ => trivial
  | s :: r, last, last', hb, ⟨h1, h2⟩ => by
    obtain ⟨⟨a1, a2, a3, a4, a5, a6⟩, ⟨b1, b2, b3, b4⟩, c1, c2, c3⟩ := h1
    obtain ⟨d1, d2, d3, d4, d5⟩ := hb
    rw [List.filter_cons]
    split
    · exact ⟨⟨⟨by omega, a2, a3, a4, a5, a6⟩, ⟨by omega, by omega, by omega, by omega⟩, c1, c2, c3⟩, snapsOk_filter p ⟨Int.le_refl _, Int.le_refl _, Int.le_refl _, Int.le_refl _, Int.le_refl _⟩ h2⟩
    · exact snapsOk_filter p ⟨by omega, by omega, by omega, by omega, by omega⟩ h2
theorem lastS_filter (p : Snap → Bool) : ∀ {l : List Snap} {z : Snap}, (l ≠ [] → p (lastS z l) = true) → lastS z (l.filter p) = lastS z l
  | [], _, _ => rfl
  | [s], z, h => by
    have := h (by simp)
    simp only [lastS] at this
    simp [this, lastS]
  | s :: x :: r, z, h => by
    have h' := h (by simp)
    have ih : ∀ z', lastS z' ((x :: r).filter p) = lastS z' (x :: r) := fun z' => lastS_filter p fun _ => by
      simpa [lastS] using h'
    rw [List.filter_cons]
    split
    · show lastS s ((x :: r).filter p) = lastS s (x :: r)
      exact ih s
    · rw [ih z]; rfl
theorem snaps_ids {S : List Sch} : ∀ {l : List Snap} {last : Snap}, snapsOk S last l → ∀ i j, (hij : i < j) → (hj : j < l.length) → (l[i]'(Nat.lt_trans hij hj)).id < l[j].id ∧ last.id < (l[i]'(Nat.lt_trans hij hj)).id
  | [], _, _, i, j, _, hj => by simp at hj
  | s :: r, last, ⟨h1, h2⟩, i, j, hij, hj => by
    obtain ⟨j, rfl⟩ : ∃ k, j = k + 1 := ⟨j - 1, by omega⟩
    have hj' : j < r.length := by simpa using hj
    have hs := h1.1.1
    have key : s.id < r[j].id := by
      have hmono : ∀ {l : List Snap} {last : Snap}, snapsOk S last l → ∀ j, (hj : j < l.length) → last.id < l[j].id := by
        intro l
        induction l with
        | nil => intro last _ j hj; simp at hj
        | cons a b ih =>
          intro last ⟨g1, g2⟩ j hj
          cases j with
          | zero => exact g1.1.1
          | succ j =>
            have := ih g2 j (by simpa using hj)
            have := g1.1.1
            simp only [List.getElem_cons_succ]
            omega
      exact hmono h2 j hj'
    cases i with
    | zero => exact ⟨key, hs⟩
    | succ i =>
      obtain ⟨k1, k2⟩ := snaps_ids h2 i j (by omega) hj'
      exact ⟨k1, by simp only [List.getElem_cons_succ]; omega⟩
theorem lastS_get : ∀ {l : List Snap} {z : Snap} (h : l ≠ []), lastS z l = l.getLast h
  | [s], z, _ => rfl
  | s :: x :: r, z, _ => by
    rw [List.getLast_cons (by simp)]
    exact lastS_get (z := s) (by simp)
end Go.Am.Ab
