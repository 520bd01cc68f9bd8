/- Which tables may be, by the document: the walk. -/
import Derived.Test.YtekemfffaedmhaaStayB
set_option linter.all false
namespace Go.Am.Ab
open Go.Proofs
set_option maxHeartbeats 8000000
set_option maxRecDepth 4000

def plainCell (v : V) : Prop := v.ids1 = [] ∧ ∀ f : Nat → Option Nat, V.ren1 f v = some v
theorem right_any (t : Tab) (hw1 : t.schemas.length ≤ 9223372036854775807) (hw2 : t.snaps.length ≤ 9223372036854775807) (hw3 : ∀ s ∈ t.schemas, s.fields.length ≤ 9223372036854775807) (hw4 : ∀ s ∈ t.snaps, s.mans.length ≤ 9223372036854775807) : Tells (fun b => b = true ↔ rightP t) (R 18 [.d t.d] []) := by
  by_cases e1 : t.schemas.length = 0
  · have e1' : (t.schemas.length : Int) = 0 := by omega
    refine run_any (rs := [.tmp 2]) (ts := [4]) Try.func18 (c := _) rfl rfl rfl (by kernel_rfl) (by kernel_rfl) (.inl sp_18) (by simp [Try.f18]) not_tells ?_
    simp -dsimp -implicitDefEqProofs (disch := first | omega | assumption) [startSlots, Int.natCast_inj, wrap_i64, e1, e1']
    exact fun h => h.1 e1
  have e1' : ¬ (t.schemas.length : Int) = 0 := by omega
  by_cases e2 : 16 < t.schemas.length
  · have e2' : (16 : Int) < t.schemas.length := by omega
    refine run_any (rs := [.tmp 2]) (ts := [4]) Try.func18 (c := _) rfl rfl rfl (by kernel_rfl) (by kernel_rfl) (.inl sp_18) (by simp [Try.f18]) not_tells ?_
    simp -dsimp -implicitDefEqProofs (disch := first | omega | assumption) [startSlots, Int.natCast_inj, wrap_i64, e1, e1', e2, e2']
    exact fun h => absurd h.2.1 (by omega)
  have e2' : ¬ (16 : Int) < t.schemas.length := by omega
  by_cases e3 : 32 < t.snaps.length
  · have e3' : (32 : Int) < t.snaps.length := by omega
    refine run_any (rs := [.tmp 2]) (ts := [4]) Try.func18 (c := _) rfl rfl rfl (by kernel_rfl) (by kernel_rfl) (.inl sp_18) (by simp [Try.f18]) not_tells ?_
    simp -dsimp -implicitDefEqProofs (disch := first | omega | assumption) [startSlots, Int.natCast_inj, wrap_i64, e1, e1', e2, e2', e3, e3']
    exact fun h => absurd h.2.2.1 (by omega)
  have e3' : ¬ (32 : Int) < t.snaps.length := by omega
  refine run_any (rs := [.tmp 2]) (ts := [4]) Try.func18 (c := _) rfl rfl rfl (by kernel_rfl) (by kernel_rfl) (.inl sp_18) (by simp [Try.f18]) not_tells ?_
  simp -dsimp -implicitDefEqProofs (disch := first | omega | assumption) [startSlots, Int.natCast_inj, wrap_i64, e1, e1', e2, e2', e3, e3']
  generalize hT0 : Tells (fun b => b = true ↔ rightP t) = T0
  have fin : ∀ b : Bool, (b = true ↔ rightP t) → T0 (some ([.d (.bool b)], [])) := fun b hb => by rw [← hT0]; exact ⟨b, rfl, hb⟩
  have no : ¬ rightP t → T0 (some ([.d (.bool false)], [])) := fun h => fin false ⟨fun c => (by cases c), fun c => absurd c h⟩
  generalize hz : loopT _ _ _ _ _ _ = z
  revert z
  refine loop_any (σ := Nat) (fun i => [(1, .ptr 0 0), (3, .d (.int .i64 i))]) (fun i => [.box t.v]) (fun i => i ≤ t.schemas.length ∧ ∀ j, j < i → stepOk t.schemas j) (fun i => t.schemas.length - i) 0 ?_ ?_ ?_
  · exact ⟨Nat.zero_le _, fun j hj => by omega⟩
  · simp -dsimp -implicitDefEqProofs (disch := first | omega | assumption)
  intro T' f hT' i ⟨hi, hok⟩ ih
  by_cases h1 : i < t.schemas.length
  · obtain ⟨⟨sid, fs⟩, hx⟩ : ∃ x, x = t.schemas[i] := ⟨_, rfl⟩
    have gx := hx.symm
    have gx? : t.schemas[i]? = some ⟨sid, fs⟩ := by rw [List.getElem?_eq_getElem h1, gx]
    have hfl : fs.length ≤ 9223372036854775807 := hw3 ⟨sid, fs⟩ (gx ▸ List.getElem_mem h1)
    have hck := chkS_runs ⟨sid, fs⟩ (by simp only; omega)
    simp only [Sch.d] at hck
    have bad : ¬ stepOk t.schemas i → ¬ rightP t := fun a b => a (b.2.2.2.1 i h1)
    have next : stepOk t.schemas i → ∀ j, j < i + 1 → stepOk t.schemas j := fun a j hj => by
      by_cases c : j = i
      · subst c; exact a
      · exact hok j (by omega)
    obtain ⟨ck, hcke⟩ : ∃ c, c = chkS ⟨sid, fs⟩ := ⟨_, rfl⟩
    rw [← hcke] at hck
    by_cases c1 : ck = 0
    case neg =>
      subst hT'
      simp -dsimp -implicitDefEqProofs (disch := first | omega | assumption) [Int.natCast_inj, wrap_i64, h1, gx, hck, c1]
      exact no (bad fun a => c1 (hcke.trans (a _ gx?).1))
    by_cases z : i = 0
    · subst z
      simp -dsimp -implicitDefEqProofs (disch := first | omega | assumption) [Int.natCast_inj, wrap_i64, h1, gx, hck, c1]
      refine ih (0 + 1) _ _ ⟨h1, next fun s hs => ?_⟩ (by omega) (by simp -dsimp -implicitDefEqProofs (disch := first | omega | assumption))
      rw [gx?] at hs
      cases hs
      exact ⟨by rw [← hcke]; exact c1, fun w was hw => by omega⟩
    · have zi : ¬ (i : Int) = 0 := by omega
      obtain ⟨w, hw⟩ : ∃ w, i = w + 1 := ⟨i - 1, by omega⟩
      have q0 : (i : Int) - 1 = w := by omega
      have hwl : w < t.schemas.length := by omega
      obtain ⟨⟨wid, wf⟩, hy⟩ : ∃ x, x = t.schemas[w] := ⟨_, rfl⟩
      have gy := hy.symm
      have gy? : t.schemas[w]? = some ⟨wid, wf⟩ := by rw [List.getElem?_eq_getElem hwl, gy]
      have hwfl : wf.length ≤ 9223372036854775807 := hw3 ⟨wid, wf⟩ (gy ▸ List.getElem_mem hwl)
      by_cases c2 : sid ≤ wid
      · subst hT'
        simp -dsimp -implicitDefEqProofs (disch := first | omega | assumption) [Int.natCast_inj, wrap_i64, h1, gx, hck, c1, z, zi, q0, hwl, gy, c2]
        refine no (bad fun a => ?_)
        have := ((a _ gx?).2 w _ hw gy?).1
        simp only at this
        omega
      by_cases c3 : fs.length < wf.length
      · have c3' : (fs.length : Int) < wf.length := by omega
        subst hT'
        simp -dsimp -implicitDefEqProofs (disch := first | omega | assumption) [Int.natCast_inj, wrap_i64, h1, gx, hck, c1, z, zi, q0, hwl, gy, c2, c3, c3']
        refine no (bad fun a => ?_)
        have := ((a _ gx?).2 w _ hw gy?).2.1
        simp only at this
        omega
      have c3' : ¬ (fs.length : Int) < wf.length := by omega
      simp -dsimp -implicitDefEqProofs (disch := first | omega | assumption) [Int.natCast_inj, wrap_i64, h1, gx, hck, c1, z, zi, q0, hwl, gy, c2, c3, c3']
      generalize hz : loopT _ _ _ _ _ _ = z
      revert z
      refine loop_any (σ := Nat) (fun k => [(1, .ptr 0 0), (3, .d (.int .i64 i)), (4, .ptr 1 0), (5, .ptr 2 0), (6, .d (.int .i64 k))]) (fun k => [.box t.v, .box [.d (.int .u32 sid), .d (.list (fs.map Fld.d))], .box [.d (.int .u32 wid), .d (.list (wf.map Fld.d))]]) (fun k => k ≤ wf.length ∧ ∀ j f g, j < k → wf[j]? = some f → fs[j]? = some g → eqF g f) (fun k => wf.length - k) 0 ?_ ?_ ?_
      · exact ⟨Nat.zero_le _, fun j f g hj => by omega⟩
      · simp -dsimp -implicitDefEqProofs (disch := first | omega | assumption)
      intro T2 f2 hT2 k ⟨hk, hkok⟩ ih2
      by_cases h2 : k < wf.length
      · have h3 : k < fs.length := by omega
        obtain ⟨⟨a1, a2, a3, a4⟩, hfe⟩ : ∃ x, x = wf[k] := ⟨_, rfl⟩
        obtain ⟨⟨b1, b2, b3, b4⟩, hge⟩ : ∃ x, x = fs[k] := ⟨_, rfl⟩
        have gf := hfe.symm
        have gg := hge.symm
        have gf? : wf[k]? = some ⟨a1, a2, a3, a4⟩ := by rw [List.getElem?_eq_getElem h2, gf]
        have gg? : fs[k]? = some ⟨b1, b2, b3, b4⟩ := by rw [List.getElem?_eq_getElem h3, gg]
        by_cases q : b1 = a1 ∧ b2 = a2 ∧ b3 = a3 ∧ b4 = a4
        · obtain ⟨rfl, rfl, rfl, rfl⟩ := q
          simp -dsimp -implicitDefEqProofs (disch := first | omega | assumption) [Int.natCast_inj, wrap_i64, h2, h3, gf, gg, strS_beq]
          refine ih2 (k + 1) _ _ ⟨h2, fun j f g hj h5 h6 => ?_⟩ (by omega) (by simp -dsimp -implicitDefEqProofs (disch := first | omega | assumption))
          by_cases c : j = k
          · subst c
            rw [gf?] at h5
            rw [gg?] at h6
            cases h5; cases h6
            exact ⟨rfl, rfl, rfl, rfl⟩
          · exact hkok j f g (by omega) h5 h6
        · have hq : (!decide (b1 = a1) || (!decide (b2 = a2) || (!decide (b3 = a3) || !(b4 == a4)))) = true := by
            by_cases w1 : b1 = a1 <;> by_cases w2 : b2 = a2 <;> by_cases w3 : b3 = a3 <;> by_cases w4 : b4 = a4 <;> simp [w1, w2, w3, w4]
            exact absurd ⟨w1, w2, w3, w4⟩ q
          have hqn : ¬ rightP t := bad fun a => q (((a _ gx?).2 w _ hw gy?).2.2 k _ _ gf? gg?)
          subst hT2
          subst hT'
          cases b4 <;> cases a4
          all_goals
            by_cases w1 : b1 = a1 <;> by_cases w2 : b2 = a2 <;> by_cases w3 : b3 = a3
            all_goals first
              | (exfalso; simp [w1, w2, w3] at hq; done)
              | skip
            all_goals
              simp -dsimp -implicitDefEqProofs (disch := first | omega | assumption) [Int.natCast_inj, wrap_i64, h2, h3, gf, gg, strS_beq, w1, w2, w3]
              exact no hqn
      · have hall : stepOk t.schemas i := fun s hs => by
          rw [gx?] at hs
          cases hs
          refine ⟨by rw [← hcke]; exact c1, fun w' was hw' hwas => ?_⟩
          obtain rfl : w' = w := by omega
          rw [gy?] at hwas
          cases hwas
          exact ⟨by simp only; omega, by simp only; omega, fun j f g h5 h6 => by
            have hj : j < wf.length := (List.getElem?_eq_some_iff.1 h5).1
            exact hkok j f g (by omega) h5 h6⟩
        subst hT2
        simp -dsimp -implicitDefEqProofs (disch := first | omega | assumption) [Int.natCast_inj, wrap_i64, h2]
        exact ih (i + 1) _ _ ⟨h1, next hall⟩ (by omega) (by simp -dsimp -implicitDefEqProofs (disch := first | omega | assumption))
  have hsch : schOk t.schemas := fun j hj => hok j (by omega)
  subst hT'
  clear ih hok hi
  have base : rightP t ↔ snapsOk t.schemas zSnap t.snaps ∧ t.current = (lastS zSnap t.snaps).id := ⟨fun a => a.2.2.2.2, fun a => ⟨e1, by omega, by omega, hsch, a⟩⟩
  simp -dsimp -implicitDefEqProofs (disch := first | omega | assumption) [Int.natCast_inj, wrap_i64, h1]
  generalize hz : loopT _ _ _ _ _ _ = z
  revert z
  refine loop_any (σ := Nat × Snap × V) (fun x => [(1, .ptr 0 0), (7, .ptr 1 0), (8, .d (.int .i64 x.1))]) (fun x => [.box t.v, .box [.d (.int .u64 x.2.1.id), .d (.int .u64 x.2.1.parent), .d (.int .u64 x.2.1.seq), .d (.int .u64 x.2.1.offset), .d (.int .u64 x.2.1.time), .d (.int .u32 x.2.1.schema), x.2.2]]) (fun x => x.1 ≤ t.snaps.length ∧ plainCell x.2.2 ∧ (snapsOk t.schemas zSnap t.snaps ↔ snapsOk t.schemas x.2.1 (t.snaps.drop x.1)) ∧ lastS zSnap t.snaps = lastS x.2.1 (t.snaps.drop x.1)) (fun x => t.snaps.length - x.1) (0, zSnap, .nilS) ?_ ?_ ?_
  · exact ⟨Nat.zero_le _, ⟨rfl, fun _ => rfl⟩, by rw [List.drop_zero], by rw [List.drop_zero]⟩
  · simp -dsimp -implicitDefEqProofs (disch := first | omega | assumption) [zSnap]
  intro T4 f4 hT4 ⟨i, ⟨l0, l1, l2, l3, l4, l5, l6⟩, mv⟩ ⟨hi, ⟨hm1, hm2⟩, hs, hl⟩ ih
  simp only at hi hm1 hm2 hs hl ih
  by_cases h2 : i < t.snaps.length
  · obtain ⟨⟨s0, s1, s2, s3, s4, s5, ms⟩, hx⟩ : ∃ x, x = t.snaps[i] := ⟨_, rfl⟩
    have gx := hx.symm
    have hml : ms.length ≤ 9223372036854775807 := hw4 ⟨s0, s1, s2, s3, s4, s5, ms⟩ (gx ▸ List.getElem_mem h2)
    have hdr : t.snaps.drop i = ⟨s0, s1, s2, s3, s4, s5, ms⟩ :: t.snaps.drop (i + 1) := by rw [← gx]; exact List.drop_eq_getElem_cons h2
    rw [hdr] at hs hl
    have bad : ¬ snapOk1 t.schemas ⟨l0, l1, l2, l3, l4, l5, l6⟩ ⟨s0, s1, s2, s3, s4, s5, ms⟩ → ¬ rightP t := fun a b => a ((hs.1 (base.1 b).1).1)
    have hsh := shape_runs t s5 hw1
    simp only [Tab.d] at hsh
    obtain ⟨sh, hshe⟩ : ∃ c, c = firstI (fun s : Sch => decide (s.id = s5)) t.schemas := ⟨_, rfl⟩
    rw [← hshe] at hsh
    subst hT4
    by_cases a1 : s0 ≤ l0
    · simp -dsimp -implicitDefEqProofs (disch := first | omega | assumption) [Int.natCast_inj, wrap_i64, h2, gx, a1, hm1, hm2]
      exact no (bad fun a => absurd a.1.1 (by simp only; omega))
    by_cases a2 : s0 ≤ s1
    · simp -dsimp -implicitDefEqProofs (disch := first | omega | assumption) [Int.natCast_inj, wrap_i64, h2, gx, a1, a2, hm1, hm2]
      exact no (bad fun a => absurd a.1.2.1 (by simp only; omega))
    by_cases a3 : 1073741824 < s0
    · simp -dsimp -implicitDefEqProofs (disch := first | omega | assumption) [Int.natCast_inj, wrap_i64, h2, gx, a1, a2, a3, hm1, hm2]
      exact no (bad fun a => absurd a.1.2.2.1 (by simp only; omega))
    by_cases a4 : 1073741824 < s2
    · simp -dsimp -implicitDefEqProofs (disch := first | omega | assumption) [Int.natCast_inj, wrap_i64, h2, gx, a1, a2, a3, a4, hm1, hm2]
      exact no (bad fun a => absurd a.1.2.2.2.1 (by simp only; omega))
    by_cases a5 : 1073741824 < s3
    · simp -dsimp -implicitDefEqProofs (disch := first | omega | assumption) [Int.natCast_inj, wrap_i64, h2, gx, a1, a2, a3, a4, a5, hm1, hm2]
      exact no (bad fun a => absurd a.1.2.2.2.2.1 (by simp only; omega))
    by_cases a6 : 1073741824 < s4
    · simp -dsimp -implicitDefEqProofs (disch := first | omega | assumption) [Int.natCast_inj, wrap_i64, h2, gx, a1, a2, a3, a4, a5, a6, hm1, hm2]
      exact no (bad fun a => absurd a.1.2.2.2.2.2 (by simp only; omega))
    by_cases b1 : s2 < l2
    · simp -dsimp -implicitDefEqProofs (disch := first | omega | assumption) [Int.natCast_inj, wrap_i64, h2, gx, a1, a2, a3, a4, a5, a6, b1, hm1, hm2]
      exact no (bad fun a => absurd a.2.1.1 (by simp only; omega))
    by_cases b2 : s3 < l3
    · simp -dsimp -implicitDefEqProofs (disch := first | omega | assumption) [Int.natCast_inj, wrap_i64, h2, gx, a1, a2, a3, a4, a5, a6, b1, b2, hm1, hm2]
      exact no (bad fun a => absurd a.2.1.2.1 (by simp only; omega))
    by_cases b3 : s4 < l4
    · simp -dsimp -implicitDefEqProofs (disch := first | omega | assumption) [Int.natCast_inj, wrap_i64, h2, gx, a1, a2, a3, a4, a5, a6, b1, b2, b3, hm1, hm2]
      exact no (bad fun a => absurd a.2.1.2.2.1 (by simp only; omega))
    by_cases b4 : s5 < l5
    · simp -dsimp -implicitDefEqProofs (disch := first | omega | assumption) [Int.natCast_inj, wrap_i64, h2, gx, a1, a2, a3, a4, a5, a6, b1, b2, b3, b4, hm1, hm2]
      exact no (bad fun a => absurd a.2.1.2.2.2 (by simp only; omega))
    by_cases b5 : sh < 0
    · simp -dsimp -implicitDefEqProofs (disch := first | omega | assumption) [Int.natCast_inj, wrap_i64, h2, gx, a1, a2, a3, a4, a5, a6, b1, b2, b3, b4, hsh, b5, hm1, hm2]
      exact no (bad fun a => absurd a.2.2.1 (by rw [← hshe]; omega))
    by_cases b6 : 8 < ms.length
    · have b6' : (8 : Int) < ms.length := by omega
      simp -dsimp -implicitDefEqProofs (disch := first | omega | assumption) [Int.natCast_inj, wrap_i64, h2, gx, a1, a2, a3, a4, a5, a6, b1, b2, b3, b4, hsh, b5, b6, b6', hm1, hm2]
      exact no (bad fun a => absurd a.2.2.2.1 (by simp only; omega))
    have b6' : ¬ (8 : Int) < ms.length := by omega
    simp -dsimp -implicitDefEqProofs (disch := first | omega | assumption) [Int.natCast_inj, wrap_i64, h2, gx, a1, a2, a3, a4, a5, a6, b1, b2, b3, b4, hsh, b5, b6, b6', hm1, hm2]
    generalize hz : loopT _ _ _ _ _ _ = z
    revert z
    refine loop_any (σ := Nat) (fun k => [(1, .ptr 0 0), (7, .ptr 1 0), (8, .d (.int .i64 i)), (9, .ptr 2 0), (10, .d (.int .i64 k))]) (fun k => [.box t.v, .box [.d (.int .u64 l0), .d (.int .u64 l1), .d (.int .u64 l2), .d (.int .u64 l3), .d (.int .u64 l4), .d (.int .u32 l5), mv], .box [.d (.int .u64 s0), .d (.int .u64 s1), .d (.int .u64 s2), .d (.int .u64 s3), .d (.int .u64 s4), .d (.int .u32 s5), .d (.list (ms.map .str))]]) (fun k => k ≤ ms.length ∧ ∀ a m, a < k → ms[a]? = some m → nm12 m = true ∧ ∀ j, j < a → ms[j]? ≠ some m) (fun k => ms.length - k) 0 ?_ ?_ ?_
    · exact ⟨Nat.zero_le _, fun a m ha => by omega⟩
    · simp -dsimp -implicitDefEqProofs (disch := first | omega | assumption) [hm1, hm2]
    intro T6 f6 hT6 k ⟨hk, hkok⟩ ih6
    by_cases h3 : k < ms.length
    · obtain ⟨m, hme⟩ : ∃ m, m = ms[k] := ⟨_, rfl⟩
      have gm := hme.symm
      have gm? : ms[k]? = some m := by rw [List.getElem?_eq_getElem h3, gm]
      have hnm := nm12_runs m
      obtain ⟨nb, hnb⟩ : ∃ b, b = nm12 m := ⟨_, rfl⟩
      rw [← hnb] at hnm
      cases nb with
      | false =>
        subst hT6
        simp -dsimp -implicitDefEqProofs (disch := first | omega | assumption) [Int.natCast_inj, wrap_i64, h3, gm, hnm, hm1, hm2]
        refine no (bad fun a => ?_)
        have := (a.2.2.2.2 k m gm?).1
        rw [← hnb] at this
        cases this
      | true =>
        simp -dsimp -implicitDefEqProofs (disch := first | omega | assumption) [Int.natCast_inj, wrap_i64, h3, gm, hnm, hm1, hm2]
        generalize hz : loopT _ _ _ _ _ _ = z
        revert z
        refine loop_any (σ := Nat) (fun j => [(1, .ptr 0 0), (7, .ptr 1 0), (8, .d (.int .i64 i)), (9, .ptr 2 0), (10, .d (.int .i64 k)), (11, .d (.int .i64 j))]) (fun j => [.box t.v, .box [.d (.int .u64 l0), .d (.int .u64 l1), .d (.int .u64 l2), .d (.int .u64 l3), .d (.int .u64 l4), .d (.int .u32 l5), mv], .box [.d (.int .u64 s0), .d (.int .u64 s1), .d (.int .u64 s2), .d (.int .u64 s3), .d (.int .u64 s4), .d (.int .u32 s5), .d (.list (ms.map .str))]]) (fun j => j ≤ k ∧ ∀ b, b < j → ms[b]? ≠ some m) (fun j => k - j) 0 ?_ ?_ ?_
        · exact ⟨Nat.zero_le _, fun b hb => by omega⟩
        · simp -dsimp -implicitDefEqProofs (disch := first | omega | assumption) [hm1, hm2]
        intro T8 f8 hT8 j ⟨hj, hjok⟩ ih8
        by_cases h4 : j < k
        · have hjl : j < ms.length := by omega
          obtain ⟨y, hye⟩ : ∃ y, y = ms[j] := ⟨_, rfl⟩
          have gy := hye.symm
          have gy? : ms[j]? = some y := by rw [List.getElem?_eq_getElem hjl, gy]
          by_cases e : y = m
          · subst e
            subst hT8
            subst hT6
            simp -dsimp -implicitDefEqProofs (disch := first | omega | assumption) [Int.natCast_inj, wrap_i64, h4, h3, hjl, gm, gy, hm1, hm2]
            exact no (bad fun a => (a.2.2.2.2 k _ gm?).2 j h4 gy?)
          · simp -dsimp -implicitDefEqProofs (disch := first | omega | assumption) [Int.natCast_inj, wrap_i64, h4, h3, hjl, gm, gy, strS_beq, e, hm1, hm2]
            refine ih8 (j + 1) _ _ ⟨h4, fun b hb => ?_⟩ (by omega) (by simp -dsimp -implicitDefEqProofs (disch := first | omega | assumption) [hm1, hm2])
            by_cases c : b = j
            · subst c
              rw [gy?]
              intro h
              exact e (Option.some.inj h)
            · exact hjok b (by omega)
        · obtain rfl : j = k := by omega
          subst hT8
          simp -dsimp -implicitDefEqProofs (disch := first | omega | assumption) [Int.natCast_inj, wrap_i64, h4, hm1, hm2]
          refine ih6 (j + 1) _ _ ⟨h3, fun a x ha hx => ?_⟩ (by omega) (by simp -dsimp -implicitDefEqProofs (disch := first | omega | assumption) [hm1, hm2])
          by_cases c : a = j
          · subst c
            rw [gm?] at hx
            cases hx
            exact ⟨hnb.symm, hjok⟩
          · exact hkok a x (by omega) hx
    · obtain rfl : k = ms.length := by omega
      subst hT6
      simp -dsimp -implicitDefEqProofs (disch := first | omega | assumption) [Int.natCast_inj, wrap_i64, h3, hm1, hm2]
      have hgood : snapOk1 t.schemas ⟨l0, l1, l2, l3, l4, l5, l6⟩ ⟨s0, s1, s2, s3, s4, s5, ms⟩ := ⟨⟨by simp only; omega, by simp only; omega, by simp only; omega, by simp only; omega, by simp only; omega, by simp only; omega⟩, ⟨by simp only; omega, by simp only; omega, by simp only; omega, by simp only; omega⟩, by rw [← hshe]; omega, by simp only; omega, fun a x hx => hkok a x (List.getElem?_eq_some_iff.1 hx).1 hx⟩
      refine ih (i + 1, ⟨s0, s1, s2, s3, s4, s5, ms⟩, .d (.list (ms.map .str))) _ _ ⟨h2, ⟨rfl, fun _ => rfl⟩, ⟨fun a => (hs.1 a).2, fun a => hs.2 ⟨hgood, a⟩⟩, hl⟩ (by simp only; omega) (by simp -dsimp -implicitDefEqProofs (disch := first | omega | assumption) [hm1, hm2])
  · have hd : t.snaps.drop i = [] := List.drop_of_length_le (by omega)
    rw [hd] at hs hl
    subst hT4
    by_cases c : t.current = l0
    · simp -dsimp -implicitDefEqProofs (disch := first | omega | assumption) [Int.natCast_inj, wrap_i64, h2, c, hm1, hm2]
      refine fin true ⟨fun _ => base.2 ⟨hs.2 trivial, ?_⟩, fun _ => rfl⟩
      rw [hl]; exact c
    · simp -dsimp -implicitDefEqProofs (disch := first | omega | assumption) [Int.natCast_inj, wrap_i64, h2, c, hm1, hm2]
      refine no fun a => c ?_
      have := (base.1 a).2
      rw [hl] at this
      exact this
end Go.Am.Ab
