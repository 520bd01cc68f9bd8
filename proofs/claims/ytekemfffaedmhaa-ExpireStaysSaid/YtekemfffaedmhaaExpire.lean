/- Which snapshots go. -/
import Derived.Test.YtekemfffaedmhaaBase
set_option linter.all false
namespace Go.Am.Ab
open Go.Proofs
set_option maxHeartbeats 2000000

theorem ids_runs (a b : List Int) (ha : a.length < 4611686018427387904) : R 15 [.d (.list (a.map u64)), .d (.list (b.map u64))] [] = some ([.d (.bool (decide (a = b)))], []) := by
  refine run_goal (rs := [.tmp 4]) (ts := [4]) Try.func15 (c := _) rfl rfl rfl (by kernel_rfl) (by kernel_rfl) (.inl sp_15) (by simp [Try.f15]) ?_
  intro T hT
  simp -dsimp -implicitDefEqProofs (disch := first | omega | assumption) [startSlots, Int.natCast_inj, wrap_i64]
  repeat' ((with_reducible refine cond_any ?_ ?_) <;> intro c <;> (try simp only [decide_eq_true_eq, decide_eq_false_iff_not] at c) <;> (try simp -dsimp -implicitDefEqProofs (disch := first | omega | assumption) [c, Int.natCast_inj, wrap_i64]))
  · generalize hz : loopT _ _ _ _ _ _ = z
    revert z
    refine loop_any (σ := Nat) (fun i => [(0, .d (.list (a.map u64))), (1, .d (.list (b.map u64))), (5, .d (.int .i64 i))]) (fun _ => []) (fun i => i ≤ a.length ∧ a.take i = b.take i) (fun i => a.length - i) 0 ?_ ?_ ?_
    · simp
    · simp
    · intro T' f hT' i ⟨hi, he⟩ ih
      simp -dsimp -implicitDefEqProofs (disch := first | omega | assumption) [Int.natCast_inj, wrap_i64]
      repeat' ((with_reducible refine cond_any ?_ ?_) <;> intro c <;> (try simp only [decide_eq_true_eq, decide_eq_false_iff_not] at c) <;> (try simp -dsimp -implicitDefEqProofs (disch := first | omega | assumption) [c, Int.natCast_inj, wrap_i64]))
      · refine ih (i + 1) _ _ ⟨by omega, ?_⟩ (by omega) ?_
        · rw [List.take_add_one, List.take_add_one, he]
          simp [c, show i < a.length by omega, show i < b.length by omega]
        · simp -dsimp -implicitDefEqProofs (disch := first | omega | assumption) [Int.natCast_inj, wrap_i64, wrap_i64]
      · subst hT'
        have : a ≠ b := by rintro rfl; exact c rfl
        simpa -dsimp -implicitDefEqProofs (disch := first | omega | assumption) [Int.natCast_inj, wrap_i64, this] using hT
      · subst hT'
        have : a = b := by rw [List.take_of_length_le (by omega), List.take_of_length_le (by omega)] at he; exact he
        simpa -dsimp -implicitDefEqProofs (disch := first | omega | assumption) [Int.natCast_inj, wrap_i64, this] using hT
  · have : a ≠ b := by rintro rfl; exact c rfl
    simpa -dsimp -implicitDefEqProofs (disch := first | omega | assumption) [Int.natCast_inj, wrap_i64, this] using hT

def Snap.v (s : Snap) : List V := [.d (.int .u64 s.id), .d (.int .u64 s.parent), .d (.int .u64 s.seq), .d (.int .u64 s.offset), .d (.int .u64 s.time), .d (.int .u32 s.schema), .d (.list (s.mans.map .str))]
def Tab.v (t : Tab) : List V := [.d (.list (t.schemas.map Sch.d)), .d (.list (t.snaps.map Snap.d)), .d (.int .u64 t.current)]
def Sch.v (s : Sch) : List V := [.d (.int .u32 s.id), .d (.list (s.fields.map Fld.d))]
def Pol.v (p : Pol) : List V := [.d (.int .i64 p.keep), .d (.int .u64 p.age)]
attribute [simp] Snap.v Tab.v Sch.v Pol.v

theorem greatSnap_runs (s : Snap) : Tells (fun _ => True) (R 37 [.d s.d] []) := by
  refine run_any (rs := [.tmp 2]) (ts := [4]) Try.func37 (c := _) rfl rfl rfl (by kernel_rfl) (by kernel_rfl) (.inl sp_37) (by simp [Try.f37]) not_tells ?_
  simp -dsimp -implicitDefEqProofs (disch := first | omega | assumption) [startSlots, Int.natCast_inj, wrap_i64]
  generalize hz : loopT _ _ _ _ _ _ = z
  revert z
  refine loop_any (σ := Nat) (fun i => [(1, .ptr 0 0), (3, .d (.int .i64 i))]) (fun _ => [.box s.v]) (fun i => i ≤ 50) (fun i => 50 - i) 0 ?_ ?_ ?_
  · simp
  · simp
  · intro T f hT i hi ih
    simp -dsimp -implicitDefEqProofs (disch := first | omega | assumption) [Int.natCast_inj, wrap_i64]
    repeat' ((with_reducible refine cond_any ?_ ?_) <;> intro c <;> (try simp only [decide_eq_true_eq, decide_eq_false_iff_not] at c) <;> (try simp -dsimp -implicitDefEqProofs (disch := first | omega | assumption) [c, Int.natCast_inj, wrap_i64]))
    all_goals first | (subst hT; simp; done) | (refine ih (i + 1) _ _ (by omega) (by omega) ?_; simp (disch := omega) [wrap_i64])

theorem greatSch_runs (s : Sch) : Tells (fun _ => True) (R 36 [.d s.d] []) := by
  refine run_any (rs := [.tmp 2]) (ts := [4]) Try.func36 (c := _) rfl rfl rfl (by kernel_rfl) (by kernel_rfl) (.inl sp_36) (by simp [Try.f36]) not_tells ?_
  simp -dsimp -implicitDefEqProofs (disch := first | omega | assumption) [startSlots, Int.natCast_inj, wrap_i64]
  generalize hz : loopT _ _ _ _ _ _ = z
  revert z
  refine loop_any (σ := Nat × Int) (fun x => [(1, .ptr 0 0), (3, .d (.int .i64 x.2)), (4, .d (.int .i64 x.1))]) (fun _ => [.box s.v]) (fun x => x.1 ≤ 100) (fun x => 100 - x.1) (0, 0) ?_ ?_ ?_
  · simp
  · simp
  · intro T f hT ⟨i, n⟩ hi ih
    simp only at hi ih
    simp -dsimp -implicitDefEqProofs (disch := first | omega | assumption) [Int.natCast_inj, wrap_i64]
    repeat' ((with_reducible refine cond_any ?_ ?_) <;> intro c <;> (try simp only [decide_eq_true_eq, decide_eq_false_iff_not] at c) <;> (try simp -dsimp -implicitDefEqProofs (disch := first | omega | assumption) [c, Int.natCast_inj, wrap_i64]))
    · refine ih (i + 1, _) _ _ (by simp only; omega) (by simp only; omega) (by simp (disch := omega) [wrap_i64]; rfl)
    all_goals
      subst hT
      simp
      repeat' ((with_reducible refine cond_any ?_ ?_) <;> intro c <;> (try simp only [decide_eq_true_eq, decide_eq_false_iff_not] at c) <;> (try simp -dsimp -implicitDefEqProofs (disch := first | omega | assumption) [c, Int.natCast_inj, wrap_i64]))
      all_goals first | omega | simp

theorem great_runs (t : Tab) : Tells (fun b => b = false → t.snaps.length ≤ 100) (R 14 [.d t.d] []) := by
  refine run_any (rs := [.tmp 2]) (ts := [4]) Try.func14 (c := _) rfl rfl rfl (by kernel_rfl) (by kernel_rfl) (.inl sp_14) (by simp [Try.f14]) not_tells ?_
  simp -dsimp -implicitDefEqProofs (disch := first | omega | assumption) [startSlots, Int.natCast_inj, wrap_i64]
  repeat' ((with_reducible refine cond_any ?_ ?_) <;> intro c <;> (try simp only [decide_eq_true_eq, decide_eq_false_iff_not] at c) <;> (try simp -dsimp -implicitDefEqProofs (disch := first | omega | assumption) [c, Int.natCast_inj, wrap_i64]))
  all_goals try simp
  generalize hz : loopT _ _ _ _ _ _ = z
  revert z
  refine loop_any (σ := Nat) (fun i => [(1, .ptr 0 0), (3, .d (.int .i64 i))]) (fun _ => [.box t.v]) (fun i => i ≤ t.schemas.length) (fun i => t.schemas.length - i) 0 ?_ ?_ ?_
  · simp
  · simp
  intro T hf hT i hi ih
  by_cases h1 : i < t.schemas.length
  · obtain ⟨b, hb, -⟩ := greatSch_runs t.schemas[i]
    simp only [Sch.d] at hb
    cases b with
    | true =>
      simp -dsimp -implicitDefEqProofs (disch := first | omega | assumption) [Int.natCast_inj, wrap_i64, h1, hb]
      subst hT
      simp
    | false =>
      simp -dsimp -implicitDefEqProofs (disch := first | omega | assumption) [Int.natCast_inj, wrap_i64, h1, hb]
      refine ih (i + 1) _ _ (by omega) (by omega) ?_
      simp -dsimp -implicitDefEqProofs (disch := first | omega | assumption) [wrap_i64]
  simp -dsimp -implicitDefEqProofs (disch := first | omega | assumption) [Int.natCast_inj, wrap_i64, h1]
  subst hT
  simp -dsimp -implicitDefEqProofs (disch := first | omega | assumption) [Int.natCast_inj, wrap_i64]
  generalize hz : loopT _ _ _ _ _ _ = z
  revert z
  refine loop_any (σ := Nat) (fun i => [(1, .ptr 0 0), (4, .d (.int .i64 i))]) (fun _ => [.box t.v]) (fun i => i ≤ t.snaps.length) (fun i => t.snaps.length - i) 0 ?_ ?_ ?_
  · simp
  · simp
  intro T hf hT i hi ih
  by_cases h1 : i < t.snaps.length
  · obtain ⟨b, hb, -⟩ := greatSnap_runs t.snaps[i]
    simp only [Snap.d] at hb
    cases b with
    | true =>
      simp -dsimp -implicitDefEqProofs (disch := first | omega | assumption) [Int.natCast_inj, wrap_i64, h1, hb]
      subst hT
      simp
    | false =>
      simp -dsimp -implicitDefEqProofs (disch := first | omega | assumption) [Int.natCast_inj, wrap_i64, h1, hb]
      refine ih (i + 1) _ _ (by omega) (by omega) ?_
      simp -dsimp -implicitDefEqProofs (disch := first | omega | assumption) [wrap_i64]
  simp -dsimp -implicitDefEqProofs (disch := first | omega | assumption) [Int.natCast_inj, wrap_i64, h1]
  subst hT
  simp
  omega

/-- Does the snapshot s go, the number i of n? -/
def goes (keep age time : Int) (n i : Nat) (s : Snap) : Bool := decide (max 1 keep < (n : Int) - i) && (decide (s.time < time) && decide (age < time - s.time))
def picks (keep age time : Int) (l : List Snap) : Nat → List Int
  | 0 => []
  | i + 1 => picks keep age time l i ++ (match l[i]? with | some s => if goes keep age time l.length i s then [s.id] else [] | none => [])
theorem picks_len (keep age time : Int) (l : List Snap) : ∀ i, (picks keep age time l i).length ≤ i
  | 0 => Nat.le_refl _
  | i + 1 => by
    have := picks_len keep age time l i
    simp only [picks, List.length_append]
    cases l[i]? with
    | none => simp; omega
    | some s => simp only; split <;> simp <;> omega
theorem picks_some {keep age time : Int} {l : List Snap} {i : Nat} (h : i < l.length) : picks keep age time l (i + 1) = picks keep age time l i ++ (if goes keep age time l.length i l[i] then [l[i].id] else []) := by
  simp [picks, h]
theorem picks_no {keep age time : Int} {l : List Snap} {i : Nat} (h : i < l.length) (hg : goes keep age time l.length i l[i] = false) : picks keep age time l (i + 1) = picks keep age time l i := by
  rw [picks_some h, hg]; simp
theorem picks_yes {keep age time : Int} {l : List Snap} {i : Nat} (h : i < l.length) (hg : goes keep age time l.length i l[i] = true) : picks keep age time l (i + 1) = picks keep age time l i ++ [l[i].id] := by
  rw [picks_some h, hg]; simp

theorem which_runs (t : Tab) (p : Pol) (time : Int) (hn : t.snaps.length ≤ 1000000) (ht : ∀ s ∈ t.snaps, 0 ≤ s.time) (h0 : 0 ≤ time ∧ time ≤ 18446744073709551615) :
    R 16 [.d t.d, .d p.d, .d (.int .u64 time)] [] = some ([.arr 0 (picks p.keep p.age time t.snaps t.snaps.length).length], [.arr 1 ((picks p.keep p.age time t.snaps t.snaps.length).map u64) 0]) := by
  obtain ⟨k, hk⟩ : ∃ k : Int, k = max 1 p.keep := ⟨_, rfl⟩
  have hmax' : (if 1 < p.keep then p.keep else 1) = k := by rw [hk]; split <;> omega
  refine run_goal (rs := [.tmp 6]) (ts := [32]) Try.func16 (c := _) rfl rfl rfl (by kernel_rfl) (by kernel_rfl) (.inl sp_16) (by simp [Try.f16]) ?_
  intro T hT
  simp -dsimp -implicitDefEqProofs (disch := first | omega | assumption) [startSlots, Int.natCast_inj, wrap_i64, hmax']
  generalize hz : loopT _ _ _ _ _ _ = z
  revert z
  refine loop_any (σ := Nat) (fun i => [(2, .d (.int .u64 time)), (3, .ptr 0 0), (4, .ptr 1 0), (7, .d (.int .i64 k)), (8, .arr 2 (picks p.keep p.age time t.snaps i).length), (16, .d (.list (t.snaps.map Snap.d))), (17, .d (.int .i64 t.snaps.length)), (18, .d (.int .i64 i))]) (fun i => [.box t.v, .box p.v, .arr 1 ((picks p.keep p.age time t.snaps i).map u64) 0]) (fun i => i ≤ t.snaps.length) (fun i => t.snaps.length - i) 0 ?_ ?_ ?_
  · simp
  · simp [picks]
  intro T' f hT' i hi ih
  by_cases h1 : i < t.snaps.length
  · have ht' := ht t.snaps[i] (by simp)
    have hpl := picks_len p.keep p.age time t.snaps i
    simp -dsimp -implicitDefEqProofs (disch := first | omega | assumption) [Int.natCast_inj, wrap_i64, h1, wrap_i64]
    repeat' ((with_reducible refine cond_any ?_ ?_) <;> intro c <;> (try simp only [decide_eq_true_eq, decide_eq_false_iff_not] at c) <;> (try simp -dsimp -implicitDefEqProofs (disch := first | omega | assumption) [c, Int.natCast_inj, wrap_i64, wrap_u64, wrap_i64]))
    · have hp := picks_no (keep := p.keep) (age := p.age) (time := time) h1 (by simp only [goes, Bool.and_eq_false_iff, decide_eq_false_iff_not]; omega)
      refine ih (i + 1) _ _ (by omega) (by omega) (by simp -dsimp -implicitDefEqProofs (disch := first | omega | assumption) [hp])
    · have hp := picks_no (keep := p.keep) (age := p.age) (time := time) h1 (by simp only [goes, Bool.and_eq_false_iff, decide_eq_false_iff_not]; omega)
      refine ih (i + 1) _ _ (by omega) (by omega) (by simp -dsimp -implicitDefEqProofs (disch := first | omega | assumption) [hp])
    · have hp := picks_no (keep := p.keep) (age := p.age) (time := time) h1 (by simp only [goes, Bool.and_eq_false_iff, decide_eq_false_iff_not]; omega)
      refine ih (i + 1) _ _ (by omega) (by omega) (by simp -dsimp -implicitDefEqProofs (disch := first | omega | assumption) [hp])
    · have hp := picks_yes (keep := p.keep) (age := p.age) (time := time) h1 (by simp only [goes, Bool.and_eq_true, decide_eq_true_eq]; omega)
      refine ih (i + 1) _ _ (by omega) (by omega) (by simp -dsimp -implicitDefEqProofs (disch := first | omega | assumption) [hp])
    · have hp := picks_no (keep := p.keep) (age := p.age) (time := time) h1 (by simp only [goes, Bool.and_eq_false_iff, decide_eq_false_iff_not]; omega)
      refine ih (i + 1) _ _ (by omega) (by omega) (by simp -dsimp -implicitDefEqProofs (disch := first | omega | assumption) [hp])
  have he : i = t.snaps.length := by omega
  subst he
  simp -dsimp -implicitDefEqProofs (disch := first | omega | assumption) [Int.natCast_inj, wrap_i64]
  subst hT'
  simpa -dsimp -implicitDefEqProofs (disch := first | omega | assumption) [Int.natCast_inj, wrap_i64] using hT
end Go.Am.Ab
namespace Go.Am.Ab
open Go.Proofs
set_option maxHeartbeats 2000000

theorem rwhich_runs (t : Tab) (keep age time : Int) (hn : t.snaps.length ≤ 1000000) (ht : ∀ s ∈ t.snaps, 0 ≤ s.time) (h0 : 0 ≤ time ∧ time ≤ 18446744073709551615) :
    R 17 [.d t.d, .d (.int .i64 keep), .d (.int .u64 age), .d (.int .u64 time)] [] = some ([.arr 0 (picks keep age time t.snaps t.snaps.length).length], [.arr 1 ((picks keep age time t.snaps t.snaps.length).map u64) 0]) := by
  refine run_goal (rs := [.tmp 8]) (ts := [32]) Try.func17 (c := _) rfl rfl rfl (by kernel_rfl) (by kernel_rfl) (.inl sp_17) (by simp [Try.f17]) ?_
  intro T hT
  simp -dsimp -implicitDefEqProofs (disch := first | omega | assumption) [startSlots, Int.natCast_inj, wrap_i64]
  generalize hz : loopT _ _ _ _ _ _ = z
  revert z
  refine loop_any (σ := Nat) (fun i => [(1, .d (.int .i64 keep)), (2, .d (.int .u64 age)), (3, .d (.int .u64 time)), (4, .ptr 0 0), (9, .arr 1 (picks keep age time t.snaps i).length), (10, .d (.int .i64 i))]) (fun i => [.box t.v, .arr 1 ((picks keep age time t.snaps i).map u64) 0]) (fun i => i ≤ t.snaps.length) (fun i => t.snaps.length - i) 0 ?_ ?_ ?_
  · simp
  · simp [picks]
  intro T' f hT' i hi ih
  by_cases h1 : i < t.snaps.length
  · have ht' := ht t.snaps[i] (by simp)
    have hpl := picks_len keep age time t.snaps i
    have hw1 : IntKind.i64.wrap ((t.snaps.length : Int) - 1) = (t.snaps.length : Int) - 1 := wrap_i64 (by omega) (by omega)
    have hw2 : IntKind.i64.wrap ((t.snaps.length : Int) - 1 - i) = (t.snaps.length : Int) - 1 - i := wrap_i64 (by omega) (by omega)
    simp -dsimp -implicitDefEqProofs (disch := first | omega | assumption) [Int.natCast_inj, wrap_i64, h1, hw1, hw2, wrap_i64]
    repeat' ((with_reducible refine cond_any ?_ ?_) <;> intro c <;> (try simp only [decide_eq_true_eq, decide_eq_false_iff_not] at c) <;> (try simp -dsimp -implicitDefEqProofs (disch := first | omega | assumption) [c, Int.natCast_inj, wrap_i64, wrap_u64, wrap_i64]))
    all_goals first
      | (have hp := picks_no (keep := keep) (age := age) (time := time) h1 (by simp only [goes, Bool.and_eq_false_iff, decide_eq_false_iff_not]; omega)
         refine ih (i + 1) _ _ (by omega) (by omega) (by simp -dsimp -implicitDefEqProofs (disch := first | omega | assumption) [hp, wrap_i64]); done)
      | (have hp := picks_yes (keep := keep) (age := age) (time := time) h1 (by simp only [goes, Bool.and_eq_true, decide_eq_true_eq]; omega)
         refine ih (i + 1) _ _ (by omega) (by omega) (by simp -dsimp -implicitDefEqProofs (disch := first | omega | assumption) [hp, wrap_i64]); done)
  have he : i = t.snaps.length := by omega
  subst he
  simp -dsimp -implicitDefEqProofs (disch := first | omega | assumption) [Int.natCast_inj, wrap_i64]
  subst hT'
  simpa -dsimp -implicitDefEqProofs (disch := first | omega | assumption) [Int.natCast_inj, wrap_i64] using hT

def ex : Tab := ⟨[], [⟨1, 0, 0, 0, 1, 0, []⟩, ⟨2, 0, 0, 0, 5, 0, []⟩, ⟨3, 0, 0, 0, 9, 0, []⟩], 3⟩
theorem ex_times : ∀ s ∈ ex.snaps, 0 ≤ s.time := by simp [ex]

theorem alive20 : R 13 [] [] = some ([.d (.bool true)], []) := by
  have a := which_runs ex ⟨1, 4⟩ 9 (by decide) ex_times (by decide)
  have b := which_runs ex ⟨1, 4⟩ 10 (by decide) ex_times (by decide)
  have c := which_runs ex ⟨2, 0⟩ 10 (by decide) ex_times (by decide)
  have d := which_runs ex ⟨0, 18446744073709551615⟩ 99 (by decide) ex_times (by decide)
  have pa : picks 1 4 9 ex.snaps ex.snaps.length = [1] := by decide
  have pb : picks 1 4 10 ex.snaps ex.snaps.length = [1, 2] := by decide
  have pc : picks 2 0 10 ex.snaps ex.snaps.length = [1] := by decide
  have pd : picks 0 18446744073709551615 99 ex.snaps ex.snaps.length = [] := by decide
  simp only [pa, pb, pc, pd] at a b c d
  simp [ex] at a b c d
  have e1 := ids_runs [1] [1] (by decide)
  have e2 := ids_runs [1, 2] [1, 2] (by decide)
  simp at e1 e2
  refine run_goal (rs := [.tmp 0]) (ts := [4]) Try.func13 (c := _) rfl rfl rfl (by kernel_rfl) (by kernel_rfl) (.inl sp_13) (by simp [Try.f13]) ?_
  intro T hT
  simp -dsimp -implicitDefEqProofs (disch := first | omega | assumption) [startSlots, Int.natCast_inj, wrap_i64, a, b, c, d, e1, e2]
  simpa -dsimp -implicitDefEqProofs (disch := first | omega | assumption) [Int.natCast_inj, wrap_i64] using hT

theorem expireWhich_runs (t : Tab) (p : Pol) (time : Int) (ht : ∀ s ∈ t.snaps, 0 ≤ s.time) (h0 : 0 ≤ time ∧ time ≤ 18446744073709551615) : R 3 [.d t.d, .d p.d, .d (.int .u64 time)] [] = some ([.d (.bool true)], []) := by
  have a := alive20
  obtain ⟨b, hb, hl⟩ := great_runs t
  cases b with
  | true =>
    simp only [Tab.d] at hb
    refine run_goal (rs := [.tmp 6]) (ts := [4]) Try.func3 (c := _) rfl rfl rfl (by kernel_rfl) (by kernel_rfl) (.inl sp_3) (by simp [Try.f3]) ?_
    intro T hT
    simp -dsimp -implicitDefEqProofs (disch := first | omega | assumption) [startSlots, Int.natCast_inj, wrap_i64, a, hb]
    simpa -dsimp -implicitDefEqProofs (disch := first | omega | assumption) [Int.natCast_inj, wrap_i64] using hT
  | false =>
    have hn := hl rfl
    have w1 := which_runs t p time (by omega) ht h0
    have w2 := rwhich_runs t p.keep p.age time (by omega) ht h0
    have hp := picks_len p.keep p.age time t.snaps t.snaps.length
    have e := ids_runs (picks p.keep p.age time t.snaps t.snaps.length) (picks p.keep p.age time t.snaps t.snaps.length) (by omega)
    simp only [Tab.d, Pol.d, decide_true] at hb w1 w2 e
    refine run_goal (rs := [.tmp 6]) (ts := [4]) Try.func3 (c := _) rfl rfl rfl (by kernel_rfl) (by kernel_rfl) (.inl sp_3) (by simp [Try.f3]) ?_
    intro T hT
    simp -dsimp -implicitDefEqProofs (disch := first | omega | assumption) [startSlots, Int.natCast_inj, wrap_i64, a, hb, w1, w2, e]
    simpa -dsimp -implicitDefEqProofs (disch := first | omega | assumption) [Int.natCast_inj, wrap_i64] using hT
end Go.Am.Ab
