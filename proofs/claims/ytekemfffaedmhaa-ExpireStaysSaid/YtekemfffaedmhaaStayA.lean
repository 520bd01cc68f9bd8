/- Names: the document. -/
import Derived.Test.YtekemfffaedmhaaBase
import Derived.Test.YtekemfffaedmhaaExpire
set_option linter.all false
namespace Go.Am.Ab
open Go.Proofs
set_option maxHeartbeats 4000000
set_option maxRecDepth 4000

def SignR (n : Nat) (r : Option (List V × List Obj)) : Prop := ∃ (a : Int) (k : Nat) (c : Bool), r = some ([.d (.int .i64 a), .d (.int .i64 k), .d (.bool c)], []) ∧ 1 ≤ k ∧ k ≤ n
theorem not_signR {n : Nat} : ¬ SignR n none := fun ⟨_, _, _, h, _⟩ => by cases h
theorem signR_of {n : Nat} (a : Int) (k : Nat) (c : Bool) (h1 : 1 ≤ k) (h2 : k ≤ n) : SignR n (some ([.d (.int .i64 a), .d (.int .i64 k), .d (.bool c)], [])) := ⟨a, k, c, rfl, h1, h2⟩
theorem signR_one {n : Nat} (a : Int) (c : Bool) (h2 : 1 ≤ n) : SignR n (some ([.d (.int .i64 a), .d (.int .i64 1), .d (.bool c)], [])) := ⟨a, 1, c, rfl, Nat.le_refl _, h2⟩
/-- What stands in Sign's slots when it knows how long the sign is. -/
def QSign (s : ByteArray) (z : Res) : Prop := ∃ (t : Slots) (k : Nat) (m v : Int), z = some (.normal, t, []) ∧ sget t 0 = .d (.str s) ∧ sget t 6 = .d (.int .i64 k) ∧ sget t 7 = .d (.int .i64 m) ∧ sget t 8 = .d (.int .i64 v) ∧ k ≤ 4 ∧ k ≠ 1 ∧ 0 ≤ v ∧ v ≤ 31

theorem sign_any (s : ByteArray) (h0 : 0 < s.size) (hs : s.size ≤ 1000000) : SignR s.size (R 113 [.d (.str s)] []) := by
  obtain ⟨b, hb⟩ : ∃ b, b = s[0] := ⟨_, rfl⟩
  have g0 := hb.symm
  have hb256 : b.toNat < 256 := b.toNat_lt
  have hbw : IntKind.i64.wrap (b.toNat : Int) = b.toNat := wrap_i64 (by omega) (by omega)
  by_cases h1 : b.toNat < 128
  · have h1' : (b.toNat : Int) < 128 := by omega
    refine run_any (rs := [.tmp 2, .tmp 3, .tmp 4]) (ts := [3, 3, 4]) Try.func113 (c := _) rfl rfl rfl (by kernel_rfl) (by kernel_rfl) (.inl sp_113) (by simp [Try.f113]) not_signR ?_
    simp -dsimp -implicitDefEqProofs (disch := first | omega | assumption) [startSlots, Int.natCast_inj, wrap_i64, g0, hbw, h1, h1']
    exact signR_one _ _ h0
  have h1' : ¬ (b.toNat : Int) < 128 := by omega
  refine run_any (rs := [.tmp 2, .tmp 3, .tmp 4]) (ts := [3, 3, 4]) Try.func113 (c := _) rfl rfl rfl (by kernel_rfl) (by kernel_rfl) (.inl sp_113) (by simp [Try.f113]) not_signR ?_
  simp -dsimp -implicitDefEqProofs (disch := first | omega | assumption) [startSlots, Int.natCast_inj, wrap_i64, -codeT_cond, g0, hbw]
  rw [codeT_cond]
  simp -dsimp -implicitDefEqProofs (disch := first | omega | assumption) [Int.natCast_inj, wrap_i64, -codeT_cond, -codeT_region, g0, hbw, h1, h1']
  rw [codeT_region]
  simp -dsimp -implicitDefEqProofs (disch := first | omega | assumption) [Int.natCast_inj, wrap_i64, -codeT_cond, -codeT_region, g0, hbw]
  generalize hz : seqT (codeT _ _ _ _ _ _ _ _ (Code.region 5 _ _) _ _ _) _ _ = z
  revert z
  refine cut_any (QSign s) ?_ ?_
  · by_cases a1 : (194 : Int) ≤ b.toNat
    · by_cases a2 : (b.toNat : Int) < 224
      · obtain ⟨v, hv⟩ : ∃ v, v = (b.toNat : Int) - 192 := ⟨_, rfl⟩
        have hv' := hv.symm
        simp -dsimp -implicitDefEqProofs (disch := first | omega | assumption) [Int.natCast_inj, wrap_i64, a1, a2, hv']
        exact ⟨_, 2, 128, v, rfl, by simp, by simp, by simp, by simp, by omega, by omega, by omega, by omega⟩
      · have a3 : (224 : Int) ≤ b.toNat := by omega
        by_cases a4 : (b.toNat : Int) < 240
        · obtain ⟨v, hv⟩ : ∃ v, v = (b.toNat : Int) - 224 := ⟨_, rfl⟩
          have hv' := hv.symm
          simp -dsimp -implicitDefEqProofs (disch := first | omega | assumption) [Int.natCast_inj, wrap_i64, a1, a2, a3, a4, hv']
          exact ⟨_, 3, 2048, v, rfl, by simp, by simp, by simp, by simp, by omega, by omega, by omega, by omega⟩
        · have a5 : (240 : Int) ≤ b.toNat := by omega
          by_cases a6 : (b.toNat : Int) < 245
          · obtain ⟨v, hv⟩ : ∃ v, v = (b.toNat : Int) - 240 := ⟨_, rfl⟩
            have hv' := hv.symm
            simp -dsimp -implicitDefEqProofs (disch := first | omega | assumption) [Int.natCast_inj, wrap_i64, a1, a2, a3, a4, a5, a6, hv']
            exact ⟨_, 4, 65536, v, rfl, by simp, by simp, by simp, by simp, by omega, by omega, by omega, by omega⟩
          · simp -dsimp -implicitDefEqProofs (disch := first | omega | assumption) [Int.natCast_inj, wrap_i64, a1, a2, a3, a4, a5, a6]
            exact ⟨_, 0, 0, 0, rfl, by simp, by simp, by simp, by simp, by omega, by omega, by omega, by omega⟩
    · have a3 : ¬ (224 : Int) ≤ b.toNat := by omega
      have a5 : ¬ (240 : Int) ≤ b.toNat := by omega
      simp -dsimp -implicitDefEqProofs (disch := first | omega | assumption) [Int.natCast_inj, wrap_i64, a1, a3, a5]
      exact ⟨_, 0, 0, 0, rfl, by simp, by simp, by simp, by simp, by omega, by omega, by omega, by omega⟩
  rintro _ ⟨t, k, m, v, rfl, d0, d6, d7, d8, hk4, hk1, hv0, hv31⟩
  by_cases hk0 : k = 0
  · subst hk0
    simp -dsimp -implicitDefEqProofs (disch := first | omega | assumption) [Int.natCast_inj, wrap_i64, d0, d6, d7, d8]
    exact signR_one _ _ h0
  by_cases hks : s.size < k
  · have hks' : (s.size : Int) < k := by omega
    simp -dsimp -implicitDefEqProofs (disch := first | omega | assumption) [Int.natCast_inj, wrap_i64, d0, d6, d7, d8, hk0, hks, hks']
    exact signR_one _ _ h0
  have hks' : ¬ (s.size : Int) < k := by omega
  simp -dsimp -implicitDefEqProofs (disch := first | omega | assumption) [Int.natCast_inj, wrap_i64, d0, d6, d7, d8, hk0, hks, hks']
  generalize hT0 : SignR s.size = T0
  generalize hz : loopT _ _ _ _ _ _ = z
  revert z
  refine loop_any (σ := Nat × Int) (fun x => [(0, .d (.str s)), (6, .d (.int .i64 k)), (7, .d (.int .i64 m)), (8, .d (.int .i64 x.2)), (9, .d (.int .i64 x.1))]) (fun x => []) (fun x => 1 ≤ x.1 ∧ x.1 ≤ k ∧ 0 ≤ x.2 ∧ (x.1 ≤ 1 → x.2 ≤ 31) ∧ (x.1 ≤ 2 → x.2 ≤ 2047) ∧ (x.1 ≤ 3 → x.2 ≤ 131071) ∧ x.2 ≤ 8388607) (fun x => k - x.1) (1, v) ?_ ?_ ?_
  · exact ⟨Nat.le_refl _, by simp only; omega, hv0, fun _ => hv31, fun _ => by simp only; omega, fun _ => by simp only; omega, by simp only; omega⟩
  · simp -dsimp -implicitDefEqProofs (disch := first | omega | assumption) [d0, d6, d7, d8]
  intro T' f hT' ⟨i, y⟩ ⟨i1, i2, i3, i4, i5, i6, i7⟩ ih
  simp only at i1 i2 i3 i4 i5 i6 i7 ih
  by_cases hik : i < k
  · have hil : i < s.size := by omega
    obtain ⟨c, hc⟩ : ∃ c, c = s[i] := ⟨_, rfl⟩
    have hc256 : c.toNat < 256 := c.toNat_lt
    have gc := hc.symm
    have hcw : IntKind.i64.wrap (c.toNat : Int) = c.toNat := wrap_i64 (by omega) (by omega)
    by_cases c1 : (c.toNat : Int) < 128
    · subst hT'
      simp -dsimp -implicitDefEqProofs (disch := first | omega | assumption) [Int.natCast_inj, wrap_i64, hik, hil, gc, c1]
      rw [← hT0]
      exact signR_one _ _ h0
    · by_cases c2 : (192 : Int) ≤ c.toNat
      · subst hT'
        simp -dsimp -implicitDefEqProofs (disch := first | omega | assumption) [Int.natCast_inj, wrap_i64, hik, hil, gc, c1, c2]
        rw [← hT0]
        exact signR_one _ _ h0
      · simp -dsimp -implicitDefEqProofs (disch := first | omega | assumption) [Int.natCast_inj, wrap_i64, hik, hil, gc, c1, c2, hcw]
        refine ih (i + 1, y * 64 + c.toNat - 128) _ _ ⟨by simp only; omega, by simp only; omega, by simp only; omega, fun h => by simp only at h; omega, fun h => by simp only at h ⊢; omega, fun h => by simp only at h ⊢; omega, by simp only; omega⟩ (by simp only; omega) (by simp -dsimp -implicitDefEqProofs (disch := first | omega | assumption))
  · have hik' : i = k := by omega
    subst hT'
    by_cases e1 : y < m
    · simp -dsimp -implicitDefEqProofs (disch := first | omega | assumption) [Int.natCast_inj, wrap_i64, hik, e1]
      rw [← hT0]
      exact signR_one _ _ h0
    · by_cases e2 : 1114111 < y
      · simp -dsimp -implicitDefEqProofs (disch := first | omega | assumption) [Int.natCast_inj, wrap_i64, hik, e1, e2]
        rw [← hT0]
        exact signR_one _ _ h0
      · by_cases e3 : 55296 ≤ y
        · by_cases e4 : y < 57344
          · simp -dsimp -implicitDefEqProofs (disch := first | omega | assumption) [Int.natCast_inj, wrap_i64, hik, e1, e2, e3, e4]
            rw [← hT0]
            exact signR_one _ _ h0
          · simp -dsimp -implicitDefEqProofs (disch := first | omega | assumption) [Int.natCast_inj, wrap_i64, hik, e1, e2, e3, e4]
            rw [← hT0]
            exact signR_of _ k _ (by omega) (by omega)
        · simp -dsimp -implicitDefEqProofs (disch := first | omega | assumption) [Int.natCast_inj, wrap_i64, hik, e1, e2, e3]
          rw [← hT0]
          exact signR_of _ k _ (by omega) (by omega)
end Go.Am.Ab
namespace Go.Am.Ab
open Go.Proofs
set_option maxHeartbeats 4000000
set_option maxRecDepth 4000

abbrev is64 (l : List Int) : List D := l.map fun n => D.int .i64 n
def SignsR (r : Option (List V × List Obj)) : Prop := ∃ (a b : List Int) (c : Bool), r = some ([.arr 0 a.length, .arr 1 b.length, .d (.bool c)], [.arr 1 (is64 a) 0, .arr 1 (is64 b) 0]) ∧ a.length ≤ 1000000
theorem not_signsR : ¬ SignsR none := fun ⟨_, _, _, h, _⟩ => by cases h
theorem signs_any (s : ByteArray) (hs : s.size ≤ 1000000) : SignsR (R 96 [.d (.str s)] []) := by
  refine run_any (rs := [.tmp 2, .tmp 3, .tmp 4]) (ts := [137, 137, 4]) Try.func96 (c := _) rfl rfl rfl (by kernel_rfl) (by kernel_rfl) (.inl sp_96) (by simp [Try.f96]) not_signsR ?_
  simp -dsimp -implicitDefEqProofs (disch := first | omega | assumption) [startSlots, Int.natCast_inj, wrap_i64]
  generalize hT0 : SignsR = T0
  generalize hz : loopT _ _ _ _ _ _ = z
  revert z
  refine loop_any (σ := List Int × List Int × Bool × Nat) (fun x => [(0, .d (.str s)), (5, .arr 0 x.1.length), (6, .arr 1 x.2.1.length), (7, .d (.bool x.2.2.1)), (8, .d (.int .i64 x.2.2.2))]) (fun x => [.arr 1 (is64 x.1) 0, .arr 1 (is64 x.2.1) 0]) (fun x => x.2.2.2 ≤ s.size ∧ x.1.length ≤ x.2.2.2 ∧ x.2.1.length ≤ x.2.2.2) (fun x => s.size - x.2.2.2) ([], [], true, 0) ?_ ?_ ?_
  · simp
  · simp -dsimp -implicitDefEqProofs (disch := first | omega | assumption)
  intro T' f hT' ⟨a, b, c, i⟩ ⟨hi, ha, hb⟩ ih
  simp only at hi ha hb ih
  by_cases h1 : i < s.size
  · have h1' : (i : Int) < s.size := by omega
    have hsz : (s.extract i s.size).size = s.size - i := by simp
    obtain ⟨x, k, d, e, k1, k2⟩ := sign_any (s.extract i s.size) (by omega) (by omega)
    rw [hsz] at k2
    cases c with
    | true =>
      simp -dsimp -implicitDefEqProofs (disch := first | omega | assumption) [Int.natCast_inj, wrap_i64, h1, h1', e]
      refine ih (a ++ [x], b ++ [(i : Int)], d, i + k) _ _ ⟨by simp only; omega, by simp; omega, by simp; omega⟩ (by simp only; omega) (by simp -dsimp -implicitDefEqProofs (disch := first | omega | assumption))
    | false =>
      simp -dsimp -implicitDefEqProofs (disch := first | omega | assumption) [Int.natCast_inj, wrap_i64, h1, h1', e]
      refine ih (a ++ [x], b ++ [(i : Int)], false, i + k) _ _ ⟨by simp only; omega, by simp; omega, by simp; omega⟩ (by simp only; omega) (by simp -dsimp -implicitDefEqProofs (disch := first | omega | assumption))
  · have h1' : ¬ (i : Int) < s.size := by omega
    subst hT'
    simp -dsimp -implicitDefEqProofs (disch := first | omega | assumption) [Int.natCast_inj, wrap_i64, h1, h1']
    rw [← hT0]
    exact ⟨a, b, c, rfl, by omega⟩
theorem named08_any (s : ByteArray) : Tells (fun _ => True) (R 68 [.d (.str s)] []) := by
  by_cases h1 : s.size < 1
  · have h1' : (s.size : Int) < 1 := by omega
    refine run_any (rs := [.tmp 2]) (ts := [4]) Try.func68 (c := _) rfl rfl rfl (by kernel_rfl) (by kernel_rfl) (.inl sp_68) (by simp [Try.f68]) not_tells ?_
    simp -dsimp -implicitDefEqProofs (disch := first | omega | assumption) [startSlots, Int.natCast_inj, wrap_i64, h1, h1']
  have h1' : ¬ (s.size : Int) < 1 := by omega
  by_cases h2 : 16 < s.size
  · have h2' : (16 : Int) < s.size := by omega
    refine run_any (rs := [.tmp 2]) (ts := [4]) Try.func68 (c := _) rfl rfl rfl (by kernel_rfl) (by kernel_rfl) (.inl sp_68) (by simp [Try.f68]) not_tells ?_
    simp -dsimp -implicitDefEqProofs (disch := first | omega | assumption) [startSlots, Int.natCast_inj, wrap_i64, h1, h1', h2, h2']
  have h2' : ¬ (16 : Int) < s.size := by omega
  obtain ⟨a, b, c, e, ha⟩ := signs_any s (by omega)
  refine run_any (rs := [.tmp 2]) (ts := [4]) Try.func68 (c := _) rfl rfl rfl (by kernel_rfl) (by kernel_rfl) (.inl sp_68) (by simp [Try.f68]) not_tells ?_
  simp -dsimp -implicitDefEqProofs (disch := first | omega | assumption) [startSlots, Int.natCast_inj, wrap_i64, h1, h1', h2, h2', e]
  generalize hT0 : Tells (fun _ => True) = T0
  generalize hz : loopT _ _ _ _ _ _ = z
  revert z
  refine loop_any (σ := Nat) (fun i => [(3, .arr 0 a.length), (5, .d (.bool c)), (6, .d (.int .i64 i))]) (fun i => [.arr 1 (is64 a) 0]) (fun i => i ≤ a.length) (fun i => a.length - i) 0 ?_ ?_ ?_
  · exact Nat.zero_le _
  · simp -dsimp -implicitDefEqProofs (disch := first | omega | assumption)
  intro T' f hT' i hi ih
  by_cases h3 : i < a.length
  · have h3' : (i : Int) < a.length := by omega
    obtain ⟨x, hx⟩ : ∃ x, x = a[i] := ⟨_, rfl⟩
    have gx := hx.symm
    by_cases p1 : 97 ≤ x <;> by_cases p2 : x ≤ 122 <;> by_cases p3 : x = 95 <;> by_cases p4 : 127 < x <;> by_cases p5 : 48 ≤ x <;> by_cases p6 : x ≤ 57 <;> by_cases p7 : 0 < i
    all_goals first
      | (exfalso; omega)
      | skip
    all_goals
      have p7' : decide ((0 : Int) < i) = decide (0 < i) := by simp
      simp -dsimp -implicitDefEqProofs (disch := first | omega | assumption) [Int.natCast_inj, wrap_i64, h3, h3', gx, p1, p2, p3, p4, p5, p6, p7]
      first
        | (refine ih (i + 1) _ _ h3 (by omega) (by simp -dsimp -implicitDefEqProofs (disch := first | omega | assumption)); done)
        | (subst hT'; simp -dsimp -implicitDefEqProofs (disch := first | omega | assumption); rw [← hT0]; exact ⟨_, rfl, trivial⟩)
        | (subst hT'; rw [← hT0]; exact ⟨_, rfl, trivial⟩)
  · have h3' : ¬ (i : Int) < a.length := by omega
    subst hT'
    simp -dsimp -implicitDefEqProofs (disch := first | omega | assumption) [Int.natCast_inj, wrap_i64, h3, h3']
    rw [← hT0]; simp
theorem has_any (l : List Fld) (n : ByteArray) (hl : l.length ≤ 9223372036854775807) : Tells (fun _ => True) (R 69 [.d (.list (l.map Fld.d)), .d (.str n)] []) := by
  refine run_any (rs := [.tmp 4]) (ts := [4]) Try.func69 (c := _) rfl rfl rfl (by kernel_rfl) (by kernel_rfl) (.inl sp_69) (by simp [Try.f69]) not_tells ?_
  simp -dsimp -implicitDefEqProofs (disch := first | omega | assumption) [startSlots, Int.natCast_inj, wrap_i64]
  generalize hT0 : Tells (fun _ => True) = T0
  generalize hz : loopT _ _ _ _ _ _ = z
  revert z
  refine loop_any (σ := Nat) (fun i => [(0, .d (.list (l.map Fld.d))), (1, .d (.str n)), (5, .d (.int .i64 i))]) (fun i => []) (fun i => i ≤ l.length) (fun i => l.length - i) 0 ?_ ?_ ?_
  · exact Nat.zero_le _
  · simp -dsimp -implicitDefEqProofs (disch := first | omega | assumption)
  intro T' f hT' i hi ih
  by_cases h3 : i < l.length
  · by_cases h4 : l[i].name.toList = n.toList
    · subst hT'
      simp -dsimp -implicitDefEqProofs (disch := first | omega | assumption) [Int.natCast_inj, wrap_i64, h3, h4]
      rw [← hT0]; simp
    · have h4b : (l[i].name.toList == n.toList) = false := beq_false_of_ne h4
      simp -dsimp -implicitDefEqProofs (disch := first | omega | assumption) [Int.natCast_inj, wrap_i64, h3, h4b]
      exact ih (i + 1) _ _ h3 (by omega) (by simp -dsimp -implicitDefEqProofs (disch := first | omega | assumption))
  · subst hT'
    simp -dsimp -implicitDefEqProofs (disch := first | omega | assumption) [Int.natCast_inj, wrap_i64, h3]
    rw [← hT0]; simp
end Go.Am.Ab
namespace Go.Am.Ab
open Go.Proofs
set_option maxHeartbeats 4000000
set_option maxRecDepth 4000

theorem named12_any (s : ByteArray) : Tells (fun _ => True) (R 40 [.d (.str s)] []) := by
  refine run_any (rs := [.tmp 2]) (ts := [4]) Try.func40 (c := _) rfl rfl rfl (by kernel_rfl) (by kernel_rfl) (.inl sp_40) (by simp [Try.f40]) not_tells ?_
  simp -dsimp -implicitDefEqProofs (disch := first | omega | assumption) [startSlots, Int.natCast_inj, wrap_i64]
  generalize hT0 : Tells (fun _ => True) = T0
  have fin : ∀ c : Bool, T0 (some ([.d (.bool c)], [])) := fun c => by rw [← hT0]; exact ⟨c, rfl, trivial⟩
  generalize hz : loopT _ _ _ _ _ _ = z
  revert z
  refine loop_any (σ := Nat) (fun i => [(0, .d (.str s)), (3, .d (.int .i64 i))]) (fun i => []) (fun i => i ≤ s.size ∧ i ≤ 30) (fun i => 30 - i) 0 ?_ ?_ ?_
  · simp
  · simp -dsimp -implicitDefEqProofs (disch := first | omega | assumption)
  intro T' f hT' i ⟨hi, hi2⟩ ih
  by_cases h3 : i < s.size
  · have h3' : (i : Int) < s.size := by omega
    by_cases h4 : i < 30
    · have h4' : (i : Int) < 30 := by omega
      obtain ⟨x, hx⟩ : ∃ x, x = s[i] := ⟨_, rfl⟩
      have gx := hx.symm
      have hx256 : x.toNat < 256 := x.toNat_lt
      by_cases p1 : 97 ≤ (x.toNat : Int) <;> by_cases p2 : (x.toNat : Int) ≤ 122 <;> by_cases p3 : (x.toNat : Int) = 47 <;> by_cases p4 : (x.toNat : Int) = 45 <;> by_cases p5 : 48 ≤ (x.toNat : Int) <;> by_cases p6 : (x.toNat : Int) ≤ 57
      all_goals first
        | (exfalso; omega)
        | skip
      all_goals
        simp -dsimp -implicitDefEqProofs (disch := first | omega | assumption) [Int.natCast_inj, wrap_i64, h3, h3', h4, h4', gx, p1, p2, p3, p4, p5, p6]
        first
          | exact ih (i + 1) _ _ ⟨h3, h4⟩ (by omega) (by simp -dsimp -implicitDefEqProofs (disch := first | omega | assumption))
          | (subst hT'; exact fin _)
    · have h4' : ¬ (i : Int) < 30 := by omega
      subst hT'
      have q1 : (1 : Int) ≤ s.size := by omega
      simp -dsimp -implicitDefEqProofs (disch := first | omega | assumption) [Int.natCast_inj, wrap_i64, h3, h3', h4, h4', q1]
      exact fin _
  · have h3' : ¬ (i : Int) < s.size := by omega
    subst hT'
    by_cases q1 : (1 : Int) ≤ s.size
    · simp -dsimp -implicitDefEqProofs (disch := first | omega | assumption) [Int.natCast_inj, wrap_i64, h3, h3', q1]
      exact fin _
    · simp -dsimp -implicitDefEqProofs (disch := first | omega | assumption) [Int.natCast_inj, wrap_i64, h3, h3', q1]
      exact fin _
end Go.Am.Ab
