/- The statements on lists: the example, the bytes, what is read. -/
import Derived.Test.YtekemfffaedmhaaRefRead
import Derived.Test.YtekemfffaedmhaaILaw1
set_option linter.all false
namespace Go.Am.Ab
open Go.Proofs
set_option maxHeartbeats 4000000
set_option maxRecDepth 4000

theorem byteOf_int (n : Int) : byteOf? (.int .u8 n) = some (UInt8.ofNat n.toNat) := rfl
theorem alive05 : R 21 [] [] = some ([.d (.bool true)], []) := by
  have i1 : ∀ n ∈ [(5 : Int), 6, 4], isI64 n := by intro n hn; simp at hn; unfold isI64; omega
  have i2 : ∀ n ∈ [(9 : Int), 2, 9], isI64 n := by intro n hn; simp at hn; unfold isI64; omega
  have i3 : ∀ n ∈ [(8 : Int), 9, 8], isI64 n := by intro n hn; simp at hn; unfold isI64; omega
  have i4 : ∀ n ∈ [(7 : Int), 7, 7], isI64 n := by intro n hn; simp at hn; unfold isI64; omega
  have a := iencode_yes 1 [5, 6, 4] i1 (by decide) (by decide)
  have b := iencode_yes 3 [9, 2, 9] i2 (by decide) (by decide)
  have c := iencode_yes 4 [8, 9, 8] i3 (by decide) (by decide)
  have d := ibest_yes [7, 7, 7] i4 (by decide)
  have rb := readI_best i4 (by decide)
  rw [ex_best] at d rb
  rw [ex_delta] at a
  rw [ex_dict] at b
  rw [ex_packed] at c
  have e := read_runs [2, 14, 3] 3 (by decide) (by unfold isI64; omega)
  rw [show (3 : Int) = (([7, 7, 7] : List Int).length : Int) from rfl, rb] at e
  have f := same_eq [7, 7, 7] [7, 7, 7] (by decide)
  have a' : R 22 [.d (.int .u8 1), .d (.list [.int .i64 5, .int .i64 6, .int .i64 4])] [] = some ([.arr 0 3, .d (.bool true)], [.arr 1 [.int .u8 10, .int .u8 2, .int .u8 3] 0]) := a
  have b' : R 22 [.d (.int .u8 3), .d (.list [.int .i64 9, .int .i64 2, .int .i64 9])] [] = some ([.arr 0 4, .d (.bool true)], [.arr 1 [.int .u8 2, .int .u8 4, .int .u8 7, .int .u8 5] 0]) := b
  have c' : R 22 [.d (.int .u8 4), .d (.list [.int .i64 8, .int .i64 9, .int .i64 8])] [] = some ([.arr 0 3, .d (.bool true)], [.arr 1 [.int .u8 16, .int .u8 1, .int .u8 2] 0]) := c
  have d' : R 24 [.d (.list [.int .i64 7, .int .i64 7, .int .i64 7])] [] = some ([.arr 0 3, .d (.bool true)], [.arr 1 [.int .u8 2, .int .u8 14, .int .u8 3] 0]) := d
  have e' : R 26 [.d (.list [.int .u8 2, .int .u8 14, .int .u8 3]), .d (.int .i64 3)] [] = some ([.arr 0 3, .d (.int .i64 0)], [.arr 1 [.int .i64 7, .int .i64 7, .int .i64 7] 0]) := e
  have f' : R 28 [.d (.list [.int .i64 7, .int .i64 7, .int .i64 7]), .d (.list [.int .i64 7, .int .i64 7, .int .i64 7])] [] = some ([.d (.bool true)], []) := by
    rw [show decide (([7, 7, 7] : List Int) = [7, 7, 7]) = true by decide] at f
    exact f
  refine run_goal (rs := [.tmp 0]) (ts := [4]) Try.func21 (c := _) rfl rfl rfl (by kernel_rfl) (by kernel_rfl) (.inl sp_21) (by simp [Try.f21]) ?_
  intro T hT
  simp -implicitDefEqProofs (disch := first | omega | assumption) [startSlots, Int.natCast_inj, wrap_i64, a', b', c', d', e', f', byteOf_int]
  simpa -implicitDefEqProofs (disch := first | omega | assumption) [Int.natCast_inj, wrap_i64] using hT

theorem str_beq (a : List UInt8) : (a == a) = true := by simp
theorem intsEncodes_runs (c : Nat) (hc : c < 256) (l : List Int) (hl : ∀ n ∈ l, isI64 n) (hn : l.length ≤ 9223372036854775807) : R 5 [.d (.int .u8 c), .d (ints l)] [] = some ([.d (.bool true)], []) := by
  have al := alive05
  have hci : IntKind.i64.wrap (c : Int) = c := wrap_i64 (by omega) (by omega)
  by_cases h6 : 600 < l.length
  · have h6' : (600 : Int) < l.length := by omega
    refine run_goal (rs := [.tmp 4]) (ts := [4]) Try.func5 (c := _) rfl rfl rfl (by kernel_rfl) (by kernel_rfl) (.inl sp_5) (by simp [Try.f5]) ?_
    intro T hT
    simp -implicitDefEqProofs (disch := first | omega | assumption) [startSlots, Int.natCast_inj, wrap_i64, al, h6, h6']
    simpa -implicitDefEqProofs (disch := first | omega | assumption) [Int.natCast_inj, wrap_i64] using hT
  have h6' : ¬ (600 : Int) < l.length := by omega
  by_cases h2 : 256 < l.length
  · have a := iencode_no c l (by omega) (.inr ⟨hc, h2⟩)
    have b := rencode_no c l (by omega) (.inr ⟨hc, h2⟩)
    have d := ibest_no l (by omega) h2
    have f := rbest_no l (by omega) h2
    refine run_goal (rs := [.tmp 4]) (ts := [4]) Try.func5 (c := _) rfl rfl rfl (by kernel_rfl) (by kernel_rfl) (.inl sp_5) (by simp [Try.f5]) ?_
    intro T hT
    simp -implicitDefEqProofs (disch := first | omega | assumption) [startSlots, Int.natCast_inj, wrap_i64, al, h6, h6', hci, a, b, d, f]
    simpa -implicitDefEqProofs (disch := first | omega | assumption) [Int.natCast_inj, wrap_i64] using hT
  have d := ibest_yes l hl (by omega)
  have f := rbest_yes l hl (by omega)
  by_cases h5 : c < 5
  · have a := iencode_yes c l hl (by omega) h5
    have b := rencode_yes c l hl (by omega) h5
    refine run_goal (rs := [.tmp 4]) (ts := [4]) Try.func5 (c := _) rfl rfl rfl (by kernel_rfl) (by kernel_rfl) (.inl sp_5) (by simp [Try.f5]) ?_
    intro T hT
    simp -implicitDefEqProofs (disch := first | omega | assumption) [startSlots, Int.natCast_inj, wrap_i64, al, h6, h6', hci, a, b, d, f]
    simpa -implicitDefEqProofs (disch := first | omega | assumption) [Int.natCast_inj, wrap_i64] using hT
  · have a := iencode_no c l (by omega) (.inl ⟨by omega, hc⟩)
    have b := rencode_no c l (by omega) (.inl ⟨by omega, hc⟩)
    refine run_goal (rs := [.tmp 4]) (ts := [4]) Try.func5 (c := _) rfl rfl rfl (by kernel_rfl) (by kernel_rfl) (.inl sp_5) (by simp [Try.f5]) ?_
    intro T hT
    simp -implicitDefEqProofs (disch := first | omega | assumption) [startSlots, Int.natCast_inj, wrap_i64, al, h6, h6', hci, a, b, d, f]
    simpa -implicitDefEqProofs (disch := first | omega | assumption) [Int.natCast_inj, wrap_i64] using hT
theorem intsReads_runs (b : List UInt8) (n : Int) (hb : b.length ≤ 9223372036854775807) (hn : isI64 n) : R 6 [B b, .d (.int .i64 n)] [] = some ([.d (.bool true)], []) := by
  have al := alive05
  by_cases h6 : 6000 < b.length
  · have h6' : (6000 : Int) < b.length := by omega
    refine run_goal (rs := [.tmp 4]) (ts := [4]) Try.func6 (c := _) rfl rfl rfl (by kernel_rfl) (by kernel_rfl) (.inl sp_6) (by simp [Try.f6]) ?_
    intro T hT
    simp -implicitDefEqProofs (disch := first | omega | assumption) [startSlots, Int.natCast_inj, wrap_i64, al, h6, h6']
    simpa -implicitDefEqProofs (disch := first | omega | assumption) [Int.natCast_inj, wrap_i64] using hT
  have h6' : ¬ (6000 : Int) < b.length := by omega
  have p := read_runs b n (by omega) hn
  have q := rread_runs b n (by omega) hn
  obtain ⟨x, hx⟩ : ∃ x, x = readI b n := ⟨_, rfl⟩
  have hxl : x.1.length < 4611686018427387904 := by
    have : (readI b n).2 = 0 ∨ (readI b n).2 ≠ 0 := by omega
    rcases this with h | h
    · obtain ⟨_, _, _, _, _, _, h2, _⟩ := readI_one (b := b) (n := n) (l := x.1) (by rw [hx, ← h])
      omega
    · rw [hx, readI_bad h]; simp
  rw [← hx] at p q
  have s := same_eq x.1 x.1 hxl
  simp only [decide_true] at s
  refine run_goal (rs := [.tmp 4]) (ts := [4]) Try.func6 (c := _) rfl rfl rfl (by kernel_rfl) (by kernel_rfl) (.inl sp_6) (by simp [Try.f6]) ?_
  intro T hT
  simp -implicitDefEqProofs (disch := first | omega | assumption) [startSlots, Int.natCast_inj, wrap_i64, al, h6, h6', p, q, s]
  simpa -implicitDefEqProofs (disch := first | omega | assumption) [Int.natCast_inj, wrap_i64] using hT
end Go.Am.Ab
