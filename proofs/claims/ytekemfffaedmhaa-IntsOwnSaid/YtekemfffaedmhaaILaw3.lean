/- The statements on lists: what was written is read; what is read was written so; what is cut off isn't read. -/
import Derived.Test.YtekemfffaedmhaaILaw2
set_option linter.all false
namespace Go.Am.Ab
open Go.Proofs
set_option maxHeartbeats 4000000
set_option maxRecDepth 4000

theorem intsBack_runs (c : Nat) (hc : c < 256) (l : List Int) (hl : ∀ n ∈ l, isI64 n) (hn : l.length ≤ 9223372036854775807) : R 7 [.d (.int .u8 c), .d (ints l)] [] = some ([.d (.bool true)], []) := by
  have al := alive05
  by_cases h6 : 256 < l.length
  · have h6' : (256 : Int) < l.length := by omega
    refine run_goal (rs := [.tmp 4]) (ts := [4]) Try.func7 (c := _) rfl rfl rfl (by kernel_rfl) (by kernel_rfl) (.inl sp_7) (by simp [Try.f7]) ?_
    intro T hT
    simp -implicitDefEqProofs (disch := first | omega | assumption) [startSlots, Int.natCast_inj, wrap_i64, al, h6, h6']
    simpa -implicitDefEqProofs (disch := first | omega | assumption) [Int.natCast_inj, wrap_i64] using hT
  have h6' : ¬ (256 : Int) < l.length := by omega
  have hl256 : l.length ≤ 256 := by omega
  obtain ⟨k, hk⟩ : ∃ k, k = c % 5 := ⟨_, rfl⟩
  have hk5 : k < 5 := by omega
  have hki : (c : Int) % 5 = k := by omega
  have hkm : (k : Int) % 256 = k := by omega
  have a := iencode_yes k l hl hl256 hk5
  have d := ibest_yes l hl hl256
  have r1 := read_runs (u8n k :: encB k l) l.length (by have := enc_len k hl hl256; simp only [List.length_cons]; omega) (by unfold isI64; omega)
  have r2 := read_runs (bestB l) l.length (by have := bestTo_len hl hl256 5; unfold bestB; omega) (by unfold isI64; omega)
  rw [readI_back hk5 hl hl256] at r1
  rw [readI_best hl hl256] at r2
  have hb := (best_form l).2 k hk5
  have hbi : ((bestB l).length : Int) ≤ ((encB k l).length : Int) + 1 := by omega
  have s := same_eq l l (by omega)
  simp only [decide_true] at s
  have r1' : R 26 [.d (.list (.int .u8 k :: bytes (encB k l))), .d (.int .i64 l.length)] [] = some ([.arr 0 l.length, E 0], [.arr 1 (cs l) 0]) := by
    rw [show D.int .u8 (k : Int) = byteD (u8n k) from (byteD_eq (by rw [u8n_toNat (by omega)])).symm]
    exact r1
  have hel := enc_len k hl hl256
  refine run_goal (rs := [.tmp 4]) (ts := [4]) Try.func7 (c := _) rfl rfl rfl (by kernel_rfl) (by kernel_rfl) (.inl sp_7) (by simp [Try.f7]) ?_
  intro T hT
  simp -implicitDefEqProofs (disch := first | omega | assumption) [startSlots, Int.natCast_inj, wrap_i64, al, h6, h6', hki, hkm, a, d, r1', r2, s, hbi]
  simpa -implicitDefEqProofs (disch := first | omega | assumption) [Int.natCast_inj, wrap_i64] using hT
theorem intsOne_runs (b : List UInt8) (n o : Int) (hb : b.length ≤ 9223372036854775807) (hn : isI64 n) (ho : isI64 o) : R 8 [B b, .d (.int .i64 n), .d (.int .i64 o)] [] = some ([.d (.bool true)], []) := by
  have al := alive05
  by_cases h6 : 6000 < b.length
  · have h6' : (6000 : Int) < b.length := by omega
    refine run_goal (rs := [.tmp 6]) (ts := [4]) Try.func8 (c := _) rfl rfl rfl (by kernel_rfl) (by kernel_rfl) (.inl sp_8) (by simp [Try.f8]) ?_
    intro T hT
    simp -implicitDefEqProofs (disch := first | omega | assumption) [startSlots, Int.natCast_inj, wrap_i64, al, h6, h6']
    simpa -implicitDefEqProofs (disch := first | omega | assumption) [Int.natCast_inj, wrap_i64] using hT
  have h6' : ¬ (6000 : Int) < b.length := by omega
  have p := read_runs b n (by omega) hn
  have q := read_runs b o (by omega) ho
  by_cases he : (readI b n).2 = 0
  case neg =>
    rw [readI_bad he] at p
    obtain ⟨e, hee⟩ : ∃ e, e = (readI b n).2 := ⟨_, rfl⟩
    rw [← hee] at p he
    refine run_goal (rs := [.tmp 6]) (ts := [4]) Try.func8 (c := _) rfl rfl rfl (by kernel_rfl) (by kernel_rfl) (.inl sp_8) (by simp [Try.f8]) ?_
    intro T hT
    simp -implicitDefEqProofs (disch := first | omega | assumption) [startSlots, Int.natCast_inj, wrap_i64, al, h6, h6', p, he]
    simpa -implicitDefEqProofs (disch := first | omega | assumption) [Int.natCast_inj, wrap_i64] using hT
  obtain ⟨l, hl⟩ : ∃ l, l = (readI b n).1 := ⟨_, rfl⟩
  have hr : readI b n = (l, 0) := by rw [hl, ← he]
  obtain ⟨c, r, rfl, hc5, henc, hln, hl256, hli⟩ := readI_one hr
  rw [hr] at p
  have a := iencode_yes c.toNat l hli hl256 hc5
  rw [henc] at a
  have h7 : ¬ (6000 : Int) < (r.length : Int) + 1 := by simp only [List.length_cons] at h6; omega
  have p' : R 26 [B (c :: r), .d (.int .i64 n)] [] = some ([.arr 0 l.length, .d (.int .i64 0)], [.arr 1 (cs l) 0]) := p
  have p2 : R 26 [.d (.list (.int .u8 c.toNat :: List.map byteD r)), .d (.int .i64 n)] [] = some ([.arr 0 l.length, .d (.int .i64 0)], [.arr 1 (cs l) 0]) := p
  have q2 : R 26 [.d (.list (.int .u8 c.toNat :: List.map byteD r)), .d (.int .i64 o)] [] = some ([.arr 0 (readI (c :: r) o).1.length, E (readI (c :: r) o).2], [.arr 1 (cs (readI (c :: r) o).1) 0]) := q
  by_cases hno : o = n
  · subst hno
    refine run_goal (rs := [.tmp 6]) (ts := [4]) Try.func8 (c := _) rfl rfl rfl (by kernel_rfl) (by kernel_rfl) (.inl sp_8) (by simp [Try.f8]) ?_
    intro T hT
    simp -implicitDefEqProofs (disch := first | omega | assumption) [startSlots, Int.natCast_inj, wrap_i64, al, h7, p', p2, a]
    simpa -implicitDefEqProofs (disch := first | omega | assumption) [Int.natCast_inj, wrap_i64] using hT
  by_cases hc2 : 2 < c.toNat
  · have hc2' : (2 : Int) < c.toNat := by omega
    obtain ⟨y, hy⟩ : ∃ y, y = readI (c :: r) o := ⟨_, rfl⟩
    rw [← hy] at q2
    refine run_goal (rs := [.tmp 6]) (ts := [4]) Try.func8 (c := _) rfl rfl rfl (by kernel_rfl) (by kernel_rfl) (.inl sp_8) (by simp [Try.f8]) ?_
    intro T hT
    simp -implicitDefEqProofs (disch := first | omega | assumption) [startSlots, Int.natCast_inj, wrap_i64, al, h7, p', p2, a, q2, hno, hc2, hc2']
    simpa -implicitDefEqProofs (disch := first | omega | assumption) [Int.natCast_inj, wrap_i64] using hT
  · have hc2' : ¬ (2 : Int) < c.toNat := by omega
    have hbad := readI_other hr (by omega) hno
    rw [readI_bad hbad] at q2
    obtain ⟨e, hee⟩ : ∃ e, e = (readI (c :: r) o).2 := ⟨_, rfl⟩
    rw [← hee] at q2 hbad
    refine run_goal (rs := [.tmp 6]) (ts := [4]) Try.func8 (c := _) rfl rfl rfl (by kernel_rfl) (by kernel_rfl) (.inl sp_8) (by simp [Try.f8]) ?_
    intro T hT
    simp -implicitDefEqProofs (disch := first | omega | assumption) [startSlots, Int.natCast_inj, wrap_i64, al, h7, p', p2, a, q2, hno, hc2, hc2', hbad]
    simpa -implicitDefEqProofs (disch := first | omega | assumption) [Int.natCast_inj, wrap_i64] using hT
theorem intsCut_runs (c : Nat) (hc : c < 256) (l : List Int) (hl : ∀ n ∈ l, isI64 n) (hn : l.length ≤ 9223372036854775807) (k : Int) (hk : isI64 k) (x : Nat) (hx : x < 256) : R 9 [.d (.int .u8 c), .d (ints l), .d (.int .i64 k), .d (.int .u8 x)] [] = some ([.d (.bool true)], []) := by
  have al := alive05
  by_cases h6 : 256 < l.length
  · have h6' : (256 : Int) < l.length := by omega
    refine run_goal (rs := [.tmp 8]) (ts := [4]) Try.func9 (c := _) rfl rfl rfl (by kernel_rfl) (by kernel_rfl) (.inl sp_9) (by simp [Try.f9]) ?_
    intro T hT
    simp -implicitDefEqProofs (disch := first | omega | assumption) [startSlots, Int.natCast_inj, wrap_i64, al, h6, h6']
    simpa -implicitDefEqProofs (disch := first | omega | assumption) [Int.natCast_inj, wrap_i64] using hT
  have h6' : ¬ (256 : Int) < l.length := by omega
  have hl256 : l.length ≤ 256 := by omega
  obtain ⟨m, hm⟩ : ∃ m, m = c % 5 := ⟨_, rfl⟩
  have hm5 : m < 5 := by omega
  have hmi : (c : Int) % 5 = m := by omega
  have hmm : (m : Int) % 256 = m := by omega
  have a := iencode_yes m l hl hl256 hm5
  have hel := enc_len m hl hl256
  have r2 := read_runs (u8n m :: (encB m l ++ [u8n x])) l.length (by simp only [List.length_cons, List.length_append, List.length_nil]; omega) (by unfold isI64; omega)
  rw [readI_more hm5 hl hl256 (by simp)] at r2
  have hmb : D.int .u8 (m : Int) = byteD (u8n m) := (byteD_eq (by rw [u8n_toNat (by omega)])).symm
  have hxb : D.int .u8 (x : Int) = byteD (u8n x) := (byteD_eq (by rw [u8n_toNat hx])).symm
  have r2' : R 26 [.d (.list (.int .u8 m :: (bytes (encB m l) ++ [.int .u8 x]))), .d (.int .i64 l.length)] [] = some ([.arr 0 0, .d (.int .i64 32)], [.arr 1 [] 0]) := by
    rw [hmb, hxb, show bytes (encB m l) ++ [byteD (u8n x)] = bytes (encB m l ++ [u8n x]) by simp]
    exact r2
  have cut : ∀ j : Nat, j < (encB m l).length + 1 → R 26 [.d (.list (List.take j (.int .u8 m :: bytes (encB m l)))), .d (.int .i64 l.length)] [] = some ([.arr 0 0, .d (.int .i64 30)], [.arr 1 [] 0]) := by
    intro j hj
    have r1 := read_runs ((u8n m :: encB m l).take j) l.length (by rw [List.length_take]; omega) (by unfold isI64; omega)
    rw [readI_cut hm5 hl hl256 hj] at r1
    rw [hmb, show List.take j (byteD (u8n m) :: bytes (encB m l)) = bytes ((u8n m :: encB m l).take j) by simp [bytes]]
    exact r1
  obtain ⟨w, hw⟩ : ∃ w, w = encB m l := ⟨_, rfl⟩
  rw [← hw] at a hel r2' cut
  clear r2 hw
  by_cases hE : w = []
  · subst hE
    have a' : R 22 [.d (.int .u8 m), .d (ints l)] [] = some ([.arr 0 0, .d (.bool true)], [.arr 1 [] 0]) := a
    have r2'' : R 26 [.d (.list [.int .u8 m, .int .u8 x]), .d (.int .i64 l.length)] [] = some ([.arr 0 0, .d (.int .i64 32)], [.arr 1 [] 0]) := r2'
    by_cases hk1 : k = 0
    · subst hk1
      have r1' : R 26 [.d (.list []), .d (.int .i64 l.length)] [] = some ([.arr 0 0, .d (.int .i64 30)], [.arr 1 [] 0]) := cut 0 (by simp)
      refine run_goal (rs := [.tmp 8]) (ts := [4]) Try.func9 (c := _) rfl rfl rfl (by kernel_rfl) (by kernel_rfl) (.inl sp_9) (by simp [Try.f9]) ?_
      intro T hT
      simp -implicitDefEqProofs (disch := first | omega | assumption) [startSlots, Int.natCast_inj, wrap_i64, al, h6, h6', hmi, hmm, a', r1', r2'']
      simpa -implicitDefEqProofs (disch := first | omega | assumption) [Int.natCast_inj, wrap_i64] using hT
    · by_cases hk2 : 0 ≤ k
      · have hk3 : ¬ k < 1 := by omega
        refine run_goal (rs := [.tmp 8]) (ts := [4]) Try.func9 (c := _) rfl rfl rfl (by kernel_rfl) (by kernel_rfl) (.inl sp_9) (by simp [Try.f9]) ?_
        intro T hT
        simp -implicitDefEqProofs (disch := first | omega | assumption) [startSlots, Int.natCast_inj, wrap_i64, al, h6, h6', hmi, hmm, a', hk2, hk3, r2'']
        simpa -implicitDefEqProofs (disch := first | omega | assumption) [Int.natCast_inj, wrap_i64] using hT
      · refine run_goal (rs := [.tmp 8]) (ts := [4]) Try.func9 (c := _) rfl rfl rfl (by kernel_rfl) (by kernel_rfl) (.inl sp_9) (by simp [Try.f9]) ?_
        intro T hT
        simp -implicitDefEqProofs (disch := first | omega | assumption) [startSlots, Int.natCast_inj, wrap_i64, al, h6, h6', hmi, hmm, a', hk2, r2'']
        simpa -implicitDefEqProofs (disch := first | omega | assumption) [Int.natCast_inj, wrap_i64] using hT
  · by_cases hk1 : 0 ≤ k ∧ k < w.length + 1
    · obtain ⟨j, rfl⟩ : ∃ j : Nat, k = j := ⟨k.toNat, by omega⟩
      have hj : j < w.length + 1 := by omega
      have hji : (j : Int) < 1 + (w.length : Int) := by omega
      have r1' := cut j hj
      have hji2 : (j : Int) < (w.length : Int) + 1 := by omega
      have hcom : 1 + w.length = w.length + 1 := Nat.add_comm _ _
      refine run_goal (rs := [.tmp 8]) (ts := [4]) Try.func9 (c := _) rfl rfl rfl (by kernel_rfl) (by kernel_rfl) (.inl sp_9) (by simp [Try.f9]) ?_
      intro T hT
      simp -implicitDefEqProofs (disch := first | omega | assumption) [startSlots, Int.natCast_inj, wrap_i64, al, h6, h6', hmi, hmm, a, hji, hji2, r1', r2', hE, hcom]
      simpa -implicitDefEqProofs (disch := first | omega | assumption) [Int.natCast_inj, wrap_i64] using hT
    · by_cases hk2 : 0 ≤ k
      · have hk3 : ¬ k < 1 + (w.length : Int) := by omega
        refine run_goal (rs := [.tmp 8]) (ts := [4]) Try.func9 (c := _) rfl rfl rfl (by kernel_rfl) (by kernel_rfl) (.inl sp_9) (by simp [Try.f9]) ?_
        intro T hT
        simp -implicitDefEqProofs (disch := first | omega | assumption) [startSlots, Int.natCast_inj, wrap_i64, al, h6, h6', hmi, hmm, a, hk2, hk3, r2', hE]
        simpa -implicitDefEqProofs (disch := first | omega | assumption) [Int.natCast_inj, wrap_i64] using hT
      · refine run_goal (rs := [.tmp 8]) (ts := [4]) Try.func9 (c := _) rfl rfl rfl (by kernel_rfl) (by kernel_rfl) (.inl sp_9) (by simp [Try.f9]) ?_
        intro T hT
        simp -implicitDefEqProofs (disch := first | omega | assumption) [startSlots, Int.natCast_inj, wrap_i64, al, h6, h6', hmi, hmm, a, hk2, r2', hE]
        simpa -implicitDefEqProofs (disch := first | omega | assumption) [Int.natCast_inj, wrap_i64] using hT
end Go.Am.Ab
