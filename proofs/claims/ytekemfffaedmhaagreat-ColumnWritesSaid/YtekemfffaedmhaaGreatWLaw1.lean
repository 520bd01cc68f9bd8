/- The statement that the bytes of any values are the document's. -/
import Derived.Test.YtekemfffaedmhaaGreatRColB
import Derived.Test.YtekemfffaedmhaaGreatColE
set_option linter.all false
namespace Go.Am.Ab
open Go.Proofs
set_option maxHeartbeats 8000000
set_option maxRecDepth 4000

theorem writeA_odd (k : Nat) (hk : 1 ≤ k ∧ k ≤ 3) (X : List Val) (hn : X.length ≤ 4611686018427387903) (h : X.any (oddV k) = true) : R 6 [.d (.int .u8 k), .d (.list (vs X))] [] = badW 10 := by
  have hc : k = 1 ∨ k = 2 ∨ k = 3 := by omega
  rcases hc with rfl | rfl | rfl
  · exact write1_odd X hn h
  · exact write2_odd X hn h
  · exact write3_odd X hn h
theorem writeA_much (k : Nat) (hk : 1 ≤ k ∧ k ≤ 3) (X : List Val) (hn : X.length ≤ 4611686018427387903) (hm : 256 < X.length) (h : X.any (oddV k) = false) : R 6 [.d (.int .u8 k), .d (.list (vs X))] [] = badW 5 := by
  have hc : k = 1 ∨ k = 2 ∨ k = 3 := by omega
  rcases hc with rfl | rfl | rfl
  · exact write1_much X hn hm h
  · exact write2_much X hn hm h
  · exact write3_much X hn hm h
theorem cels_good {k : Nat} {l : List Cel} (hvl : ∀ c ∈ l, chk c = 0) (hi : ∀ c ∈ l, isI64 c.n) (hok : l.any (oddC k) = false) : Good k (l.map valOf) := by
  intro v hv
  obtain ⟨c, hc, rfl⟩ := List.mem_map.1 hv
  have h := hvl c hc
  have ho := List.any_eq_false.1 hok c hc
  obtain ⟨h1, h2, h3, h4, h5⟩ := chk_kind h
  by_cases z : c.kind = 0
  · exact .inl (val_none h z)
  · have e : c.kind = k := by simpa [oddC, z] using ho
    right
    refine ⟨by rw [val_kind h]; exact e, fun n en => ?_, fun s es => ?_⟩
    · have hk : c.kind = 1 := by rw [← val_kind h, en]; rfl
      rw [val_whole h hk] at en
      cases en
      exact hi c hc
    · have hk : c.kind = 3 := by rw [← val_kind h, es]; rfl
      rw [val_text h hk] at es
      cases es
      exact h5
theorem both_write (k : Nat) (hk : k < 256) (l : List Cel) (hvl : ∀ c ∈ l, chk c = 0) (hi : ∀ c ∈ l, isI64 c.n) (hn : l.length ≤ 600) :
    ∃ (b : List UInt8) (e : Nat), b.length ≤ 1000000 ∧ R 6 [.d (.int .u8 k), .d (.list (vs (l.map valOf)))] [] = some ([.arr 0 b.length, E e], [.arr 1 (bytes b) 0]) ∧ R 8 [.d (.int .i64 k), .d (.list (ce l))] [] = some ([.arr 0 b.length, E e], [.arr 1 (bytes b) 0]) := by
  have hl : ∀ c ∈ l, c.kind < 256 := fun c hc => by have := (chk_kind (hvl c hc)).1; omega
  by_cases h1 : 1 ≤ k ∧ k ≤ 3
  case neg => exact ⟨[], 10, by simp, write_no k hk h1 _, rwrite_kind k hk h1 l⟩
  cases h2 : l.any (oddC k) with
  | true => exact ⟨[], 10, by simp, writeA_odd k h1 _ (by simp; omega) (by rw [any_odd hvl]; exact h2), rwrite_odd k h1 l hl (by omega) h2⟩
  | false =>
    by_cases h3 : 256 < l.length
    · exact ⟨[], 5, by simp, writeA_much k h1 _ (by simp; omega) (by simpa using h3) (by rw [any_odd hvl]; exact h2), rwrite_much k h1 l hl (by omega) h3 h2⟩
    · have g := cels_good hvl hi h2
      have hcl := colB_len h1 g (by simp; omega)
      refine ⟨colB k (l.map valOf), 0, by omega, write_ok k h1 _ g (by simp; omega), ?_⟩
      have hc : k = 1 ∨ k = 2 ∨ k = 3 := by omega
      rcases hc with e | e | e
      · exact rwrite1_yes k e l hvl hi (by omega) h2
      · exact rwrite2_yes k e l hvl hi (by omega) h2
      · exact rwrite3_yes k e l hvl (by omega) h2
theorem columnWrites_runs (k : Nat) (hk : k < 256) (l : List Cel) (hl : ∀ c ∈ l, c.kind < 256 ∧ isI64 c.n ∧ c.s.size ≤ 9223372036854775807) (hn : l.length ≤ 9223372036854775807) : R 3 [.d (.int .u8 k), .d (.list (ce l))] [] = some ([.d (.bool true)], []) := by
  have al := alive06
  have hki : IntKind.i64.wrap (k : Int) = k := wrap_i64 (by omega) (by omega)
  by_cases h6 : 600 < l.length
  · have h6' : (600 : Int) < l.length := by omega
    refine run_goal (rs := [.tmp 4]) (ts := [4]) Tryz.func3 (c := _) rfl rfl rfl (by kernel_rfl) (by kernel_rfl) (.inl sp_3) (by simp [Tryz.f3]) ?_
    intro T hT
    simp -dsimp -implicitDefEqProofs (disch := first | omega | assumption) [startSlots, Int.natCast_inj, wrap_i64, al, h6']
    simpa -dsimp -implicitDefEqProofs (disch := first | omega | assumption) [Int.natCast_inj, wrap_i64] using hT
  have h6' : ¬ (600 : Int) < l.length := by omega
  have hls : ∀ c ∈ l, c.kind < 256 ∧ c.s.size ≤ 9223372036854775807 := fun c hc => ⟨(hl c hc).1, (hl c hc).2.2⟩
  have hr := row_runs l hls (by omega)
  have hf := fixRow_runs l hls (by omega)
  have hvl : ∀ c ∈ l.map fix, chk c = 0 := fun c hc => by
    obtain ⟨a, _, rfl⟩ := List.mem_map.1 hc
    exact fix_ok a
  have hi : ∀ c ∈ l.map fix, isI64 c.n := fun c hc => by
    obtain ⟨a, ha, rfl⟩ := List.mem_map.1 hc
    unfold fix
    split
    · exact (hl a ha).2.1
    · show isI64 0
      unfold isI64; omega
  have hX : (l.map fix).map valOf = l.map valOf := by
    rw [List.map_map]
    apply List.map_congr_left
    intro c _
    simp only [Function.comp, valOf, fix_fix]
  obtain ⟨b, e, hbl, ha, hb⟩ := both_write k hk (l.map fix) hvl hi (by simp; omega)
  rw [hX] at ha
  have hM := mapM_bytes b
  obtain ⟨v1, hv1⟩ : ∃ v1, v1 = vs (l.map valOf) := ⟨_, rfl⟩
  obtain ⟨c1, hc1⟩ : ∃ c1, c1 = ce (l.map fix) := ⟨_, rfl⟩
  have hv1l : v1.length = l.length := by rw [hv1]; simp
  have hc1l : c1.length = l.length := by rw [hc1]; simp
  rw [← hv1] at hr ha
  rw [← hc1] at hf hb
  refine run_goal (rs := [.tmp 4]) (ts := [4]) Tryz.func3 (c := _) rfl rfl rfl (by kernel_rfl) (by kernel_rfl) (.inl sp_3) (by simp [Tryz.f3]) ?_
  intro T hT
  simp -dsimp -implicitDefEqProofs (disch := first | omega | assumption) [startSlots, Int.natCast_inj, wrap_i64, al, h6', hki, hr, hf, ha, hb, hM, hv1l, hc1l]
  simpa -dsimp -implicitDefEqProofs (disch := first | omega | assumption) [Int.natCast_inj, wrap_i64] using hT
end Go.Am.Ab
