/- The statement on columns that are cut off, or have more behind them. -/
import Derived.Test.YtekemfffaedmhaaColE
set_option linter.all false
namespace Go.Am.Ab
open Go.Proofs
set_option maxHeartbeats 4000000
set_option maxRecDepth 4000

theorem columnCut_runs (k : Nat) (hk : k < 256) (l : List Cel) (hl : ∀ c ∈ l, c.kind < 256 ∧ isI64 c.n ∧ c.s.size ≤ 9223372036854775807) (hn : l.length ≤ 9223372036854775807) (ct : Int) (hct : isI64 ct) (more : List UInt8) (hm : more.length ≤ 9223372036854775807) : R 12 [.d (.int .u8 k), .d (.list (ce l)), .d (.int .i64 ct), B more] [] = some ([.d (.bool true)], []) := by
  have al := alive06
  by_cases h1000 : 1000 < more.length
  · have h1000' : (1000 : Int) < more.length := by omega
    refine run_goal (rs := [.tmp 8]) (ts := [4]) Try.func12 (c := _) rfl rfl rfl (by kernel_rfl) (by kernel_rfl) (.inl sp_12) (by simp [Try.f12]) ?_
    intro T hT
    simp -dsimp -implicitDefEqProofs (disch := first | omega | assumption) [startSlots, Int.natCast_inj, wrap_i64, al, h1000']
    simpa -dsimp -implicitDefEqProofs (disch := first | omega | assumption) [Int.natCast_inj, wrap_i64] using hT
  have h1000' : ¬ (1000 : Int) < more.length := by omega
  obtain ⟨m1, m2⟩ := mod3 k hk
  obtain ⟨q, hq⟩ : ∃ q, q = k % 3 := ⟨_, rfl⟩
  rw [← hq] at m1 m2
  obtain ⟨p, hp⟩ : ∃ p, p = 1 + q := ⟨_, rfl⟩
  have hp13 : 1 ≤ p ∧ p ≤ 3 := by omega
  have m3 : IntKind.u8.wrap ((1 : Int) + q) = p := by rw [wrap_u8 (by omega) (by omega)]; omega
  have ho := only_runs p (by omega) l (fun c hc => ⟨(hl c hc).1, (hl c hc).2.2⟩) hn
  obtain ⟨g, hb, hx⟩ := only_row hp13 (l := l) fun c hc => ⟨(hl c hc).1, (hl c hc).2.1⟩
  have hxi := only_is (k := p) (l := l) fun c hc => ⟨(hl c hc).1, (hl c hc).2.1⟩
  have hxs : ∀ c ∈ onlyC p l, c.kind < 256 ∧ c.s.size ≤ 9223372036854775807 := fun c hc => by
    obtain ⟨a1, a2, a3, a4, a5⟩ := chk_kind (hxi c hc).1
    exact ⟨by omega, by omega⟩
  obtain ⟨x, hxe⟩ : ∃ x, x = onlyC p l := ⟨_, rfl⟩
  rw [← hxe] at ho g hb hx hxs
  have hr := row_runs x hxs (by omega)
  have hw := write_ok p hp13 (x.map valOf) g (by simpa using hx)
  have hcl := colB_len hp13 g (by simpa using hx)
  have htb := top_back hp13 g (by simpa using hx)
  rw [List.length_map] at htb
  have hrm := col_read_runs p (by omega) (colB p (x.map valOf) ++ more) x.length (by unfold isI64; omega) (by rw [List.length_append]; omega)
  have htm : more ≠ [] → (readTop p (colB p (x.map valOf) ++ more) x.length).2 ≠ 0 := fun e => by
    have := top_more hp13 g (by simpa using hx) e
    rwa [List.length_map] at this
  have htb2 : more = [] → (readTop p (colB p (x.map valOf) ++ more) x.length).2 = 0 := fun e => by rw [e, List.append_nil, htb]
  have hcut : ∀ c, c < (colB p (x.map valOf)).length → R 33 [.d (.int .u8 p), B ((colB p (x.map valOf)).take c), .d (.int .i64 x.length)] [] = some ([.arr 0 (readTop p ((colB p (x.map valOf)).take c) x.length).1.length, E (readTop p ((colB p (x.map valOf)).take c) x.length).2], [.arr 1 (vs (readTop p ((colB p (x.map valOf)).take c) x.length).1) (readTop p ((colB p (x.map valOf)).take c) x.length).1.length]) := fun c hc => col_read_runs p (by omega) _ x.length (by unfold isI64; omega) (by rw [List.length_take]; omega)
  have hcz : ∀ c, c < (colB p (x.map valOf)).length → (readTop p ((colB p (x.map valOf)).take c) x.length).2 ≠ 0 := fun c hc => by
    have := top_cut hp13 g (by simpa using hx) hc
    rwa [List.length_map] at this
  obtain ⟨cb, hcb⟩ : ∃ cb, cb = colB p (x.map valOf) := ⟨_, rfl⟩
  obtain ⟨vl, hvl⟩ : ∃ vl, vl = vs (x.map valOf) := ⟨_, rfl⟩
  rw [← hcb] at hw hrm htm htb2 hcut hcz hcl
  rw [← hvl] at hr hw
  have hvll : vl.length = x.length := by rw [hvl]; simp
  obtain ⟨rm, hrme⟩ : ∃ r, r = readTop p (cb ++ more) x.length := ⟨_, rfl⟩
  rw [← hrme] at hrm htm htb2
  have hba : B (cb ++ more) = .d (.list (bytes cb ++ bytes more)) := by simp [B]
  rw [hba] at hrm
  clear hcb hvl hb g htb hrme hba
  have hfin : (decide (rm.2 = 0) == decide (more = [])) = true := by
    by_cases e : more = []
    · rw [decide_eq_true (htb2 e), decide_eq_true e]; rfl
    · rw [decide_eq_false (htm e), decide_eq_false e]; rfl
  by_cases c1 : 0 ≤ ct
  · by_cases c2 : ct < cb.length
    · obtain ⟨c, rfl⟩ : ∃ c : Nat, ct = c := ⟨ct.toNat, by omega⟩
      have c3 : c < cb.length := by omega
      have hz := hcz c c3
      have hcu := hcut c c3
      obtain ⟨rc, hrc⟩ : ∃ r, r = readTop p (cb.take c) x.length := ⟨_, rfl⟩
      rw [← hrc] at hz hcu
      have hz' : ¬ (rc.2 : Int) = 0 := by omega
      obtain ⟨bt, hbt⟩ : ∃ bt, bt = cb.take c := ⟨_, rfl⟩
      have hbt' : List.take c (bytes cb) = bytes bt := by rw [hbt, bytes, bytes, List.map_take]
      rw [← hbt] at hcu
      clear hrc hbt hcut hcz
      have c4 : c ≤ cb.length := by omega
      refine run_goal (rs := [.tmp 8]) (ts := [4]) Try.func12 (c := _) rfl rfl rfl (by kernel_rfl) (by kernel_rfl) (.inl sp_12) (by simp [Try.f12]) ?_
      intro T hT
      simp -dsimp -implicitDefEqProofs (disch := first | omega | assumption) [startSlots, Int.natCast_inj, wrap_i64, al, h1000', m1, m2, m3, ho, hr, hw, c1, c2, c3, c4, hbt', hcu, hz, hz', hrm, hfin]
      simpa -dsimp -implicitDefEqProofs (disch := first | omega | assumption) [Int.natCast_inj, wrap_i64] using hT
    · clear hcut hcz
      refine run_goal (rs := [.tmp 8]) (ts := [4]) Try.func12 (c := _) rfl rfl rfl (by kernel_rfl) (by kernel_rfl) (.inl sp_12) (by simp [Try.f12]) ?_
      intro T hT
      simp -dsimp -implicitDefEqProofs (disch := first | omega | assumption) [startSlots, Int.natCast_inj, wrap_i64, al, h1000', m1, m2, m3, ho, hr, hw, c1, c2, hrm, hfin]
      simpa -dsimp -implicitDefEqProofs (disch := first | omega | assumption) [Int.natCast_inj, wrap_i64] using hT
  · clear hcut hcz
    refine run_goal (rs := [.tmp 8]) (ts := [4]) Try.func12 (c := _) rfl rfl rfl (by kernel_rfl) (by kernel_rfl) (.inl sp_12) (by simp [Try.f12]) ?_
    intro T hT
    simp -dsimp -implicitDefEqProofs (disch := first | omega | assumption) [startSlots, Int.natCast_inj, wrap_i64, al, h1000', m1, m2, m3, ho, hr, hw, c1, hrm, hfin]
    simpa -dsimp -implicitDefEqProofs (disch := first | omega | assumption) [Int.natCast_inj, wrap_i64] using hT
end Go.Am.Ab
