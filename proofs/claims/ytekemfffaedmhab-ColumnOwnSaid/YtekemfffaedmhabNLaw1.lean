/- The statement that what is handed in stays as it was. -/
import Derived.Test.YtekemfffaedmhabColE
set_option linter.all false
namespace Go.Am.Ab
open Go.Proofs
set_option maxHeartbeats 4000000
set_option maxRecDepth 4000

theorem columnOwn_runs (k : Nat) (hk : k < 256) (l : List Cel) (hl : ∀ c ∈ l, c.kind < 256 ∧ isI64 c.n ∧ c.s.size ≤ 9223372036854775807) (hn : l.length ≤ 9223372036854775807) : R 4 [.d (.int .u8 k), .d (.list (ce l))] [] = some ([.d (.bool true)], []) := by
  have al := alive06
  obtain ⟨m1, m2⟩ := mod3 k hk
  obtain ⟨q, hq⟩ : ∃ q, q = k % 3 := ⟨_, rfl⟩
  rw [← hq] at m1 m2
  obtain ⟨p, hp⟩ : ∃ p, p = 1 + q := ⟨_, rfl⟩
  have hp13 : 1 ≤ p ∧ p ≤ 3 := by omega
  have m3 : IntKind.u8.wrap ((1 : Int) + q) = p := by rw [wrap_u8 (by omega) (by omega)]; omega
  have ho := only_runs p (by omega) l (fun c hc => ⟨(hl c hc).1, (hl c hc).2.2⟩) hn
  obtain ⟨g, hb, hx⟩ := only_row hp13 (l := l) fun c hc => ⟨(hl c hc).1, (hl c hc).2.1⟩
  have hxi := only_is (k := p) (l := l) fun c hc => ⟨(hl c hc).1, (hl c hc).2.1⟩
  have hxs : ∀ c ∈ onlyC p l, c.kind < 256 ∧ c.s.size ≤ 9223372036854775807 := fun c hc => by
    obtain ⟨a1, a2, a3, a4, a5⟩ := chk_kind (hxi c hc).1
    exact ⟨by omega, by omega⟩
  obtain ⟨x, hxe⟩ : ∃ x, x = onlyC p l := ⟨_, rfl⟩
  rw [← hxe] at ho g hb hx hxs
  have hr := row_runs x hxs (by omega)
  have hw := write_ok p hp13 (x.map valOf) g (by simpa using hx)
  have hcl := colB_len hp13 g (by simpa using hx)
  have hrd := col_read_runs p (by omega) (colB p (x.map valOf)) x.length (by unfold isI64; omega) (by omega)
  have htb := top_back hp13 g (by simpa using hx)
  rw [List.length_map] at htb
  rw [htb, List.length_map] at hrd
  have hcs := cells_runs (x.map valOf) (by simp; omega)
  rw [hb, List.length_map] at hcs
  have hsr := sameRow_runs x x (by omega)
  rw [decide_eq_true rfl] at hsr
  obtain ⟨cb, hcb⟩ : ∃ cb, cb = colB p (x.map valOf) := ⟨_, rfl⟩
  obtain ⟨vl, hvl⟩ : ∃ vl, vl = vs (x.map valOf) := ⟨_, rfl⟩
  rw [← hcb] at hw hrd hcl
  rw [← hvl] at hr hw hrd hcs
  have hvll : vl.length = x.length := by rw [hvl]; simp
  have hM := mapM_bytes cb
  clear hcb hvl hb g htb
  refine run_goal (rs := [.tmp 4]) (ts := [4]) Try.func4 (c := _) rfl rfl rfl (by kernel_rfl) (by kernel_rfl) (.inl sp_4) (by simp [Try.f4]) ?_
  intro T hT
  simp -dsimp -implicitDefEqProofs (disch := first | omega | assumption) [startSlots, Int.natCast_inj, wrap_i64, al, m1, m2, m3, ho, hr, hw, hrd, hcs, hsr, hvll, hM]
  simpa -dsimp -implicitDefEqProofs (disch := first | omega | assumption) [Int.natCast_inj, wrap_i64] using hT
end Go.Am.Ab
