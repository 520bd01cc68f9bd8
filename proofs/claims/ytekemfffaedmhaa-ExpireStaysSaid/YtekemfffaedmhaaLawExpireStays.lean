/- ExpireStays is true: the current snapshot, the last Keep ones, and the young ones never go. No condition. -/
import Derived.Test.YtekemfffaedmhaaRows
import Derived.ProofKit
import Derived.Test.YtekemfffaedmhaaStay9
import Derived.Test.YtekemfffaedmhaaDecode
set_option linter.all false
namespace Go.Proofs.Ytekemfffaedmhaa
open Go.ChangeShapes Go.WideShapes Go.ChangeAt Go.RowKit Go.Am Go.Am.Ab
set_option maxRecDepth 100000
theorem Try.own : ownKnob Try.prog.godebug = none := by kernel_rfl
theorem Try.laidOut : laidOutB Try.prog = true := by kernel_rfl
theorem ExpireStays_data (xs : List D) (hx : All2 (HasTy Try.prog 8) Try.f4.params.toList xs) : ∃ h', Am.Ab.R 4 (xs.map .d) [] = some ([.d (.bool true)], h') := by
  obtain ⟨x0, xs, rfl, h0, hx⟩ := all2_cons hx
  obtain ⟨x1, xs, rfl, h1, hx⟩ := all2_cons hx
  obtain ⟨x2, xs, rfl, h2, hx⟩ := all2_cons hx
  have hn := all2_nil hx
  subst hn
  obtain ⟨t, rfl, ht⟩ := Tab.dec h0
  obtain ⟨p, rfl, hp⟩ := Pol.dec h1
  obtain ⟨i, rfl, hi⟩ := dec_u64 h2 Try.underlying24
  obtain ⟨t1, t2, t3, t4, _, _⟩ := ht
  unfold maxLen at t1 t3
  have w3 : ∀ s ∈ t.schemas, s.fields.length ≤ 9223372036854775807 := fun s hs => by
    have := (t2 s hs).2.2.1
    unfold maxLen at this
    omega
  have w4 : ∀ s ∈ t.snaps, s.mans.length ≤ 9223372036854775807 := fun s hs => by
    have := (t4 s hs).2.2.2.2.2.2.1
    unfold maxLen at this
    omega
  exact ⟨[], expireStays_runs t p i (fun s hs => (t4 s hs).2.2.2.2.1.1) hi ⟨hp.1, hp.2.1⟩ (by omega) (by omega) w3 w4⟩
theorem ExpireStays_lifted (os : Os) (started : os.Started) (H : Type) (enc : TypeId × Value → H) :
    ReturnsInHanded {} Try.checked os 4 .any (Rows.expireStaysSpec.pre6 enc Try.prog Try.f4 Rows.expireStaysRow.domain false) (Rows.expireStaysSpec.post enc Try.prog Try.f4 false true false false) := by
  refine returnsInHanded_of_change (C := Try.checked) Try.own started (by kernel_rfl) Try.func4
    (ChangeSpec.witness6 (enc := enc) (C := Try.checked) false ⟨#[], #[.agg #[.slice none 0 0, .slice none 0 0, .int .u64 0], .agg #[.int .i64 0, .int .u64 0], .int .u64 0], []⟩ 8 (by kernel_rfl) (by kernel_rfl) (by kernel_rfl) (by kernel_rfl)) ?_
  intro W base args ds gs before hval0 hW hcnd _
  have hval : ∀ (j : Nat) t v, Try.f4.params[j]? = some t → args[j]? = some v → Value.okWide Try.prog W .any base t v := hval0
  exact law_contract (m := 8) (tb := 4) Try.laidOut (by kernel_rfl) rfl rfl Try.underlying4 (fun ds hl => by
    match ds, hl with
    | [_, _, _], _ => rfl) (Runs_ok (by kernel_rfl)) ExpireStays_data (grel_nil Am.Ab.G_nil) hval hW
theorem ExpireStays_holds : Rows.ExpireStaysSaid :=
  OpenClaim.holds_of_wide 4 Try.f4 rfl rfl rfl rfl rfl rfl rfl ⟨rfl, rfl, rfl, rfl, rfl⟩ rfl rfl rfl rfl rfl (by kernel_rfl) Try.func4 (by kernel_rfl)
    (of_decide_eq_true (by kernel_rfl)) (by unfold Func.isWrapper; first | (rw [if_pos (by decide +kernel)]; kernel_rfl) | (rw [if_neg (by decide +kernel)]; exact ⟨rfl, rfl⟩))
    (fun os started H enc _ => ExpireStays_lifted os started H enc)
end Go.Proofs.Ytekemfffaedmhaa
