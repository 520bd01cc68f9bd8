/- ColumnWrites is true: the bytes of any values, as a column of any kind, are the document's, or its error. No condition. -/
import Derived.Test.YtekemfffaedmhaaGreatRows
import Derived.ProofKit
import Derived.Test.YtekemfffaedmhaaGreatWLaw1
import Derived.Test.YtekemfffaedmhaaGreatCDec
set_option linter.all false
namespace Go.Proofs.YtekemfffaedmhaaGreat
open Go.ChangeShapes Go.WideShapes Go.ChangeAt Go.RowKit Go.Am Go.Am.Ab
set_option maxRecDepth 100000
theorem Tryz.own : ownKnob Tryz.prog.godebug = none := by kernel_rfl
theorem Tryz.laidOut : laidOutB Tryz.prog = true := by kernel_rfl
theorem ColumnWrites_data (xs : List D) (hx : All2 (HasTy Tryz.prog 8) Tryz.f3.params.toList xs) : ∃ h', Am.Ab.R 3 (xs.map .d) [] = some ([.d (.bool true)], h') := by
  obtain ⟨x0, xs, rfl, h0, hx⟩ := all2_cons hx
  obtain ⟨x1, xs, rfl, h1, hx⟩ := all2_cons hx
  have hn := all2_nil hx
  subst hn
  obtain ⟨c, rfl, c1, c2⟩ := dec_u8 h0 Tryz.underlying5
  obtain ⟨c, rfl⟩ : ∃ k : Nat, c = k := ⟨c.toNat, by omega⟩
  obtain ⟨l, rfl, lw, ll⟩ := cells_dec h1
  unfold maxLen at ll
  have lw' : ∀ c ∈ l, c.kind < 256 ∧ isI64 c.n ∧ c.s.size ≤ 9223372036854775807 := fun c hc => by
    obtain ⟨a1, a2, a3⟩ := lw c hc
    unfold maxLen at a3
    exact ⟨a1, a2, by omega⟩
  exact ⟨[], columnWrites_runs c (by omega) l lw' (by omega)⟩
theorem ColumnWrites_lifted (os : Os) (started : os.Started) (H : Type) (enc : TypeId × Value → H) :
    ReturnsInHanded {} Tryz.checked os 3 .any (Rows.columnWritesSpec.pre6 enc Tryz.prog Tryz.f3 Rows.columnWritesRow.domain false) (Rows.columnWritesSpec.post enc Tryz.prog Tryz.f3 false true false false) := by
  refine returnsInHanded_of_change (C := Tryz.checked) Tryz.own started (by kernel_rfl) Tryz.func3
    (ChangeSpec.witness6 (enc := enc) (C := Tryz.checked) false ⟨#[], #[.int .u8 0, .slice none 0 0], []⟩ 8 (by kernel_rfl) (by kernel_rfl) (by kernel_rfl) (by kernel_rfl)) ?_
  intro W base args ds gs before hval0 hW hcnd _
  have hval : ∀ (j : Nat) t v, Tryz.f3.params[j]? = some t → args[j]? = some v → Value.okWide Tryz.prog W .any base t v := hval0
  exact law_contract (m := 8) (tb := 4) Tryz.laidOut (by kernel_rfl) rfl rfl Tryz.underlying4 (fun ds hl => by
    match ds, hl with
    | [_, _], _ => rfl) (Runs_ok (by kernel_rfl)) ColumnWrites_data (grel_nil Am.Ab.G_nil) hval hW
theorem ColumnWrites_holds : Rows.ColumnWritesSaid :=
  OpenClaim.holds_of_wide 3 Tryz.f3 rfl rfl rfl rfl rfl rfl rfl ⟨rfl, rfl, rfl, rfl, rfl⟩ rfl rfl rfl rfl rfl (by kernel_rfl) Tryz.func3 (by kernel_rfl)
    (of_decide_eq_true (by kernel_rfl)) (by unfold Func.isWrapper; first | (rw [if_pos (by decide +kernel)]; kernel_rfl) | (rw [if_neg (by decide +kernel)]; exact ⟨rfl, rfl⟩))
    (fun os started H enc _ => ColumnWrites_lifted os started H enc)
end Go.Proofs.YtekemfffaedmhaaGreat
