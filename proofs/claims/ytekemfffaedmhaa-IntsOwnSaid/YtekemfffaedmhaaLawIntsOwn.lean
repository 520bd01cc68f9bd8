/- IntsOwn is true: what is handed in stays as it was, and what is told is new. No condition. -/
import Derived.Test.YtekemfffaedmhaaRows
import Derived.ProofKit
import Derived.Test.YtekemfffaedmhaaILaw4
import Derived.Test.YtekemfffaedmhaaDecode
set_option linter.all false
namespace Go.Proofs.Ytekemfffaedmhaa
open Go.ChangeShapes Go.WideShapes Go.ChangeAt Go.RowKit Go.Am Go.Am.Ab
set_option maxRecDepth 100000
theorem Try.own : ownKnob Try.prog.godebug = none := by kernel_rfl
theorem Try.laidOut : laidOutB Try.prog = true := by kernel_rfl
theorem IntsOwn_data (xs : List D) (hx : All2 (HasTy Try.prog 8) Try.f10.params.toList xs) : ∃ h', Am.Ab.R 10 (xs.map .d) [] = some ([.d (.bool true)], h') := by
  obtain ⟨x0, xs, rfl, h0, hx⟩ := all2_cons hx
  obtain ⟨x1, xs, rfl, h1, hx⟩ := all2_cons hx
  have hn := all2_nil hx
  subst hn
  obtain ⟨l, rfl, lw, ll⟩ := dec_list64 h0 Try.underlying43 Try.underlying2
  unfold maxLen at ll
  obtain ⟨n, rfl, nw⟩ := dec_i64 h1 Try.underlying3
  exact ⟨[], intsOwn_runs l lw (by omega) n nw⟩
theorem IntsOwn_lifted (os : Os) (started : os.Started) (H : Type) (enc : TypeId × Value → H) :
    ReturnsInHanded {} Try.checked os 10 .any (Rows.intsOwnSpec.pre6 enc Try.prog Try.f10 Rows.intsOwnRow.domain false) (Rows.intsOwnSpec.post enc Try.prog Try.f10 false true false false) := by
  refine returnsInHanded_of_change (C := Try.checked) Try.own started (by kernel_rfl) Try.func10
    (ChangeSpec.witness6 (enc := enc) (C := Try.checked) false ⟨#[], #[.slice none 0 0, .int .i64 0], []⟩ 8 (by kernel_rfl) (by kernel_rfl) (by kernel_rfl) (by kernel_rfl)) ?_
  intro W base args ds gs before hval0 hW hcnd _
  have hval : ∀ (j : Nat) t v, Try.f10.params[j]? = some t → args[j]? = some v → Value.okWide Try.prog W .any base t v := hval0
  exact law_contract (m := 8) (tb := 4) Try.laidOut (by kernel_rfl) rfl rfl Try.underlying4 (fun ds hl => by
    match ds, hl with
    | [_, _], _ => rfl) (Runs_ok (by kernel_rfl)) IntsOwn_data (grel_nil Am.Ab.G_nil) hval hW
theorem IntsOwn_holds : Rows.IntsOwnSaid :=
  OpenClaim.holds_of_wide 10 Try.f10 rfl rfl rfl rfl rfl rfl rfl ⟨rfl, rfl, rfl, rfl, rfl⟩ rfl rfl rfl rfl rfl (by kernel_rfl) Try.func10 (by kernel_rfl)
    (of_decide_eq_true (by kernel_rfl)) (by unfold Func.isWrapper; first | (rw [if_pos (by decide +kernel)]; kernel_rfl) | (rw [if_neg (by decide +kernel)]; exact ⟨rfl, rfl⟩))
    (fun os started H enc _ => IntsOwn_lifted os started H enc)
end Go.Proofs.Ytekemfffaedmhaa
