/- IntsOne is true: what was read is written by its codec as just these bytes, and by the first three codecs the bytes are not read as another count. No condition. -/
import Derived.Test.YtekemfffaedmhaaRows
import Derived.ProofKit
import Derived.Test.YtekemfffaedmhaaILaw3
import Derived.Test.YtekemfffaedmhaaDecode
set_option linter.all false
namespace Go.Proofs.Ytekemfffaedmhaa
open Go.ChangeShapes Go.WideShapes Go.ChangeAt Go.RowKit Go.Am Go.Am.Ab
set_option maxRecDepth 100000
theorem Try.own : ownKnob Try.prog.godebug = none := by kernel_rfl
theorem Try.laidOut : laidOutB Try.prog = true := by kernel_rfl
theorem IntsOne_data (xs : List D) (hx : All2 (HasTy Try.prog 8) Try.f8.params.toList xs) : ∃ h', Am.Ab.R 8 (xs.map .d) [] = some ([.d (.bool true)], h') := by
  obtain ⟨x0, xs, rfl, h0, hx⟩ := all2_cons hx
  obtain ⟨x1, xs, rfl, h1, hx⟩ := all2_cons hx
  obtain ⟨x2, xs, rfl, h2, hx⟩ := all2_cons hx
  have hn := all2_nil hx
  subst hn
  obtain ⟨b, rfl, bl⟩ := dec_bytes h0 Try.underlying44 Try.underlying5
  unfold maxLen at bl
  obtain ⟨n, rfl, nw⟩ := dec_i64 h1 Try.underlying3
  obtain ⟨o, rfl, ow⟩ := dec_i64 h2 Try.underlying3
  exact ⟨[], intsOne_runs b n o (by omega) nw ow⟩
theorem IntsOne_lifted (os : Os) (started : os.Started) (H : Type) (enc : TypeId × Value → H) :
    ReturnsInHanded {} Try.checked os 8 .any (Rows.intsOneSpec.pre6 enc Try.prog Try.f8 Rows.intsOneRow.domain false) (Rows.intsOneSpec.post enc Try.prog Try.f8 false true false false) := by
  refine returnsInHanded_of_change (C := Try.checked) Try.own started (by kernel_rfl) Try.func8
    (ChangeSpec.witness6 (enc := enc) (C := Try.checked) false ⟨#[], #[.slice none 0 0, .int .i64 0, .int .i64 0], []⟩ 8 (by kernel_rfl) (by kernel_rfl) (by kernel_rfl) (by kernel_rfl)) ?_
  intro W base args ds gs before hval0 hW hcnd _
  have hval : ∀ (j : Nat) t v, Try.f8.params[j]? = some t → args[j]? = some v → Value.okWide Try.prog W .any base t v := hval0
  exact law_contract (m := 8) (tb := 4) Try.laidOut (by kernel_rfl) rfl rfl Try.underlying4 (fun ds hl => by
    match ds, hl with
    | [_, _, _], _ => rfl) (Runs_ok (by kernel_rfl)) IntsOne_data (grel_nil Am.Ab.G_nil) hval hW
theorem IntsOne_holds : Rows.IntsOneSaid :=
  OpenClaim.holds_of_wide 8 Try.f8 rfl rfl rfl rfl rfl rfl rfl ⟨rfl, rfl, rfl, rfl, rfl⟩ rfl rfl rfl rfl rfl (by kernel_rfl) Try.func8 (by kernel_rfl)
    (of_decide_eq_true (by kernel_rfl)) (by unfold Func.isWrapper; first | (rw [if_pos (by decide +kernel)]; kernel_rfl) | (rw [if_neg (by decide +kernel)]; exact ⟨rfl, rfl⟩))
    (fun os started H enc _ => IntsOne_lifted os started H enc)
end Go.Proofs.Ytekemfffaedmhaa
