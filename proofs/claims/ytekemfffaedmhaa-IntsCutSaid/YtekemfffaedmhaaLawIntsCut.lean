/- IntsCut is true: bytes of a list that are cut off are not read; nor with one more. No condition. -/
import Derived.Test.YtekemfffaedmhaaRows
import Derived.ProofKit
import Derived.Test.YtekemfffaedmhaaILaw3
import Derived.Test.YtekemfffaedmhaaDecode
set_option linter.all false
namespace Go.Proofs.Ytekemfffaedmhaa
open Go.ChangeShapes Go.WideShapes Go.ChangeAt Go.RowKit Go.Am Go.Am.Ab
set_option maxRecDepth 100000
theorem Try.own : ownKnob Try.prog.godebug = none := by kernel_rfl
theorem Try.laidOut : laidOutB Try.prog = true := by kernel_rfl
theorem IntsCut_data (xs : List D) (hx : All2 (HasTy Try.prog 8) Try.f9.params.toList xs) : ∃ h', Am.Ab.R 9 (xs.map .d) [] = some ([.d (.bool true)], h') := by
  obtain ⟨x0, xs, rfl, h0, hx⟩ := all2_cons hx
  obtain ⟨x1, xs, rfl, h1, hx⟩ := all2_cons hx
  obtain ⟨x2, xs, rfl, h2, hx⟩ := all2_cons hx
  obtain ⟨x3, xs, rfl, h3, hx⟩ := all2_cons hx
  have hn := all2_nil hx
  subst hn
  obtain ⟨c, rfl, c1, c2⟩ := dec_u8 h0 Try.underlying5
  obtain ⟨c, rfl⟩ : ∃ k : Nat, c = k := ⟨c.toNat, by omega⟩
  obtain ⟨l, rfl, lw, ll⟩ := dec_list64 h1 Try.underlying43 Try.underlying2
  unfold maxLen at ll
  obtain ⟨k, rfl, kw⟩ := dec_i64 h2 Try.underlying3
  obtain ⟨x, rfl, x1, x2⟩ := dec_u8 h3 Try.underlying5
  obtain ⟨x, rfl⟩ : ∃ k : Nat, x = k := ⟨x.toNat, by omega⟩
  exact ⟨[], intsCut_runs c (by omega) l lw (by omega) k kw x (by omega)⟩
theorem IntsCut_lifted (os : Os) (started : os.Started) (H : Type) (enc : TypeId × Value → H) :
    ReturnsInHanded {} Try.checked os 9 .any (Rows.intsCutSpec.pre6 enc Try.prog Try.f9 Rows.intsCutRow.domain false) (Rows.intsCutSpec.post enc Try.prog Try.f9 false true false false) := by
  refine returnsInHanded_of_change (C := Try.checked) Try.own started (by kernel_rfl) Try.func9
    (ChangeSpec.witness6 (enc := enc) (C := Try.checked) false ⟨#[], #[.int .u8 0, .slice none 0 0, .int .i64 0, .int .u8 0], []⟩ 8 (by kernel_rfl) (by kernel_rfl) (by kernel_rfl) (by kernel_rfl)) ?_
  intro W base args ds gs before hval0 hW hcnd _
  have hval : ∀ (j : Nat) t v, Try.f9.params[j]? = some t → args[j]? = some v → Value.okWide Try.prog W .any base t v := hval0
  exact law_contract (m := 8) (tb := 4) Try.laidOut (by kernel_rfl) rfl rfl Try.underlying4 (fun ds hl => by
    match ds, hl with
    | [_, _, _, _], _ => rfl) (Runs_ok (by kernel_rfl)) IntsCut_data (grel_nil Am.Ab.G_nil) hval hW
theorem IntsCut_holds : Rows.IntsCutSaid :=
  OpenClaim.holds_of_wide 9 Try.f9 rfl rfl rfl rfl rfl rfl rfl ⟨rfl, rfl, rfl, rfl, rfl⟩ rfl rfl rfl rfl rfl (by kernel_rfl) Try.func9 (by kernel_rfl)
    (of_decide_eq_true (by kernel_rfl)) (by unfold Func.isWrapper; first | (rw [if_pos (by decide +kernel)]; kernel_rfl) | (rw [if_neg (by decide +kernel)]; exact ⟨rfl, rfl⟩))
    (fun os started H enc _ => IntsCut_lifted os started H enc)
end Go.Proofs.Ytekemfffaedmhaa
