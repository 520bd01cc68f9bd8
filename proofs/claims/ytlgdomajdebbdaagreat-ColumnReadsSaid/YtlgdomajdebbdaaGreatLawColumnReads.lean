/- ColumnReads is true: which bytes are a column's, and of which values, is the document's; of others there is an error, and nothing else. No condition. -/
import Derived.Test.YtlgdomajdebbdaaGreatRows
import Derived.ProofKit
import Derived.Test.YtlgdomajdebbdaaGreatRColE
import Derived.Test.YtlgdomajdebbdaaGreatCDec
set_option linter.all false
namespace Go.Proofs.YtlgdomajdebbdaaGreat
open Go.ChangeShapes Go.WideShapes Go.ChangeAt Go.RowKit Go.Am Go.Am.Ab
set_option maxRecDepth 100000
theorem Tryz.own : ownKnob Tryz.prog.godebug = none := by kernel_rfl
theorem Tryz.laidOut : laidOutB Tryz.prog = true := by kernel_rfl
theorem ColumnReads_data (xs : List D) (hx : All2 (HasTy Tryz.prog 8) Tryz.f3.params.toList xs) : ∃ h',Am.Ab.R 3 (xs.map .d) [] = some ([.d (.bool true)],h') := by
 obtain ⟨x0,xs,rfl,h0,hx⟩ := all2_cons hx
 obtain ⟨x1,xs,rfl,h1,hx⟩ := all2_cons hx
 obtain ⟨x2,xs,rfl,h2,hx⟩ := all2_cons hx
 have hn := all2_nil hx
 subst hn
 obtain ⟨c,rfl,c1,c2⟩ := dec_u8 h0 Tryz.underlying5
 obtain ⟨c,rfl⟩ : ∃ k : Nat,c = k := ⟨c.toNat,by omega⟩
 obtain ⟨b,rfl,hb⟩ := dec_bytes h1 Tryz.underlying22 Tryz.underlying5
 unfold maxLen at hb
 obtain ⟨n,rfl,n1,n2⟩ := dec_i64 h2 Tryz.underlying3
 exact ⟨[],columnReads_runs c (by omega) b (by omega) n ⟨n1,n2⟩⟩
theorem ColumnReads_lifted (os : Os) (started : os.Started) (H : Type) (enc : TypeId × Value → H) :
  ReturnsInHanded {} Tryz.checked os 3 .any (Rows.columnReadsSpec.pre6 enc Tryz.prog Tryz.f3 Rows.columnReadsRow.domain false) (Rows.columnReadsSpec.post enc Tryz.prog Tryz.f3 false true false false) := by
 refine returnsInHanded_of_change (C := Tryz.checked) Tryz.own started (by kernel_rfl) Tryz.func3
  (ChangeSpec.witness6 (enc := enc) (C := Tryz.checked) false ⟨#[], #[.int .u8 0,.slice none 0 0,.int .i64 0],[]⟩ 8 (by kernel_rfl) (by kernel_rfl) (by kernel_rfl) (by kernel_rfl)) ?_
 intro W base args ds gs before hval0 hW hcnd _
 have hval : ∀ (j : Nat) t v,Tryz.f3.params[j]? = some t → args[j]? = some v → Value.okWide Tryz.prog W .any base t v := hval0
 exact law_contract (m := 8) (tb := 4) Tryz.laidOut (by kernel_rfl) rfl rfl Tryz.underlying4 (fun ds hl => by
  match ds,hl with
  | [_,_,_],_ => rfl) (Runs_ok (by kernel_rfl)) ColumnReads_data (grel_nil Am.Ab.G_nil) hval hW
theorem ColumnReads_holds : Rows.ColumnReadsSaid :=
 OpenClaim.holds_of_wide 3 Tryz.f3 rfl rfl rfl rfl rfl rfl rfl ⟨rfl,rfl,rfl,rfl,rfl⟩ rfl rfl rfl rfl rfl (by kernel_rfl) Tryz.func3 (by kernel_rfl)
  (of_decide_eq_true (by kernel_rfl)) (by unfold Func.isWrapper; first | (rw [if_pos (by decide +kernel)]; kernel_rfl) | (rw [if_neg (by decide +kernel)]; exact ⟨rfl,rfl⟩))
  (fun os started H enc _ => ColumnReads_lifted os started H enc)
end Go.Proofs.YtlgdomajdebbdaaGreat
