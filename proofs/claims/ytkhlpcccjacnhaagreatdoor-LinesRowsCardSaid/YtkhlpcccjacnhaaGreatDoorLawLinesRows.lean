/- LinesRows is true: a row's text is the document's, and is read back as it is. No other condition. -/
import Derived.Test.YtkhlpcccjacnhaaGreatDoorRows
import Derived.Test.YtkhlpcccjacnhaaGreatDoorCards
import Derived.SevenTiedAt
import Derived.Lay
import Derived.ProofKit
import Derived.Test.YtkhlpcccjacnhaaGreatDoorRowB
import Derived.Test.YtkhlpcccjacnhaaGreatDoorGlob25
import Derived.Test.YtkhlpcccjacnhaaGreatDoorTies
set_option linter.all false
namespace Go.Proofs.YtkhlpcccjacnhaaGreatDoor
open Go.ChangeShapes Go.WideShapes Go.ChangeAt Go.RowKit Go.Am Go.Am.Ab
set_option maxRecDepth 100000
theorem Tryz.own : ownKnob Tryz.prog.godebug = none := by kernel_rfl
theorem Tryz.laidOut : laidOutB Tryz.prog = true := by kernel_rfl
theorem LinesRows_data (xs : List D) (hx : All2 (HasTy Tryz.prog 8) Tryz.f4.params.toList xs) : ∃ h',Am.Ab.R 4 (xs.map .d) [] = some ([.d (.bool true)],h') := by
 obtain ⟨x0,xs,rfl,h0,hx⟩ := all2_cons hx
 have hn := all2_nil hx
 subst hn
 obtain ⟨l,rfl,hl⟩ := cells_dec h0
 exact ⟨[],rows_runs l hl⟩
theorem LinesRows_fits (os : Os) : (World.holding Tryz.prog os ⟨#[], #[],[]⟩).layFits Tryz.prog laidL [] = true := by kernel_rfl
theorem LinesRows_ifaces (os : Os) : (World.holding Tryz.prog os ⟨#[], #[],[]⟩).layIfaces Tryz.prog laidL (World.laidAll Tryz.prog os laidL) = true := by kernel_rfl
theorem LinesRows_plain : (laidL.all fun x => x.2.handleName?.isNone) = true := by kernel_rfl
theorem LinesRows_met (os : Os) (args : Array Value) : laidMetH Tryz.prog laidL ((World.laidAll Tryz.prog os laidL).forCall (fun _ _ => 0) ⟨#[],args,[]⟩).memory := by
 rw [MakeChecks.laidMetH_plain _ _ _ (by kernel_rfl)]; exact laidMet_laidAll _ (LinesRows_fits os) (LinesRows_ifaces os)
theorem LinesRows_shaped (os : Os) (args : Array Value) : ((World.laidAll Tryz.prog os laidL).forCall (fun _ _ => 0) ⟨#[],args,[]⟩).Shaped Tryz.prog := World.shaped_of_ZipB (by kernel_rfl) (by kernel_rfl)
theorem LinesRows_lifted (os : Os) (started : os.Started) (H : Type) (enc : TypeId × Value → H) :
  ReturnsInHanded {} Tryz.checked os 4 .any (fun w args => (Rows.linesRowsSpec.pre enc Tryz.prog Tryz.f4 [] false w args ∧ laidMetH Tryz.prog laidL w) ∧ sizedMet enc Tryz.prog Tryz.f4 (OpenSpec.ofChange Rows.linesRowsSpec) false w args)
   (Rows.linesRowsSpec.post enc Tryz.prog Tryz.f4 false true false false) := by
 refine returns_shaped (C := Tryz.checked) (X := fun w _ => laidMetH Tryz.prog laidL w) (fun _ _ _ hh h => h.of_heap hh) Tryz.own started (by kernel_rfl) Tryz.func4
  (ChangeSpec.witness_shaped (enc := enc) (C := Tryz.checked) (os := os) (X := fun w _ => laidMetH Tryz.prog laidL w) false (World.laidAll Tryz.prog os laidL) #[.slice none 0 0] 8 (World.laidAll_os _ _ _) (LinesRows_shaped os _) (by kernel_rfl) (by kernel_rfl) (by kernel_rfl) (LinesRows_met os _)) ?_
 intro W base args ds gs before hval0 hW _ hL hsh
 have hval : ∀ (j : Nat) t v,Tryz.f4.params[j]? = some t → args[j]? = some v → Value.okWide Tryz.prog W .any base t v := hval0
 exact law_contract (m := 8) (tb := 4) Tryz.laidOut (by kernel_rfl) rfl rfl Tryz.underlying4 (fun ds hl => by
  match ds,hl with
  | [_],_ => rfl) (Runs_ok (by kernel_rfl) Am.Ab.G_sorts Am.Ab.G_chunks) LinesRows_data (grel25 (fun _ _ h => h) hL hsh) hval hW
theorem LinesRows_f1 : mapsRowed Tryz.prog = true := by kernel_rfl
theorem LinesRows_f2 : (Rows.linesRowsRow.inPlace == Tryz.prog.inPlace 4) = true := by kernel_rfl
theorem LinesRows_f3 : (Rows.linesRowsRow.unfollowed == Tryz.prog.unfollowed 4) = true := by kernel_rfl
theorem LinesRows_f4 : (Rows.linesRowsRow.recurses == Tryz.prog.recurses 4) = true := by kernel_rfl
theorem LinesRows_f5 : (Rows.linesRowsRow.named == Tryz.prog.varsNamed 4) = true := by kernel_rfl
theorem LinesRows_f6 : (Rows.linesRowsRow.plainKeys == Tryz.prog.plainKeys) = true := by kernel_rfl
theorem LinesRows_f7 : Tryz.prog.stopsHeard = true := by kernel_rfl
theorem LinesRows_f8 : Tryz.prog.mayEnter = true := by kernel_rfl
theorem LinesRows_f9 : (Rows.linesRowsRow.lifted == Tryz.prog.liftsFinal) = true := by kernel_rfl
theorem LinesRows_facts : joinedFacts Tryz.prog 4 Tryz.f4 Rows.linesRowsSpec Rows.linesRowsRow = true := by
 unfold joinedFacts
 rw [Tryz.laidOut,LinesRows_f1,LinesRows_f2,LinesRows_f3,LinesRows_f4,LinesRows_f5,LinesRows_f6,LinesRows_f7,LinesRows_f8,LinesRows_f9]
 kernel_rfl
theorem LinesRows_holds : Rows.LinesRowsSaid :=
 OpenClaim.holds_of_wide 4 Tryz.f4 rfl rfl rfl rfl rfl rfl rfl ⟨rfl,rfl,rfl,rfl,rfl⟩ rfl rfl rfl rfl rfl (by kernel_rfl) Tryz.func4 LinesRows_facts
  (of_decide_eq_true (by kernel_rfl)) (by unfold Func.isWrapper; first | (rw [if_pos (by decide +kernel)]; kernel_rfl) | (rw [if_neg (by decide +kernel)]; exact ⟨rfl,rfl⟩))
  (fun os started H enc _ => LinesRows_lifted os started H enc)
theorem LinesRows_c1 : Tryz.pinned.checked.prog.mainIs = some (true, ("55e88b302429647159c4c5a1737289ced68b579bdde5e9f6c64963406540ce43" : String).toList) := by kernel_rfl
theorem LinesRows_c2 : true = Tryz.pinned.checked.prog.looks [] := by kernel_rfl
theorem LinesRows_c3 : ([32].all fun u => !Tryz.prog.wantsStandIn u) = true := by kernel_rfl
theorem LinesRows_c5 : Rows.linesRowsRow.wfByText (OpenSpec.ofChange Rows.linesRowsSpec) = true := by kernel_rfl
theorem LinesRows_c6 : Tryz.prog.funcNamed "catchment/catchmentlaw25.LinesRows" = some 4 := by kernel_rfl
theorem linesRows_row_tie : Rows.linesRowsRow.laidByTextAt .later Tryz.pinned [.pinned,.data,.sentinel,.sentinel,.data,.data,.data,.data] true :=
 OpenClaim.laidByTextAt_pinned rfl rfl tie_all rfl rfl rfl rfl
  (fun y hy _e => by
   simp only [Rows.linesRowsRow,List.zip_cons_cons,List.zip_nil_right,List.mem_cons,List.mem_nil_iff,or_false] at hy
   rcases hy with rfl | rfl | rfl | rfl | rfl | rfl | rfl | rfl <;> first | exact ⟨pin_first,by kernel_rfl⟩ | cases _e)
  fits_all
theorem LinesRows_card : Rows.LinesRowsCardSaid :=
 Claim7.holds_tied_plain_at .later [] [.pinned,.data,.sentinel,.sentinel,.data,.data,.data,.data] true (true, "55e88b302429647159c4c5a1737289ced68b579bdde5e9f6c64963406540ce43") true
  LinesRows_holds (fun _ h => by cases h) LinesRows_c5 (fun _ h => by cases h) linesRows_row_tie rfl ⟨rfl,rfl⟩ LinesRows_c1 rfl
  (fun f fn hf hfn => by
   obtain rfl : f = 4 := Option.some.inj (LinesRows_c6.symm.trans hf) |>.symm
   obtain rfl : fn = Tryz.f4 := (Option.some.inj (Tryz.func4.symm.trans hfn)).symm
   exact ⟨LinesRows_c2,fun j t ht => by
    rw [Tryz.params4] at ht
    have hm : t ∈ [32] := by simpa using Array.mem_of_getElem? ht
    exact (show Tryz.prog.wantsStandIn t = false by simpa using List.all_eq_true.1 LinesRows_c3 t hm)⟩)
  (goesBy_false rfl)
end Go.Proofs.YtkhlpcccjacnhaaGreatDoor
