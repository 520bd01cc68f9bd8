/- LinesReads is true: what a line is read as, as an event and as an act, is the document's. No other condition. -/
import Derived.Test.YtkhlpcccjacnhaaGreatDoorRows
import Derived.Test.YtkhlpcccjacnhaaGreatDoorCards
import Derived.SevenTiedAt
import Derived.Lay
import Derived.ProofKit
import Derived.Test.YtkhlpcccjacnhaaGreatDoorLinF
import Derived.Test.YtkhlpcccjacnhaaGreatDoorDecode
import Derived.Test.YtkhlpcccjacnhaaGreatDoorGlob25
import Derived.Test.YtkhlpcccjacnhaaGreatDoorTies
set_option linter.all false
namespace Go.Proofs.YtkhlpcccjacnhaaGreatDoor
open Go.ChangeShapes Go.WideShapes Go.ChangeAt Go.RowKit Go.Am Go.Am.Ab
set_option maxRecDepth 100000
theorem Tryz.own : ownKnob Tryz.prog.godebug = none := by kernel_rfl
theorem Tryz.laidOut : laidOutB Tryz.prog = true := by kernel_rfl
theorem LinesReads_data (xs : List D) (hx : All2 (HasTy Tryz.prog 8) Tryz.f5.params.toList xs) : ∃ h',Am.Ab.R 5 (xs.map .d) [] = some ([.d (.bool true)],h') := by
 obtain ⟨x0,xs,rfl,h0,hx⟩ := all2_cons hx
 have hn := all2_nil hx
 subst hn
 obtain ⟨s,rfl,hs⟩ := hasTy_str h0 Tryz.underlying9
 exact ⟨[],reads_runs s.data.toList⟩
theorem LinesReads_fits (os : Os) : (World.holding Tryz.prog os ⟨#[], #[],[]⟩).layFits Tryz.prog laidL [] = true := by kernel_rfl
theorem LinesReads_ifaces (os : Os) : (World.holding Tryz.prog os ⟨#[], #[],[]⟩).layIfaces Tryz.prog laidL (World.laidAll Tryz.prog os laidL) = true := by kernel_rfl
theorem LinesReads_plain : (laidL.all fun x => x.2.handleName?.isNone) = true := by kernel_rfl
theorem LinesReads_met (os : Os) (args : Array Value) : laidMetH Tryz.prog laidL ((World.laidAll Tryz.prog os laidL).forCall (fun _ _ => 0) ⟨#[],args,[]⟩).memory := by
 rw [MakeChecks.laidMetH_plain _ _ _ (by kernel_rfl)]; exact laidMet_laidAll _ (LinesReads_fits os) (LinesReads_ifaces os)
theorem LinesReads_shaped (os : Os) (args : Array Value) : ((World.laidAll Tryz.prog os laidL).forCall (fun _ _ => 0) ⟨#[],args,[]⟩).Shaped Tryz.prog := World.shaped_of_ZipB (by kernel_rfl) (by kernel_rfl)
theorem LinesReads_lifted (os : Os) (started : os.Started) (H : Type) (enc : TypeId × Value → H) :
  ReturnsInHanded {} Tryz.checked os 5 .any (fun w args => (Rows.linesReadsSpec.pre enc Tryz.prog Tryz.f5 [] false w args ∧ laidMetH Tryz.prog laidL w) ∧ sizedMet enc Tryz.prog Tryz.f5 (OpenSpec.ofChange Rows.linesReadsSpec) false w args)
   (Rows.linesReadsSpec.post enc Tryz.prog Tryz.f5 false true false false) := by
 refine returns_shaped (C := Tryz.checked) (X := fun w _ => laidMetH Tryz.prog laidL w) (fun _ _ _ hh h => h.of_heap hh) Tryz.own started (by kernel_rfl) Tryz.func5
  (ChangeSpec.witness_shaped (enc := enc) (C := Tryz.checked) (os := os) (X := fun w _ => laidMetH Tryz.prog laidL w) false (World.laidAll Tryz.prog os laidL) #[.string ⟨#[]⟩] 8 (World.laidAll_os _ _ _) (LinesReads_shaped os _) (by kernel_rfl) (by kernel_rfl) (by kernel_rfl) (LinesReads_met os _)) ?_
 intro W base args ds gs before hval0 hW _ hL hsh
 have hval : ∀ (j : Nat) t v,Tryz.f5.params[j]? = some t → args[j]? = some v → Value.okWide Tryz.prog W .any base t v := hval0
 exact law_contract (m := 8) (tb := 4) Tryz.laidOut (by kernel_rfl) rfl rfl Tryz.underlying4 (fun ds hl => by
  match ds,hl with
  | [_],_ => rfl) (Runs_ok (by kernel_rfl) Am.Ab.G_sorts Am.Ab.G_chunks) LinesReads_data (grel25 (fun _ _ h => h) hL hsh) hval hW
theorem LinesReads_f1 : mapsRowed Tryz.prog = true := by kernel_rfl
theorem LinesReads_f2 : (Rows.linesReadsRow.inPlace == Tryz.prog.inPlace 5) = true := by kernel_rfl
theorem LinesReads_f3 : (Rows.linesReadsRow.unfollowed == Tryz.prog.unfollowed 5) = true := by kernel_rfl
theorem LinesReads_f4 : (Rows.linesReadsRow.recurses == Tryz.prog.recurses 5) = true := by kernel_rfl
theorem LinesReads_f5 : (Rows.linesReadsRow.named == Tryz.prog.varsNamed 5) = true := by kernel_rfl
theorem LinesReads_f6 : (Rows.linesReadsRow.plainKeys == Tryz.prog.plainKeys) = true := by kernel_rfl
theorem LinesReads_f7 : Tryz.prog.stopsHeard = true := by kernel_rfl
theorem LinesReads_f8 : Tryz.prog.mayEnter = true := by kernel_rfl
theorem LinesReads_f9 : (Rows.linesReadsRow.lifted == Tryz.prog.liftsFinal) = true := by kernel_rfl
theorem LinesReads_facts : joinedFacts Tryz.prog 5 Tryz.f5 Rows.linesReadsSpec Rows.linesReadsRow = true := by
 unfold joinedFacts
 rw [Tryz.laidOut,LinesReads_f1,LinesReads_f2,LinesReads_f3,LinesReads_f4,LinesReads_f5,LinesReads_f6,LinesReads_f7,LinesReads_f8,LinesReads_f9]
 kernel_rfl
theorem LinesReads_holds : Rows.LinesReadsSaid :=
 OpenClaim.holds_of_wide 5 Tryz.f5 rfl rfl rfl rfl rfl rfl rfl ⟨rfl,rfl,rfl,rfl,rfl⟩ rfl rfl rfl rfl rfl (by kernel_rfl) Tryz.func5 LinesReads_facts
  (of_decide_eq_true (by kernel_rfl)) (by unfold Func.isWrapper; first | (rw [if_pos (by decide +kernel)]; kernel_rfl) | (rw [if_neg (by decide +kernel)]; exact ⟨rfl,rfl⟩))
  (fun os started H enc _ => LinesReads_lifted os started H enc)
theorem LinesReads_c1 : Tryz.pinned.checked.prog.mainIs = some (true, ("55e88b302429647159c4c5a1737289ced68b579bdde5e9f6c64963406540ce43" : String).toList) := by kernel_rfl
theorem LinesReads_c2 : true = Tryz.pinned.checked.prog.looks [] := by kernel_rfl
theorem LinesReads_c3 : ([9].all fun u => !Tryz.prog.wantsStandIn u) = true := by kernel_rfl
theorem LinesReads_c5 : Rows.linesReadsRow.wfByText (OpenSpec.ofChange Rows.linesReadsSpec) = true := by kernel_rfl
theorem LinesReads_c6 : Tryz.prog.funcNamed "catchment/catchmentlaw25.LinesReads" = some 5 := by kernel_rfl
theorem linesReads_row_tie : Rows.linesReadsRow.laidByTextAt .later Tryz.pinned [.pinned,.data,.sentinel,.sentinel,.data,.data,.data,.data] true :=
 OpenClaim.laidByTextAt_pinned rfl rfl tie_all rfl rfl rfl rfl
  (fun y hy _e => by
   simp only [Rows.linesReadsRow,List.zip_cons_cons,List.zip_nil_right,List.mem_cons,List.mem_nil_iff,or_false] at hy
   rcases hy with rfl | rfl | rfl | rfl | rfl | rfl | rfl | rfl <;> first | exact ⟨pin_first,by kernel_rfl⟩ | cases _e)
  fits_all
theorem LinesReads_card : Rows.LinesReadsCardSaid :=
 Claim7.holds_tied_plain_at .later [] [.pinned,.data,.sentinel,.sentinel,.data,.data,.data,.data] true (true, "55e88b302429647159c4c5a1737289ced68b579bdde5e9f6c64963406540ce43") true
  LinesReads_holds (fun _ h => by cases h) LinesReads_c5 (fun _ h => by cases h) linesReads_row_tie rfl ⟨rfl,rfl⟩ LinesReads_c1 rfl
  (fun f fn hf hfn => by
   obtain rfl : f = 5 := Option.some.inj (LinesReads_c6.symm.trans hf) |>.symm
   obtain rfl : fn = Tryz.f5 := (Option.some.inj (Tryz.func5.symm.trans hfn)).symm
   exact ⟨LinesReads_c2,fun j t ht => by
    rw [Tryz.params5] at ht
    have hm : t ∈ [9] := by simpa using Array.mem_of_getElem? ht
    exact (show Tryz.prog.wantsStandIn t = false by simpa using List.all_eq_true.1 LinesReads_c3 t hm)⟩)
  (goesBy_false rfl)
end Go.Proofs.YtkhlpcccjacnhaaGreatDoor
