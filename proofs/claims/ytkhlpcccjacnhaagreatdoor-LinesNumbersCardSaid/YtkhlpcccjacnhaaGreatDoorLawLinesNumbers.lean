/- LinesNumbers is true: a line of a number is that number's, and one byte replaced spoils it unless it stays a number of the machine's. No other condition. -/
import Derived.Test.YtkhlpcccjacnhaaGreatDoorRows
import Derived.Test.YtkhlpcccjacnhaaGreatDoorCards
import Derived.SevenTiedAt
import Derived.Lay
import Derived.ProofKit
import Derived.Test.YtkhlpcccjacnhaaGreatDoorLinB
import Derived.Test.YtkhlpcccjacnhaaGreatDoorDecode
import Derived.Test.YtkhlpcccjacnhaaGreatDoorGlob25
import Derived.Test.YtkhlpcccjacnhaaGreatDoorTies
set_option linter.all false
namespace Go.Proofs.YtkhlpcccjacnhaaGreatDoor
open Go.ChangeShapes Go.WideShapes Go.ChangeAt Go.RowKit Go.Am Go.Am.Ab
set_option maxRecDepth 100000
theorem Tryz.own : ownKnob Tryz.prog.godebug = none := by kernel_rfl
theorem Tryz.laidOut : laidOutB Tryz.prog = true := by kernel_rfl
theorem LinesNumbers_data (xs : List D) (hx : All2 (HasTy Tryz.prog 8) Tryz.f6.params.toList xs) : ∃ h',Am.Ab.R 6 (xs.map .d) [] = some ([.d (.bool true)],h') := by
 obtain ⟨x0,xs,rfl,h0,hx⟩ := all2_cons hx
 obtain ⟨x1,xs,rfl,h1,hx⟩ := all2_cons hx
 have hn := all2_nil hx
 subst hn
 obtain ⟨n,rfl,n1,n2⟩ := dec_i64 h0 Tryz.underlying3
 obtain ⟨z,rfl,z1,z2⟩ := dec_u8 h1 Tryz.underlying5
 obtain ⟨z,rfl⟩ : ∃ k : Nat,z = k := ⟨z.toNat,by omega⟩
 exact ⟨[],numbers_runs n n1 n2 z (by omega)⟩
theorem LinesNumbers_fits (os : Os) : (World.holding Tryz.prog os ⟨#[], #[],[]⟩).layFits Tryz.prog laidL [] = true := by kernel_rfl
theorem LinesNumbers_ifaces (os : Os) : (World.holding Tryz.prog os ⟨#[], #[],[]⟩).layIfaces Tryz.prog laidL (World.laidAll Tryz.prog os laidL) = true := by kernel_rfl
theorem LinesNumbers_plain : (laidL.all fun x => x.2.handleName?.isNone) = true := by kernel_rfl
theorem LinesNumbers_met (os : Os) (args : Array Value) : laidMetH Tryz.prog laidL ((World.laidAll Tryz.prog os laidL).forCall (fun _ _ => 0) ⟨#[],args,[]⟩).memory := by
 rw [MakeChecks.laidMetH_plain _ _ _ (by kernel_rfl)]; exact laidMet_laidAll _ (LinesNumbers_fits os) (LinesNumbers_ifaces os)
theorem LinesNumbers_shaped (os : Os) (args : Array Value) : ((World.laidAll Tryz.prog os laidL).forCall (fun _ _ => 0) ⟨#[],args,[]⟩).Shaped Tryz.prog := World.shaped_of_ZipB (by kernel_rfl) (by kernel_rfl)
theorem LinesNumbers_lifted (os : Os) (started : os.Started) (H : Type) (enc : TypeId × Value → H) :
  ReturnsInHanded {} Tryz.checked os 6 .any (fun w args => (Rows.linesNumbersSpec.pre enc Tryz.prog Tryz.f6 [] false w args ∧ laidMetH Tryz.prog laidL w) ∧ sizedMet enc Tryz.prog Tryz.f6 (OpenSpec.ofChange Rows.linesNumbersSpec) false w args)
   (Rows.linesNumbersSpec.post enc Tryz.prog Tryz.f6 false true false false) := by
 refine returns_shaped (C := Tryz.checked) (X := fun w _ => laidMetH Tryz.prog laidL w) (fun _ _ _ hh h => h.of_heap hh) Tryz.own started (by kernel_rfl) Tryz.func6
  (ChangeSpec.witness_shaped (enc := enc) (C := Tryz.checked) (os := os) (X := fun w _ => laidMetH Tryz.prog laidL w) false (World.laidAll Tryz.prog os laidL) #[.int .i64 0,.int .u8 0] 8 (World.laidAll_os _ _ _) (LinesNumbers_shaped os _) (by kernel_rfl) (by kernel_rfl) (by kernel_rfl) (LinesNumbers_met os _)) ?_
 intro W base args ds gs before hval0 hW _ hL hsh
 have hval : ∀ (j : Nat) t v,Tryz.f6.params[j]? = some t → args[j]? = some v → Value.okWide Tryz.prog W .any base t v := hval0
 exact law_contract (m := 8) (tb := 4) Tryz.laidOut (by kernel_rfl) rfl rfl Tryz.underlying4 (fun ds hl => by
  match ds,hl with
  | [_,_],_ => rfl) (Runs_ok (by kernel_rfl) Am.Ab.G_sorts Am.Ab.G_chunks) LinesNumbers_data (grel25 (fun _ _ h => h) hL hsh) hval hW
theorem LinesNumbers_f1 : mapsRowed Tryz.prog = true := by kernel_rfl
theorem LinesNumbers_f2 : (Rows.linesNumbersRow.inPlace == Tryz.prog.inPlace 6) = true := by kernel_rfl
theorem LinesNumbers_f3 : (Rows.linesNumbersRow.unfollowed == Tryz.prog.unfollowed 6) = true := by kernel_rfl
theorem LinesNumbers_f4 : (Rows.linesNumbersRow.recurses == Tryz.prog.recurses 6) = true := by kernel_rfl
theorem LinesNumbers_f5 : (Rows.linesNumbersRow.named == Tryz.prog.varsNamed 6) = true := by kernel_rfl
theorem LinesNumbers_f6 : (Rows.linesNumbersRow.plainKeys == Tryz.prog.plainKeys) = true := by kernel_rfl
theorem LinesNumbers_f7 : Tryz.prog.stopsHeard = true := by kernel_rfl
theorem LinesNumbers_f8 : Tryz.prog.mayEnter = true := by kernel_rfl
theorem LinesNumbers_f9 : (Rows.linesNumbersRow.lifted == Tryz.prog.liftsFinal) = true := by kernel_rfl
theorem LinesNumbers_facts : joinedFacts Tryz.prog 6 Tryz.f6 Rows.linesNumbersSpec Rows.linesNumbersRow = true := by
 unfold joinedFacts
 rw [Tryz.laidOut,LinesNumbers_f1,LinesNumbers_f2,LinesNumbers_f3,LinesNumbers_f4,LinesNumbers_f5,LinesNumbers_f6,LinesNumbers_f7,LinesNumbers_f8,LinesNumbers_f9]
 kernel_rfl
theorem LinesNumbers_holds : Rows.LinesNumbersSaid :=
 OpenClaim.holds_of_wide 6 Tryz.f6 rfl rfl rfl rfl rfl rfl rfl ⟨rfl,rfl,rfl,rfl,rfl⟩ rfl rfl rfl rfl rfl (by kernel_rfl) Tryz.func6 LinesNumbers_facts
  (of_decide_eq_true (by kernel_rfl)) (by unfold Func.isWrapper; first | (rw [if_pos (by decide +kernel)]; kernel_rfl) | (rw [if_neg (by decide +kernel)]; exact ⟨rfl,rfl⟩))
  (fun os started H enc _ => LinesNumbers_lifted os started H enc)
theorem LinesNumbers_c1 : Tryz.pinned.checked.prog.mainIs = some (true, ("55e88b302429647159c4c5a1737289ced68b579bdde5e9f6c64963406540ce43" : String).toList) := by kernel_rfl
theorem LinesNumbers_c2 : true = Tryz.pinned.checked.prog.looks [] := by kernel_rfl
theorem LinesNumbers_c3 : ([3,5].all fun u => !Tryz.prog.wantsStandIn u) = true := by kernel_rfl
theorem LinesNumbers_c5 : Rows.linesNumbersRow.wfByText (OpenSpec.ofChange Rows.linesNumbersSpec) = true := by kernel_rfl
theorem LinesNumbers_c6 : Tryz.prog.funcNamed "catchment/catchmentlaw25.LinesNumbers" = some 6 := by kernel_rfl
theorem linesNumbers_row_tie : Rows.linesNumbersRow.laidByTextAt .later Tryz.pinned [.pinned,.data,.sentinel,.sentinel,.data,.data,.data,.data] true :=
 OpenClaim.laidByTextAt_pinned rfl rfl tie_all rfl rfl rfl rfl
  (fun y hy _e => by
   simp only [Rows.linesNumbersRow,List.zip_cons_cons,List.zip_nil_right,List.mem_cons,List.mem_nil_iff,or_false] at hy
   rcases hy with rfl | rfl | rfl | rfl | rfl | rfl | rfl | rfl <;> first | exact ⟨pin_first,by kernel_rfl⟩ | cases _e)
  fits_all
theorem LinesNumbers_card : Rows.LinesNumbersCardSaid :=
 Claim7.holds_tied_plain_at .later [] [.pinned,.data,.sentinel,.sentinel,.data,.data,.data,.data] true (true, "55e88b302429647159c4c5a1737289ced68b579bdde5e9f6c64963406540ce43") true
  LinesNumbers_holds (fun _ h => by cases h) LinesNumbers_c5 (fun _ h => by cases h) linesNumbers_row_tie rfl ⟨rfl,rfl⟩ LinesNumbers_c1 rfl
  (fun f fn hf hfn => by
   obtain rfl : f = 6 := Option.some.inj (LinesNumbers_c6.symm.trans hf) |>.symm
   obtain rfl : fn = Tryz.f6 := (Option.some.inj (Tryz.func6.symm.trans hfn)).symm
   exact ⟨LinesNumbers_c2,fun j t ht => by
    rw [Tryz.params6] at ht
    have hm : t ∈ [3,5] := by simpa using Array.mem_of_getElem? ht
    exact (show Tryz.prog.wantsStandIn t = false by simpa using List.all_eq_true.1 LinesNumbers_c3 t hm)⟩)
  (goesBy_false rfl)
end Go.Proofs.YtkhlpcccjacnhaaGreatDoor
