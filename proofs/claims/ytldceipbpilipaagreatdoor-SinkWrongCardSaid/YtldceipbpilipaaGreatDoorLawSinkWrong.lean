/- SinkWrong is true: an event that may not be is refused by a sink, by its error, and changes nothing. No other condition. -/
import Derived.Test.YtldceipbpilipaaGreatDoorRows
import Derived.Test.YtldceipbpilipaaGreatDoorCards
import Derived.SevenTiedAt
import Derived.Lay
import Derived.ProofKit
import Derived.Test.YtldceipbpilipaaGreatDoorSnk4
import Derived.Test.YtldceipbpilipaaGreatDoorDecE
import Derived.Test.YtldceipbpilipaaGreatDoorGlobA
import Derived.Test.YtldceipbpilipaaGreatDoorTiesA
import Derived.Test.YtldceipbpilipaaGreatDoorTies
set_option linter.all false
namespace Go.Proofs.YtldceipbpilipaaGreatDoor
open Go.ChangeShapes Go.WideShapes Go.ChangeAt Go.RowKit Go.Am Go.Am.Ab
set_option maxRecDepth 100000
theorem Tryz.own : ownKnob Tryz.prog.godebug = none := by kernel_rfl
theorem Tryz.laidOut : laidOutB Tryz.prog = true := by kernel_rfl
theorem SinkWrong_data (xs : List D) (hx : All2 (HasTy Tryz.prog 8) Tryz.f3.params.toList xs) : ∃ h',Am.Ab.R 3 (xs.map .d) [] = some ([.d (.bool true)],h') := by
 obtain ⟨x0,xs,rfl,h0,hx⟩ := all2_cons hx
 obtain ⟨x1,xs,rfl,h1,hx⟩ := all2_cons hx
 obtain ⟨x2,xs,rfl,h2,hx⟩ := all2_cons hx
 have hn := all2_nil hx
 subst hn
 obtain ⟨ys,rfl,g⟩ := hasTy_struct h0 Tryz.underlying24
 obtain ⟨y0,ys,rfl,g0,g⟩ := all2_cons g
 obtain ⟨y1,ys,rfl,g1,g⟩ := all2_cons g
 obtain ⟨y2,ys,rfl,g2,g⟩ := all2_cons g
 obtain ⟨y3,ys,rfl,g3,g⟩ := all2_cons g
 have hn := all2_nil g
 subst hn
 obtain ⟨v0,rfl,a0,b0⟩ := dec_i64 g0 Tryz.underlying3
 obtain ⟨v1,rfl,a1,b1⟩ := dec_i64 g1 Tryz.underlying3
 obtain ⟨v2,rfl,a2,b2⟩ := dec_u64 g2 Tryz.underlying22
 obtain ⟨v3,rfl,a3,b3⟩ := dec_i64 g3 Tryz.underlying3
 obtain ⟨l,rfl,hl,hll⟩ := evts_dec h1
 obtain ⟨e,rfl,he⟩ := evt_dec h2
 exact ⟨[],sinkWrong_runs v0 v1 v2 v3 l hl (by unfold maxLen at hll; exact hll) e he⟩
theorem SinkWrong_fits (os : Os) : (World.holding Tryz.prog os ⟨#[], #[],[]⟩).layFits Tryz.prog laidL [] = true := by kernel_rfl
theorem SinkWrong_ifaces (os : Os) : (World.holding Tryz.prog os ⟨#[], #[],[]⟩).layIfaces Tryz.prog laidL (World.laidAll Tryz.prog os laidL) = true := by kernel_rfl
theorem SinkWrong_plain : (laidL.all fun x => x.2.handleName?.isNone) = true := by kernel_rfl
theorem SinkWrong_met (os : Os) (args : Array Value) : laidMetH Tryz.prog laidL ((World.laidAll Tryz.prog os laidL).forCall (fun _ _ => 0) ⟨#[],args,[]⟩).memory := by
 rw [MakeChecks.laidMetH_plain _ _ _ (by kernel_rfl)]; exact laidMet_laidAll _ (SinkWrong_fits os) (SinkWrong_ifaces os)
theorem SinkWrong_shaped (os : Os) (args : Array Value) : ((World.laidAll Tryz.prog os laidL).forCall (fun _ _ => 0) ⟨#[],args,[]⟩).Shaped Tryz.prog := World.shaped_of_ZipB (by kernel_rfl) (by kernel_rfl)
theorem SinkWrong_lifted (os : Os) (started : os.Started) (H : Type) (enc : TypeId × Value → H) :
  ReturnsInHanded {} Tryz.checked os 3 .any (fun w args => (Rows.sinkWrongSpec.pre enc Tryz.prog Tryz.f3 [] false w args ∧ laidMetH Tryz.prog laidL w) ∧ sizedMet enc Tryz.prog Tryz.f3 (OpenSpec.ofChange Rows.sinkWrongSpec) false w args)
   (Rows.sinkWrongSpec.post enc Tryz.prog Tryz.f3 false true false false) := by
 refine returns_shaped (C := Tryz.checked) (X := fun w _ => laidMetH Tryz.prog laidL w) (fun _ _ _ hh h => h.of_heap hh) Tryz.own started (by kernel_rfl) Tryz.func3
  (ChangeSpec.witness_shaped (enc := enc) (C := Tryz.checked) (os := os) (X := fun w _ => laidMetH Tryz.prog laidL w) false (World.laidAll Tryz.prog os laidL) #[.agg #[.int .i64 0,.int .i64 0,.int .u64 0,.int .i64 0],.slice none 0 0,.agg #[.int .u64 0,.int .u8 0,.slice none 0 0,.int .u8 0,.int .i64 0,.string ⟨#[]⟩,.string ⟨#[]⟩,.int .u8 0]] 8 (World.laidAll_os _ _ _) (SinkWrong_shaped os _) (by kernel_rfl) (by kernel_rfl) (by kernel_rfl) (SinkWrong_met os _)) ?_
 intro W base args ds gs before hval0 hW _ hL hsh
 have hval : ∀ (j : Nat) t v,Tryz.f3.params[j]? = some t → args[j]? = some v → Value.okWide Tryz.prog W .any base t v := hval0
 exact law_contract (m := 8) (tb := 4) Tryz.laidOut (by kernel_rfl) rfl rfl Tryz.underlying4 (fun ds hl => by
  match ds,hl with
  | [_,_,_],_ => rfl) (Runs_ok (by kernel_rfl) Am.Ab.G_sorts Am.Ab.G_chunks) SinkWrong_data (grel25 (fun _ _ h => h) hL hsh) hval hW
theorem SinkWrong_f1 : mapsRowed Tryz.prog = true := by kernel_rfl
theorem SinkWrong_f2 : (Rows.sinkWrongRow.inPlace == Tryz.prog.inPlace 3) = true := by kernel_rfl
theorem SinkWrong_f3 : (Rows.sinkWrongRow.unfollowed == Tryz.prog.unfollowed 3) = true := by kernel_rfl
theorem SinkWrong_f4 : (Rows.sinkWrongRow.recurses == Tryz.prog.recurses 3) = true := by kernel_rfl
theorem SinkWrong_f5 : (Rows.sinkWrongRow.named == Tryz.prog.varsNamed 3) = true := by kernel_rfl
theorem SinkWrong_f6 : (Rows.sinkWrongRow.plainKeys == Tryz.prog.plainKeys) = true := by kernel_rfl
theorem SinkWrong_f7 : Tryz.prog.stopsHeard = true := by kernel_rfl
theorem SinkWrong_f8 : Tryz.prog.mayEnter = true := by kernel_rfl
theorem SinkWrong_f9 : (Rows.sinkWrongRow.lifted == Tryz.prog.liftsFinal) = true := by kernel_rfl
theorem SinkWrong_facts : joinedFacts Tryz.prog 3 Tryz.f3 Rows.sinkWrongSpec Rows.sinkWrongRow = true := by
 unfold joinedFacts
 rw [Tryz.laidOut,SinkWrong_f1,SinkWrong_f2,SinkWrong_f3,SinkWrong_f4,SinkWrong_f5,SinkWrong_f6,SinkWrong_f7,SinkWrong_f8,SinkWrong_f9]
 kernel_rfl
theorem SinkWrong_holds : Rows.SinkWrongSaid :=
 OpenClaim.holds_of_wide 3 Tryz.f3 rfl rfl rfl rfl rfl rfl rfl ⟨rfl,rfl,rfl,rfl,rfl⟩ rfl rfl rfl rfl rfl (by kernel_rfl) Tryz.func3 SinkWrong_facts
  (of_decide_eq_true (by kernel_rfl)) (by unfold Func.isWrapper; first | (rw [if_pos (by decide +kernel)]; kernel_rfl) | (rw [if_neg (by decide +kernel)]; exact ⟨rfl,rfl⟩))
  (fun os started H enc _ => SinkWrong_lifted os started H enc)
theorem SinkWrong_c1 : Tryz.pinned.checked.prog.mainIs = some (true, ("fc453ee910589b58061cbef0782e50bda1023842be778dc6609fc460bf0868cd" : String).toList) := by kernel_rfl
theorem SinkWrong_c2 : true = Tryz.pinned.checked.prog.looks [] := by kernel_rfl
theorem SinkWrong_c3 : ([24,25,31].all fun u => !Tryz.prog.wantsStandIn u) = true := by kernel_rfl
theorem SinkWrong_c5 : Rows.sinkWrongRow.wfByText (OpenSpec.ofChange Rows.sinkWrongSpec) = true := by kernel_rfl
theorem SinkWrong_c6 : Tryz.prog.funcNamed "catchment/catchmentlaw23.SinkWrong" = some 3 := by kernel_rfl
theorem sinkWrong_row_tie : Rows.sinkWrongRow.laidByTextAt .later Tryz.pinned [.data,.pinned,.data,.sentinel,.sentinel,.data,.data,.data] true :=
 OpenClaim.laidByTextAt_pinned rfl rfl tie_all rfl rfl rfl rfl
  (fun y hy _e => by
   simp only [Rows.sinkWrongRow,List.zip_cons_cons,List.zip_nil_right,List.mem_cons,List.mem_nil_iff,or_false] at hy
   rcases hy with rfl | rfl | rfl | rfl | rfl | rfl | rfl | rfl <;> first | exact ⟨pin_first,by kernel_rfl⟩ | cases _e)
  fits_all
theorem SinkWrong_card : Rows.SinkWrongCardSaid :=
 Claim7.holds_tied_plain_at .later [] [.data,.pinned,.data,.sentinel,.sentinel,.data,.data,.data] true (true, "fc453ee910589b58061cbef0782e50bda1023842be778dc6609fc460bf0868cd") true
  SinkWrong_holds (fun _ h => by cases h) SinkWrong_c5 (fun _ h => by cases h) sinkWrong_row_tie rfl ⟨rfl,rfl⟩ SinkWrong_c1 rfl
  (fun f fn hf hfn => by
   obtain rfl : f = 3 := Option.some.inj (SinkWrong_c6.symm.trans hf) |>.symm
   obtain rfl : fn = Tryz.f3 := (Option.some.inj (Tryz.func3.symm.trans hfn)).symm
   exact ⟨SinkWrong_c2,fun j t ht => by
    rw [Tryz.params3] at ht
    have hm : t ∈ [24,25,31] := by simpa using Array.mem_of_getElem? ht
    exact (show Tryz.prog.wantsStandIn t = false by simpa using List.all_eq_true.1 SinkWrong_c3 t hm)⟩)
  (goesBy_false rfl)
end Go.Proofs.YtldceipbpilipaaGreatDoor
