/- KeyfileOwn is true: keys that are handed in stay as they were, and those that are told may be written over. The table of the sum is what the program's text lays. No other condition. -/
import Derived.Test.YtlgdomajdebbdaaGreatDoorRows
import Derived.Test.YtlgdomajdebbdaaGreatDoorCards
import Derived.Test.YtlgdomajdebbdaaGreatDoorTie
import Derived.SevenTiedAt
import Derived.ProofKit
import Derived.Test.YtlgdomajdebbdaaGreatDoorCDec
import Derived.Test.YtlgdomajdebbdaaGreatDoorGlob
import Derived.Test.YtlgdomajdebbdaaGreatDoorKey13
set_option linter.all false
namespace Go.Proofs.YtlgdomajdebbdaaGreatDoor
open Go.ChangeShapes Go.WideShapes Go.ChangeAt Go.RowKit Go.Am Go.Am.Ab
set_option maxRecDepth 100000
theorem Tryz.own : ownKnob Tryz.prog.godebug = none := by kernel_rfl
theorem Tryz.laidOut : laidOutB Tryz.prog = true := by kernel_rfl
theorem KeyfileOwn_data (xs : List D) (hx : All2 (HasTy Tryz.prog 8) Tryz.f5.params.toList xs) : ∃ h',Am.Ab.R 5 (xs.map .d) [] = some ([.d (.bool true)],h') := by
 obtain ⟨x0,xs,rfl,h0,hx⟩ := all2_cons hx
 obtain ⟨x1,xs,rfl,h1,hx⟩ := all2_cons hx
 have hn := all2_nil hx
 subst hn
 obtain ⟨t,rfl⟩ := hasTy_bool h0 Tryz.underlying4
 obtain ⟨l,rfl,lw,ll⟩ := cells_dec h1
 unfold maxLen at ll
 have lw' : ∀ c ∈ l,c.kind < 256 ∧ isI64 c.n ∧ c.s.size ≤ 9223372036854775807 := fun c hc => by
  obtain ⟨a1,a2,a3⟩ := lw c hc
  unfold maxLen at a3
  exact ⟨a1,a2,by omega⟩
 exact ⟨[],keyfileOwn_runs t l lw' (by omega)⟩
theorem KeyfileOwn_met (os : Os) (args : Array Value) : laidMetH Tryz.prog laidL ((World.doorLaid Tryz.prog 400 os).forCall (fun _ _ => 0) ⟨#[],args,[]⟩).memory :=
 laidMetH_of_parts3 (fuel := 8) (laidMet_of_run' 8 (by kernel_rfl) (by kernel_rfl)) (by kernel_rfl) (by kernel_rfl)
theorem KeyfileOwn_lifted (os : Os) (started : os.Started) (H : Type) (enc : TypeId × Value → H) :
  ReturnsInHanded {} Tryz.checked os 5 .any (fun w args => (Rows.keyfileOwnSpec.pre enc Tryz.prog Tryz.f5 [] false w args ∧ laidMetH Tryz.prog laidL w) ∧ sizedMet enc Tryz.prog Tryz.f5 (OpenSpec.ofChange Rows.keyfileOwnSpec) false w args)
   (Rows.keyfileOwnSpec.post enc Tryz.prog Tryz.f5 false true false false) := by
 refine returnsInHanded_of_change_and (C := Tryz.checked) (X := fun w _ => laidMetH Tryz.prog laidL w) (fun _ _ _ hh h => h.of_heap hh) Tryz.own started (by kernel_rfl) Tryz.func5
  (ChangeSpec.witness_shaped (enc := enc) (C := Tryz.checked) (os := os) (X := fun w _ => laidMetH Tryz.prog laidL w) false (World.doorLaid Tryz.prog 400 os) #[.bool false,.slice none 0 0] 8 rfl (World.shaped_of_RefB (by kernel_rfl) (by kernel_rfl)) (by kernel_rfl) (by kernel_rfl) (by kernel_rfl) (KeyfileOwn_met os _)) ?_
 intro W base args ds gs before hval0 hW _ _ hL _
 have hval : ∀ (j : Nat) t v,Tryz.f5.params[j]? = some t → args[j]? = some v → Value.okWide Tryz.prog W .any base t v := hval0
 exact law_contract (m := 8) (tb := 4) Tryz.laidOut (by kernel_rfl) rfl rfl Tryz.underlying4 (fun ds hl => by
  match ds,hl with
  | [_,_],_ => rfl) (Runs_ok (by kernel_rfl)) KeyfileOwn_data (grel_half (fun _ _ h => h) hL) hval hW
theorem KeyfileOwn_f1 : mapsRowed Tryz.prog = true := by kernel_rfl
theorem KeyfileOwn_f2 : (Rows.keyfileOwnRow.inPlace == Tryz.prog.inPlace 5) = true := by kernel_rfl
theorem KeyfileOwn_f3 : (Rows.keyfileOwnRow.unfollowed == Tryz.prog.unfollowed 5) = true := by kernel_rfl
theorem KeyfileOwn_f4 : (Rows.keyfileOwnRow.recurses == Tryz.prog.recurses 5) = true := by kernel_rfl
theorem KeyfileOwn_f5 : (Rows.keyfileOwnRow.named == Tryz.prog.varsNamed 5) = true := by kernel_rfl
theorem KeyfileOwn_f6 : (Rows.keyfileOwnRow.plainKeys == Tryz.prog.plainKeys) = true := by kernel_rfl
theorem KeyfileOwn_f7 : Tryz.prog.stopsHeard = true := by kernel_rfl
theorem KeyfileOwn_f8 : Tryz.prog.mayEnter = true := by kernel_rfl
theorem KeyfileOwn_f9 : (Rows.keyfileOwnRow.lifted == Tryz.prog.liftsFinal) = true := by kernel_rfl
theorem KeyfileOwn_facts : joinedFacts Tryz.prog 5 Tryz.f5 Rows.keyfileOwnSpec Rows.keyfileOwnRow = true := by
 unfold joinedFacts
 rw [Tryz.laidOut,KeyfileOwn_f1,KeyfileOwn_f2,KeyfileOwn_f3,KeyfileOwn_f4,KeyfileOwn_f5,KeyfileOwn_f6,KeyfileOwn_f7,KeyfileOwn_f8,KeyfileOwn_f9]
 kernel_rfl
theorem KeyfileOwn_holds : Rows.KeyfileOwnSaid :=
 OpenClaim.holds_of_wide 5 Tryz.f5 rfl rfl rfl rfl rfl rfl rfl ⟨rfl,rfl,rfl,rfl,rfl⟩ rfl rfl rfl rfl rfl (by kernel_rfl) Tryz.func5 KeyfileOwn_facts
  (of_decide_eq_true (by kernel_rfl)) (by unfold Func.isWrapper; first | (rw [if_pos (by decide +kernel)]; kernel_rfl) | (rw [if_neg (by decide +kernel)]; exact ⟨rfl,rfl⟩))
  (fun os started H enc _ => KeyfileOwn_lifted os started H enc)
theorem KeyfileOwn_c1 : Tryz.pinned.checked.prog.mainIs = some (true, ("a3fd3a8b481c951df3f6d4218d575dc61e26229b6226e651e3d2127c561f68ca" : String).toList) := by kernel_rfl
theorem KeyfileOwn_c2 : true = Tryz.pinned.checked.prog.looks [] := by kernel_rfl
theorem KeyfileOwn_c3 : ([4,22].all fun u => !Tryz.prog.wantsStandIn u) = true := by kernel_rfl
theorem KeyfileOwn_c4 : false = Rows.keyfileOwnRow.goesBy Tryz.pinned.checked.prog := by kernel_rfl
theorem KeyfileOwn_c5 : Rows.keyfileOwnRow.wfByText (OpenSpec.ofChange Rows.keyfileOwnSpec) = true := by kernel_rfl
theorem KeyfileOwn_c6 : Tryz.prog.funcNamed "catchment/catchmentlaw11.KeyfileOwn" = some 5 := by kernel_rfl
theorem KeyfileOwn_card : Rows.KeyfileOwnCardSaid :=
 Claim7.holds_tied_plain_at .later [] [.data] true (true, "a3fd3a8b481c951df3f6d4218d575dc61e26229b6226e651e3d2127c561f68ca") true
  KeyfileOwn_holds (fun _ h => by cases h) KeyfileOwn_c5 (fun _ h => by cases h) keyfileOwn_row_tie rfl ⟨rfl,rfl⟩ KeyfileOwn_c1 rfl
  (fun f fn hf hfn => by
   obtain rfl : f = 5 := Option.some.inj (KeyfileOwn_c6.symm.trans hf) |>.symm
   obtain rfl : fn = Tryz.f5 := (Option.some.inj (Tryz.func5.symm.trans hfn)).symm
   exact ⟨KeyfileOwn_c2,fun j t ht => by
    rw [Tryz.params5] at ht
    have hm : t ∈ [4,22] := by simpa using Array.mem_of_getElem? ht
    exact (show Tryz.prog.wantsStandIn t = false by simpa using List.all_eq_true.1 KeyfileOwn_c3 t hm)⟩)
  KeyfileOwn_c4
end Go.Proofs.YtlgdomajdebbdaaGreatDoor
