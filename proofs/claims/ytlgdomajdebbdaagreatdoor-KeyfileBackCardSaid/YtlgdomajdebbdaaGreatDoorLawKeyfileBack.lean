/- KeyfileBack is true: keys that were written are the set's, rising; it has just them; in what order they were makes no difference. The table of the sum is what the program's text lays. No other condition. -/
import Derived.Test.YtlgdomajdebbdaaGreatDoorRows
import Derived.Test.YtlgdomajdebbdaaGreatDoorCards
import Derived.Test.YtlgdomajdebbdaaGreatDoorTie
import Derived.SevenTiedAt
import Derived.ProofKit
import Derived.Test.YtlgdomajdebbdaaGreatDoorCDec
import Derived.Test.YtlgdomajdebbdaaGreatDoorGlob
import Derived.Test.YtlgdomajdebbdaaGreatDoorKey12
set_option linter.all false
namespace Go.Proofs.YtlgdomajdebbdaaGreatDoor
open Go.ChangeShapes Go.WideShapes Go.ChangeAt Go.RowKit Go.Am Go.Am.Ab
set_option maxRecDepth 100000
theorem Tryz.own : ownKnob Tryz.prog.godebug = none := by kernel_rfl
theorem Tryz.laidOut : laidOutB Tryz.prog = true := by kernel_rfl
theorem KeyfileBack_data (xs : List D) (hx : All2 (HasTy Tryz.prog 8) Tryz.f6.params.toList xs) : ∃ h',Am.Ab.R 6 (xs.map .d) [] = some ([.d (.bool true)],h') := by
 obtain ⟨x0,xs,rfl,h0,hx⟩ := all2_cons hx
 obtain ⟨x1,xs,rfl,h1,hx⟩ := all2_cons hx
 obtain ⟨x2,xs,rfl,h2,hx⟩ := all2_cons hx
 have hn := all2_nil hx
 subst hn
 obtain ⟨t,rfl⟩ := hasTy_bool h0 Tryz.underlying4
 obtain ⟨l,rfl,lw,ll⟩ := cells_dec h1
 obtain ⟨a,rfl,aw1,aw2,aw3⟩ := cel_dec h2
 unfold maxLen at ll
 have lw' : ∀ c ∈ l,c.kind < 256 ∧ isI64 c.n ∧ c.s.size ≤ 9223372036854775807 := fun c hc => by
  obtain ⟨a1,a2,a3⟩ := lw c hc
  unfold maxLen at a3
  exact ⟨a1,a2,by omega⟩
 unfold maxLen at aw3
 exact ⟨[],keyfileBack_runs t l lw' (by omega) a ⟨aw1,by omega⟩⟩
theorem KeyfileBack_met (os : Os) (args : Array Value) : laidMetH Tryz.prog laidL ((World.doorLaid Tryz.prog 400 os).forCall (fun _ _ => 0) ⟨#[],args,[]⟩).memory :=
 laidMetH_of_parts3 (fuel := 8) (laidMet_of_run' 8 (by kernel_rfl) (by kernel_rfl)) (by kernel_rfl) (by kernel_rfl)
theorem KeyfileBack_lifted (os : Os) (started : os.Started) (H : Type) (enc : TypeId × Value → H) :
  ReturnsInHanded {} Tryz.checked os 6 .any (fun w args => (Rows.keyfileBackSpec.pre enc Tryz.prog Tryz.f6 [] false w args ∧ laidMetH Tryz.prog laidL w) ∧ sizedMet enc Tryz.prog Tryz.f6 (OpenSpec.ofChange Rows.keyfileBackSpec) false w args)
   (Rows.keyfileBackSpec.post enc Tryz.prog Tryz.f6 false true false false) := by
 refine returnsInHanded_of_change_and (C := Tryz.checked) (X := fun w _ => laidMetH Tryz.prog laidL w) (fun _ _ _ hh h => h.of_heap hh) Tryz.own started (by kernel_rfl) Tryz.func6
  (ChangeSpec.witness_shaped (enc := enc) (C := Tryz.checked) (os := os) (X := fun w _ => laidMetH Tryz.prog laidL w) false (World.doorLaid Tryz.prog 400 os) #[.bool false,.slice none 0 0,.agg #[.int .u8 0,.int .i64 0,.string ⟨#[]⟩]] 8 rfl (World.shaped_of_RefB (by kernel_rfl) (by kernel_rfl)) (by kernel_rfl) (by kernel_rfl) (by kernel_rfl) (KeyfileBack_met os _)) ?_
 intro W base args ds gs before hval0 hW _ _ hL _
 have hval : ∀ (j : Nat) t v,Tryz.f6.params[j]? = some t → args[j]? = some v → Value.okWide Tryz.prog W .any base t v := hval0
 exact law_contract (m := 8) (tb := 4) Tryz.laidOut (by kernel_rfl) rfl rfl Tryz.underlying4 (fun ds hl => by
  match ds,hl with
  | [_,_,_],_ => rfl) (Runs_ok (by kernel_rfl)) KeyfileBack_data (grel_half (fun _ _ h => h) hL) hval hW
theorem KeyfileBack_f1 : mapsRowed Tryz.prog = true := by kernel_rfl
theorem KeyfileBack_f2 : (Rows.keyfileBackRow.inPlace == Tryz.prog.inPlace 6) = true := by kernel_rfl
theorem KeyfileBack_f3 : (Rows.keyfileBackRow.unfollowed == Tryz.prog.unfollowed 6) = true := by kernel_rfl
theorem KeyfileBack_f4 : (Rows.keyfileBackRow.recurses == Tryz.prog.recurses 6) = true := by kernel_rfl
theorem KeyfileBack_f5 : (Rows.keyfileBackRow.named == Tryz.prog.varsNamed 6) = true := by kernel_rfl
theorem KeyfileBack_f6 : (Rows.keyfileBackRow.plainKeys == Tryz.prog.plainKeys) = true := by kernel_rfl
theorem KeyfileBack_f7 : Tryz.prog.stopsHeard = true := by kernel_rfl
theorem KeyfileBack_f8 : Tryz.prog.mayEnter = true := by kernel_rfl
theorem KeyfileBack_f9 : (Rows.keyfileBackRow.lifted == Tryz.prog.liftsFinal) = true := by kernel_rfl
theorem KeyfileBack_facts : joinedFacts Tryz.prog 6 Tryz.f6 Rows.keyfileBackSpec Rows.keyfileBackRow = true := by
 unfold joinedFacts
 rw [Tryz.laidOut,KeyfileBack_f1,KeyfileBack_f2,KeyfileBack_f3,KeyfileBack_f4,KeyfileBack_f5,KeyfileBack_f6,KeyfileBack_f7,KeyfileBack_f8,KeyfileBack_f9]
 kernel_rfl
theorem KeyfileBack_holds : Rows.KeyfileBackSaid :=
 OpenClaim.holds_of_wide 6 Tryz.f6 rfl rfl rfl rfl rfl rfl rfl ⟨rfl,rfl,rfl,rfl,rfl⟩ rfl rfl rfl rfl rfl (by kernel_rfl) Tryz.func6 KeyfileBack_facts
  (of_decide_eq_true (by kernel_rfl)) (by unfold Func.isWrapper; first | (rw [if_pos (by decide +kernel)]; kernel_rfl) | (rw [if_neg (by decide +kernel)]; exact ⟨rfl,rfl⟩))
  (fun os started H enc _ => KeyfileBack_lifted os started H enc)
theorem KeyfileBack_c1 : Tryz.pinned.checked.prog.mainIs = some (true, ("a3fd3a8b481c951df3f6d4218d575dc61e26229b6226e651e3d2127c561f68ca" : String).toList) := by kernel_rfl
theorem KeyfileBack_c2 : true = Tryz.pinned.checked.prog.looks [] := by kernel_rfl
theorem KeyfileBack_c3 : ([4,22,47].all fun u => !Tryz.prog.wantsStandIn u) = true := by kernel_rfl
theorem KeyfileBack_c4 : false = Rows.keyfileBackRow.goesBy Tryz.pinned.checked.prog := by kernel_rfl
theorem KeyfileBack_c5 : Rows.keyfileBackRow.wfByText (OpenSpec.ofChange Rows.keyfileBackSpec) = true := by kernel_rfl
theorem KeyfileBack_c6 : Tryz.prog.funcNamed "catchment/catchmentlaw11.KeyfileBack" = some 6 := by kernel_rfl
theorem KeyfileBack_card : Rows.KeyfileBackCardSaid :=
 Claim7.holds_tied_plain_at .later [] [.data] true (true, "a3fd3a8b481c951df3f6d4218d575dc61e26229b6226e651e3d2127c561f68ca") true
  KeyfileBack_holds (fun _ h => by cases h) KeyfileBack_c5 (fun _ h => by cases h) keyfileBack_row_tie rfl ⟨rfl,rfl⟩ KeyfileBack_c1 rfl
  (fun f fn hf hfn => by
   obtain rfl : f = 6 := Option.some.inj (KeyfileBack_c6.symm.trans hf) |>.symm
   obtain rfl : fn = Tryz.f6 := (Option.some.inj (Tryz.func6.symm.trans hfn)).symm
   exact ⟨KeyfileBack_c2,fun j t ht => by
    rw [Tryz.params6] at ht
    have hm : t ∈ [4,22,47] := by simpa using Array.mem_of_getElem? ht
    exact (show Tryz.prog.wantsStandIn t = false by simpa using List.all_eq_true.1 KeyfileBack_c3 t hm)⟩)
  KeyfileBack_c4
end Go.Proofs.YtlgdomajdebbdaaGreatDoor
