/- KeyfileWrites is true: the bytes of any keys, of any kind, are the document's, or its error. The table of the sum is what the program's text lays. No other condition. -/
import Derived.Test.YtlgdomajdebbdaaGreatDoorRows
import Derived.Test.YtlgdomajdebbdaaGreatDoorCards
import Derived.Test.YtlgdomajdebbdaaGreatDoorTie
import Derived.SevenTiedAt
import Derived.ProofKit
import Derived.Test.YtlgdomajdebbdaaGreatDoorKey11
import Derived.Test.YtlgdomajdebbdaaGreatDoorCDec
import Derived.Test.YtlgdomajdebbdaaGreatDoorGlob
set_option linter.all false
namespace Go.Proofs.YtlgdomajdebbdaaGreatDoor
open Go.ChangeShapes Go.WideShapes Go.ChangeAt Go.RowKit Go.Am Go.Am.Ab
set_option maxRecDepth 100000
theorem Tryz.own : ownKnob Tryz.prog.godebug = none := by kernel_rfl
theorem Tryz.laidOut : laidOutB Tryz.prog = true := by kernel_rfl
theorem KeyfileWrites_data (xs : List D) (hx : All2 (HasTy Tryz.prog 8) Tryz.f3.params.toList xs) : ∃ h',Am.Ab.R 3 (xs.map .d) [] = some ([.d (.bool true)],h') := by
 obtain ⟨x0,xs,rfl,h0,hx⟩ := all2_cons hx
 obtain ⟨x1,xs,rfl,h1,hx⟩ := all2_cons hx
 have hn := all2_nil hx
 subst hn
 obtain ⟨c,rfl,c1,c2⟩ := dec_u8 h0 Tryz.underlying5
 obtain ⟨c,rfl⟩ : ∃ k : Nat,c = k := ⟨c.toNat,by omega⟩
 obtain ⟨l,rfl,lw,ll⟩ := cells_dec h1
 unfold maxLen at ll
 have lw' : ∀ c ∈ l,c.kind < 256 ∧ isI64 c.n ∧ c.s.size ≤ 9223372036854775807 := fun c hc => by
  obtain ⟨a1,a2,a3⟩ := lw c hc
  unfold maxLen at a3
  exact ⟨a1,a2,by omega⟩
 exact ⟨[],keyfileWrites_runs c (by omega) l lw' (by omega)⟩
theorem KeyfileWrites_met (os : Os) (args : Array Value) : laidMetH Tryz.prog laidL ((World.doorLaid Tryz.prog 400 os).forCall (fun _ _ => 0) ⟨#[],args,[]⟩).memory :=
 laidMetH_of_parts3 (fuel := 8) (laidMet_of_run' 8 (by kernel_rfl) (by kernel_rfl)) (by kernel_rfl) (by kernel_rfl)
theorem KeyfileWrites_lifted (os : Os) (started : os.Started) (H : Type) (enc : TypeId × Value → H) :
  ReturnsInHanded {} Tryz.checked os 3 .any (fun w args => (Rows.keyfileWritesSpec.pre enc Tryz.prog Tryz.f3 [] false w args ∧ laidMetH Tryz.prog laidL w) ∧ sizedMet enc Tryz.prog Tryz.f3 (OpenSpec.ofChange Rows.keyfileWritesSpec) false w args)
   (Rows.keyfileWritesSpec.post enc Tryz.prog Tryz.f3 false true false false) := by
 refine returnsInHanded_of_change_and (C := Tryz.checked) (X := fun w _ => laidMetH Tryz.prog laidL w) (fun _ _ _ hh h => h.of_heap hh) Tryz.own started (by kernel_rfl) Tryz.func3
  (ChangeSpec.witness_shaped (enc := enc) (C := Tryz.checked) (os := os) (X := fun w _ => laidMetH Tryz.prog laidL w) false (World.doorLaid Tryz.prog 400 os) #[.int .u8 0,.slice none 0 0] 8 rfl (World.shaped_of_RefB (by kernel_rfl) (by kernel_rfl)) (by kernel_rfl) (by kernel_rfl) (by kernel_rfl) (KeyfileWrites_met os _)) ?_
 intro W base args ds gs before hval0 hW _ _ hL _
 have hval : ∀ (j : Nat) t v,Tryz.f3.params[j]? = some t → args[j]? = some v → Value.okWide Tryz.prog W .any base t v := hval0
 exact law_contract (m := 8) (tb := 4) Tryz.laidOut (by kernel_rfl) rfl rfl Tryz.underlying4 (fun ds hl => by
  match ds,hl with
  | [_,_],_ => rfl) (Runs_ok (by kernel_rfl)) KeyfileWrites_data (grel_half (fun _ _ h => h) hL) hval hW
theorem KeyfileWrites_f1 : mapsRowed Tryz.prog = true := by kernel_rfl
theorem KeyfileWrites_f2 : (Rows.keyfileWritesRow.inPlace == Tryz.prog.inPlace 3) = true := by kernel_rfl
theorem KeyfileWrites_f3 : (Rows.keyfileWritesRow.unfollowed == Tryz.prog.unfollowed 3) = true := by kernel_rfl
theorem KeyfileWrites_f4 : (Rows.keyfileWritesRow.recurses == Tryz.prog.recurses 3) = true := by kernel_rfl
theorem KeyfileWrites_f5 : (Rows.keyfileWritesRow.named == Tryz.prog.varsNamed 3) = true := by kernel_rfl
theorem KeyfileWrites_f6 : (Rows.keyfileWritesRow.plainKeys == Tryz.prog.plainKeys) = true := by kernel_rfl
theorem KeyfileWrites_f7 : Tryz.prog.stopsHeard = true := by kernel_rfl
theorem KeyfileWrites_f8 : Tryz.prog.mayEnter = true := by kernel_rfl
theorem KeyfileWrites_f9 : (Rows.keyfileWritesRow.lifted == Tryz.prog.liftsFinal) = true := by kernel_rfl
theorem KeyfileWrites_facts : joinedFacts Tryz.prog 3 Tryz.f3 Rows.keyfileWritesSpec Rows.keyfileWritesRow = true := by
 unfold joinedFacts
 rw [Tryz.laidOut,KeyfileWrites_f1,KeyfileWrites_f2,KeyfileWrites_f3,KeyfileWrites_f4,KeyfileWrites_f5,KeyfileWrites_f6,KeyfileWrites_f7,KeyfileWrites_f8,KeyfileWrites_f9]
 kernel_rfl
theorem KeyfileWrites_holds : Rows.KeyfileWritesSaid :=
 OpenClaim.holds_of_wide 3 Tryz.f3 rfl rfl rfl rfl rfl rfl rfl ⟨rfl,rfl,rfl,rfl,rfl⟩ rfl rfl rfl rfl rfl (by kernel_rfl) Tryz.func3 KeyfileWrites_facts
  (of_decide_eq_true (by kernel_rfl)) (by unfold Func.isWrapper; first | (rw [if_pos (by decide +kernel)]; kernel_rfl) | (rw [if_neg (by decide +kernel)]; exact ⟨rfl,rfl⟩))
  (fun os started H enc _ => KeyfileWrites_lifted os started H enc)
theorem KeyfileWrites_c1 : Tryz.pinned.checked.prog.mainIs = some (true, ("a3fd3a8b481c951df3f6d4218d575dc61e26229b6226e651e3d2127c561f68ca" : String).toList) := by kernel_rfl
theorem KeyfileWrites_c2 : true = Tryz.pinned.checked.prog.looks [] := by kernel_rfl
theorem KeyfileWrites_c3 : ([5,22].all fun u => !Tryz.prog.wantsStandIn u) = true := by kernel_rfl
theorem KeyfileWrites_c4 : false = Rows.keyfileWritesRow.goesBy Tryz.pinned.checked.prog := by kernel_rfl
theorem KeyfileWrites_c5 : Rows.keyfileWritesRow.wfByText (OpenSpec.ofChange Rows.keyfileWritesSpec) = true := by kernel_rfl
theorem KeyfileWrites_c6 : Tryz.prog.funcNamed "catchment/catchmentlaw11.KeyfileWrites" = some 3 := by kernel_rfl
theorem KeyfileWrites_card : Rows.KeyfileWritesCardSaid :=
 Claim7.holds_tied_plain_at .later [] [.data] true (true, "a3fd3a8b481c951df3f6d4218d575dc61e26229b6226e651e3d2127c561f68ca") true
  KeyfileWrites_holds (fun _ h => by cases h) KeyfileWrites_c5 (fun _ h => by cases h) keyfileWrites_row_tie rfl ⟨rfl,rfl⟩ KeyfileWrites_c1 rfl
  (fun f fn hf hfn => by
   obtain rfl : f = 3 := Option.some.inj (KeyfileWrites_c6.symm.trans hf) |>.symm
   obtain rfl : fn = Tryz.f3 := (Option.some.inj (Tryz.func3.symm.trans hfn)).symm
   exact ⟨KeyfileWrites_c2,fun j t ht => by
    rw [Tryz.params3] at ht
    have hm : t ∈ [5,22] := by simpa using Array.mem_of_getElem? ht
    exact (show Tryz.prog.wantsStandIn t = false by simpa using List.all_eq_true.1 KeyfileWrites_c3 t hm)⟩)
  KeyfileWrites_c4
end Go.Proofs.YtlgdomajdebbdaaGreatDoor
