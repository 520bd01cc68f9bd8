/- KeyfileTurned is true: a file's bytes, one of which is another one, are no set's; nor are none. The table of the sum is what the program's text lays. No other condition. -/
import Derived.Test.YtlgdomajdebbdaaGreatDoorRows
import Derived.Test.YtlgdomajdebbdaaGreatDoorCards
import Derived.Test.YtlgdomajdebbdaaGreatDoorTie
import Derived.SevenTiedAt
import Derived.ProofKit
import Derived.Test.YtlgdomajdebbdaaGreatDoorKey11
import Derived.Test.YtlgdomajdebbdaaGreatDoorCDec
import Derived.Test.YtlgdomajdebbdaaGreatDoorGlob
set_option linter.all false
namespace Go.Proofs.YtlgdomajdebbdaaGreatDoor
open Go.ChangeShapes Go.WideShapes Go.ChangeAt Go.RowKit Go.Am Go.Am.Ab
set_option maxRecDepth 100000
theorem Tryz.own : ownKnob Tryz.prog.godebug = none := by kernel_rfl
theorem Tryz.laidOut : laidOutB Tryz.prog = true := by kernel_rfl
theorem KeyfileTurned_data (xs : List D) (hx : All2 (HasTy Tryz.prog 8) Tryz.f4.params.toList xs) : ∃ h',Am.Ab.R 4 (xs.map .d) [] = some ([.d (.bool true)],h') := by
 obtain ⟨x0,xs,rfl,h0,hx⟩ := all2_cons hx
 obtain ⟨x1,xs,rfl,h1,hx⟩ := all2_cons hx
 obtain ⟨x2,xs,rfl,h2,hx⟩ := all2_cons hx
 obtain ⟨x3,xs,rfl,h3,hx⟩ := all2_cons hx
 have hn := all2_nil hx
 subst hn
 obtain ⟨t,rfl⟩ := hasTy_bool h0 Tryz.underlying4
 obtain ⟨l,rfl,lw,ll⟩ := cells_dec h1
 obtain ⟨n,rfl,n1,n2⟩ := dec_i64 h2 Tryz.underlying3
 obtain ⟨c,rfl,c1,c2⟩ := dec_u8 h3 Tryz.underlying5
 unfold maxLen at ll
 have lw' : ∀ c ∈ l,c.kind < 256 ∧ isI64 c.n ∧ c.s.size ≤ 9223372036854775807 := fun c hc => by
  obtain ⟨a1,a2,a3⟩ := lw c hc
  unfold maxLen at a3
  exact ⟨a1,a2,by omega⟩
 have hy : ((UInt8.ofNat c.toNat).toNat : Int) = c := by
  rw [UInt8.toNat_ofNat']
  omega
 have h := keyfileTurned_runs t l lw' (by omega) n ⟨n1,n2⟩ (UInt8.ofNat c.toNat)
 rw [hy] at h
 exact ⟨[],h⟩
theorem KeyfileTurned_met (os : Os) (args : Array Value) : laidMetH Tryz.prog laidL ((World.doorLaid Tryz.prog 400 os).forCall (fun _ _ => 0) ⟨#[],args,[]⟩).memory :=
 laidMetH_of_parts3 (fuel := 8) (laidMet_of_run' 8 (by kernel_rfl) (by kernel_rfl)) (by kernel_rfl) (by kernel_rfl)
theorem KeyfileTurned_lifted (os : Os) (started : os.Started) (H : Type) (enc : TypeId × Value → H) :
  ReturnsInHanded {} Tryz.checked os 4 .any (fun w args => (Rows.keyfileTurnedSpec.pre enc Tryz.prog Tryz.f4 [] false w args ∧ laidMetH Tryz.prog laidL w) ∧ sizedMet enc Tryz.prog Tryz.f4 (OpenSpec.ofChange Rows.keyfileTurnedSpec) false w args)
   (Rows.keyfileTurnedSpec.post enc Tryz.prog Tryz.f4 false true false false) := by
 refine returnsInHanded_of_change_and (C := Tryz.checked) (X := fun w _ => laidMetH Tryz.prog laidL w) (fun _ _ _ hh h => h.of_heap hh) Tryz.own started (by kernel_rfl) Tryz.func4
  (ChangeSpec.witness_shaped (enc := enc) (C := Tryz.checked) (os := os) (X := fun w _ => laidMetH Tryz.prog laidL w) false (World.doorLaid Tryz.prog 400 os) #[.bool false,.slice none 0 0,.int .i64 0,.int .u8 0] 8 rfl (World.shaped_of_RefB (by kernel_rfl) (by kernel_rfl)) (by kernel_rfl) (by kernel_rfl) (by kernel_rfl) (KeyfileTurned_met os _)) ?_
 intro W base args ds gs before hval0 hW _ _ hL _
 have hval : ∀ (j : Nat) t v,Tryz.f4.params[j]? = some t → args[j]? = some v → Value.okWide Tryz.prog W .any base t v := hval0
 exact law_contract (m := 8) (tb := 4) Tryz.laidOut (by kernel_rfl) rfl rfl Tryz.underlying4 (fun ds hl => by
  match ds,hl with
  | [_,_,_,_],_ => rfl) (Runs_ok (by kernel_rfl)) KeyfileTurned_data (grel_half (fun _ _ h => h) hL) hval hW
theorem KeyfileTurned_f1 : mapsRowed Tryz.prog = true := by kernel_rfl
theorem KeyfileTurned_f2 : (Rows.keyfileTurnedRow.inPlace == Tryz.prog.inPlace 4) = true := by kernel_rfl
theorem KeyfileTurned_f3 : (Rows.keyfileTurnedRow.unfollowed == Tryz.prog.unfollowed 4) = true := by kernel_rfl
theorem KeyfileTurned_f4 : (Rows.keyfileTurnedRow.recurses == Tryz.prog.recurses 4) = true := by kernel_rfl
theorem KeyfileTurned_f5 : (Rows.keyfileTurnedRow.named == Tryz.prog.varsNamed 4) = true := by kernel_rfl
theorem KeyfileTurned_f6 : (Rows.keyfileTurnedRow.plainKeys == Tryz.prog.plainKeys) = true := by kernel_rfl
theorem KeyfileTurned_f7 : Tryz.prog.stopsHeard = true := by kernel_rfl
theorem KeyfileTurned_f8 : Tryz.prog.mayEnter = true := by kernel_rfl
theorem KeyfileTurned_f9 : (Rows.keyfileTurnedRow.lifted == Tryz.prog.liftsFinal) = true := by kernel_rfl
theorem KeyfileTurned_facts : joinedFacts Tryz.prog 4 Tryz.f4 Rows.keyfileTurnedSpec Rows.keyfileTurnedRow = true := by
 unfold joinedFacts
 rw [Tryz.laidOut,KeyfileTurned_f1,KeyfileTurned_f2,KeyfileTurned_f3,KeyfileTurned_f4,KeyfileTurned_f5,KeyfileTurned_f6,KeyfileTurned_f7,KeyfileTurned_f8,KeyfileTurned_f9]
 kernel_rfl
theorem KeyfileTurned_holds : Rows.KeyfileTurnedSaid :=
 OpenClaim.holds_of_wide 4 Tryz.f4 rfl rfl rfl rfl rfl rfl rfl ⟨rfl,rfl,rfl,rfl,rfl⟩ rfl rfl rfl rfl rfl (by kernel_rfl) Tryz.func4 KeyfileTurned_facts
  (of_decide_eq_true (by kernel_rfl)) (by unfold Func.isWrapper; first | (rw [if_pos (by decide +kernel)]; kernel_rfl) | (rw [if_neg (by decide +kernel)]; exact ⟨rfl,rfl⟩))
  (fun os started H enc _ => KeyfileTurned_lifted os started H enc)
theorem KeyfileTurned_c1 : Tryz.pinned.checked.prog.mainIs = some (true, ("a3fd3a8b481c951df3f6d4218d575dc61e26229b6226e651e3d2127c561f68ca" : String).toList) := by kernel_rfl
theorem KeyfileTurned_c2 : true = Tryz.pinned.checked.prog.looks [] := by kernel_rfl
theorem KeyfileTurned_c3 : ([4,22,3,5].all fun u => !Tryz.prog.wantsStandIn u) = true := by kernel_rfl
theorem KeyfileTurned_c4 : false = Rows.keyfileTurnedRow.goesBy Tryz.pinned.checked.prog := by kernel_rfl
theorem KeyfileTurned_c5 : Rows.keyfileTurnedRow.wfByText (OpenSpec.ofChange Rows.keyfileTurnedSpec) = true := by kernel_rfl
theorem KeyfileTurned_c6 : Tryz.prog.funcNamed "catchment/catchmentlaw11.KeyfileTurned" = some 4 := by kernel_rfl
theorem KeyfileTurned_card : Rows.KeyfileTurnedCardSaid :=
 Claim7.holds_tied_plain_at .later [] [.data] true (true, "a3fd3a8b481c951df3f6d4218d575dc61e26229b6226e651e3d2127c561f68ca") true
  KeyfileTurned_holds (fun _ h => by cases h) KeyfileTurned_c5 (fun _ h => by cases h) keyfileTurned_row_tie rfl ⟨rfl,rfl⟩ KeyfileTurned_c1 rfl
  (fun f fn hf hfn => by
   obtain rfl : f = 4 := Option.some.inj (KeyfileTurned_c6.symm.trans hf) |>.symm
   obtain rfl : fn = Tryz.f4 := (Option.some.inj (Tryz.func4.symm.trans hfn)).symm
   exact ⟨KeyfileTurned_c2,fun j t ht => by
    rw [Tryz.params4] at ht
    have hm : t ∈ [4,22,3,5] := by simpa using Array.mem_of_getElem? ht
    exact (show Tryz.prog.wantsStandIn t = false by simpa using List.all_eq_true.1 KeyfileTurned_c3 t hm)⟩)
  KeyfileTurned_c4
end Go.Proofs.YtlgdomajdebbdaaGreatDoor
