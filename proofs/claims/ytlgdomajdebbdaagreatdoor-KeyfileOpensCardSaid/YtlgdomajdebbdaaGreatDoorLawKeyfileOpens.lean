/- KeyfileOpens is true: which bytes are a set's of keys, and of which keys, is the document's, with its error. The table of the sum is what the program's text lays. No other condition. -/
import Derived.Test.YtlgdomajdebbdaaGreatDoorRows
import Derived.Test.YtlgdomajdebbdaaGreatDoorCards
import Derived.Test.YtlgdomajdebbdaaGreatDoorTie
import Derived.SevenTiedAt
import Derived.ProofKit
import Derived.Test.YtlgdomajdebbdaaGreatDoorKeyC
import Derived.Test.YtlgdomajdebbdaaGreatDoorDecode
import Derived.Test.YtlgdomajdebbdaaGreatDoorGlob
set_option linter.all false
namespace Go.Proofs.YtlgdomajdebbdaaGreatDoor
open Go.ChangeShapes Go.WideShapes Go.ChangeAt Go.RowKit Go.Am Go.Am.Ab
set_option maxRecDepth 100000
theorem Tryz.own:ownKnob Tryz.prog.godebug=none:=by kernel_rfl
theorem Tryz.laidOut:laidOutB Tryz.prog=true:=by kernel_rfl
theorem KeyfileOpens_data (xs:List D) (hx:All2 (zdj Tryz.prog 8) Tryz.f7.params.toList xs): ∃h',Am.Ab.R 7 (xs.map .d) []=some ([.d (.bool true)],h'):=by
 obtain⟨x0,xs,rfl,h0,hx⟩:=znh hx;obtain⟨x1,xs,rfl,h1,hx⟩:=znh hx;have hn:=zuA hx;subst hn;obtain⟨b,rfl,hb⟩:=zs6 h0 Tryz.underlying24 Tryz.underlying5;unfold maxLen at hb;obtain⟨s,rfl⟩:=zq7 h1 Tryz.underlying4;exact⟨[],zhd b (by omega) s⟩
theorem KeyfileOpens_met (os:Os) (args:Array Value):laidMetH Tryz.prog zq9 ((World.doorLaid Tryz.prog 400 os).forCall (λ_ _=>0) ⟨#[],args,[]⟩).memory:=
 laidMetH_of_parts3 (fuel:=8) (laidMet_of_run' 8 (by kernel_rfl) (by kernel_rfl)) (by kernel_rfl) (by kernel_rfl)
theorem KeyfileOpens_lifted (os:Os) (started:os.Started) (H:Type) (enc:TypeId × Value->H):
 ReturnsInHanded {} Tryz.checked os 7 .any (λw args=>(Rows.keyfileOpensSpec.pre enc Tryz.prog Tryz.f7 [] false w args/\laidMetH Tryz.prog zq9 w)/\sizedMet enc Tryz.prog Tryz.f7 (OpenSpec.ofChange Rows.keyfileOpensSpec) false w args)
  (Rows.keyfileOpensSpec.post enc Tryz.prog Tryz.f7 false true false false):=by
 refine returnsInHanded_of_change_and (C:=Tryz.checked) (X:=λw _=>laidMetH Tryz.prog zq9 w) (λ_ _ _ hh h=>h.of_heap hh) Tryz.own started (by kernel_rfl) Tryz.func7
  (ChangeSpec.witness_shaped (enc:=enc) (C:=Tryz.checked) (os:=os) (X:=λw _=>laidMetH Tryz.prog zq9 w) false (World.doorLaid Tryz.prog 400 os) #[.slice none 0 0,.bool false] 8 rfl (World.shaped_of_RefB (by kernel_rfl) (by kernel_rfl)) (by kernel_rfl) (by kernel_rfl) (by kernel_rfl) (KeyfileOpens_met os _)) ?_
 intro W base args ds gs before hval0 hW _ _ hL _;have hval: ∀ (j:Nat) t v,Tryz.f7.params[j]? =some t->args[j]? =some v->Value.okWide Tryz.prog W .any base t v:=hval0;exact zmh (m:=8) (tb:=4) Tryz.laidOut (by kernel_rfl) rfl rfl Tryz.underlying4 (λds hl=>by
  match ds,hl with
  |[_,_],_=>rfl) (zvh (by kernel_rfl)) KeyfileOpens_data (zta (λ_ _ h=>h) hL) hval hW
theorem KeyfileOpens_f1:mapsRowed Tryz.prog=true:=by kernel_rfl
theorem KeyfileOpens_f2:(Rows.keyfileOpensRow.inPlace == Tryz.prog.inPlace 7)=true:=by kernel_rfl
theorem KeyfileOpens_f3:(Rows.keyfileOpensRow.unfollowed == Tryz.prog.unfollowed 7)=true:=by kernel_rfl
theorem KeyfileOpens_f4:(Rows.keyfileOpensRow.recurses == Tryz.prog.recurses 7)=true:=by kernel_rfl
theorem KeyfileOpens_f5:(Rows.keyfileOpensRow.named == Tryz.prog.varsNamed 7)=true:=by kernel_rfl
theorem KeyfileOpens_f6:(Rows.keyfileOpensRow.plainKeys == Tryz.prog.plainKeys)=true:=by kernel_rfl
theorem KeyfileOpens_f7:Tryz.prog.stopsHeard=true:=by kernel_rfl
theorem KeyfileOpens_f8:Tryz.prog.mayEnter=true:=by kernel_rfl
theorem KeyfileOpens_f9:(Rows.keyfileOpensRow.lifted == Tryz.prog.liftsFinal)=true:=by kernel_rfl
theorem KeyfileOpens_facts:joinedFacts Tryz.prog 7 Tryz.f7 Rows.keyfileOpensSpec Rows.keyfileOpensRow=true:=by
 unfold joinedFacts;rw[Tryz.laidOut,KeyfileOpens_f1,KeyfileOpens_f2,KeyfileOpens_f3,KeyfileOpens_f4,KeyfileOpens_f5,KeyfileOpens_f6,KeyfileOpens_f7,KeyfileOpens_f8,KeyfileOpens_f9];kernel_rfl
theorem KeyfileOpens_holds:Rows.KeyfileOpensSaid:=
 OpenClaim.holds_of_wide 7 Tryz.f7 rfl rfl rfl rfl rfl rfl rfl ⟨rfl,rfl,rfl,rfl,rfl⟩ rfl rfl rfl rfl rfl (by kernel_rfl) Tryz.func7 KeyfileOpens_facts
  (of_decide_eq_true (by kernel_rfl)) (by unfold Func.isWrapper;first | (rw[if_pos (by decide +kernel)];kernel_rfl) | (rw[if_neg (by decide +kernel)];exact⟨rfl,rfl⟩))
  (λos started H enc _=>KeyfileOpens_lifted os started H enc)
theorem KeyfileOpens_c1 : Tryz.pinned.checked.prog.mainIs = some (true, ("a3fd3a8b481c951df3f6d4218d575dc61e26229b6226e651e3d2127c561f68ca" : String).toList) := by kernel_rfl
theorem KeyfileOpens_c2:true=Tryz.pinned.checked.prog.looks []:=by kernel_rfl
theorem KeyfileOpens_c3:([24,4].all λu=> !Tryz.prog.wantsStandIn u)=true:=by kernel_rfl
theorem KeyfileOpens_c4:false=Rows.keyfileOpensRow.goesBy Tryz.pinned.checked.prog:=by kernel_rfl
theorem KeyfileOpens_c5:Rows.keyfileOpensRow.wfByText (OpenSpec.ofChange Rows.keyfileOpensSpec)=true:=by kernel_rfl
theorem KeyfileOpens_c6 : Tryz.prog.funcNamed "catchment/catchmentlaw11.KeyfileOpens" = some 7 := by kernel_rfl
theorem KeyfileOpens_card:Rows.KeyfileOpensCardSaid:=
 Claim7.holds_tied_plain_at .later [] [.data] true (true, "a3fd3a8b481c951df3f6d4218d575dc61e26229b6226e651e3d2127c561f68ca") true
  KeyfileOpens_holds (λ_ h=>by cases h) KeyfileOpens_c5 (λ_ h=>by cases h) keyfileOpens_row_tie rfl ⟨rfl,rfl⟩ KeyfileOpens_c1 rfl
  (λf fn hf hfn=>by
   obtain rfl:f=7:=Option.some.inj (KeyfileOpens_c6.symm.trans hf) |>.symm;obtain rfl:fn=Tryz.f7:=(Option.some.inj (Tryz.func7.symm.trans hfn)).symm;exact⟨KeyfileOpens_c2,λj t ht=>by
    rw[Tryz.params7]at ht;have hm:t∈[24,4]:=by simpa using Array.mem_of_getElem? ht
    exact (show Tryz.prog.wantsStandIn t=false by simpa using List.all_eq_true.1 KeyfileOpens_c3 t hm)⟩)
  KeyfileOpens_c4
end Go.Proofs.YtlgdomajdebbdaaGreatDoor
