/- ColfileOpens is true: whatever bytes are opened: if they are a file's, writing what it has makes just these bytes; else the error is the document's. The table of the sum is what the program's text lays. No other condition. -/
import Derived.Test.YtibdiacpdmhmnaaGreatDoorRows
import Derived.Test.YtibdiacpdmhmnaaGreatDoorCards
import Derived.Test.YtibdiacpdmhmnaaGreatDoorTie
import Derived.SevenTiedAt
import Derived.ProofKit
import Derived.Test.YtibdiacpdmhmnaaGreatDoorDecode
import Derived.Test.YtibdiacpdmhmnaaGreatDoorOpenC
import Derived.Test.YtibdiacpdmhmnaaGreatDoorGlob
import Derived.Test.YtibdiacpdmhmnaaGreatDoorChunk
set_option linter.all false
namespace Go.Proofs.YtibdiacpdmhmnaaGreatDoor
open Go.ChangeShapes Go.WideShapes Go.ChangeAt Go.RowKit Go.Am Go.Am.Ab
set_option maxRecDepth 100000
theorem Tryz.own:ownKnob Tryz.prog.godebug=none:=by kernel_rfl
theorem Tryz.laidOut:laidOutB Tryz.prog=true:=by kernel_rfl
theorem ColfileOpens_data (xs:List D) (hx:All2 (zc1 Tryz.prog 8) Tryz.f5.params.toList xs): ∃h',Am.Ab.R 5 (xs.map .d) []=some ([.d (.bool true)],h'):=by
 obtain⟨x0,xs,rfl,h0,hx⟩:=znA hx;obtain⟨x1,xs,rfl,h1,hx⟩:=znA hx;have hn:=zvA hx;subst hn;obtain⟨b,rfl,hb⟩:=ztY h0 Tryz.underlying30 Tryz.underlying5;unfold maxLen at hb;obtain⟨s,rfl⟩:=zrF h1 Tryz.underlying4;exact⟨[],zhu b s (by omega)⟩
theorem ColfileOpens_met (os:Os) (args:Array Value):laidMetH Tryz.prog zrL ((World.doorLaid Tryz.prog 400 os).forCall (λ_ _=>0) ⟨#[],args,[]⟩).memory:=
 laidMetH_of_parts3 (fuel:=8) (laidMet_of_run' 8 (by kernel_rfl) (by kernel_rfl)) (by kernel_rfl) (by kernel_rfl)
theorem ColfileOpens_lifted (os:Os) (started:os.Started) (H:Type) (enc:TypeId × Value->H):
 ReturnsInHanded {} Tryz.checked os 5 .any (λw args=>(Rows.colfileOpensSpec.pre enc Tryz.prog Tryz.f5 [] false w args/\laidMetH Tryz.prog zrL w)/\sizedMet enc Tryz.prog Tryz.f5 (OpenSpec.ofChange Rows.colfileOpensSpec) false w args)
  (Rows.colfileOpensSpec.post enc Tryz.prog Tryz.f5 false true false false):=by
 refine returnsInHanded_of_change_and (C:=Tryz.checked) (X:=λw _=>laidMetH Tryz.prog zrL w) (λ_ _ _ hh h=>h.of_heap hh) Tryz.own started (by kernel_rfl) Tryz.func5
  (ChangeSpec.witness_shaped (enc:=enc) (C:=Tryz.checked) (os:=os) (X:=λw _=>laidMetH Tryz.prog zrL w) false (World.doorLaid Tryz.prog 400 os) #[.slice none 0 0,.bool false] 8 rfl (World.shaped_of_RefB (by kernel_rfl) (by kernel_rfl)) (by kernel_rfl) (by kernel_rfl) (by kernel_rfl) (ColfileOpens_met os _)) ?_
 intro W base args ds gs before hval0 hW _ _ hL _;have hval: ∀ (j:Nat) t v,Tryz.f5.params[j]? =some t->args[j]? =some v->Value.okWide Tryz.prog W .any base t v:=hval0;exact zmA (m:=8) (tb:=4) Tryz.laidOut (by kernel_rfl) rfl rfl Tryz.underlying4 (λds hl=>by
  match ds,hl with
  |[_,_],_=>rfl) (zwq (by kernel_rfl) Am.Ab.G_chunks) ColfileOpens_data (zt4 (λ_ _ h=>h) hL) hval hW
theorem ColfileOpens_f1:mapsRowed Tryz.prog=true:=by kernel_rfl
theorem ColfileOpens_f2:(Rows.colfileOpensRow.inPlace == Tryz.prog.inPlace 5)=true:=by kernel_rfl
theorem ColfileOpens_f3:(Rows.colfileOpensRow.unfollowed == Tryz.prog.unfollowed 5)=true:=by kernel_rfl
theorem ColfileOpens_f4:(Rows.colfileOpensRow.recurses == Tryz.prog.recurses 5)=true:=by kernel_rfl
theorem ColfileOpens_f5:(Rows.colfileOpensRow.named == Tryz.prog.varsNamed 5)=true:=by kernel_rfl
theorem ColfileOpens_f6:(Rows.colfileOpensRow.plainKeys == Tryz.prog.plainKeys)=true:=by kernel_rfl
theorem ColfileOpens_f7:Tryz.prog.stopsHeard=true:=by kernel_rfl
theorem ColfileOpens_f8:Tryz.prog.mayEnter=true:=by kernel_rfl
theorem ColfileOpens_f9:(Rows.colfileOpensRow.lifted == Tryz.prog.liftsFinal)=true:=by kernel_rfl
theorem ColfileOpens_facts:joinedFacts Tryz.prog 5 Tryz.f5 Rows.colfileOpensSpec Rows.colfileOpensRow=true:=by
 unfold joinedFacts;rw[Tryz.laidOut,ColfileOpens_f1,ColfileOpens_f2,ColfileOpens_f3,ColfileOpens_f4,ColfileOpens_f5,ColfileOpens_f6,ColfileOpens_f7,ColfileOpens_f8,ColfileOpens_f9];kernel_rfl
theorem ColfileOpens_holds:Rows.ColfileOpensSaid:=
 OpenClaim.holds_of_wide 5 Tryz.f5 rfl rfl rfl rfl rfl rfl rfl ⟨rfl,rfl,rfl,rfl,rfl⟩ rfl rfl rfl rfl rfl (by kernel_rfl) Tryz.func5 ColfileOpens_facts
  (of_decide_eq_true (by kernel_rfl)) (by unfold Func.isWrapper;first | (rw[yah (by decide +kernel)];kernel_rfl) | (rw[yae (by decide +kernel)];exact⟨rfl,rfl⟩))
  (λos started H enc _=>ColfileOpens_lifted os started H enc)
theorem ColfileOpens_c1 : Tryz.pinned.checked.prog.mainIs = some (true, ("600ab543f115a7d8949719efb2d65ceea305d06918d9b394a74cea282664bc32" : String).toList) := by kernel_rfl
theorem ColfileOpens_c2:true=Tryz.pinned.checked.prog.looks []:=by kernel_rfl
theorem ColfileOpens_c3:([30,4].all λu=> !Tryz.prog.wantsStandIn u)=true:=by kernel_rfl
theorem ColfileOpens_c4:false=Rows.colfileOpensRow.goesBy Tryz.pinned.checked.prog:=by kernel_rfl
theorem ColfileOpens_c5:Rows.colfileOpensRow.wfByText (OpenSpec.ofChange Rows.colfileOpensSpec)=true:=by kernel_rfl
theorem ColfileOpens_c6 : Tryz.prog.funcNamed "catchment/catchmentlaw10.ColfileOpens" = some 5 := by kernel_rfl
theorem ColfileOpens_card:Rows.ColfileOpensCardSaid:=
 Claim7.holds_tied_plain_at .later [] [.data] true (true, "600ab543f115a7d8949719efb2d65ceea305d06918d9b394a74cea282664bc32") true
  ColfileOpens_holds (λ_ h=>by cases h) ColfileOpens_c5 (λ_ h=>by cases h) colfileOpens_row_tie rfl ⟨rfl,rfl⟩ ColfileOpens_c1 rfl
  (λf fn hf hfn=>by
   obtain rfl:f=5:=ybd (ColfileOpens_c6.symm.trans hf) |>.symm;obtain rfl:fn=Tryz.f5:=(ybd (Tryz.func5.symm.trans hfn)).symm;exact⟨ColfileOpens_c2,λj t ht=>by
    rw[Tryz.params5]at ht;have hm:t∈[30,4]:=by simpa using Array.mem_of_getElem? ht
    exact (show Tryz.prog.wantsStandIn t=false by simpa using List.all_eq_true.1 ColfileOpens_c3 t hm)⟩)
  ColfileOpens_c4
end Go.Proofs.YtibdiacpdmhmnaaGreatDoor
