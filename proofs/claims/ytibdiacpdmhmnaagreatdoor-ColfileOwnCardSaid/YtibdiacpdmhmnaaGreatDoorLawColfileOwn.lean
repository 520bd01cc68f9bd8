/- ColfileOwn is true: rows that are handed in and told may be written over. The table of the sum is what the program's text lays. No other condition. -/
import Derived.Test.YtibdiacpdmhmnaaGreatDoorRows
import Derived.Test.YtibdiacpdmhmnaaGreatDoorCards
import Derived.Test.YtibdiacpdmhmnaaGreatDoorTie
import Derived.SevenTiedAt
import Derived.ProofKit
import Derived.Test.YtibdiacpdmhmnaaGreatDoorOwnA
import Derived.Test.YtibdiacpdmhmnaaGreatDoorGlob
import Derived.Test.YtibdiacpdmhmnaaGreatDoorChunk
import Derived.Test.YtibdiacpdmhmnaaGreatDoorLays
set_option linter.all false
namespace Go.Proofs.YtibdiacpdmhmnaaGreatDoor
open Go.ChangeShapes Go.WideShapes Go.ChangeAt Go.RowKit Go.Am Go.Am.Ab
set_option maxRecDepth 100000
theorem Tryz.own:ownKnob Tryz.prog.godebug=none:=by kernel_rfl
theorem Tryz.laidOut:laidOutB Tryz.prog=true:=by kernel_rfl
theorem ColfileOwn_data (xs:List D) (hx:All2 (zbD Tryz.prog 8) Tryz.f7.params.toList xs): ∃h',Am.Ab.R 7 (xs.map .d) []=some ([.d (.bool true)],h'):=by
 obtain⟨x0,xs,rfl,h0,hx⟩:=zbS hx;obtain⟨x1,xs,rfl,h1,hx⟩:=zbS hx;have hn:=ziW hx;subst hn;obtain⟨s,rfl,hs⟩:=Sch.dec h0;obtain⟨l,rfl,hl,hn⟩:=zxP h1;unfold maxLen at hn;exact⟨[],zkt s hs l (λr hr c hc=>by
  obtain⟨a1,a2,a3⟩:=(hl r hr).1 c hc;unfold maxLen at a3;exact⟨a1,a2,by omega⟩) (by omega) (λr hr=>by
  have:=(hl r hr).2;unfold maxLen at this;omega)⟩
theorem ColfileOwn_met (os:Os) (args:Array Value):laidMetH Tryz.prog ztq ((World.doorLaid Tryz.prog 400 os).forCall (λ_ _=>0) ⟨#[],args,[]⟩).memory:=
 laidMetH_of_parts3 (fuel:=8) (laidMet_of_run' 8 (by kernel_rfl) (by kernel_rfl)) (by kernel_rfl) (by kernel_rfl)
theorem ColfileOwn_lifted (os:Os) (started:os.Started) (H:Type) (enc:TypeId × Value->H):
 ReturnsInHanded {} Tryz.checked os 7 .any (λw args=>(Rows.colfileOwnSpec.pre enc Tryz.prog Tryz.f7 [] false w args/\laidMetH Tryz.prog ztq w)/\sizedMet enc Tryz.prog Tryz.f7 (OpenSpec.ofChange Rows.colfileOwnSpec) false w args)
  (Rows.colfileOwnSpec.post enc Tryz.prog Tryz.f7 false true false false):=by
 refine returnsInHanded_of_change_and (C:=Tryz.checked) (X:=λw _=>laidMetH Tryz.prog ztq w) (λ_ _ _ hh h=>h.of_heap hh) Tryz.own started (by kernel_rfl) Tryz.func7
  (ChangeSpec.witness_shaped (enc:=enc) (C:=Tryz.checked) (os:=os) (X:=λw _=>laidMetH Tryz.prog ztq w) false (World.doorLaid Tryz.prog 400 os) #[.agg #[.int .u32 0,.slice none 0 0],.slice none 0 0] 8 rfl (World.shaped_of_RefB (by kernel_rfl) (by kernel_rfl)) (by kernel_rfl) (by kernel_rfl) (by kernel_rfl) (ColfileOwn_met os _)) ?_
 intro W base args ds gs before hval0 hW _ _ hL _;have hval: ∀ (j:Nat) t v,Tryz.f7.params[j]? =some t->args[j]? =some v->Value.okWide Tryz.prog W .any base t v:=hval0;exact znE (m:=8) (tb:=4) Tryz.laidOut (by kernel_rfl) rfl rfl Tryz.underlying4 (λds hl=>by
  match ds,hl with
  |[_,_],_=>rfl) (zy2 (by kernel_rfl) (by decide +kernel) Am.Ab.G_sorts Am.Ab.G_chunks) ColfileOwn_data (zv5 (λ_ _ h=>h) hL) hval hW
theorem ColfileOwn_f1:mapsRowed Tryz.prog=true:=by kernel_rfl
theorem ColfileOwn_f2:(Rows.colfileOwnRow.inPlace == Tryz.prog.inPlace 7)=true:=by kernel_rfl
theorem ColfileOwn_f3:(Rows.colfileOwnRow.unfollowed == Tryz.prog.unfollowed 7)=true:=by kernel_rfl
theorem ColfileOwn_f4:(Rows.colfileOwnRow.recurses == Tryz.prog.recurses 7)=true:=by kernel_rfl
theorem ColfileOwn_f5:(Rows.colfileOwnRow.named == Tryz.prog.varsNamed 7)=true:=by kernel_rfl
theorem ColfileOwn_f6:(Rows.colfileOwnRow.plainKeys == Tryz.prog.plainKeys)=true:=by kernel_rfl
theorem ColfileOwn_f7:Tryz.prog.stopsHeard=true:=by kernel_rfl
theorem ColfileOwn_f8:Tryz.prog.mayEnter=true:=by kernel_rfl
theorem ColfileOwn_f9:(Rows.colfileOwnRow.lifted == Tryz.prog.liftsFinal)=true:=by kernel_rfl
theorem ColfileOwn_facts:joinedFacts Tryz.prog 7 Tryz.f7 Rows.colfileOwnSpec Rows.colfileOwnRow=true:=by
 unfold joinedFacts;rw[Tryz.laidOut,ColfileOwn_f1,ColfileOwn_f2,ColfileOwn_f3,ColfileOwn_f4,ColfileOwn_f5,ColfileOwn_f6,ColfileOwn_f7,ColfileOwn_f8,ColfileOwn_f9];kernel_rfl
theorem ColfileOwn_holds:Rows.ColfileOwnSaid:=
 OpenClaim.holds_of_wide 7 Tryz.f7 rfl rfl rfl rfl rfl rfl rfl ⟨rfl,rfl,rfl,rfl,rfl⟩ rfl rfl rfl rfl rfl (by kernel_rfl) Tryz.func7 ColfileOwn_facts
  (ydL (by kernel_rfl)) (by unfold Func.isWrapper;first | (rw[yai (by decide +kernel)];kernel_rfl) | (rw[yaf (by decide +kernel)];exact⟨rfl,rfl⟩))
  (λos started H enc _=>ColfileOwn_lifted os started H enc)
theorem ColfileOwn_c1 : Tryz.pinned.checked.prog.mainIs = some (true, ("600ab543f115a7d8949719efb2d65ceea305d06918d9b394a74cea282664bc32" : String).toList) := by kernel_rfl
theorem ColfileOwn_c2:true=Tryz.pinned.checked.prog.looks []:=by kernel_rfl
theorem ColfileOwn_c3:([25,26].all λu=> !Tryz.prog.wantsStandIn u)=true:=by kernel_rfl
theorem ColfileOwn_c4:false=Rows.colfileOwnRow.goesBy Tryz.pinned.checked.prog:=by kernel_rfl
theorem ColfileOwn_c5:Rows.colfileOwnRow.wfByText (OpenSpec.ofChange Rows.colfileOwnSpec)=true:=by kernel_rfl
theorem ColfileOwn_c6 : Tryz.prog.funcNamed "catchment/catchmentlaw10.ColfileOwn" = some 7 := by kernel_rfl
theorem ColfileOwn_card:Rows.ColfileOwnCardSaid:=
 Claim7.holds_tied_plain_at .later [] [.data] true (true, "600ab543f115a7d8949719efb2d65ceea305d06918d9b394a74cea282664bc32") true
  ColfileOwn_holds (λ_ h=>by cases h) ColfileOwn_c5 (λ_ h=>by cases h) colfileOwn_row_tie rfl ⟨rfl,rfl⟩ ColfileOwn_c1 rfl
  (λf fn hf hfn=>by
   obtain rfl:f=7:=yaV (ColfileOwn_c6.symm.trans hf) |>.symm;obtain rfl:fn=Tryz.f7:=(yaV (Tryz.func7.symm.trans hfn)).symm;exact⟨ColfileOwn_c2,λj t ht=>by
    rw[Tryz.params7]at ht;have hm:t∈[25,26]:=by simpa using Array.mem_of_getElem? ht
    exact (show Tryz.prog.wantsStandIn t=false by simpa using List.all_eq_true.1 ColfileOwn_c3 t hm)⟩)
  ColfileOwn_c4
end Go.Proofs.YtibdiacpdmhmnaaGreatDoor
