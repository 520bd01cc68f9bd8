/- ColfileWrites is true: the bytes of any rows, of any schema, are the document's, or its error. The table of the sum is what the program's text lays. No other condition. -/
import Derived.Test.YtibdiacpdmhmnaaGreatDoorRows
import Derived.Test.YtibdiacpdmhmnaaGreatDoorCards
import Derived.Test.YtibdiacpdmhmnaaGreatDoorTie
import Derived.SevenTiedAt
import Derived.ProofKit
import Derived.Test.YtibdiacpdmhmnaaGreatDoorFileC
import Derived.Test.YtibdiacpdmhmnaaGreatDoorGlob
import Derived.Test.YtibdiacpdmhmnaaGreatDoorChunk
set_option linter.all false
namespace Go.Proofs.YtibdiacpdmhmnaaGreatDoor
open Go.ChangeShapes Go.WideShapes Go.ChangeAt Go.RowKit Go.Am Go.Am.Ab
set_option maxRecDepth 100000
theorem Tryz.own:ownKnob Tryz.prog.godebug=none:=by kernel_rfl
theorem Tryz.laidOut:laidOutB Tryz.prog=true:=by kernel_rfl
theorem ColfileWrites_data (xs:List D) (hx:All2 (zbu Tryz.prog 8) Tryz.f3.params.toList xs): ∃h',Am.Ab.R 3 (xs.map .d) []=some ([.d (.bool true)],h'):=by
 obtain⟨x0,xs,rfl,h0,hx⟩:=zbm hx;obtain⟨x1,xs,rfl,h1,hx⟩:=zbm hx;obtain⟨x2,xs,rfl,h2,hx⟩:=zbm hx;have hn:=zgH hx;subst hn;obtain⟨s,rfl,hs⟩:=Sch.dec h0;obtain⟨l,rfl,hl,hn⟩:=zrT h1;obtain⟨n,rfl,_⟩:=zqe h2 Tryz.underlying3;unfold maxLen at hn;exact⟨[],zfn s hs l (λr hr c hc=>by
  obtain⟨a1,a2,a3⟩:=(hl r hr).1 c hc;unfold maxLen at a3;exact⟨a1,a2,by omega⟩) (by omega) (λr hr=>by
  have:=(hl r hr).2;unfold maxLen at this;omega) n⟩
theorem ColfileWrites_met (os:Os) (args:Array Value):laidMetH Tryz.prog zot ((World.doorLaid Tryz.prog 400 os).forCall (λ_ _=>0) ⟨#[],args,[]⟩).memory:=
 laidMetH_of_parts3 (fuel:=8) (laidMet_of_run' 8 (by kernel_rfl) (by kernel_rfl)) (by kernel_rfl) (by kernel_rfl)
theorem ColfileWrites_lifted (os:Os) (started:os.Started) (H:Type) (enc:TypeId × Value->H):
 ReturnsInHanded {} Tryz.checked os 3 .any (λw args=>(Rows.colfileWritesSpec.pre enc Tryz.prog Tryz.f3 [] false w args/\laidMetH Tryz.prog zot w)/\sizedMet enc Tryz.prog Tryz.f3 (OpenSpec.ofChange Rows.colfileWritesSpec) false w args)
  (Rows.colfileWritesSpec.post enc Tryz.prog Tryz.f3 false true false false):=by
 refine returnsInHanded_of_change_and (C:=Tryz.checked) (X:=λw _=>laidMetH Tryz.prog zot w) (λ_ _ _ hh h=>h.of_heap hh) Tryz.own started (by kernel_rfl) Tryz.func3
  (ChangeSpec.witness_shaped (enc:=enc) (C:=Tryz.checked) (os:=os) (X:=λw _=>laidMetH Tryz.prog zot w) false (World.doorLaid Tryz.prog 400 os) #[.agg #[.int .u32 0,.slice none 0 0],.slice none 0 0,.int .i64 0] 8 rfl (World.shaped_of_RefB (by kernel_rfl) (by kernel_rfl)) (by kernel_rfl) (by kernel_rfl) (by kernel_rfl) (ColfileWrites_met os _)) ?_
 intro W base args ds gs before hval0 hW _ _ hL _;have hval: ∀ (j:Nat) t v,Tryz.f3.params[j]? =some t->args[j]? =some v->Value.okWide Tryz.prog W .any base t v:=hval0;exact zkj (m:=8) (tb:=4) Tryz.laidOut (by kernel_rfl) rfl rfl Tryz.underlying4 (λds hl=>by
  match ds,hl with
  |[_,_,_],_=>rfl) (zsH (by kernel_rfl) Am.Ab.G_chunks) ColfileWrites_data (zqk (λ_ _ h=>h) hL) hval hW
theorem ColfileWrites_f1:mapsRowed Tryz.prog=true:=by kernel_rfl
theorem ColfileWrites_f2:(Rows.colfileWritesRow.inPlace == Tryz.prog.inPlace 3)=true:=by kernel_rfl
theorem ColfileWrites_f3:(Rows.colfileWritesRow.unfollowed == Tryz.prog.unfollowed 3)=true:=by kernel_rfl
theorem ColfileWrites_f4:(Rows.colfileWritesRow.recurses == Tryz.prog.recurses 3)=true:=by kernel_rfl
theorem ColfileWrites_f5:(Rows.colfileWritesRow.named == Tryz.prog.varsNamed 3)=true:=by kernel_rfl
theorem ColfileWrites_f6:(Rows.colfileWritesRow.plainKeys == Tryz.prog.plainKeys)=true:=by kernel_rfl
theorem ColfileWrites_f7:Tryz.prog.stopsHeard=true:=by kernel_rfl
theorem ColfileWrites_f8:Tryz.prog.mayEnter=true:=by kernel_rfl
theorem ColfileWrites_f9:(Rows.colfileWritesRow.lifted == Tryz.prog.liftsFinal)=true:=by kernel_rfl
theorem ColfileWrites_facts:joinedFacts Tryz.prog 3 Tryz.f3 Rows.colfileWritesSpec Rows.colfileWritesRow=true:=by
 unfold joinedFacts;rw[Tryz.laidOut,ColfileWrites_f1,ColfileWrites_f2,ColfileWrites_f3,ColfileWrites_f4,ColfileWrites_f5,ColfileWrites_f6,ColfileWrites_f7,ColfileWrites_f8,ColfileWrites_f9];kernel_rfl
theorem ColfileWrites_holds:Rows.ColfileWritesSaid:=
 OpenClaim.holds_of_wide 3 Tryz.f3 rfl rfl rfl rfl rfl rfl rfl ⟨rfl,rfl,rfl,rfl,rfl⟩ rfl rfl rfl rfl rfl (by kernel_rfl) Tryz.func3 ColfileWrites_facts
  (of_decide_eq_true (by kernel_rfl)) (by unfold Func.isWrapper;first | (rw[if_pos (by decide +kernel)];kernel_rfl) | (rw[if_neg (by decide +kernel)];exact⟨rfl,rfl⟩))
  (λos started H enc _=>ColfileWrites_lifted os started H enc)
theorem ColfileWrites_c1 : Tryz.pinned.checked.prog.mainIs = some (true, ("600ab543f115a7d8949719efb2d65ceea305d06918d9b394a74cea282664bc32" : String).toList) := by kernel_rfl
theorem ColfileWrites_c2:true=Tryz.pinned.checked.prog.looks []:=by kernel_rfl
theorem ColfileWrites_c3:([25,26,3].all λu=> !Tryz.prog.wantsStandIn u)=true:=by kernel_rfl
theorem ColfileWrites_c4:false=Rows.colfileWritesRow.goesBy Tryz.pinned.checked.prog:=by kernel_rfl
theorem ColfileWrites_c5:Rows.colfileWritesRow.wfByText (OpenSpec.ofChange Rows.colfileWritesSpec)=true:=by kernel_rfl
theorem ColfileWrites_c6 : Tryz.prog.funcNamed "catchment/catchmentlaw10.ColfileWrites" = some 3 := by kernel_rfl
theorem ColfileWrites_card:Rows.ColfileWritesCardSaid:=
 Claim7.holds_tied_plain_at .later [] [.data] true (true, "600ab543f115a7d8949719efb2d65ceea305d06918d9b394a74cea282664bc32") true
  ColfileWrites_holds (λ_ h=>by cases h) ColfileWrites_c5 (λ_ h=>by cases h) colfileWrites_row_tie rfl ⟨rfl,rfl⟩ ColfileWrites_c1 rfl
  (λf fn hf hfn=>by
   obtain rfl:f=3:=Option.some.inj (ColfileWrites_c6.symm.trans hf) |>.symm;obtain rfl:fn=Tryz.f3:=(Option.some.inj (Tryz.func3.symm.trans hfn)).symm;exact⟨ColfileWrites_c2,λj t ht=>by
    rw[Tryz.params3]at ht;have hm:t∈[25,26,3]:=by simpa using Array.mem_of_getElem? ht
    exact (show Tryz.prog.wantsStandIn t=false by simpa using List.all_eq_true.1 ColfileWrites_c3 t hm)⟩)
  ColfileWrites_c4
end Go.Proofs.YtibdiacpdmhmnaaGreatDoor
