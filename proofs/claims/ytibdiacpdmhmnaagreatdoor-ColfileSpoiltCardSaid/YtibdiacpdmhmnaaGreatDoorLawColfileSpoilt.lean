/- ColfileSpoilt is true: a file's bytes, of which some are others, cut off or more, sealed anew, are a file's just if they say so. The table of the sum is what the program's text lays. No other condition. -/
import Derived.Test.YtibdiacpdmhmnaaGreatDoorRows
import Derived.Test.YtibdiacpdmhmnaaGreatDoorCards
import Derived.Test.YtibdiacpdmhmnaaGreatDoorTie
import Derived.SevenTiedAt
import Derived.ProofKit
import Derived.Test.YtibdiacpdmhmnaaGreatDoorSpoilA
import Derived.Test.YtibdiacpdmhmnaaGreatDoorGlob
import Derived.Test.YtibdiacpdmhmnaaGreatDoorChunk
import Derived.Test.YtibdiacpdmhmnaaGreatDoorLays
set_option linter.all false
namespace Go.Proofs.YtibdiacpdmhmnaaGreatDoor
open Go.ChangeShapes Go.WideShapes Go.ChangeAt Go.RowKit Go.Am Go.Am.Ab
set_option maxRecDepth 100000
theorem Tryz.own:ownKnob Tryz.prog.godebug=none:=by kernel_rfl
theorem Tryz.laidOut:laidOutB Tryz.prog=true:=by kernel_rfl
theorem ColfileSpoilt_data (xs:List D) (hx:All2 (zbP Tryz.prog 8) Tryz.f6.params.toList xs): ∃h',Am.Ab.R 6 (xs.map .d) []=some ([.d (.bool true)],h'):=by
 obtain⟨x0,xs,rfl,h0,hx⟩:=zaY hx;obtain⟨x1,xs,rfl,h1,hx⟩:=zaY hx;obtain⟨x2,xs,rfl,h2,hx⟩:=zaY hx;obtain⟨x3,xs,rfl,h3,hx⟩:=zaY hx;obtain⟨x4,xs,rfl,h4,hx⟩:=zaY hx;obtain⟨x5,xs,rfl,h5,hx⟩:=zaY hx;have hn:=zhy hx;subst hn;obtain⟨s,rfl,hs⟩:=Sch.dec h0;obtain⟨l,rfl,hl,hn⟩:=zsL h1;obtain⟨n,rfl,hni⟩:=ziu h2 Tryz.underlying3;obtain⟨a,rfl,_⟩:=ziu h3 Tryz.underlying3;obtain⟨y,rfl,y1,y2⟩:=zwD h4 Tryz.underlying5;obtain⟨k,rfl,_⟩:=ziu h5 Tryz.underlying3;obtain⟨z,rfl⟩: ∃z:UInt8,y=z.toNat:=⟨UInt8.ofNat y.toNat,by rw[UInt8.toNat_ofNat'];omega⟩
 unfold maxLen at hn;exact⟨[],zhB s hs l (λr hr c hc=>by
  obtain⟨a1,a2,a3⟩:=(hl r hr).1 c hc;unfold maxLen at a3;exact⟨a1,a2,by omega⟩) (by omega) (λr hr=>by
  have:=(hl r hr).2;unfold maxLen at this;omega) n hni a z k⟩
theorem ColfileSpoilt_met (os:Os) (args:Array Value):laidMetH Tryz.prog zlw ((World.doorLaid Tryz.prog 400 os).forCall (λ_ _=>0) ⟨#[],args,[]⟩).memory:=
 laidMetH_of_parts3 (fuel:=8) (laidMet_of_run' 8 (by kernel_rfl) (by kernel_rfl)) (by kernel_rfl) (by kernel_rfl)
theorem ColfileSpoilt_lifted (os:Os) (started:os.Started) (H:Type) (enc:TypeId × Value->H):
 ReturnsInHanded {} Tryz.checked os 6 .any (λw args=>(Rows.colfileSpoiltSpec.pre enc Tryz.prog Tryz.f6 [] false w args/\laidMetH Tryz.prog zlw w)/\sizedMet enc Tryz.prog Tryz.f6 (OpenSpec.ofChange Rows.colfileSpoiltSpec) false w args)
  (Rows.colfileSpoiltSpec.post enc Tryz.prog Tryz.f6 false true false false):=by
 refine returnsInHanded_of_change_and (C:=Tryz.checked) (X:=λw _=>laidMetH Tryz.prog zlw w) (λ_ _ _ hh h=>h.of_heap hh) Tryz.own started (by kernel_rfl) Tryz.func6
  (ChangeSpec.witness_shaped (enc:=enc) (C:=Tryz.checked) (os:=os) (X:=λw _=>laidMetH Tryz.prog zlw w) false (World.doorLaid Tryz.prog 400 os) #[.agg #[.int .u32 0,.slice none 0 0],.slice none 0 0,.int .i64 0,.int .i64 0,.int .u8 0,.int .i64 0] 8 rfl (World.shaped_of_RefB (by kernel_rfl) (by kernel_rfl)) (by kernel_rfl) (by kernel_rfl) (by kernel_rfl) (ColfileSpoilt_met os _)) ?_
 intro W base args ds gs before hval0 hW _ _ hL _;have hval: ∀ (j:Nat) t v,Tryz.f6.params[j]? =some t->args[j]? =some v->Value.okWide Tryz.prog W .any base t v:=hval0;exact ziM (m:=8) (tb:=4) Tryz.laidOut (by kernel_rfl) rfl rfl Tryz.underlying4 (λds hl=>by
  match ds,hl with
  |[_,_,_,_,_,_],_=>rfl) (zu3 (by kernel_rfl) Am.Ab.G_sorts Am.Ab.G_chunks) ColfileSpoilt_data (zpX (λ_ _ h=>h) hL) hval hW
theorem ColfileSpoilt_f1:mapsRowed Tryz.prog=true:=by kernel_rfl
theorem ColfileSpoilt_f2:(Rows.colfileSpoiltRow.inPlace == Tryz.prog.inPlace 6)=true:=by kernel_rfl
theorem ColfileSpoilt_f3:(Rows.colfileSpoiltRow.unfollowed == Tryz.prog.unfollowed 6)=true:=by kernel_rfl
theorem ColfileSpoilt_f4:(Rows.colfileSpoiltRow.recurses == Tryz.prog.recurses 6)=true:=by kernel_rfl
theorem ColfileSpoilt_f5:(Rows.colfileSpoiltRow.named == Tryz.prog.varsNamed 6)=true:=by kernel_rfl
theorem ColfileSpoilt_f6:(Rows.colfileSpoiltRow.plainKeys == Tryz.prog.plainKeys)=true:=by kernel_rfl
theorem ColfileSpoilt_f7:Tryz.prog.stopsHeard=true:=by kernel_rfl
theorem ColfileSpoilt_f8:Tryz.prog.mayEnter=true:=by kernel_rfl
theorem ColfileSpoilt_f9:(Rows.colfileSpoiltRow.lifted == Tryz.prog.liftsFinal)=true:=by kernel_rfl
theorem ColfileSpoilt_facts:joinedFacts Tryz.prog 6 Tryz.f6 Rows.colfileSpoiltSpec Rows.colfileSpoiltRow=true:=by
 unfold joinedFacts;rw[Tryz.laidOut,ColfileSpoilt_f1,ColfileSpoilt_f2,ColfileSpoilt_f3,ColfileSpoilt_f4,ColfileSpoilt_f5,ColfileSpoilt_f6,ColfileSpoilt_f7,ColfileSpoilt_f8,ColfileSpoilt_f9];kernel_rfl
theorem ColfileSpoilt_holds:Rows.ColfileSpoiltSaid:=
 OpenClaim.holds_of_wide 6 Tryz.f6 rfl rfl rfl rfl rfl rfl rfl ⟨rfl,rfl,rfl,rfl,rfl⟩ rfl rfl rfl rfl rfl (by kernel_rfl) Tryz.func6 ColfileSpoilt_facts
  (yc9 (by kernel_rfl)) (by unfold Func.isWrapper;first | (rw[yaj (by decide +kernel)];kernel_rfl) | (rw[yag (by decide +kernel)];exact⟨rfl,rfl⟩))
  (λos started H enc _=>ColfileSpoilt_lifted os started H enc)
theorem ColfileSpoilt_c1 : Tryz.pinned.checked.prog.mainIs = some (true, ("600ab543f115a7d8949719efb2d65ceea305d06918d9b394a74cea282664bc32" : String).toList) := by kernel_rfl
theorem ColfileSpoilt_c2:true=Tryz.pinned.checked.prog.looks []:=by kernel_rfl
theorem ColfileSpoilt_c3:([25,26,3,3,5,3].all λu=> !Tryz.prog.wantsStandIn u)=true:=by kernel_rfl
theorem ColfileSpoilt_c4:false=Rows.colfileSpoiltRow.goesBy Tryz.pinned.checked.prog:=by kernel_rfl
theorem ColfileSpoilt_c5:Rows.colfileSpoiltRow.wfByText (OpenSpec.ofChange Rows.colfileSpoiltSpec)=true:=by kernel_rfl
theorem ColfileSpoilt_c6 : Tryz.prog.funcNamed "catchment/catchmentlaw10.ColfileSpoilt" = some 6 := by kernel_rfl
theorem ColfileSpoilt_card:Rows.ColfileSpoiltCardSaid:=
 Claim7.holds_tied_plain_at .later [] [.data] true (true, "600ab543f115a7d8949719efb2d65ceea305d06918d9b394a74cea282664bc32") true
  ColfileSpoilt_holds (λ_ h=>by cases h) ColfileSpoilt_c5 (λ_ h=>by cases h) colfileSpoilt_row_tie rfl ⟨rfl,rfl⟩ ColfileSpoilt_c1 rfl
  (λf fn hf hfn=>by
   obtain rfl:f=6:=ya8 (ColfileSpoilt_c6.symm.trans hf) |>.symm;obtain rfl:fn=Tryz.f6:=(ya8 (Tryz.func6.symm.trans hfn)).symm;exact⟨ColfileSpoilt_c2,λj t ht=>by
    rw[Tryz.params6]at ht;have hm:t∈[25,26,3,3,5,3]:=by simpa using ydd ht
    exact (show Tryz.prog.wantsStandIn t=false by simpa using List.all_eq_true.1 ColfileSpoilt_c3 t hm)⟩)
  ColfileSpoilt_c4
end Go.Proofs.YtibdiacpdmhmnaaGreatDoor
