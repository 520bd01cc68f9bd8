/- ColfileBack is true: rows that were written are read, with their schema, groups and statistics. The table of the sum is what the program's text lays. No other condition. -/
import Derived.Test.YtibdiacpdmhmnaaGreatDoorRows
import Derived.Test.YtibdiacpdmhmnaaGreatDoorCards
import Derived.Test.YtibdiacpdmhmnaaGreatDoorTie
import Derived.SevenTiedAt
import Derived.ProofKit
import Derived.Test.YtibdiacpdmhmnaaGreatDoorBackB
import Derived.Test.YtibdiacpdmhmnaaGreatDoorGlob
import Derived.Test.YtibdiacpdmhmnaaGreatDoorChunk
import Derived.Test.YtibdiacpdmhmnaaGreatDoorLays
set_option linter.all false
namespace Go.Proofs.YtibdiacpdmhmnaaGreatDoor
open Go.ChangeShapes Go.WideShapes Go.ChangeAt Go.RowKit Go.Am Go.Am.Ab
set_option maxRecDepth 100000
def Tryz.own:ownKnob Tryz.prog.godebug=none:=by kernel_rfl
def Tryz.laidOut:laidOutB Tryz.prog=true:=by kernel_rfl
def zje (xs:List D) (hx:All2 (zbP Tryz.prog 8) Tryz.f8.params.toList xs): ∃h',Am.Ab.R 8 (xs.map .d) []=some ([.d (.bool true)],h'):=by
 obtain⟨x0,xs,rfl,h0,hx⟩:=zaY hx;obtain⟨x1,xs,rfl,h1,hx⟩:=zaY hx;obtain⟨x2,xs,rfl,h2,hx⟩:=zaY hx;obtain⟨x3,xs,rfl,h3,hx⟩:=zaY hx;have hn:=zhy hx;subst hn;obtain⟨s,rfl,hs⟩:=Sch.dec h0;obtain⟨l,rfl,hl,hn⟩:=zsL h1;obtain⟨n,rfl,hni⟩:=ziu h2 Tryz.underlying3;obtain⟨a,rfl,ha⟩:=ziu h3 Tryz.underlying3;unfold maxLen at hn;exact⟨[],zjd s hs l (λr hr c hc=>by
  obtain⟨a1,a2,a3⟩:=(hl r hr).1 c hc;unfold maxLen at a3;exact⟨a1,a2,by omega⟩) (by omega) (λr hr=>by
  have:=(hl r hr).2;unfold maxLen at this;omega) n hni a ha⟩
def zk8 (os:Os) (args:Array Value):laidMetH Tryz.prog zlw ((World.doorLaid Tryz.prog 400 os).forCall (λ_ _=>0) ⟨#[],args,[]⟩).memory:=
 laidMetH_of_parts3 (fuel:=8) (laidMet_of_run' 8 (by kernel_rfl) (by kernel_rfl)) (by kernel_rfl) (by kernel_rfl)
def zhE (os:Os) (started:os.Started) (H:Type) (enc:TypeId × Value->H):
 ReturnsInHanded {} Tryz.checked os 8 .any (λw args=>(Rows.colfileBackSpec.pre enc Tryz.prog Tryz.f8 [] false w args/\laidMetH Tryz.prog zlw w)/\sizedMet enc Tryz.prog Tryz.f8 (OpenSpec.ofChange Rows.colfileBackSpec) false w args)
  (Rows.colfileBackSpec.post enc Tryz.prog Tryz.f8 false true false false):=by
 refine returnsInHanded_of_change_and (C:=Tryz.checked) (X:=λw _=>laidMetH Tryz.prog zlw w) (λ_ _ _ hh h=>h.of_heap hh) Tryz.own started (by kernel_rfl) Tryz.func8
  (ChangeSpec.witness_shaped (enc:=enc) (C:=Tryz.checked) (os:=os) (X:=λw _=>laidMetH Tryz.prog zlw w) false (World.doorLaid Tryz.prog 400 os) #[.agg #[.int .u32 0,.slice none 0 0],.slice none 0 0,.int .i64 0,.int .i64 0] 8 rfl (World.shaped_of_RefB (by kernel_rfl) (by kernel_rfl)) (by kernel_rfl) (by kernel_rfl) (by kernel_rfl) (zk8 os _)) ?_
 intro W base args ds gs before hval0 hW _ _ hL _;have hval: ∀ (j:Nat) t v,Tryz.f8.params[j]? =some t->args[j]? =some v->Value.okWide Tryz.prog W .any base t v:=hval0;exact ziM (m:=8) (tb:=4) Tryz.laidOut (by kernel_rfl) rfl rfl Tryz.underlying4 (λds hl=>by
  match ds,hl with
  |[_,_,_,_],_=>rfl) (zu3 (by kernel_rfl) Am.Ab.G_sorts Am.Ab.G_chunks) zje (zpX (λ_ _ h=>h) hL) hval hW
def zly:mapsRowed Tryz.prog=true:=by kernel_rfl
def zlz:(Rows.colfileBackRow.inPlace == Tryz.prog.inPlace 8)=true:=by kernel_rfl
def zlA:(Rows.colfileBackRow.unfollowed == Tryz.prog.unfollowed 8)=true:=by kernel_rfl
def zlB:(Rows.colfileBackRow.recurses == Tryz.prog.recurses 8)=true:=by kernel_rfl
def zlC:(Rows.colfileBackRow.named == Tryz.prog.varsNamed 8)=true:=by kernel_rfl
def zlD:(Rows.colfileBackRow.plainKeys == Tryz.prog.plainKeys)=true:=by kernel_rfl
def zlE:Tryz.prog.stopsHeard=true:=by kernel_rfl
def zlF:Tryz.prog.mayEnter=true:=by kernel_rfl
def zlG:(Rows.colfileBackRow.lifted == Tryz.prog.liftsFinal)=true:=by kernel_rfl
def zix:joinedFacts Tryz.prog 8 Tryz.f8 Rows.colfileBackSpec Rows.colfileBackRow=true:=by
 unfold joinedFacts;rw[Tryz.laidOut,zly,zlz,zlA,zlB,zlC,zlD,zlE,zlF,zlG];kernel_rfl
def ziy:Rows.ColfileBackSaid:=
 OpenClaim.holds_of_wide 8 Tryz.f8 rfl rfl rfl rfl rfl rfl rfl ⟨rfl,rfl,rfl,rfl,rfl⟩ rfl rfl rfl rfl rfl (by kernel_rfl) Tryz.func8 zix
  (yc9 (by kernel_rfl)) (by unfold Func.isWrapper;first | (rw[yaj (by decide +kernel)];kernel_rfl) | (rw[yag (by decide +kernel)];exact⟨rfl,rfl⟩))
  (λos started H enc _=>zhE os started H enc)
def zlH : Tryz.pinned.checked.prog.mainIs = some (true, ("600ab543f115a7d8949719efb2d65ceea305d06918d9b394a74cea282664bc32" : String).toList) := by kernel_rfl
def zlI:true=Tryz.pinned.checked.prog.looks []:=by kernel_rfl
def zlJ:([25,26,3,3].all λu=> !Tryz.prog.wantsStandIn u)=true:=by kernel_rfl
def zlK:false=Rows.colfileBackRow.goesBy Tryz.pinned.checked.prog:=by kernel_rfl
def zlL:Rows.colfileBackRow.wfByText (OpenSpec.ofChange Rows.colfileBackSpec)=true:=by kernel_rfl
def zlM : Tryz.prog.funcNamed "catchment/catchmentlaw10.ColfileBack" = some 8 := by kernel_rfl
theorem ColfileBack_card:Rows.ColfileBackCardSaid:=
 Claim7.holds_tied_plain_at .later [] [.data] true (true, "600ab543f115a7d8949719efb2d65ceea305d06918d9b394a74cea282664bc32") true
  ziy (λ_ h=>by cases h) zlL (λ_ h=>by cases h) colfileBack_row_tie rfl ⟨rfl,rfl⟩ zlH rfl
  (λf fn hf hfn=>by
   obtain rfl:f=8:=ya8 (zlM.symm.trans hf) |>.symm;obtain rfl:fn=Tryz.f8:=(ya8 (Tryz.func8.symm.trans hfn)).symm;exact⟨zlI,λj t ht=>by
    rw[Tryz.params8]at ht;have hm:t∈[25,26,3,3]:=by simpa using ydd ht
    exact (show Tryz.prog.wantsStandIn t=false by simpa using List.all_eq_true.1 zlJ t hm)⟩)
  zlK
end Go.Proofs.YtibdiacpdmhmnaaGreatDoor
