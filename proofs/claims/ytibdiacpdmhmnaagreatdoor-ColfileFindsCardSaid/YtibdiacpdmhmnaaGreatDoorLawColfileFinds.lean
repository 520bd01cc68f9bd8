/- ColfileFinds is true: the rows that any predicate finds, and the groups that are looked at, are the document's; they are the rows for which it is Yes. The table of the sum is what the program's text lays. No other condition. -/
import Derived.Test.YtibdiacpdmhmnaaGreatDoorRows
import Derived.Test.YtibdiacpdmhmnaaGreatDoorCards
import Derived.Test.YtibdiacpdmhmnaaGreatDoorTie
import Derived.SevenTiedAt
import Derived.ProofKit
import Derived.Test.YtibdiacpdmhmnaaGreatDoorFileC
import Derived.Test.YtibdiacpdmhmnaaGreatDoorFindB
import Derived.Test.YtibdiacpdmhmnaaGreatDoorGlob
import Derived.Test.YtibdiacpdmhmnaaGreatDoorChunk
import Derived.Test.YtibdiacpdmhmnaaGreatDoorLays
set_option linter.all false
namespace Go.Proofs.YtibdiacpdmhmnaaGreatDoor
open Go.ChangeShapes Go.WideShapes Go.ChangeAt Go.RowKit Go.Am Go.Am.Ab
set_option maxRecDepth 100000
theorem Tryz.own:ownKnob Tryz.prog.godebug=none:=by kernel_rfl
theorem Tryz.laidOut:laidOutB Tryz.prog=true:=by kernel_rfl
theorem wfL_of: ∀ {ks:List Prd},(∀k∈ks,k.wf)->wfL ks
 |[],_=>trivial
 |k::_,h=>⟨h k (ybb ..),wfL_of λk' h'=>h k' (yaZ _ h')⟩
theorem prd_dec: ∀ {m:Nat} {x:D},zby Tryz.prog m 44 x-> ∃p:Prd,x=p.d/\p.wf
 |0,_,h=>by cases h
 |m+1,x,h=>by
  obtain⟨ys,rfl,g⟩:=zdA h Tryz.underlying44;obtain⟨y0,ys,rfl,h0,g⟩:=zaV g;obtain⟨y1,ys,rfl,h1,g⟩:=zaV g;obtain⟨y2,ys,rfl,h2,g⟩:=zaV g;obtain⟨y3,ys,rfl,h3,g⟩:=zaV g;have hn:=zhp g;subst hn;obtain⟨op,rfl,o1,o2⟩:=zwq h0 Tryz.underlying5;obtain⟨f,rfl,f1,f2⟩:=zqH h1 Tryz.underlying22;obtain⟨c,rfl,c1,c2,c3⟩:=zwr h2;have key: ∀y,zby Tryz.prog m 42 y-> ∃ks:List Prd,y= .list (ks.map Prd.d)/\(∀k∈ks,k.wf)/\ks.length<=maxLen:=by
   cases m with
   |zero=>intro y h;cases h
   |succ m=>
    intro y h;obtain⟨zs,rfl,hl,ha⟩:=zfI h Tryz.underlying42;obtain⟨ks,rfl,hw⟩:=zkG (f:=Prd.d) (p:=Prd.wf) (λy hy=>prd_dec (ha y hy))
    exact⟨ks,rfl,hw,by simpa using hl⟩
  obtain⟨ks,rfl,k1,k2⟩:=key _ h3;have hw:=wfL_of k1;refine⟨.node op.toNat f c ks, ?_, ?_⟩
  ·rw[zar,ydo o1]
   simp[Cel.d]
  ·rw[Prd.wf]
   unfold maxLen at k2 c3;exact⟨⟨by omega,f1,f2,c1,c2,by omega,by omega⟩,hw⟩
theorem ColfileFinds_data (xs:List D) (hx:All2 (λt x=> ∃m,zby Tryz.prog m t x) Tryz.f4.params.toList xs): ∃h',Am.Ab.R 4 (xs.map .d) []=some ([.d (.bool true)],h'):=by
 obtain⟨x0,xs,rfl,⟨_,h0⟩,hx⟩:=zaV hx;obtain⟨x1,xs,rfl,⟨_,h1⟩,hx⟩:=zaV hx;obtain⟨x2,xs,rfl,⟨_,h2⟩,hx⟩:=zaV hx;obtain⟨x3,xs,rfl,⟨_,h3⟩,hx⟩:=zaV hx;have hn:=zhp hx;subst hn;obtain⟨s,rfl,hs⟩:=Sch.dec h0;obtain⟨l,rfl,hl,hn⟩:=zyF h1;obtain⟨n,rfl,hni⟩:=zwp h2 Tryz.underlying3;obtain⟨p,rfl,hp⟩:=prd_dec h3;unfold maxLen at hn;exact⟨[],zik s hs l (λr hr c hc=>by
  obtain⟨a1,a2,a3⟩:=(hl r hr).1 c hc;unfold maxLen at a3;exact⟨a1,a2,by omega⟩) (by omega) (λr hr=>by
  have:=(hl r hr).2;unfold maxLen at this;omega) n hni p hp⟩
theorem ColfileFinds_met (os:Os) (args:Array Value):laidMetH Tryz.prog zuc ((World.doorLaid Tryz.prog 400 os).forCall (λ_ _=>0) ⟨#[],args,[]⟩).memory:=
 laidMetH_of_parts3 (fuel:=8) (laidMet_of_run' 8 (by kernel_rfl) (by kernel_rfl)) (by kernel_rfl) (by kernel_rfl)
theorem ColfileFinds_lifted (os:Os) (started:os.Started) (H:Type) (enc:TypeId × Value->H):
 ReturnsInHanded {} Tryz.checked os 4 .any (λw args=>(Rows.colfileFindsSpec.pre enc Tryz.prog Tryz.f4 [] false w args/\laidMetH Tryz.prog zuc w)/\sizedMet enc Tryz.prog Tryz.f4 (OpenSpec.ofChange Rows.colfileFindsSpec) false w args)
  (Rows.colfileFindsSpec.post enc Tryz.prog Tryz.f4 false true false false):=by
 refine returnsInHanded_of_change_and (C:=Tryz.checked) (X:=λw _=>laidMetH Tryz.prog zuc w) (λ_ _ _ hh h=>h.of_heap hh) Tryz.own started (by kernel_rfl) Tryz.func4
  (ChangeSpec.witness_shaped (enc:=enc) (C:=Tryz.checked) (os:=os) (X:=λw _=>laidMetH Tryz.prog zuc w) false (World.doorLaid Tryz.prog 400 os) #[.agg #[.int .u32 0,.slice none 0 0],.slice none 0 0,.int .i64 0,.agg #[.int .u8 0,.int .u32 0,.int .u8 0,.int .i64 0,.string ⟨#[]⟩,.slice none 0 0]] 8 rfl (World.shaped_of_RefB (by kernel_rfl) (by kernel_rfl)) (by kernel_rfl) (by kernel_rfl) (by kernel_rfl) (ColfileFinds_met os _)) ?_
 intro W base args ds gs before hval0 hW _ _ hL _;have hval: ∀ (j:Nat) t v,Tryz.f4.params[j]? =some t->args[j]? =some v->Value.okWide Tryz.prog W .any base t v:=hval0;exact zmz (ts:=[25,26,3,44,22,23,58,5,41,42,73,39,2,9,4]) (tb:=4) Tryz.laidOut (by kernel_rfl) (by kernel_rfl) rfl rfl Tryz.underlying4 (λds hl=>by
  match ds,hl with
  |[_,_,_,_],_=>rfl) (zzX (by kernel_rfl) Am.Ab.G_sorts Am.Ab.G_chunks) ColfileFinds_data (zwW (λ_ _ h=>h) hL) hval hW
theorem ColfileFinds_f1:mapsRowed Tryz.prog=true:=by kernel_rfl
theorem ColfileFinds_f2:(Rows.colfileFindsRow.inPlace == Tryz.prog.inPlace 4)=true:=by kernel_rfl
theorem ColfileFinds_f3:(Rows.colfileFindsRow.unfollowed == Tryz.prog.unfollowed 4)=true:=by kernel_rfl
theorem ColfileFinds_f4:(Rows.colfileFindsRow.recurses == Tryz.prog.recurses 4)=true:=by kernel_rfl
theorem ColfileFinds_f5:(Rows.colfileFindsRow.named == Tryz.prog.varsNamed 4)=true:=by kernel_rfl
theorem ColfileFinds_f6:(Rows.colfileFindsRow.plainKeys == Tryz.prog.plainKeys)=true:=by kernel_rfl
theorem ColfileFinds_f7:Tryz.prog.stopsHeard=true:=by kernel_rfl
theorem ColfileFinds_f8:Tryz.prog.mayEnter=true:=by kernel_rfl
theorem ColfileFinds_f9:(Rows.colfileFindsRow.lifted == Tryz.prog.liftsFinal)=true:=by kernel_rfl
theorem ColfileFinds_facts:joinedFacts Tryz.prog 4 Tryz.f4 Rows.colfileFindsSpec Rows.colfileFindsRow=true:=by
 unfold joinedFacts;rw[Tryz.laidOut,ColfileFinds_f1,ColfileFinds_f2,ColfileFinds_f3,ColfileFinds_f4,ColfileFinds_f5,ColfileFinds_f6,ColfileFinds_f7,ColfileFinds_f8,ColfileFinds_f9];kernel_rfl
theorem ColfileFinds_holds:Rows.ColfileFindsSaid:=
 OpenClaim.holds_of_wide 4 Tryz.f4 rfl rfl rfl rfl rfl rfl rfl ⟨rfl,rfl,rfl,rfl,rfl⟩ rfl rfl rfl rfl rfl (by kernel_rfl) Tryz.func4 ColfileFinds_facts
  (ycr (by kernel_rfl)) (by unfold Func.isWrapper;first | (rw[yag (by decide +kernel)];kernel_rfl) | (rw[yac (by decide +kernel)];exact⟨rfl,rfl⟩))
  (λos started H enc _=>ColfileFinds_lifted os started H enc)
theorem ColfileFinds_c1 : Tryz.pinned.checked.prog.mainIs = some (true, ("600ab543f115a7d8949719efb2d65ceea305d06918d9b394a74cea282664bc32" : String).toList) := by kernel_rfl
theorem ColfileFinds_c2:true=Tryz.pinned.checked.prog.looks []:=by kernel_rfl
theorem ColfileFinds_c3:([25,26,3,44].all λu=> !Tryz.prog.wantsStandIn u)=true:=by kernel_rfl
theorem ColfileFinds_c4:false=Rows.colfileFindsRow.goesBy Tryz.pinned.checked.prog:=by kernel_rfl
theorem ColfileFinds_c5:Rows.colfileFindsRow.wfByText (OpenSpec.ofChange Rows.colfileFindsSpec)=true:=by kernel_rfl
theorem ColfileFinds_c6 : Tryz.prog.funcNamed "catchment/catchmentlaw10.ColfileFinds" = some 4 := by kernel_rfl
theorem ColfileFinds_card:Rows.ColfileFindsCardSaid:=
 Claim7.holds_tied_plain_at .later [] [.data] true (true, "600ab543f115a7d8949719efb2d65ceea305d06918d9b394a74cea282664bc32") true
  ColfileFinds_holds (λ_ h=>by cases h) ColfileFinds_c5 (λ_ h=>by cases h) colfileFinds_row_tie rfl ⟨rfl,rfl⟩ ColfileFinds_c1 rfl
  (λf fn hf hfn=>by
   obtain rfl:f=4:=yaN (ColfileFinds_c6.symm.trans hf) |>.symm;obtain rfl:fn=Tryz.f4:=(yaN (Tryz.func4.symm.trans hfn)).symm;exact⟨ColfileFinds_c2,λj t ht=>by
    rw[Tryz.params4]at ht;have hm:t∈[25,26,3,44]:=by simpa using Array.mem_of_getElem? ht
    exact (show Tryz.prog.wantsStandIn t=false by simpa using List.all_eq_true.1 ColfileFinds_c3 t hm)⟩)
  ColfileFinds_c4
end Go.Proofs.YtibdiacpdmhmnaaGreatDoor
