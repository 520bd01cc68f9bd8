/- LinesAlone is true: a console without a world answers no world, or what?, but to a source's lines; worlds that can't be begun leave it so. No other condition. -/
import Derived.Test.YtldceipbpilipaaGreatDoorRows
import Derived.Test.YtldceipbpilipaaGreatDoorCards
import Derived.SevenTiedAt
import Derived.Lay
import Derived.ProofKit
import Derived.Test.YtldceipbpilipaaGreatDoorAlo8
import Derived.Test.YtldceipbpilipaaGreatDoorDecode
import Derived.Test.YtldceipbpilipaaGreatDoorGlobB
import Derived.Test.YtldceipbpilipaaGreatDoorTiesB
import Derived.Test.YtldceipbpilipaaGreatDoorTies
set_option linter.all false
namespace Go.Proofs.YtldceipbpilipaaGreatDoor
open Go.ChangeShapes Go.WideShapes Go.ChangeAt Go.RowKit Go.Am Go.Am.Ab
set_option maxRecDepth 100000
theorem Tryz.own:ownKnob Tryz.prog.godebug=none:=by kernel_rfl
theorem Tryz.laidOut:laidOutB Tryz.prog=true:=by kernel_rfl
theorem LinesAlone_data (xs:List D) (hx:All2 (HasTy Tryz.prog 8) Tryz.f5.params.toList xs): ∃h',Am.Ab.R 5 (xs.map .d) []=some ([.d (.bool true)],h'):=by
 obtain⟨x0,xs,rfl,h0,hx⟩:=all2_cons hx
 obtain⟨x1,xs,rfl,h1,hx⟩:=all2_cons hx
 have hn:=all2_nil hx
 subst hn
 obtain⟨s,rfl,hs⟩:=hasTy_str h0 Tryz.underlying9
 obtain⟨v,rfl,a,b⟩:=dec_u8 h1 Tryz.underlying5
 obtain⟨n,rfl⟩: ∃n:Nat,v=n:=⟨v.toNat,(Int.toNat_of_nonneg a).symm⟩
 exact⟨[],alone_runs s.data.toList n (by omega)⟩
theorem LinesAlone_fits (os:Os):(World.holding Tryz.prog os ⟨#[], #[],[]⟩).layFits Tryz.prog laidL []=true:=by kernel_rfl
theorem LinesAlone_ifaces (os:Os):(World.holding Tryz.prog os ⟨#[], #[],[]⟩).layIfaces Tryz.prog laidL (World.laidAll Tryz.prog os laidL)=true:=by kernel_rfl
theorem LinesAlone_plain:(laidL.all fun x=>x.2.handleName?.isNone)=true:=by kernel_rfl
theorem LinesAlone_met (os:Os) (args:Array Value):laidMetH Tryz.prog laidL ((World.laidAll Tryz.prog os laidL).forCall (fun _ _=>0) ⟨#[],args,[]⟩).memory:=by
 rw[MakeChecks.laidMetH_plain _ _ _ (by kernel_rfl)];exact laidMet_laidAll _ (LinesAlone_fits os) (LinesAlone_ifaces os)
theorem LinesAlone_shaped (os:Os) (args:Array Value):((World.laidAll Tryz.prog os laidL).forCall (fun _ _=>0) ⟨#[],args,[]⟩).Shaped Tryz.prog:=World.shaped_of_ZipB (by kernel_rfl) (by kernel_rfl)
theorem LinesAlone_lifted (os:Os) (started:os.Started) (H:Type) (enc:TypeId × Value→H):
 ReturnsInHanded {} Tryz.checked os 5 .any (fun w args=>(Rows.linesAloneSpec.pre enc Tryz.prog Tryz.f5 [] false w args∧laidMetH Tryz.prog laidL w)∧sizedMet enc Tryz.prog Tryz.f5 (OpenSpec.ofChange Rows.linesAloneSpec) false w args)
  (Rows.linesAloneSpec.post enc Tryz.prog Tryz.f5 false true false false):=by
 refine returns_shaped (C:=Tryz.checked) (X:=fun w _=>laidMetH Tryz.prog laidL w) (fun _ _ _ hh h=>h.of_heap hh) Tryz.own started (by kernel_rfl) Tryz.func5
  (ChangeSpec.witness_shaped (enc:=enc) (C:=Tryz.checked) (os:=os) (X:=fun w _=>laidMetH Tryz.prog laidL w) false (World.laidAll Tryz.prog os laidL) #[.string ⟨#[]⟩,.int .u8 0] 8 (World.laidAll_os _ _ _) (LinesAlone_shaped os _) (by kernel_rfl) (by kernel_rfl) (by kernel_rfl) (LinesAlone_met os _)) ?_
 intro W base args ds gs before hval0 hW _ hL hsh
 have hval: ∀ (j:Nat) t v,Tryz.f5.params[j]? =some t→args[j]? =some v→Value.okWide Tryz.prog W .any base t v:=hval0
 exact law_contract (m:=8) (tb:=4) Tryz.laidOut (by kernel_rfl) rfl rfl Tryz.underlying4 (fun ds hl=>by
  match ds,hl with
  |[_,_],_=>rfl) (Runs_ok (by kernel_rfl) Am.Ab.G_sorts Am.Ab.G_chunks) LinesAlone_data (grel25 (fun _ _ h=>h) hL hsh) hval hW
theorem LinesAlone_f1:mapsRowed Tryz.prog=true:=by kernel_rfl
theorem LinesAlone_f2:(Rows.linesAloneRow.inPlace == Tryz.prog.inPlace 5)=true:=by kernel_rfl
theorem LinesAlone_f3:(Rows.linesAloneRow.unfollowed == Tryz.prog.unfollowed 5)=true:=by kernel_rfl
theorem LinesAlone_f4:(Rows.linesAloneRow.recurses == Tryz.prog.recurses 5)=true:=by kernel_rfl
theorem LinesAlone_f5:(Rows.linesAloneRow.named == Tryz.prog.varsNamed 5)=true:=by kernel_rfl
theorem LinesAlone_f6:(Rows.linesAloneRow.plainKeys == Tryz.prog.plainKeys)=true:=by kernel_rfl
theorem LinesAlone_f7:Tryz.prog.stopsHeard=true:=by kernel_rfl
theorem LinesAlone_f8:Tryz.prog.mayEnter=true:=by kernel_rfl
theorem LinesAlone_f9:(Rows.linesAloneRow.lifted == Tryz.prog.liftsFinal)=true:=by kernel_rfl
theorem LinesAlone_facts:joinedFacts Tryz.prog 5 Tryz.f5 Rows.linesAloneSpec Rows.linesAloneRow=true:=by
 unfold joinedFacts
 rw[Tryz.laidOut,LinesAlone_f1,LinesAlone_f2,LinesAlone_f3,LinesAlone_f4,LinesAlone_f5,LinesAlone_f6,LinesAlone_f7,LinesAlone_f8,LinesAlone_f9]
 kernel_rfl
theorem LinesAlone_holds:Rows.LinesAloneSaid:=
 OpenClaim.holds_of_wide 5 Tryz.f5 rfl rfl rfl rfl rfl rfl rfl ⟨rfl,rfl,rfl,rfl,rfl⟩ rfl rfl rfl rfl rfl (by kernel_rfl) Tryz.func5 LinesAlone_facts
  (of_decide_eq_true (by kernel_rfl)) (by unfold Func.isWrapper;first | (rw[if_pos (by decide +kernel)];kernel_rfl) | (rw[if_neg (by decide +kernel)];exact⟨rfl,rfl⟩))
  (fun os started H enc _=>LinesAlone_lifted os started H enc)
theorem LinesAlone_c1 : Tryz.pinned.checked.prog.mainIs = some (true, ("fc453ee910589b58061cbef0782e50bda1023842be778dc6609fc460bf0868cd" : String).toList) := by kernel_rfl
theorem LinesAlone_c2:true=Tryz.pinned.checked.prog.looks []:=by kernel_rfl
theorem LinesAlone_c3:([9,5].all fun u=> !Tryz.prog.wantsStandIn u)=true:=by kernel_rfl
theorem LinesAlone_c5:Rows.linesAloneRow.wfByText (OpenSpec.ofChange Rows.linesAloneSpec)=true:=by kernel_rfl
theorem LinesAlone_c6 : Tryz.prog.funcNamed "catchment/catchmentlaw25.LinesAlone" = some 5 := by kernel_rfl
theorem linesAlone_row_tie:Rows.linesAloneRow.laidByTextAt .later Tryz.pinned [.pinned,.data,.sentinel,.sentinel,.data,.data,.data,.data] true:=
 OpenClaim.laidByTextAt_pinned rfl rfl tie_all rfl rfl rfl rfl
  (fun y hy _e=>by
   simp only[Rows.linesAloneRow,List.zip_cons_cons,List.zip_nil_right,List.mem_cons,List.mem_nil_iff,or_false]at hy
   rcases hy with rfl | rfl | rfl | rfl | rfl | rfl | rfl | rfl <;> first | exact⟨pin_first,by kernel_rfl⟩ | cases _e)
  fits_all
theorem LinesAlone_card:Rows.LinesAloneCardSaid:=
 Claim7.holds_tied_plain_at .later [] [.pinned,.data,.sentinel,.sentinel,.data,.data,.data,.data] true (true, "fc453ee910589b58061cbef0782e50bda1023842be778dc6609fc460bf0868cd") true
  LinesAlone_holds (fun _ h=>by cases h) LinesAlone_c5 (fun _ h=>by cases h) linesAlone_row_tie rfl ⟨rfl,rfl⟩ LinesAlone_c1 rfl
  (fun f fn hf hfn=>by
   obtain rfl:f=5:=Option.some.inj (LinesAlone_c6.symm.trans hf) |>.symm
   obtain rfl:fn=Tryz.f5:=(Option.some.inj (Tryz.func5.symm.trans hfn)).symm
   exact⟨LinesAlone_c2,fun j t ht=>by
    rw[Tryz.params5]at ht
    have hm:t∈[9,5]:=by simpa using Array.mem_of_getElem? ht
    exact (show Tryz.prog.wantsStandIn t=false by simpa using List.all_eq_true.1 LinesAlone_c3 t hm)⟩)
  (goesBy_false rfl)
end Go.Proofs.YtldceipbpilipaaGreatDoor
