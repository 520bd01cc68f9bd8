/- A console without a world: its first line, and what is kept. -/
import Derived.Test.YtldceipbpilipaaGreatDoorAloA
set_option linter.all false
namespace Go.Am.Ab
open Go.Proofs
set_option maxHeartbeats 4000000
set_option maxRecDepth 4000
theorem rdo_act {l w:List UInt8} {r:List (List UInt8)} {a:Ac} (hl:l.length<1000000) (hc:cutL 32 l=w::r) (h1:w≠kSource) (h2:w≠kWorld) (hf:a.fit) (hA:R 69 [W (w::r)] []=some ([.agg (a.v 0),.d (.bool true)],a.h)):R 29 [.ptr 0 0,S l] cBox=some ([S sNo],cBox):=by
 have hs:=cut_runs l hl
 rw[show (cutL 32 l).length=((cutL 32 l).map strD).length by simp]at hs
 have n1:(w == [115,111,117,114,99,101])=false:=beq_false_of_ne h1
 have n2:(w == [119,111,114,108,100])=false:=beq_false_of_ne h2
 have hsh:=sh_ac hf
 unfold W at*
 rw[hc]at hs
 rw[List.map_cons]at hs hA
 simp only[Ac.v,Ev.v]at hA
 clear hc h1 h2
 generalize r.map strD=X at*
 generalize a.keeps.map kpD=Z at*
 generalize a.e.row.map cl=Y at*
 generalize rowW 0 a.keeps.length=u at*
 generalize rowW 0 a.e.row.length=v at*
 generalize a.h=h at*
 clear hf
 simp only[strD]at hA hs
 rcases hsh with ⟨rfl,rfl,⟨rfl,rfl,rfl⟩ | ⟨q,hq,rfl,rfl⟩⟩ | ⟨rfl,rfl,⟨rfl,rfl,rfl⟩ | ⟨q,hq,rfl,rfl⟩⟩
 ·refine run_goal (rs:=[.tmp 4]) (ts:=[9]) Tryz.func29 rfl rfl rfl (by kernel_rfl) (by kernel_rfl) (.inl sp_29) (by simp[Tryz.f29]) ?_
  intro T hT
  simp -dsimp -implicitDefEqProofs (disch:=first|omega|assumption) [startSlots,nI,wI,strD,hs,hA,n1,n2]
  simpa -dsimp -implicitDefEqProofs (disch:=first|omega|assumption) [nI,wI]using hT
 ·refine run_goal (rs:=[.tmp 4]) (ts:=[9]) Tryz.func29 rfl rfl rfl (by kernel_rfl) (by kernel_rfl) (.inl sp_29) (by simp[Tryz.f29]) ?_
  intro T hT
  simp -dsimp -implicitDefEqProofs (disch:=first|omega|assumption) [startSlots,nI,wI,strD,hs,hA,n1,n2,hq]
  simpa -dsimp -implicitDefEqProofs (disch:=first|omega|assumption) [nI,wI]using hT
 ·refine run_goal (rs:=[.tmp 4]) (ts:=[9]) Tryz.func29 rfl rfl rfl (by kernel_rfl) (by kernel_rfl) (.inl sp_29) (by simp[Tryz.f29]) ?_
  intro T hT
  simp -dsimp -implicitDefEqProofs (disch:=first|omega|assumption) [startSlots,nI,wI,strD,hs,hA,n1,n2]
  simpa -dsimp -implicitDefEqProofs (disch:=first|omega|assumption) [nI,wI]using hT
 ·refine run_goal (rs:=[.tmp 4]) (ts:=[9]) Tryz.func29 rfl rfl rfl (by kernel_rfl) (by kernel_rfl) (.inl sp_29) (by simp[Tryz.f29]) ?_
  intro T hT
  simp -dsimp -implicitDefEqProofs (disch:=first|omega|assumption) [startSlots,nI,wI,strD,hs,hA,n1,n2,hq]
  simpa -dsimp -implicitDefEqProofs (disch:=first|omega|assumption) [nI,wI]using hT
theorem rdo_ask {l w ans:List UInt8} {r:List (List UInt8)} {a:Ac} (hl:l.length<1000000) (hc:cutL 32 l=w::r) (h1:w≠kSource) (h2:w≠kWorld) (hf:a.fit) (hA:R 69 [W (w::r)] []=some ([.agg (a.v 0),.d (.bool false)],a.h)) (hQ:R 70 [.ptr 0 0,S w,W r] cBox=some ([S ans],cBox)):R 29 [.ptr 0 0,S l] cBox=some ([S ans],cBox):=by
 have hs:=cut_runs l hl
 rw[show (cutL 32 l).length=((cutL 32 l).map strD).length by simp]at hs
 obtain⟨e1,hall,htk⟩:=tail_facts r
 have n1:(w == [115,111,117,114,99,101])=false:=beq_false_of_ne h1
 have n2:(w == [119,111,114,108,100])=false:=beq_false_of_ne h2
 have hsh:=sh_ac hf
 unfold W at*
 rw[hc]at hs
 rw[List.map_cons]at hs hA
 simp only[Ac.v,Ev.v]at hA
 clear hc h1 h2
 generalize r.map strD=X at*
 generalize a.keeps.map kpD=Z at*
 generalize a.e.row.map cl=Y at*
 generalize rowW 0 a.keeps.length=u at*
 generalize rowW 0 a.e.row.length=v at*
 generalize a.h=h at*
 clear hf
 simp only[strD]at hA hs
 rcases hsh with ⟨rfl,rfl,⟨rfl,rfl,rfl⟩ | ⟨q,hq,rfl,rfl⟩⟩ | ⟨rfl,rfl,⟨rfl,rfl,rfl⟩ | ⟨q,hq,rfl,rfl⟩⟩
 ·refine run_goal (rs:=[.tmp 4]) (ts:=[9]) Tryz.func29 rfl rfl rfl (by kernel_rfl) (by kernel_rfl) (.inl sp_29) (by simp[Tryz.f29]) ?_
  intro T hT
  simp -dsimp -implicitDefEqProofs (disch:=first|omega|assumption) [startSlots,nI,wI,strD,hs,hA,n1,n2,e1,hall,htk,cut,hQ]
  simpa -dsimp -implicitDefEqProofs (disch:=first|omega|assumption) [nI,wI]using hT
 ·refine run_goal (rs:=[.tmp 4]) (ts:=[9]) Tryz.func29 rfl rfl rfl (by kernel_rfl) (by kernel_rfl) (.inl sp_29) (by simp[Tryz.f29]) ?_
  intro T hT
  simp -dsimp -implicitDefEqProofs (disch:=first|omega|assumption) [startSlots,nI,wI,strD,hs,hA,n1,n2,hq,e1,hall,htk,cut,hQ]
  simpa -dsimp -implicitDefEqProofs (disch:=first|omega|assumption) [nI,wI]using hT
 ·refine run_goal (rs:=[.tmp 4]) (ts:=[9]) Tryz.func29 rfl rfl rfl (by kernel_rfl) (by kernel_rfl) (.inl sp_29) (by simp[Tryz.f29]) ?_
  intro T hT
  simp -dsimp -implicitDefEqProofs (disch:=first|omega|assumption) [startSlots,nI,wI,strD,hs,hA,n1,n2,e1,hall,htk,cut,hQ]
  simpa -dsimp -implicitDefEqProofs (disch:=first|omega|assumption) [nI,wI]using hT
 ·refine run_goal (rs:=[.tmp 4]) (ts:=[9]) Tryz.func29 rfl rfl rfl (by kernel_rfl) (by kernel_rfl) (.inl sp_29) (by simp[Tryz.f29]) ?_
  intro T hT
  simp -dsimp -implicitDefEqProofs (disch:=first|omega|assumption) [startSlots,nI,wI,strD,hs,hA,n1,n2,hq,e1,hall,htk,cut,hQ]
  simpa -dsimp -implicitDefEqProofs (disch:=first|omega|assumption) [nI,wI]using hT
end Go.Am.Ab
namespace Go.Am.Ab
open Go.Proofs
set_option maxHeartbeats 4000000
set_option maxRecDepth 4000
theorem rdo_src0 {l:List UInt8} (hl:l.length<1000000) (hc:cutL 32 l=[kSource]):R 29 [.ptr 0 0,S l] cBox=some ([S sWhat],cBox):=by
 have hs:=cut_runs l hl
 rw[hc]at hs
 simp only[List.map_cons,List.map_nil,strD,List.length_cons,List.length_nil]at hs
 refine run_goal (rs:=[.tmp 4]) (ts:=[9]) Tryz.func29 rfl rfl rfl (by kernel_rfl) (by kernel_rfl) (.inl sp_29) (by simp[Tryz.f29]) ?_
 intro T hT
 simp -dsimp -implicitDefEqProofs (disch:=first|omega|assumption) [startSlots,nI,wI,hs]
 simpa -dsimp -implicitDefEqProofs (disch:=first|omega|assumption) [nI,wI]using hT
theorem rdo_srcN {l:List UInt8} {r:List (List UInt8)} (hl:l.length<1000000) (hc:cutL 32 l=kSource::r) (hr:r≠[]) (hE:R 65 [W r] []=some ([.agg evN,.d (.bool false)],[])):R 29 [.ptr 0 0,S l] cBox=some ([S sWhat],cBox):=by
 have hs:=cut_runs l hl
 obtain⟨e1,hall,htk⟩:=tail_facts r
 have hp:0<r.length:=List.length_pos_iff.2 hr
 have hp': ¬ (r.length:Int)+1<2:=by omega
 have htt: ∀d:D,((d::r.map strD).take (1+r.length)).tail=r.map strD:=fun d=>by rw[Nat.add_comm,List.take_succ_cons,List.tail_cons,htk]
 unfold W at hE
 rw[hc,List.map_cons,List.length_cons]at hs
 generalize r.map strD=X at*
 simp only[strD]at hs
 refine run_goal (rs:=[.tmp 4]) (ts:=[9]) Tryz.func29 rfl rfl rfl (by kernel_rfl) (by kernel_rfl) (.inl sp_29) (by simp[Tryz.f29]) ?_
 intro T hT
 simp -dsimp -implicitDefEqProofs (disch:=first|omega|assumption) [startSlots,nI,wI,hs,hE,e1,hall,htk,htt,cut,hp']
 simpa -dsimp -implicitDefEqProofs (disch:=first|omega|assumption) [nI,wI]using hT
theorem rdo_srcE {l:List UInt8} {r:List (List UInt8)} {e:Ev} (hl:l.length<1000000) (hc:cutL 32 l=kSource::r) (hr:r≠[]) (hE:R 65 [W r] []=some ([.agg (e.v 0),.d (.bool true)],e.h)):R 29 [.ptr 0 0,S l] cBox=some ([S sOk],[.box [.arr 1 1,.d .nilP],.arr 8 [.agg (evL e.o (e.row.map cl) e.k e.n ⟨e.s.toArray⟩ ⟨e.name.toArray⟩ e.kind)] 0]):=by
 have hs:=cut_runs l hl
 obtain⟨e1,hall,htk⟩:=tail_facts r
 have hp:0<r.length:=List.length_pos_iff.2 hr
 have hp': ¬ (r.length:Int)+1<2:=by omega
 have htt: ∀d:D,((d::r.map strD).take (1+r.length)).tail=r.map strD:=fun d=>by rw[Nat.add_comm,List.take_succ_cons,List.tail_cons,htk]
 have hsh:=sh_row e.row
 unfold W at hE
 rw[hc,List.map_cons,List.length_cons]at hs
 simp only[Ev.v,Ev.h]at hE
 generalize r.map strD=X at*
 generalize e.row.map cl=Y at*
 generalize rowW 0 e.row.length=v at*
 generalize rowO e.row e.row.length=h at*
 simp only[strD]at hs
 rcases hsh with ⟨rfl,rfl,rfl⟩ | ⟨m,hm,rfl,rfl⟩
 ·refine run_goal (rs:=[.tmp 4]) (ts:=[9]) Tryz.func29 rfl rfl rfl (by kernel_rfl) (by kernel_rfl) (.inl sp_29) (by simp[Tryz.f29]) ?_
  intro T hT
  simp -dsimp -implicitDefEqProofs (disch:=first|omega|assumption) [startSlots,nI,wI,hs,hE,e1,hall,htk,htt,cut,hp']
  simpa -dsimp -implicitDefEqProofs (disch:=first|omega|assumption) [nI,wI]using hT
 ·refine run_goal (rs:=[.tmp 4]) (ts:=[9]) Tryz.func29 rfl rfl rfl (by kernel_rfl) (by kernel_rfl) (.inl sp_29) (by simp[Tryz.f29]) ?_
  intro T hT
  simp -dsimp -implicitDefEqProofs (disch:=first|omega|assumption) [startSlots,nI,wI,hs,hE,e1,hall,htk,htt,cut,hp',hm]
  simpa -dsimp -implicitDefEqProofs (disch:=first|omega|assumption) [nI,wI]using hT
def first (o:Option (List D)):List Obj:=match o with | some d=>[.box [.arr 1 1,.d .nilP],.arr 8 [.agg d] 0] | none=>cBox
def FirstSame (l:List UInt8):Prop:= ∃ (ans:List UInt8) (o:Option (List D)),(ans=sNo∨ans=sWhat∨ans=sOk)∧(∀d,o=some d→ ∃e:Ev,e.row.length<1000000∧evOf (cutL 32 l).tail=some e∧d=evL e.o (e.row.map cl) e.k e.n ⟨e.s.toArray⟩ ⟨e.name.toArray⟩ e.kind)∧
 R 28 [.ptr 0 0,S l] cBox=some ([S ans],first o)∧R 29 [.ptr 0 0,S l] cBox=some ([S ans],first o)
theorem first_same {l:List UInt8} (hl:l.length<100000) (hw: ∀r,cutL 32 l≠kWorld::r):FirstSame l:=by
 have hne:=cutL_ne l
 have hmem: ∀w∈cutL 32 l,w.length<1000000:=fun w hw=>by have:=cut_mem l w hw;omega
 have hlen:=cutL_len l
 obtain⟨w,r,hc⟩: ∃w r,cutL 32 l=w::r:=by
  cases h:cutL 32 l with
  |nil=>exact absurd h hne
  |cons w r=>exact⟨w,r,rfl⟩
 have hmr: ∀x∈r,x.length<1000000:=fun x hx=>hmem x (by rw[hc];exact List.mem_cons_of_mem _ hx)
 have hlr:r.length<1000000:=by rw[hc,List.length_cons]at hlen;omega
 by_cases h1:w=kSource
 ·subst h1
  by_cases hr:r=[]
  ·subst hr
   exact⟨sWhat,none,.inr (.inl rfl),fun d h=>(by cases h),do_src0 (by omega) hc,rdo_src0 (by omega) hc⟩
  ·obtain⟨e1,e2⟩:=event_runs hr hmr
   have e3:=revent_runs hr hmr hlr
   cases he:evOf r with
   |some e=>
    rw[he]at e3
    have hrow:=evOf_row he
    exact⟨sOk,some _,.inr (.inr rfl),fun d h=>⟨e,by omega,by rw[hc];exact he,(Option.some.inj h).symm⟩,do_srcE (by omega) hc hr (e1 e he),rdo_srcE (by omega) hc hr e3⟩
   |none=>
    rw[he]at e3
    obtain⟨e,h1,h2⟩:=e2 he
    exact⟨sWhat,none,.inr (.inl rfl),fun d h=>(by cases h),do_srcN (by omega) hc hr h1 h2,rdo_srcN (by omega) hc hr e3⟩
 have h2:w≠kWorld:=fun e=>hw r (by rw[hc,e])
 have hws: ∀x∈w::r,x.length<1000000:=by rw[← hc];exact hmem
 rcases acts (ws:=w::r) (by simp) hws (by rw[List.length_cons];rw[hc,List.length_cons]at hlen;omega) with ⟨a,hf,a1,a2⟩ | ⟨⟨a,hf,a1⟩,⟨b,hg,a2⟩⟩
 ·exact⟨sNo,none,.inl rfl,fun d h=>(by cases h),do_act (by omega) hc h1 h2 hf a1,rdo_act (by omega) hc h1 h2 hf a2⟩
 ·have fin: ∀ans:List UInt8,(ans=sNo∨ans=sWhat)→R 63 [.ptr 0 0,S w,W r] cBox=some ([S ans],cBox)→R 70 [.ptr 0 0,S w,W r] cBox=some ([S ans],cBox)→FirstSame l:=fun ans ha q1 q2=>⟨ans,none,(by rcases ha with h | h;exact .inl h;exact .inr (.inl h)),fun d h=>(by cases h),do_ask (by omega) hc h1 h2 hf a1 q1,rdo_ask (by omega) hc h1 h2 hg a2 q2⟩
  have or2: ∀ (p:Prop) [Decidable p],(if p then sNo else sWhat)=sNo∨(if p then sNo else sWhat)=sWhat:=fun p _=>by split;exact .inl rfl;exact .inr rfl
  by_cases i1:isOne w
  ·by_cases hr:r.length=1
   ·obtain⟨x,rfl⟩:=List.length_eq_one_iff.1 hr
    exact fin _ (or2 _) (ask_one i1 (hmr x (by simp))) (rask_one i1 (hmr x (by simp)))
   ·exact fin _ (.inr rfl) (ask_one0 i1 hr) (rask_one0 i1 hr)
  by_cases i2:isBare w
  ·exact fin _ (or2 _) (ask_bare i2) (rask_bare i2)
  ·exact fin _ (.inr rfl) (ask_none i1 i2) (rask_none i1 i2)
end Go.Am.Ab
namespace Go.Am.Ab
open Go.Proofs
set_option maxHeartbeats 4000000
set_option maxRecDepth 4000
theorem rg2:List.range 2=[0,1]:=rfl
abbrev lRem1:List UInt8:=[115,111,117,114,99,101,32,114,101,109,111,118,101,32,49]
abbrev sFull:List UInt8:=[102,117,108,108]
abbrev remD:D:= .agg (evL 2 [] 1 1 ⟨#[]⟩ ⟨#[]⟩ 0)
theorem cell_1:cellR [49]=(1,1,[],true):=by decide +kernel
theorem cut_1:cutL 32 lRem1=[kSource,wRem,[49]]:=by decide +kernel
theorem ev_1:R 59 [.d (.list [.str ⟨wRem.toArray⟩,.str ⟨#[49]⟩])] []=some ([.agg (evV 2 .nilS 1 1 ⟨#[]⟩ ⟨#[]⟩ 0),.d (.bool true)],[]):=by
 have h:=event_rem1 (a:=[49]) (by decide)
 have ho:okC [49]=true:=by unfold okC;rw[cell_1]
 rw[ho,cell_1]at h
 exact h
theorem rev_1:R 65 [.d (.list [.str ⟨wRem.toArray⟩,.str ⟨#[49]⟩])] []=some ([.agg (evV 2 .nilS 1 1 ⟨#[]⟩ ⟨#[]⟩ 0),.d (.bool true)],[]):=by
 have h:=revent_rem1 (a:=[49]) (by decide)
 have ho:okC [49]=true:=by unfold okC;rw[cell_1]
 rw[ho,if_pos rfl,cell_1]at h
 exact h
theorem do_rem0:R 28 [.ptr 0 0,S lRem1] cBox=some ([S sOk],[.box [.arr 1 1,.d .nilP],.arr 8 [remD] 0]):=by
 have hs:=split_W (l:=lRem1) (by decide)
 unfold W at hs
 rw[cut_1]at hs
 simp only[List.map_cons,List.map_nil,strD]at hs
 have hE:=ev_1
 refine run_goal (rs:=[.tmp 4]) (ts:=[9]) Tryz.func28 rfl rfl rfl (by kernel_rfl) (by kernel_rfl) (.inl sp_28) (by simp[Tryz.f28]) ?_
 intro T hT
 simp -dsimp -implicitDefEqProofs (disch:=first|omega|assumption) [startSlots,nI,wI,hs,hE]
 simpa -dsimp -implicitDefEqProofs (disch:=first|omega|assumption) [nI,wI]using hT
theorem do_rem {Z:List D} (hz:0<Z.length) (h:Z.length<200):R 28 [.ptr 0 0,S lRem1] [.box [.arr 1 Z.length,.d .nilP],.arr 8 Z 0]=some ([S sOk],[.box [.arr 1 (Z.length+1),.d .nilP],.arr 8 (Z++[remD]) 0]):=by
 have hs:=split_W (l:=lRem1) (by decide)
 unfold W at hs
 rw[cut_1]at hs
 simp only[List.map_cons,List.map_nil,strD]at hs
 have hE:=ev_1
 have g: ¬ (200:Int)≤Z.length:=by omega
 refine run_goal (rs:=[.tmp 4]) (ts:=[9]) Tryz.func28 rfl rfl rfl (by kernel_rfl) (by kernel_rfl) (.inl sp_28) (by simp[Tryz.f28]) ?_
 intro T hT
 simp -dsimp -implicitDefEqProofs (disch:=first|omega|assumption) [startSlots,nI,wI,hs,hE,g,rg2]
 simpa -dsimp -implicitDefEqProofs (disch:=first|omega|assumption) [nI,wI]using hT
theorem do_full {Z:List D} (h:200≤Z.length) (hm:Z.length<1000000):R 28 [.ptr 0 0,S lRem1] [.box [.arr 1 Z.length,.d .nilP],.arr 8 Z 0]=some ([S sFull],[.box [.arr 1 Z.length,.d .nilP],.arr 8 Z 0]):=by
 have hs:=split_W (l:=lRem1) (by decide)
 unfold W at hs
 rw[cut_1]at hs
 simp only[List.map_cons,List.map_nil,strD]at hs
 have hE:=ev_1
 have g:(200:Int)≤Z.length:=by omega
 refine run_goal (rs:=[.tmp 4]) (ts:=[9]) Tryz.func28 rfl rfl rfl (by kernel_rfl) (by kernel_rfl) (.inl sp_28) (by simp[Tryz.f28]) ?_
 intro T hT
 simp -dsimp -implicitDefEqProofs (disch:=first|omega|assumption) [startSlots,nI,wI,hs,hE,g,rg2]
 simpa -dsimp -implicitDefEqProofs (disch:=first|omega|assumption) [nI,wI]using hT
theorem rdo_rem0:R 29 [.ptr 0 0,S lRem1] cBox=some ([S sOk],[.box [.arr 1 1,.d .nilP],.arr 8 [remD] 0]):=by
 have hs:=cut_runs lRem1 (by decide)
 rw[cut_1]at hs
 simp only[List.map_cons,List.map_nil,strD,List.length_cons,List.length_nil]at hs
 have hE:=rev_1
 refine run_goal (rs:=[.tmp 4]) (ts:=[9]) Tryz.func29 rfl rfl rfl (by kernel_rfl) (by kernel_rfl) (.inl sp_29) (by simp[Tryz.f29]) ?_
 intro T hT
 simp -dsimp -implicitDefEqProofs (disch:=first|omega|assumption) [startSlots,nI,wI,hs,hE]
 simpa -dsimp -implicitDefEqProofs (disch:=first|omega|assumption) [nI,wI]using hT
theorem rdo_rem {Z:List D} (hz:0<Z.length) (h:Z.length<200):R 29 [.ptr 0 0,S lRem1] [.box [.arr 1 Z.length,.d .nilP],.arr 8 Z 0]=some ([S sOk],[.box [.arr 1 (Z.length+1),.d .nilP],.arr 8 (Z++[remD]) 0]):=by
 have hs:=cut_runs lRem1 (by decide)
 rw[cut_1]at hs
 simp only[List.map_cons,List.map_nil,strD,List.length_cons,List.length_nil]at hs
 have hE:=rev_1
 have g: ¬ (200:Int)≤Z.length:=by omega
 refine run_goal (rs:=[.tmp 4]) (ts:=[9]) Tryz.func29 rfl rfl rfl (by kernel_rfl) (by kernel_rfl) (.inl sp_29) (by simp[Tryz.f29]) ?_
 intro T hT
 simp -dsimp -implicitDefEqProofs (disch:=first|omega|assumption) [startSlots,nI,wI,hs,hE,g,rg2]
 simpa -dsimp -implicitDefEqProofs (disch:=first|omega|assumption) [nI,wI]using hT
theorem rdo_full {Z:List D} (h:200≤Z.length) (hm:Z.length<1000000):R 29 [.ptr 0 0,S lRem1] [.box [.arr 1 Z.length,.d .nilP],.arr 8 Z 0]=some ([S sFull],[.box [.arr 1 Z.length,.d .nilP],.arr 8 Z 0]):=by
 have hs:=cut_runs lRem1 (by decide)
 rw[cut_1]at hs
 simp only[List.map_cons,List.map_nil,strD,List.length_cons,List.length_nil]at hs
 have hE:=rev_1
 have g:(200:Int)≤Z.length:=by omega
 refine run_goal (rs:=[.tmp 4]) (ts:=[9]) Tryz.func29 rfl rfl rfl (by kernel_rfl) (by kernel_rfl) (.inl sp_29) (by simp[Tryz.f29]) ?_
 intro T hT
 simp -dsimp -implicitDefEqProofs (disch:=first|omega|assumption) [startSlots,nI,wI,hs,hE,g,rg2]
 simpa -dsimp -implicitDefEqProofs (disch:=first|omega|assumption) [nI,wI]using hT
end Go.Am.Ab
