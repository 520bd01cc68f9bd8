/- LinesAlone, on the machine. -/
import Derived.Test.YtldceipbpilipaaGreatDoorAloB
import Derived.Test.YtldceipbpilipaaGreatDoorConA
set_option linter.all false
namespace Go.Am.Ab
open Go.Proofs
set_option maxHeartbeats 16000000
set_option maxRecDepth 4000
theorem cut_head: ∀ (l p:List UInt8) (r:List (List UInt8)),cutL 32 l=p::r→l.take p.length=p
 |[],p,r,h=>by
  simp only[cutL,List.cons.injEq]at h
  rw[← h.1];rfl
 |x::l,p,r,h=>by
  simp only[cutL]at h
  split at h
  ·simp only[List.cons.injEq]at h
   rw[← h.1];rfl
  ·split at h
   ·rename_i hc
    exact absurd hc (cutL_ne l)
   ·rename_i q qs hc
    simp only[List.cons.injEq]at h
    have:=cut_head l q qs hc
    rw[← h.1,List.length_cons,List.take_succ_cons,this]
theorem cellR_kind (w:List UInt8):0≤(cellR w).1∧(cellR w).1≤3∧(cellR w).2.2.1.length≤w.length:=by
 unfold cellR
 (repeat' split) <;> simp
def celOf (w:List UInt8):Cel:=⟨(cellR w).1.toNat,(cellR w).2.1,⟨(cellR w).2.2.1.toArray⟩⟩
theorem cl_d (w:List UInt8):cl w=(celOf w).d:=by
 obtain⟨h1,h2,h3⟩:=cellR_kind w
 simp only[cl,celOf,Cel.d,Int.toNat_of_nonneg h1]
theorem celOf_w {w:List UInt8} (h:w.length<1000000):celW (celOf w):=by
 obtain⟨h1,h2,h3⟩:=cellR_kind w
 refine⟨by simp only[celOf];omega, ?_⟩
 show (⟨(cellR w).2.2.1.toArray⟩:ByteArray).size≤_
 rw[strD_size];omega
theorem row_d (r:List (List UInt8)):r.map cl=ce (r.map celOf):=by
 simp only[ce,List.map_map]
 exact List.map_congr_left fun w _=>cl_d w
theorem ev_evt {ws:List (List UInt8)} {e:Ev} (h:evOf ws=some e) (hm: ∀w∈ws,w.length<1000000): ∃E:Evt,D.agg (evL e.o (e.row.map cl) e.k e.n ⟨e.s.toArray⟩ ⟨e.name.toArray⟩ e.kind)=E.d∧E.wf:=by
 cases ws with
 |nil=>cases h
 |cons w r=>
  have h:evC w r=some e:=h
  have hr: ∀x∈r,x.length<1000000:=fun x hx=>hm x (List.mem_cons_of_mem _ hx)
  by_cases c1:w=wPut
  ·subst c1
   rw[evC_put]at h
   split at h
   ·rename_i hc
    cases h
    refine⟨⟨0,1,r.map celOf,⟨0,0,⟨#[]⟩⟩,⟨#[]⟩,0⟩, ?_,⟨fun c hcm=> ?_,⟨(show (0:Nat)<256 from by decide),(show (0:Nat)≤9223372036854775807 from Nat.zero_le _)⟩,by simp only[List.length_map];omega,(show (0:Nat)<1000000000 from by decide),(show (0:Int)≤0 from by decide)⟩⟩
    ·simp only[evL,Evt.d,row_d];rfl
    ·obtain⟨x,hx,rfl⟩:=List.mem_map.1 hcm
     exact celOf_w (hr x hx)
   ·cases h
  by_cases c2:w=wRem
  ·subst c2
   by_cases hl:r.length=1
   ·obtain⟨a,rfl⟩:=List.length_eq_one_iff.1 hl
    rw[evC_rem1]at h
    split at h
    ·cases h
     refine⟨⟨0,2,[],celOf a,⟨#[]⟩,0⟩, ?_,⟨fun c hcm=>(by cases hcm),celOf_w (hr a (by simp)),by simp,(show (0:Nat)<1000000000 from by decide),(show (0:Int)≤0 from by decide)⟩⟩
     obtain⟨k1,_,_⟩:=cellR_kind a
     simp only[evL,Evt.d,celOf,Int.toNat_of_nonneg k1];rfl
    ·cases h
   ·rw[evC_rem0 hl]at h;cases h
  by_cases c3:w=wWid
  ·subst c3
   by_cases hl:r.length=2
   ·match r,hl with
    |[a,b],_=>
     rw[evC_wid2]at h
     split at h
     ·rename_i hc
      cases h
      refine⟨⟨0,3,[],⟨0,0,⟨#[]⟩⟩,⟨a.toArray⟩,kindN b⟩,by simp only[evL,Evt.d];rfl,⟨fun c hcm=>(by cases hcm),⟨(show (0:Nat)<256 from by decide),(show (0:Nat)≤9223372036854775807 from Nat.zero_le _)⟩,by simp, ?_, ?_⟩⟩
      ·show (⟨a.toArray⟩:ByteArray).size<_
       rw[strD_size];omega
      ·show 0≤kindN b
       unfold kindN;(repeat' split) <;> decide
     ·cases h
   ·rw[evC_wid0 hl]at h;cases h
  ·rw[evC_none c1 c2 c3]at h;cases h
def remE:Evt:=⟨0,2,[],⟨1,1,⟨#[]⟩⟩,⟨#[]⟩,0⟩
theorem remE_w:remE.wf:=⟨fun c h=>(by cases h),⟨by decide,by decide⟩,by decide,by decide,by decide⟩
theorem remD_d:remD=remE.d:=rfl
def conL:List D→List Obj
 |[]=>[.box [.nilS,.d .nilP],.box [.nilS,.d .nilP]]
 |x::r=>[.box [.arr 2 (r.length+1),.d .nilP],.box [.arr 3 (r.length+1),.d .nilP],.arr 8 (x::r) 0,.arr 8 (x::r) 0]
def okZ (Z:List Evt):Prop:= ∀ (i:Nat) (h:i<Z.length),(Z[i]).wf∧(Z[i].op=3→i=0)
theorem okZ_more {Z:List Evt} (h:okZ Z):okZ (Z++[remE]):=fun i hi=>by
 rw[List.length_append,List.length_cons,List.length_nil]at hi
 by_cases h1:i<Z.length
 ·rw[List.getElem_append_left h1];exact h i h1
 ·have:i=Z.length:=by omega
  subst this
  simp only[List.getElem_append_right (Nat.le_refl _),Nat.sub_self,List.getElem_cons_zero]
  exact⟨remE_w,fun h=>by cases h⟩
theorem lnew_runs:R 27 [] []=some ([.ptr 0 0],cBox):=evalM_runs t0 100000 60 (by kernel_rfl)
def conH:List D→List Obj
 |[]=>cBox
 |x::r=>[.box [.arr 1 (r.length+1),.d .nilP],.arr 8 (x::r) 0]
theorem alone_runs (l:List UInt8) (n:Nat) (hn:n<256):R 5 [S l,.d (.int .u8 n)] []=some ([.d (.bool true)],[]):=by
 have hA:=alive_runs
 have hsz:(⟨l.toArray⟩:ByteArray).size=l.length:=strD_size l
 by_cases h3:3000<l.length
 ·have g1:(3000:Int)<l.length:=by omega
  refine run_goal (rs:=[.tmp 4]) (ts:=[4]) Tryz.func5 rfl rfl rfl (by kernel_rfl) (by kernel_rfl) (.inl sp_5) (by simp[Tryz.f5]) ?_
  intro T hT
  simp -dsimp -implicitDefEqProofs (disch:=first|omega|assumption) [startSlots,nI,wI,hA,hsz,g1]
  simpa -dsimp -implicitDefEqProofs (disch:=first|omega|assumption) [nI,wI]using hT
 have g1: ¬ (3000:Int)<l.length:=by omega
 have hx:(⟨l.toArray⟩:ByteArray).extract 0 5=⟨(seg l 0 5).toArray⟩:=seg_ext l 0 5
 have hsg:seg l 0 5=l.take 5:=rfl
 by_cases h5:5≤l.length∧l.take 5=[119,111,114,108,100]
 ·have g2:(5:Int)≤l.length:=by omega
  rw[hsg,h5.2]at hx
  refine run_goal (rs:=[.tmp 4]) (ts:=[4]) Tryz.func5 rfl rfl rfl (by kernel_rfl) (by kernel_rfl) (.inl sp_5) (by simp[Tryz.f5]) ?_
  intro T hT
  simp -dsimp -implicitDefEqProofs (disch:=first|omega|assumption) [startSlots,nI,wI,hA,hsz,g1,g2,h5.1,hx]
  simpa -dsimp -implicitDefEqProofs (disch:=first|omega|assumption) [nI,wI]using hT
 have hw: ∀r,cutL 32 l≠kWorld::r:=fun r e=>by
  have h:=cut_head l _ _ e
  have h7:(l.take kWorld.length).length=kWorld.length:=by rw[h]
  rw[List.length_take]at h7
  simp only[List.length_cons,List.length_nil]at h7
  exact h5 ⟨by omega,h⟩
 obtain⟨ans,o,hans,ho,hf1,hf2⟩:=first_same (l:=l) (by omega) hw
 obtain⟨Z0,hZ0,hok0,hZl0⟩: ∃Z0:List Evt,first o=conH (Z0.map Evt.d)∧okZ Z0∧Z0.length≤200:=by
  cases o with
  |none=>exact⟨[],rfl,fun i h=>(by simp at h),by simp⟩
  |some d=>
   obtain⟨e,he1,he2,he3⟩:=ho d rfl
   obtain⟨E,hE1,hE2⟩:=ev_evt he2 (fun w hw=>by have:=cut_mem l w (List.mem_of_mem_tail hw);omega)
   refine⟨[E], ?_,fun i h=> ?_,by simp⟩
   ·subst he3
    show [Obj.box [.arr 1 1,.d .nilP],.arr 8 [.agg _] 0]=_
    rw[hE1];rfl
   ·have:i=0:=by simp only[List.length_cons,List.length_nil]at h;omega
    subst this
    exact⟨hE2,fun _=>rfl⟩
 rw[hZ0]at hf1 hf2
 clear ho hZ0 hw
 simp only[S]at hf1 hf2 ⊢
 have hnw:=lnew_runs
 have hg5:(¬ (5:Int)≤l.length∧ ¬ 5≤l.length)∨((5:Int)≤l.length∧5≤l.length∧((⟨(seg l 0 5).toArray⟩:ByteArray).toList == [119,111,114,108,100])=false):=by
  by_cases h:5≤l.length
  ·refine .inr ⟨by omega,h,beq_false_of_ne fun e=>h5 ⟨h, ?_⟩⟩
   rw[ByteArray.toList_eq,hsg]at e
   simpa using e
  ·exact .inl ⟨by omega,h⟩
 generalize (⟨(seg l 0 5).toArray⟩:ByteArray)=v5 at*
 -- the loop,and what is asked behind it
 have rest: ∀T:Option (List V × List Obj)→Prop,T (some ([.d (.bool true)],[]))→True:=fun _ _=>trivial
 clear rest
 generalize hl0:(⟨l.toArray⟩:ByteArray)=lb at*
 have main:R 5 [.d (.str lb),.d (.int .u8 n)] []=some ([.d (.bool true)],[]):=by
  have key: ∀x0 r0,Z0.map Evt.d=[]∨Z0.map Evt.d=x0::r0→R 5 [.d (.str lb),.d (.int .u8 n)] []=some ([.d (.bool true)],[]):=by
   intro x0 r0 hz0
   rcases hz0 with hz0 | hz0
   all_goals
    rw[hz0]at hf1 hf2
    simp only[conH]at hf1 hf2
    rcases hans with rfl | rfl | rfl
    all_goals
     rcases hg5 with ⟨q1,q2⟩ | ⟨q1,q2,q3⟩
     ·refine run_goal (rs:=[.tmp 4]) (ts:=[4]) Tryz.func5 rfl rfl rfl (by kernel_rfl) (by kernel_rfl) (.inl sp_5) (by simp[Tryz.f5]) ?_
      intro T hT
      simp -dsimp -implicitDefEqProofs (disch:=first|omega|assumption) [startSlots,nI,wI,hA,hsz,g1,hnw,hf1,hf2,q1,q2,str_beq]
      generalize hz:loopT _ _ _ _ _ _=z
      revert z
      refine loop_any (σ:=Nat × List Evt) (fun x=>[(1,.d (.int .u8 n)),(5,.ptr 0 0),(6,.ptr 1 0),(8,.d (.int .i64 x.1))]) (fun x=>conL (x.2.map Evt.d)) (fun x=>x.1≤n∧okZ x.2∧x.2.length≤200) (fun x=>n - x.1) (0,Z0) ?_ ?_ ?_
      ·exact⟨Nat.zero_le _,hok0,hZl0⟩
      ·simp only[hz0]
       simp -dsimp -implicitDefEqProofs (disch:=first|omega|assumption) [conL]
      rintro T' f hT' ⟨i,Z⟩ ⟨hi,hzk,hzl⟩ ih
      simp only at hi hzk hzl ih ⊢
      by_cases hlt:i<n
      ·have hms:n - (i+1)<n - i:=by omega
       have hlt':(i:Int)<n:=by omega
       cases Z with
       |nil=>
        have hR:=do_rem0
        have hR2:=rdo_rem0
        have ihn:=ih (i+1,[remE])
        have hinv:i+1≤n∧okZ [remE]∧[remE].length≤200:=⟨by omega,okZ_more (Z:=[]) hzk,by simp⟩
        rw[remD_d]at hR hR2
        simp only[conL,List.map_nil,List.map_cons,List.length_nil,Nat.zero_add]at ihn ⊢
        generalize remE.d=rd at*
        simp -dsimp -implicitDefEqProofs (disch:=first|omega|assumption) [nI,wI,hlt,hlt',hR,hR2,str_beq]
        refine ihn _ _ hinv hms ?_
        simp -dsimp -implicitDefEqProofs (disch:=first|omega|assumption)
       |cons z Z=>
        have hYl:(Z.map Evt.d).length=Z.length:=List.length_map _
        rw[List.length_cons]at hzl
        by_cases h200:(z::Z).length<200
        ·have hR:=do_rem (Z:=(z::Z).map Evt.d) (by simp) (by rw[List.length_map];exact h200)
         have hR2:=rdo_rem (Z:=(z::Z).map Evt.d) (by simp) (by rw[List.length_map];exact h200)
         have ihn:=ih (i+1,z::Z++[remE])
         have hinv:i+1≤n∧okZ (z::Z++[remE])∧(z::Z++[remE]).length≤200:=⟨by omega,okZ_more hzk,by simp only[List.length_append,List.length_cons,List.length_nil]at h200 ⊢;omega⟩
         rw[remD_d]at hR hR2
         simp only[conL,List.map_append,List.map_nil,List.map_cons,List.length_nil,List.cons_append,List.length_append,List.length_cons,Nat.zero_add]at ihn hR hR2 hinv ⊢
         generalize remE.d=rd at*
         generalize Z.map Evt.d=Y at*
         generalize z.d=zd at*
         simp -dsimp -implicitDefEqProofs (disch:=first|omega|assumption) [nI,wI,hlt,hlt',hR,hR2,str_beq]
         refine ihn _ _ hinv hms ?_
         simp -dsimp -implicitDefEqProofs (disch:=first|omega|assumption)
        ·have hR:=do_full (Z:=(z::Z).map Evt.d) (by rw[List.length_map];omega) (by rw[List.length_map,List.length_cons];omega)
         have hR2:=rdo_full (Z:=(z::Z).map Evt.d) (by rw[List.length_map];omega) (by rw[List.length_map,List.length_cons];omega)
         have ihn:=ih (i+1,z::Z)
         have hinv:i+1≤n∧okZ (z::Z)∧(z::Z).length≤200:=⟨by omega,hzk,by rw[List.length_cons];omega⟩
         simp only[conL,List.map_cons,List.length_cons]at ihn hR hR2 ⊢
         generalize Z.map Evt.d=Y at*
         generalize z.d=zd at*
         simp -dsimp -implicitDefEqProofs (disch:=first|omega|assumption) [nI,wI,hlt,hlt',hR,hR2,str_beq]
         refine ihn _ _ hinv hms ?_
         simp -dsimp -implicitDefEqProofs (disch:=first|omega|assumption)
      ·have hne: ¬ (i:Int)<n:=by omega
       subst hT'
       cases Z with
       |nil=>
        have e1:=w2_0
        have e2:=w3_0
        have e3:=no_0
        have e4:=w4_0
        have e5:=res_0
        have e6:=snp_0
        simp only[conL,List.map_nil,cH0,wB,stB0]at e1 e2 e3 e4 e5 e6 ⊢
        generalize twoX=Q at*
        simp -dsimp -implicitDefEqProofs (disch:=first|omega|assumption) [nI,wI,hlt,hne,e1,e2,e3,e4,e5,e6,str_beq]
        simpa -dsimp -implicitDefEqProofs (disch:=first|omega|assumption) [nI,wI]using hT
       |cons z Z=>
        have hYl:(Z.map Evt.d).length=Z.length:=List.length_map _
        have e1:=w2_1 (z::Z).length ((z::Z).map Evt.d) 0
        have e2:=w3_1 (z::Z).length ((z::Z).map Evt.d) 0
        have e3:=no_1 (z::Z).length ((z::Z).map Evt.d) 0
        have e4:=w4_1 (z::Z) 0 (by simp) hzk (by omega)
        generalize (wnl twoS 0 (z::Z)).map Evt.d=E at*
        cases E with
        |nil=>
         have e5:=res_1 (z::Z).length ((z::Z).map Evt.d) (z::Z).length
         have e6:=snp_1 (z::Z).length ((z::Z).map Evt.d) (z::Z).length
         simp only[conL,List.map_cons,List.length_cons,cH1,wB,stB0]at e1 e2 e3 e4 e5 e6 ⊢
         rw[← hYl]at e1 e2 e3 e4 e5 e6
         generalize twoX=Q at*
         generalize Z.map Evt.d=Y at*
         generalize z.d=zd at*
         simp -dsimp -implicitDefEqProofs (disch:=first|omega|assumption) [nI,wI,hlt,hne,e1,e2,e3,e4,e5,e6,str_beq]
         simpa -dsimp -implicitDefEqProofs (disch:=first|omega|assumption) [nI,wI]using hT
        |cons y E=>
         have e5:=res_2 (z::Z).length ((z::Z).map Evt.d) (z::Z).length (E.length+1) (y::E)
         have e6:=snp_2 (z::Z).length ((z::Z).map Evt.d) (z::Z).length (E.length+1) (y::E)
         simp only[conL,List.map_cons,List.length_cons,cH1,wB,stB0]at e1 e2 e3 e4 e5 e6 ⊢
         rw[← hYl]at e1 e2 e3 e4 e5 e6
         generalize twoX=Q at*
         generalize Z.map Evt.d=Y at*
         generalize z.d=zd at*
         simp -dsimp -implicitDefEqProofs (disch:=first|omega|assumption) [nI,wI,hlt,hne,e1,e2,e3,e4,e5,e6,str_beq]
         simpa -dsimp -implicitDefEqProofs (disch:=first|omega|assumption) [nI,wI]using hT
     ·refine run_goal (rs:=[.tmp 4]) (ts:=[4]) Tryz.func5 rfl rfl rfl (by kernel_rfl) (by kernel_rfl) (.inl sp_5) (by simp[Tryz.f5]) ?_
      intro T hT
      simp -dsimp -implicitDefEqProofs (disch:=first|omega|assumption) [startSlots,nI,wI,hA,hsz,g1,hnw,hf1,hf2,q1,q2,hx,q3,str_beq]
      generalize hz:loopT _ _ _ _ _ _=z
      revert z
      refine loop_any (σ:=Nat × List Evt) (fun x=>[(1,.d (.int .u8 n)),(5,.ptr 0 0),(6,.ptr 1 0),(8,.d (.int .i64 x.1))]) (fun x=>conL (x.2.map Evt.d)) (fun x=>x.1≤n∧okZ x.2∧x.2.length≤200) (fun x=>n - x.1) (0,Z0) ?_ ?_ ?_
      ·exact⟨Nat.zero_le _,hok0,hZl0⟩
      ·simp only[hz0]
       simp -dsimp -implicitDefEqProofs (disch:=first|omega|assumption) [conL]
      rintro T' f hT' ⟨i,Z⟩ ⟨hi,hzk,hzl⟩ ih
      simp only at hi hzk hzl ih ⊢
      by_cases hlt:i<n
      ·have hms:n - (i+1)<n - i:=by omega
       have hlt':(i:Int)<n:=by omega
       cases Z with
       |nil=>
        have hR:=do_rem0
        have hR2:=rdo_rem0
        have ihn:=ih (i+1,[remE])
        have hinv:i+1≤n∧okZ [remE]∧[remE].length≤200:=⟨by omega,okZ_more (Z:=[]) hzk,by simp⟩
        rw[remD_d]at hR hR2
        simp only[conL,List.map_nil,List.map_cons,List.length_nil,Nat.zero_add]at ihn ⊢
        generalize remE.d=rd at*
        simp -dsimp -implicitDefEqProofs (disch:=first|omega|assumption) [nI,wI,hlt,hlt',hR,hR2,str_beq]
        refine ihn _ _ hinv hms ?_
        simp -dsimp -implicitDefEqProofs (disch:=first|omega|assumption)
       |cons z Z=>
        have hYl:(Z.map Evt.d).length=Z.length:=List.length_map _
        rw[List.length_cons]at hzl
        by_cases h200:(z::Z).length<200
        ·have hR:=do_rem (Z:=(z::Z).map Evt.d) (by simp) (by rw[List.length_map];exact h200)
         have hR2:=rdo_rem (Z:=(z::Z).map Evt.d) (by simp) (by rw[List.length_map];exact h200)
         have ihn:=ih (i+1,z::Z++[remE])
         have hinv:i+1≤n∧okZ (z::Z++[remE])∧(z::Z++[remE]).length≤200:=⟨by omega,okZ_more hzk,by simp only[List.length_append,List.length_cons,List.length_nil]at h200 ⊢;omega⟩
         rw[remD_d]at hR hR2
         simp only[conL,List.map_append,List.map_nil,List.map_cons,List.length_nil,List.cons_append,List.length_append,List.length_cons,Nat.zero_add]at ihn hR hR2 hinv ⊢
         generalize remE.d=rd at*
         generalize Z.map Evt.d=Y at*
         generalize z.d=zd at*
         simp -dsimp -implicitDefEqProofs (disch:=first|omega|assumption) [nI,wI,hlt,hlt',hR,hR2,str_beq]
         refine ihn _ _ hinv hms ?_
         simp -dsimp -implicitDefEqProofs (disch:=first|omega|assumption)
        ·have hR:=do_full (Z:=(z::Z).map Evt.d) (by rw[List.length_map];omega) (by rw[List.length_map,List.length_cons];omega)
         have hR2:=rdo_full (Z:=(z::Z).map Evt.d) (by rw[List.length_map];omega) (by rw[List.length_map,List.length_cons];omega)
         have ihn:=ih (i+1,z::Z)
         have hinv:i+1≤n∧okZ (z::Z)∧(z::Z).length≤200:=⟨by omega,hzk,by rw[List.length_cons];omega⟩
         simp only[conL,List.map_cons,List.length_cons]at ihn hR hR2 ⊢
         generalize Z.map Evt.d=Y at*
         generalize z.d=zd at*
         simp -dsimp -implicitDefEqProofs (disch:=first|omega|assumption) [nI,wI,hlt,hlt',hR,hR2,str_beq]
         refine ihn _ _ hinv hms ?_
         simp -dsimp -implicitDefEqProofs (disch:=first|omega|assumption)
      ·have hne: ¬ (i:Int)<n:=by omega
       subst hT'
       cases Z with
       |nil=>
        have e1:=w2_0
        have e2:=w3_0
        have e3:=no_0
        have e4:=w4_0
        have e5:=res_0
        have e6:=snp_0
        simp only[conL,List.map_nil,cH0,wB,stB0]at e1 e2 e3 e4 e5 e6 ⊢
        generalize twoX=Q at*
        simp -dsimp -implicitDefEqProofs (disch:=first|omega|assumption) [nI,wI,hlt,hne,e1,e2,e3,e4,e5,e6,str_beq]
        simpa -dsimp -implicitDefEqProofs (disch:=first|omega|assumption) [nI,wI]using hT
       |cons z Z=>
        have hYl:(Z.map Evt.d).length=Z.length:=List.length_map _
        have e1:=w2_1 (z::Z).length ((z::Z).map Evt.d) 0
        have e2:=w3_1 (z::Z).length ((z::Z).map Evt.d) 0
        have e3:=no_1 (z::Z).length ((z::Z).map Evt.d) 0
        have e4:=w4_1 (z::Z) 0 (by simp) hzk (by omega)
        generalize (wnl twoS 0 (z::Z)).map Evt.d=E at*
        cases E with
        |nil=>
         have e5:=res_1 (z::Z).length ((z::Z).map Evt.d) (z::Z).length
         have e6:=snp_1 (z::Z).length ((z::Z).map Evt.d) (z::Z).length
         simp only[conL,List.map_cons,List.length_cons,cH1,wB,stB0]at e1 e2 e3 e4 e5 e6 ⊢
         rw[← hYl]at e1 e2 e3 e4 e5 e6
         generalize twoX=Q at*
         generalize Z.map Evt.d=Y at*
         generalize z.d=zd at*
         simp -dsimp -implicitDefEqProofs (disch:=first|omega|assumption) [nI,wI,hlt,hne,e1,e2,e3,e4,e5,e6,str_beq]
         simpa -dsimp -implicitDefEqProofs (disch:=first|omega|assumption) [nI,wI]using hT
        |cons y E=>
         have e5:=res_2 (z::Z).length ((z::Z).map Evt.d) (z::Z).length (E.length+1) (y::E)
         have e6:=snp_2 (z::Z).length ((z::Z).map Evt.d) (z::Z).length (E.length+1) (y::E)
         simp only[conL,List.map_cons,List.length_cons,cH1,wB,stB0]at e1 e2 e3 e4 e5 e6 ⊢
         rw[← hYl]at e1 e2 e3 e4 e5 e6
         generalize twoX=Q at*
         generalize Z.map Evt.d=Y at*
         generalize z.d=zd at*
         simp -dsimp -implicitDefEqProofs (disch:=first|omega|assumption) [nI,wI,hlt,hne,e1,e2,e3,e4,e5,e6,str_beq]
         simpa -dsimp -implicitDefEqProofs (disch:=first|omega|assumption) [nI,wI]using hT
  cases hz0:Z0.map Evt.d with
  |nil=>exact key .nilI [] (.inl hz0)
  |cons x0 r0=>exact key x0 r0 (.inr hz0)
 exact main
end Go.Am.Ab
