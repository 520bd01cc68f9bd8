/- A console with a world. -/
import Derived.Test.YtldceipbpilipaaGreatDoorBase
import Derived.Test.YtldceipbpilipaaGreatDoorEvtD
set_option linter.all false
namespace Go.Am.Ab
open Go.Proofs
@[simp] theorem zs173:zeroVs? Tryz.prog 173=some [.d (.int .u32 0),.nilS,.d .nilM,.d (.int .u64 0)]:=by kernel_rfl
@[simp] theorem br_48:byRef G 48=false:=by decide +kernel
@[simp] theorem th_48:thaws G 48=false:=by decide +kernel
@[simp] theorem br_49:byRef G 49=false:=by decide +kernel
@[simp] theorem th_49:thaws G 49=false:=by decide +kernel
@[simp] theorem br_53:byRef G 53=false:=by decide +kernel
@[simp] theorem th_53:thaws G 53=false:=by decide +kernel
@[simp] theorem br_62:byRef G 62=false:=by decide +kernel
@[simp] theorem th_62:thaws G 62=false:=by decide +kernel
@[simp] theorem br_68:byRef G 68=false:=by decide +kernel
@[simp] theorem th_68:thaws G 68=false:=by decide +kernel
@[simp] theorem Hn_48_4:Hn 48 4=[1,3,4]:=rfl
@[simp] theorem Hn_49_1:Hn 49 1=[10]:=rfl
@[simp] theorem Hn_53_1:Hn 53 1=[]:=rfl
@[simp] theorem Hn_53_4:Hn 53 4=[]:=rfl
set_option maxRecDepth 1000000
def twoX:List D:=[.agg [.int .u32 1,.str ⟨#[105,100]⟩,.int .u8 1,.bool true],.agg [.int .u32 2,.str ⟨#[110,97,109,101]⟩,.int .u8 3,.bool false]]
def wB (st:Nat) (ev:V) (hands:Int):Obj:= .box [.d (.int .u32 1),.d (.list twoX),.nilS,.d (.int .i64 1),.d (.int .i64 10000),.d (.int .u64 1),.d (.int .i64 4),.d (.int .i64 0),.ptr st 0,ev,.d .nilP,.d .nilP,.d (.int .i64 hands),.d .nilP,.d (.int .u64 0)]
def stB0 (m:Nat):Obj:= .box [.d (.int .i64 0),.d (.int .i64 0),.mp m,.d (.str ⟨#[]⟩),.d (.int .i64 (-1)),.d (.int .i64 (-1)),.d (.bool false)]
theorem open_nil:R 53 [.ptr 0 0] [wB 1 .nilS 0,stB0 2,.map [] [] 0]=some ([],[wB 1 .nilS 122,stB0 2,.map [] [] 0]):=evalM_runs t0 100000 60 (by kernel_rfl)
theorem open_arr (n:Nat) (E:List D):R 53 [.ptr 0 0] [wB 1 (.arr 2 n) 0,stB0 3,.arr 8 E 0,.map [] [] 0]=some ([],[wB 1 (.arr 2 n) 122,stB0 3,.arr 8 E 0,.map [] [] 0]):=evalM_runs t0 100000 60 (by kernel_rfl)
theorem stnew_runs:R 10 [.d (.int .i64 0)] []=some ([.ptr 0 0],[stB0 1,.map [] [] 0]):=evalM_runs t0 100000 60 (by kernel_rfl)
theorem enew_runs:R 48 [.d (.agg [.int .u32 1,.list twoX])] []=some ([.ptr 0 0,.d (.int .i64 0)],[.box [.d (.int .u32 1),.d (.list twoX),.mp 1,.d (.int .u64 0)],.map [] [] 0]):=evalM_runs t0 100000 60 (by kernel_rfl)
theorem eschema_runs:R 49 [.ptr 0 0] [.box [.d (.int .u32 1),.d (.list twoX),.mp 1,.d (.int .u64 0)],.map [] [] 0]=some ([.d (.agg [.int .u32 1,.list twoX])],[.box [.d (.int .u32 1),.d (.list twoX),.mp 1,.d (.int .u64 0)],.map [] [] 0]):=evalM_runs t0 100000 60 (by kernel_rfl)
abbrev txt (l:List UInt8):V:= .d (.str ⟨l.toArray⟩)
abbrev lResume:List UInt8:=[114,101,115,117,109,101]
abbrev lSnaps:List UInt8:=[115,110,97,112,115]
abbrev sE122:List UInt8:=[101,114,114,111,114,32,49,50,50]
theorem told_runs:R 62 [.d (.int .i64 122)] []=some ([txt sE122],[]):=evalM_runs t0 100000 60 (by kernel_rfl)
theorem res_0:R 28 [.ptr 0 0,txt lResume] [.box [.nilS,.ptr 1 0],wB 2 .nilS 122,stB0 3,.map [] [] 0]=some ([txt [48]],[.box [.nilS,.ptr 1 0],wB 2 .nilS 122,stB0 3,.map [] [] 0]):=evalM_runs t0 100000 60 (by kernel_rfl)
theorem res_1 (n:Nat) (Z:List D) (w:Nat):R 28 [.ptr 0 0,txt lResume] [.box [.arr 1 n,.ptr 2 0],.arr 8 Z w,wB 3 .nilS 122,stB0 4,.map [] [] 0]=some ([txt [48]],[.box [.arr 1 n,.ptr 2 0],.arr 8 Z w,wB 3 .nilS 122,stB0 4,.map [] [] 0]):=evalM_runs t0 100000 60 (by kernel_rfl)
theorem res_2 (n:Nat) (Z:List D) (w m:Nat) (E:List D):R 28 [.ptr 0 0,txt lResume] [.box [.arr 1 n,.ptr 2 0],.arr 8 Z w,wB 3 (.arr 4 m) 122,stB0 5,.arr 8 E 0,.map [] [] 0]=some ([txt [48]],[.box [.arr 1 n,.ptr 2 0],.arr 8 Z w,wB 3 (.arr 4 m) 122,stB0 5,.arr 8 E 0,.map [] [] 0]):=evalM_runs t0 100000 60 (by kernel_rfl)
theorem snp_0:R 28 [.ptr 0 0,txt lSnaps] [.box [.nilS,.ptr 1 0],wB 2 .nilS 122,stB0 3,.map [] [] 0]=some ([txt sE122],[.box [.nilS,.ptr 1 0],wB 2 .nilS 122,stB0 3,.map [] [] 0]):=evalM_runs t0 100000 60 (by kernel_rfl)
theorem snp_1 (n:Nat) (Z:List D) (w:Nat):R 28 [.ptr 0 0,txt lSnaps] [.box [.arr 1 n,.ptr 2 0],.arr 8 Z w,wB 3 .nilS 122,stB0 4,.map [] [] 0]=some ([txt sE122],[.box [.arr 1 n,.ptr 2 0],.arr 8 Z w,wB 3 .nilS 122,stB0 4,.map [] [] 0]):=evalM_runs t0 100000 60 (by kernel_rfl)
theorem snp_2 (n:Nat) (Z:List D) (w m:Nat) (E:List D):R 28 [.ptr 0 0,txt lSnaps] [.box [.arr 1 n,.ptr 2 0],.arr 8 Z w,wB 3 (.arr 4 m) 122,stB0 5,.arr 8 E 0,.map [] [] 0]=some ([txt sE122],[.box [.arr 1 n,.ptr 2 0],.arr 8 Z w,wB 3 (.arr 4 m) 122,stB0 5,.arr 8 E 0,.map [] [] 0]):=evalM_runs t0 100000 60 (by kernel_rfl)
abbrev cW3:List UInt8:=[119,111,114,108,100,32,49,32,49,32,45,49]
abbrev cW2:List UInt8:=[119,111,114,108,100,32,49,32,49]
abbrev cWhat:List UInt8:=[119,104,97,116,63]
abbrev cNo:List UInt8:=[110,111,32,119,111,114,108,100]
theorem w2_0:R 28 [.ptr 0 0,txt cW2] [.box [.nilS,.d .nilP]]=some ([txt cWhat],[.box [.nilS,.d .nilP]]):=evalM_runs t0 100000 60 (by kernel_rfl)
theorem w2_1 (n:Nat) (Z:List D) (w:Nat):R 28 [.ptr 0 0,txt cW2] [.box [.arr 1 n,.d .nilP],.arr 8 Z w]=some ([txt cWhat],[.box [.arr 1 n,.d .nilP],.arr 8 Z w]):=evalM_runs t0 100000 60 (by kernel_rfl)
theorem w3_0:R 28 [.ptr 0 0,txt cW3] [.box [.nilS,.d .nilP]]=some ([txt cWhat],[.box [.nilS,.d .nilP]]):=evalM_runs t0 100000 60 (by kernel_rfl)
theorem w3_1 (n:Nat) (Z:List D) (w:Nat):R 28 [.ptr 0 0,txt cW3] [.box [.arr 1 n,.d .nilP],.arr 8 Z w]=some ([txt cWhat],[.box [.arr 1 n,.d .nilP],.arr 8 Z w]):=evalM_runs t0 100000 60 (by kernel_rfl)
theorem no_0:R 28 [.ptr 0 0,txt lResume] [.box [.nilS,.d .nilP]]=some ([txt cNo],[.box [.nilS,.d .nilP]]):=evalM_runs t0 100000 60 (by kernel_rfl)
theorem no_1 (n:Nat) (Z:List D) (w:Nat):R 28 [.ptr 0 0,txt lResume] [.box [.arr 1 n,.d .nilP],.arr 8 Z w]=some ([txt cNo],[.box [.arr 1 n,.d .nilP],.arr 8 Z w]):=evalM_runs t0 100000 60 (by kernel_rfl)
theorem nm_1:R 104 [txt [49],.d (.int .i64 0)] []=some ([.d (.int .i64 1),.d (.bool true)],[]):=evalM_runs t0 100000 60 (by kernel_rfl)
theorem nm_0:R 104 [txt [48],.d (.int .i64 0)] []=some ([.d (.int .i64 0),.d (.bool true)],[]):=evalM_runs t0 100000 60 (by kernel_rfl)
theorem hands_nil:R 68 [.ptr 0 0] [wB 1 .nilS 122,stB0 2,.map [] [] 0]=some ([.d (.int .i64 122)],[wB 1 .nilS 122,stB0 2,.map [] [] 0]):=evalM_runs t0 100000 60 (by kernel_rfl)
theorem hands_arr (n:Nat) (E:List D):R 68 [.ptr 0 0] [wB 1 (.arr 2 n) 122,stB0 3,.arr 8 E 0,.map [] [] 0]=some ([.d (.int .i64 122)],[wB 1 (.arr 2 n) 122,stB0 3,.arr 8 E 0,.map [] [] 0]):=evalM_runs t0 100000 60 (by kernel_rfl)
theorem spl_w4:R 58 [txt [119,111,114,108,100,32,49,32,49,32,48],txt [32]] []=some ([.d (.list [.str ⟨#[119,111,114,108,100]⟩,.str ⟨#[49]⟩,.str ⟨#[49]⟩,.str ⟨#[48]⟩])],[]):=evalM_runs t0 100000 60 (by kernel_rfl)
end Go.Am.Ab
namespace Go.Am.Ab
open Go.Proofs
set_option maxHeartbeats 8000000
set_option maxRecDepth 4000
theorem sdo_any {s:Sch} {e:Evt} {n:Nat} {es:List (D × V)} {bs:List Nat} {ck:Nat} (hs:SchW s) (he:e.wf) (hE:EsG es) (hn:n<1000000) (ho:e.off=(n:Int)+1) (hw:e.op=3→es=[]):
 if echk s e=0 then ∃es' bs' ck',EsG es'∧R 52 [.ptr 0 0,.d e.d] (psH s n es bs ck)=some ([.d (.int .i64 0)],psH (stepS s e) (n+1) es' bs' ck')
 else R 52 [.ptr 0 0,.d e.d] (psH s n es bs ck)=some ([.d (.int .i64 (echk s e))],psH s n es bs ck):=by
 by_cases hc:echk s e=0
 ·rw[if_pos hc]
  obtain⟨_,h1⟩:=echk_ok hc
  unfold stepS
  rcases h1 with ⟨h1,hr,hl,hp⟩ | h1 | ⟨h1,h0⟩
  ·rw[if_neg (by omega)]
   exact sdo_put hs he hE hn ho hc h1 hr hp
  ·rw[if_neg (by omega)]
   exact sdo_rem hs he hE hn ho hc h1
  ·rw[if_pos h1]
   have:=hw h1
   subst this
   exact⟨[],bs,ck,hE,sdo_wid hs he hn ho hc h1 h0⟩
 ·rw[if_neg hc]
  exact sdo_no hs he hn ho hc
@[simp] theorem allSize_ce1 (l:List Cel):allSize 3 (l.map Cel.d)=true:=allSize_map0 l fun _=>rfl
theorem cloneC_runs (l:List Cel) (hn:l.length<1000000000):R 51 [.d (.list (ce l))] []=some ([.arr 0 l.length],[.arr 3 (ce l) 0]):=by
 cases l with
 |nil=>
  refine run_split (rs:=[.tmp 2]) (ts:=[26]) Tryz.func51 rfl rfl rfl (by kernel_rfl) (by kernel_rfl) sp_51 (by simp[Tryz.f51]) ?_
  intro T hT a ha
  rcases ha with rfl | rfl
  all_goals simp -dsimp -implicitDefEqProofs (disch:=first|omega|assumption) [startSlots,nI,wI]
  all_goals exact hT
 |cons x r=>
  simp only[List.length_cons]at hn
  have hx:x.d.cells.length=3:=rfl
  refine run_goal (rs:=[.tmp 2]) (ts:=[26]) Tryz.func51 rfl rfl rfl (by kernel_rfl) (by kernel_rfl) (.inr ⟨(sp_51).2,by intro rest h;simp at h⟩) (by simp[Tryz.f51]) ?_
  intro T hT
  simp -dsimp -implicitDefEqProofs (disch:=first|omega|assumption) [startSlots,nI,wI,hx]
  simpa -dsimp -implicitDefEqProofs (disch:=first|omega|assumption) [nI,wI]using hT
theorem off_runs (s:Sch) (n:Nat) (es:List (D × V)) (bs:List Nat) (ck:Nat):R 50 [.ptr 0 0] (psH s n es bs ck)=some ([.d (.int .u64 n)],psH s n es bs ck):=by
 obtain⟨sid,fs⟩:=s
 simp only[psH]
 generalize fs.map Fld.d=X at*
 refine run_goal (rs:=[.tmp 2]) (ts:=[22]) Tryz.func50 rfl rfl rfl (by kernel_rfl) (by kernel_rfl) (.inl sp_50) (by simp[Tryz.f50]) ?_
 intro T hT
 simp -dsimp -implicitDefEqProofs (disch:=first|omega|assumption) [startSlots,nI,wI,rgS2]
 simpa -dsimp -implicitDefEqProofs (disch:=first|omega|assumption) [nI,wI]using hT
end Go.Am.Ab
namespace Go.Am.Ab
open Go.Proofs
set_option maxHeartbeats 16000000
set_option maxRecDepth 4000
def twoS:Sch:=⟨1,[⟨1,⟨#[105,100]⟩,1,true⟩,⟨2,⟨#[110,97,109,101]⟩,3,false⟩]⟩
theorem twoS_w:SchW twoS:=by
 refine⟨by decide,by decide,fun f hf=> ?_,by decide⟩
 simp only[twoS,List.mem_cons,List.not_mem_nil,or_false]at hf
 rcases hf with rfl | rfl <;> exact⟨by decide,by decide,by decide⟩
def wnl:Sch→Nat→List Evt→List Evt
 |_,_,[]=>[]
 |s,n,e::r=>if echk s (e.at n)=0 then e.at n::wnl (stepS s e) (n+1) r else wnl s n r
def wH:List D→List Obj
 |[]=>[wB 1 .nilS 122,stB0 2,.map [] [] 0]
 |x::r=>[wB 1 (.arr 2 (r.length+1)) 122,stB0 3,.arr 8 (x::r) 0,.map [] [] 0]
def wL (s:Sch) (n:Nat) (es:List (D × V)) (bs:List Nat) (ck:Nat):List D→List Obj
 |[]=>[.box [.d (.int .u32 s.id),.d (.list (s.fields.map Fld.d)),.mp 2,.d (.int .u64 n)],wB 3 .nilS 0,.map es bs ck,stB0 4,.map [] [] 0]
 |x::r=>[.box [.d (.int .u32 s.id),.d (.list (s.fields.map Fld.d)),.mp 2,.d (.int .u64 n)],wB 3 (.arr 4 (r.length+1)) 0,.map es bs ck,stB0 5,.arr 8 (x::r) 0,.map [] [] 0]
structure WnI (l:List Evt) (W out:List Evt) (i:Nat) (s:Sch) (es:List (D × V)):Prop where
 a1:i≤l.length
 a2:SchW s
 a3:EsG es
 a4:out.length≤i
 a5:i=0→es=[]
 a6:W=out++wnl s out.length (l.drop i)
theorem wnew_runs (l:List Evt) (hl: ∀ (i:Nat) (h:i<l.length),(l[i]).wf∧(l[i].op=3→i=0)) (hn:l.length≤1000):
 R 21 [.d (.agg [.int .u32 1,.list twoX,.list (l.map Evt.d),.int .i64 1,.int .i64 10000,.int .u64 1,.int .i64 4,.int .i64 0])] []=some ([.ptr 0 0,.d (.int .i64 0)],wH ((wnl twoS 0 l).map Evt.d)):=by
 have h1:=enew_runs
 have h2:=stnew_runs
 have h3:=eschema_runs
 have hX:twoS.fields.map Fld.d=twoX:=rfl
 obtain⟨W,hW⟩: ∃W,W=wnl twoS 0 l:=⟨_,rfl⟩
 rw[← hW]
 have hI0:WnI l W [] 0 twoS []:=⟨Nat.zero_le _,twoS_w,(fun p hp=>by cases hp),Nat.le_refl _,fun _=>rfl,by rw[List.drop_zero,hW];rfl⟩
 obtain⟨Q,hQ⟩: ∃Q,twoX=Q:=⟨_,rfl⟩
 have hYl:(l.map Evt.d).length=l.length:=List.length_map _
 simp only[stB0,hQ]at h1 h2 h3 ⊢
 refine run_goal (rs:=[.tmp 2,.tmp 3]) (ts:=[56,36]) Tryz.func21 rfl rfl rfl (by kernel_rfl) (by kernel_rfl) (.inl sp_21) (by simp[Tryz.f21]) ?_
 intro T hT
 simp -dsimp -implicitDefEqProofs (disch:=first|omega|assumption) [startSlots,nI,wI,h1,h2,h3,hYl]
 generalize hz:loopT _ _ _ _ _ _=z
 revert z
 refine loop_any (σ:=Nat × Sch × List (D × V) × List Nat × Nat × List Evt) (fun x=>[(4,.ptr 0 0),(6,.ptr 1 0),(32,.d (.list (l.map Evt.d))),(33,.d (.int .i64 l.length)),(34,.d (.int .i64 x.1))]) (fun x=>wL x.2.1 x.2.2.2.2.2.length x.2.2.1 x.2.2.2.1 x.2.2.2.2.1 (x.2.2.2.2.2.map Evt.d)) (fun x=>WnI l W x.2.2.2.2.2 x.1 x.2.1 x.2.2.1) (fun x=>l.length - x.1) (0,twoS,[],[],0,[]) ?_ ?_ ?_
 ·exact hI0
 ·simp -dsimp -implicitDefEqProofs (disch:=first|omega|assumption) [wL,wB,stB0,hX,hQ,show twoS.id=1 from rfl]
 rintro T' f hT' ⟨i,s,es,bs,ck,out⟩ hI ih
 simp only at hI ih ⊢
 obtain⟨hi,hs,hes,hol,hi0,hw⟩:=hI
 by_cases hlt:i<l.length
 ·obtain⟨e,hx⟩: ∃e,l[i]=e:=⟨_,rfl⟩
  obtain⟨hwf,h3p⟩:=hl i hlt
  rw[hx]at hwf h3p
  rw[List.drop_eq_getElem_cons hlt,hx]at hw
  unfold wnl at hw
  have hxd:e.d= .agg [.int .u64 e.off,.int .u8 e.op,.list (ce e.row),.int .u8 e.key.kind,.int .i64 e.key.n,.str e.key.s,.str e.name,.int .u8 e.kind]:=rfl
  have had:(e.at out.length).d= .agg [.int .u64 ((out.length:Int)+1),.int .u8 e.op,.list (ce e.row),.int .u8 e.key.kind,.int .i64 e.key.n,.str e.key.s,.str e.name,.int .u8 e.kind]:=rfl
  have hcl:=cloneC_runs e.row (by have:=hwf.len;omega)
  have hcel:(ce e.row).length=e.row.length:=List.length_map _
  have hof:=off_runs s out.length es bs ck
  have hdo:=sdo_any hs (evt_at hwf out.length) hes (n:=out.length) (bs:=bs) (ck:=ck) (by omega) rfl (fun h=>hi0 (h3p h))
  rw[had]at hdo
  have wt:IntKind.wrap .u64 ((out.length:Int)+1)=out.length+1:=wrap_u64 (by omega) (by omega)
  have hms:l.length - (i+1)<l.length - i:=by omega
  have hOl:(out.map Evt.d).length=out.length:=List.length_map _
  by_cases hc:echk s (e.at out.length)=0
  ·rw[if_pos hc]at hdo hw
   obtain⟨es',bs',ck',hE',hdo⟩:=hdo
   have hstp:stepS s (e.at out.length)=stepS s e:=rfl
   rw[hstp]at hdo
   have hlo:(out++[e.at out.length]).length=out.length+1:=by simp
   have hinv:WnI l W (out++[e.at out.length]) (i+1) (stepS s e) es':=⟨by omega,stepS_w (e:=e.at out.length) hs (evt_at hwf out.length) hc,hE',by rw[hlo];omega,fun h=>by omega,by rw[hlo,hw];simp⟩
   have ihn:=ih (i+1,stepS s e,es',bs',ck',out++[e.at out.length])
   simp only[hlo,List.map_append,List.map_cons,List.map_nil,had]at ihn
   generalize hst:stepS s e=s2 at*
   clear hwf hi0 h3p hc hst hstp hw hlo hI0 hs
   generalize s2.fields.map Fld.d=X2 at*
   generalize hOO:out.map Evt.d=OO at*
   have hal:allSize 8 OO=true:=by rw[← hOO];exact allSize_map0 out fun _=>rfl
   clear hOO
   cases OO with
   |nil=>
    have hz:out.length=0:=by simpa using hOl.symm
    simp only[wL,wB,stB0,hQ,psH,List.nil_append]at ihn hdo hof ⊢
    generalize s.fields.map Fld.d=X at*
    generalize out.length=n at*
    generalize e.at n=en at*
    obtain⟨off,op,row,⟨ck0,cn0,cs0⟩,nm,kd⟩:=e
    simp only at hxd hdo hcl hcel ihn
    simp -dsimp -implicitDefEqProofs (disch:=first|omega|assumption) [nI,wI,hlt,hx,hxd,hof,hcl,hcel,hdo,wt]
    refine ihn _ _ hinv hms ?_
    simp -dsimp -implicitDefEqProofs (disch:=first|omega|assumption)
   |cons o1 OO=>
    simp only[wL,wB,stB0,hQ,psH,List.cons_append,List.length_append,List.length_cons,List.length_nil]at ihn hdo hof hOl ⊢
    generalize s.fields.map Fld.d=X at*
    generalize out.length=n at*
    generalize e.at n=en at*
    obtain⟨off,op,row,⟨ck0,cn0,cs0⟩,nm,kd⟩:=e
    simp only at hxd hdo hcl hcel ihn
    simp -dsimp -implicitDefEqProofs (disch:=first|omega|assumption) [nI,wI,hlt,hx,hxd,hof,hcl,hcel,hdo,wt,hal]
    refine ihn _ _ hinv hms ?_
    simp -dsimp -implicitDefEqProofs (disch:=first|omega|assumption)
  ·rw[if_neg hc]at hdo hw
   have hinv:WnI l W out (i+1) s es:=⟨by omega,hs,hes,by omega,fun h=>by omega,hw⟩
   have ihn:=ih (i+1,s,es,bs,ck,out)
   simp only at ihn
   generalize echk s (e.at out.length)=q at*
   clear hwf hi0 h3p hw hI0 hs
   generalize hOO:out.map Evt.d=OO at*
   clear hOO
   cases OO with
   |nil=>
    simp only[wL,wB,stB0,hQ,psH]at ihn hdo hof ⊢
    generalize s.fields.map Fld.d=X at*
    generalize out.length=n at*
    obtain⟨off,op,row,⟨ck0,cn0,cs0⟩,nm,kd⟩:=e
    simp only at hxd hdo hcl hcel ihn
    simp -dsimp -implicitDefEqProofs (disch:=first|omega|assumption) [nI,wI,hlt,hx,hxd,hof,hcl,hcel,hdo,wt,hc]
    refine ihn _ _ hinv hms ?_
    simp -dsimp -implicitDefEqProofs (disch:=first|omega|assumption)
   |cons o1 OO=>
    simp only[wL,wB,stB0,hQ,psH]at ihn hdo hof ⊢
    generalize s.fields.map Fld.d=X at*
    generalize out.length=n at*
    obtain⟨off,op,row,⟨ck0,cn0,cs0⟩,nm,kd⟩:=e
    simp only at hxd hdo hcl hcel ihn
    simp -dsimp -implicitDefEqProofs (disch:=first|omega|assumption) [nI,wI,hlt,hx,hxd,hof,hcl,hcel,hdo,wt,hc]
    refine ihn _ _ hinv hms ?_
    simp -dsimp -implicitDefEqProofs (disch:=first|omega|assumption)
 ·have hie:i=l.length:=by omega
  have hne: ¬ (i:Int)<(l.length:Int):=by omega
  rw[List.drop_eq_nil_of_le (by omega),show wnl s out.length []=[] from rfl,List.append_nil]at hw
  rw[hw]at hT
  subst hT'
  generalize hOO:out.map Evt.d=OO at*
  clear hOO
  cases OO with
  |nil=>
   have ho:=open_nil
   simp only[wL,wH,wB,stB0,hQ]at ho hT ⊢
   simp -dsimp -implicitDefEqProofs (disch:=first|omega|assumption) [nI,wI,hne,ho]
   simpa -dsimp -implicitDefEqProofs (disch:=first|omega|assumption) [nI,wI]using hT
  |cons o1 OO=>
   have ho:=open_arr (OO.length+1) (o1::OO)
   simp only[wL,wH,wB,stB0,hQ]at ho hT ⊢
   simp -dsimp -implicitDefEqProofs (disch:=first|omega|assumption) [nI,wI,hne,ho]
   simpa -dsimp -implicitDefEqProofs (disch:=first|omega|assumption) [nI,wI]using hT
end Go.Am.Ab
namespace Go.Am.Ab
open Go.Proofs
set_option maxHeartbeats 16000000
set_option maxRecDepth 4000
abbrev w110:V:= .d (.list [.str ⟨#[49]⟩,.str ⟨#[49]⟩,.str ⟨#[48]⟩])
def cH0:List Obj:=[.box [.nilS,.ptr 1 0],wB 2 .nilS 122,stB0 3,.map [] [] 0]
def cH1 (n:Nat) (Z:List D) (w:Nat):List D→List Obj
 |[]=>[.box [.arr 1 n,.ptr 2 0],.arr 8 Z w,wB 3 .nilS 122,stB0 4,.map [] [] 0]
 |x::r=>[.box [.arr 1 n,.ptr 2 0],.arr 8 Z w,wB 3 (.arr 4 (r.length+1)) 122,stB0 5,.arr 8 (x::r) 0,.map [] [] 0]
theorem begin_0:R 60 [.ptr 0 0,w110] [.box [.nilS,.d .nilP]]=some ([txt sE122],cH0):=by
 have h:=wnew_runs [] (fun i h=>by simp at h) (by simp)
 rw[show wnl twoS 0 []=[] from rfl,List.map_nil]at h
 have h1:=nm_1
 have h0:=nm_0
 have hh:=hands_nil
 have ht:=told_runs
 simp only[wH,wB,stB0,twoX,cH0,List.map_nil]at h hh ⊢
 refine run_goal (rs:=[.tmp 4]) (ts:=[9]) Tryz.func60 rfl rfl rfl (by kernel_rfl) (by kernel_rfl) (.inl sp_60) (by simp[Tryz.f60]) ?_
 intro T hT
 simp -dsimp -implicitDefEqProofs (disch:=first|omega|assumption) [startSlots,nI,wI]
 generalize hz:loopT _ _ _ _ _ _=z
 revert z
 refine loop_any (σ:=Nat) (fun i=>[(0,.ptr 0 0),(5,.ptr 1 0),(16,w110),(17,.d (.int .i64 3)),(18,.d (.int .i64 i))]) (fun i=>[.box [.nilS,.d .nilP],.box [.d (.int .i64 (if 0<i then 1 else 0)),.d (.int .i64 (if 1<i then 1 else 0)),.d (.int .i64 0)]]) (fun i=>i≤3) (fun i=>3 - i) 0 ?_ ?_ ?_
 ·exact Nat.zero_le _
 ·simp -dsimp -implicitDefEqProofs (disch:=first|omega|assumption)
 intro T' f hT' i hi ih
 have h0123:i=0∨i=1∨i=2∨i=3:=by omega
 rcases h0123 with rfl | rfl | rfl | rfl
 ·simp -dsimp -implicitDefEqProofs (disch:=first|omega|assumption) [nI,wI,h1]
  refine ih 1 _ _ (by omega) (by omega) ?_
  simp -dsimp -implicitDefEqProofs (disch:=first|omega|assumption)
 ·simp -dsimp -implicitDefEqProofs (disch:=first|omega|assumption) [nI,wI,h1]
  refine ih 2 _ _ (by omega) (by omega) ?_
  simp -dsimp -implicitDefEqProofs (disch:=first|omega|assumption)
 ·simp -dsimp -implicitDefEqProofs (disch:=first|omega|assumption) [nI,wI,h0]
  refine ih 3 _ _ (by omega) (by omega) ?_
  simp -dsimp -implicitDefEqProofs (disch:=first|omega|assumption)
 ·subst hT'
  have w1:IntKind.wrap .u64 1=1:=rfl
  simp -dsimp -implicitDefEqProofs (disch:=first|omega|assumption) [nI,wI,h,hh,ht,w1]
  simpa -dsimp -implicitDefEqProofs (disch:=first|omega|assumption) [nI,wI]using hT
theorem begin_1 (Z:List Evt) (w:Nat) (hz:0<Z.length) (hl: ∀ (i:Nat) (h:i<Z.length),(Z[i]).wf∧(Z[i].op=3→i=0)) (hn:Z.length≤1000):
 R 60 [.ptr 0 0,w110] [.box [.arr 1 Z.length,.d .nilP],.arr 8 (Z.map Evt.d) w]=some ([txt sE122],cH1 Z.length (Z.map Evt.d) Z.length ((wnl twoS 0 Z).map Evt.d)):=by
 have h:=wnew_runs Z hl hn
 have h1:=nm_1
 have h0:=nm_0
 have hh:=hands_nil
 have hh2:=hands_arr
 have ht:=told_runs
 have rg2:List.range 2=[0,1]:=rfl
 have hZl:(Z.map Evt.d).length=Z.length:=List.length_map _
 generalize (wnl twoS 0 Z).map Evt.d=E at*
 clear hl
 generalize hY:Z.map Evt.d=Y at*
 clear hY
 generalize Z.length=n at*
 refine run_goal (rs:=[.tmp 4]) (ts:=[9]) Tryz.func60 rfl rfl rfl (by kernel_rfl) (by kernel_rfl) (.inl sp_60) (by simp[Tryz.f60]) ?_
 intro T hT
 simp -dsimp -implicitDefEqProofs (disch:=first|omega|assumption) [startSlots,nI,wI,rg2]
 generalize hz:loopT _ _ _ _ _ _=z
 revert z
 refine loop_any (σ:=Nat) (fun i=>[(0,.ptr 0 0),(5,.ptr 2 0),(16,w110),(17,.d (.int .i64 3)),(18,.d (.int .i64 i))]) (fun i=>[.box [.arr 1 n,.d .nilP],.arr 8 Y w,.box [.d (.int .i64 (if 0<i then 1 else 0)),.d (.int .i64 (if 1<i then 1 else 0)),.d (.int .i64 0)]]) (fun i=>i≤3) (fun i=>3 - i) 0 ?_ ?_ ?_
 ·exact Nat.zero_le _
 ·simp -dsimp -implicitDefEqProofs (disch:=first|omega|assumption) [rg2]
 intro T' f hT' i hi ih
 have h0123:i=0∨i=1∨i=2∨i=3:=by omega
 rcases h0123 with rfl | rfl | rfl | rfl
 ·simp -dsimp -implicitDefEqProofs (disch:=first|omega|assumption) [nI,wI,h1,rg2]
  refine ih 1 _ _ (by omega) (by omega) ?_
  simp -dsimp -implicitDefEqProofs (disch:=first|omega|assumption) [rg2]
 ·simp -dsimp -implicitDefEqProofs (disch:=first|omega|assumption) [nI,wI,h1,rg2]
  refine ih 2 _ _ (by omega) (by omega) ?_
  simp -dsimp -implicitDefEqProofs (disch:=first|omega|assumption) [rg2]
 ·simp -dsimp -implicitDefEqProofs (disch:=first|omega|assumption) [nI,wI,h0,rg2]
  refine ih 3 _ _ (by omega) (by omega) ?_
  simp -dsimp -implicitDefEqProofs (disch:=first|omega|assumption) [rg2]
 ·subst hT'
  have w1:IntKind.wrap .u64 1=1:=rfl
  cases E with
  |nil=>
   simp only[wH,wB,stB0,twoX,cH1]at h hh hT ⊢
   simp -dsimp -implicitDefEqProofs (disch:=first|omega|assumption) [nI,wI,h,hh,ht,hZl,rg2,w1]
   simpa -dsimp -implicitDefEqProofs (disch:=first|omega|assumption) [nI,wI]using hT
  |cons x r=>
   have hh2:=hh2 (r.length+1) (x::r)
   simp only[wH,wB,stB0,twoX,cH1]at h hh2 hT ⊢
   simp -dsimp -implicitDefEqProofs (disch:=first|omega|assumption) [nI,wI,h,hh2,ht,hZl,rg2,w1]
   simpa -dsimp -implicitDefEqProofs (disch:=first|omega|assumption) [nI,wI]using hT
abbrev cW4:List UInt8:=[119,111,114,108,100,32,49,32,49,32,48]
theorem w4_0:R 28 [.ptr 0 0,txt cW4] [.box [.nilS,.d .nilP]]=some ([txt sE122],cH0):=by
 have h:=begin_0
 have hs:=spl_w4
 simp only[wB,stB0,cH0]at h ⊢
 generalize twoX=Q at*
 refine run_goal (rs:=[.tmp 4]) (ts:=[9]) Tryz.func28 rfl rfl rfl (by kernel_rfl) (by kernel_rfl) (.inl sp_28) (by simp[Tryz.f28]) ?_
 intro T hT
 simp -dsimp -implicitDefEqProofs (disch:=first|omega|assumption) [startSlots,nI,wI,hs,h]
 simpa -dsimp -implicitDefEqProofs (disch:=first|omega|assumption) [nI,wI]using hT
theorem w4_1 (Z:List Evt) (w:Nat) (hz:0<Z.length) (hl: ∀ (i:Nat) (h:i<Z.length),(Z[i]).wf∧(Z[i].op=3→i=0)) (hn:Z.length≤1000):
 R 28 [.ptr 0 0,txt cW4] [.box [.arr 1 Z.length,.d .nilP],.arr 8 (Z.map Evt.d) w]=some ([txt sE122],cH1 Z.length (Z.map Evt.d) Z.length ((wnl twoS 0 Z).map Evt.d)):=by
 have h:=begin_1 Z w hz hl hn
 have hs:=spl_w4
 have rg2:List.range 2=[0,1]:=rfl
 generalize (wnl twoS 0 Z).map Evt.d=E at*
 clear hl
 generalize hY:Z.map Evt.d=Y at*
 clear hY
 generalize Z.length=n at*
 cases E with
 |nil=>
  simp only[wB,stB0,cH1]at h ⊢
  generalize twoX=Q at*
  refine run_goal (rs:=[.tmp 4]) (ts:=[9]) Tryz.func28 rfl rfl rfl (by kernel_rfl) (by kernel_rfl) (.inl sp_28) (by simp[Tryz.f28]) ?_
  intro T hT
  simp -dsimp -implicitDefEqProofs (disch:=first|omega|assumption) [startSlots,nI,wI,hs,h,rg2]
  simpa -dsimp -implicitDefEqProofs (disch:=first|omega|assumption) [nI,wI]using hT
 |cons x r=>
  simp only[wB,stB0,cH1]at h ⊢
  generalize twoX=Q at*
  refine run_goal (rs:=[.tmp 4]) (ts:=[9]) Tryz.func28 rfl rfl rfl (by kernel_rfl) (by kernel_rfl) (.inl sp_28) (by simp[Tryz.f28]) ?_
  intro T hT
  simp -dsimp -implicitDefEqProofs (disch:=first|omega|assumption) [startSlots,nI,wI,hs,h,rg2]
  simpa -dsimp -implicitDefEqProofs (disch:=first|omega|assumption) [nI,wI]using hT
end Go.Am.Ab
