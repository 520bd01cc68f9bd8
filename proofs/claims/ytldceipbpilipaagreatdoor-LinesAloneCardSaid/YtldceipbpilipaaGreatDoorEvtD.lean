/- Which events may be, in a world. -/
import Derived.Test.YtldceipbpilipaaGreatDoorEvtA
set_option linter.all false
namespace Go.Am.Ab
open Go.Proofs
def Evt.at (e:Evt) (n:Nat):Evt:= { e with off:=(n:Int)+1 }
def stepS (s:Sch) (e:Evt):Sch:=if e.op=3 then sgrow s e.name e.kind else s
structure EvtI (e:Evt):Prop where
 row: ∀c∈e.row,celW c
 key:celW e.key
 k0:0≤e.kind
 k1:e.kind≤255
theorem evt_at {e:Evt} (h:e.wf) (n:Nat):(e.at n).wf:=⟨h.row,h.key,h.len,h.name,h.kind⟩
theorem echk_ok {s:Sch} {e:Evt} (h:echk s e=0):schk s=0∧((e.op=1∧rchk e.row=0∧e.row.length=s.fields.length∧0<e.row.length)∨e.op=2∨(e.op=3∧sadd s e.name e.kind=0)):=by
 unfold echk at h
 by_cases h1:schk s=0
 ·obtain⟨n1,n8⟩:=schk_ok h1
  rw[if_neg (fun x=>x h1)]at h
  refine⟨h1, ?_⟩
  split at h
  ·cases h
  ·split at h
   ·cases h
   ·split at h
    ·rename_i ho
     split at h
     ·omega
     ·rename_i hr
      have hr:rchk e.row=0:=by omega
      unfold fit at h
      split at h
      ·cases h
      ·rename_i hl
       rw[List.length_map]at hl
       exact .inl ⟨ho,hr,by omega,by omega⟩
    ·split at h
     ·rename_i ho;exact .inr (.inl ho)
     ·exact .inr (.inr ⟨by omega,h⟩)
 ·rw[if_pos h1]at h;exact absurd h h1
theorem sgrow_w {s:Sch} {nm:ByteArray} {k:Int} (h:SchW s) (hn:nm.size<1000000000) (h0:sadd s nm k=0):SchW (sgrow s nm k):=by
 unfold sadd at h0
 by_cases h1:schk s=0
 ·obtain⟨n1,n8⟩:=schk_ok h1
  rw[if_neg (fun x=>x h1)]at h0
  split at h0
  ·cases h0
  ·rename_i h2
   have hl:=lastId_get (fs:=s.fields) (by omega)
   have hw:=h.flds _ (List.getElem_mem (show s.fields.length - 1<s.fields.length by omega))
   have i0:=h.id0
   have i1:=h.id1
   refine⟨by simp only[sgrow];omega,by simp only[sgrow];omega,fun f hf=> ?_,by simp only[sgrow,List.length_append,List.length_cons,List.length_nil];omega⟩
   rcases List.mem_append.1 hf with hf | hf
   ·exact h.flds f hf
   ·rw[List.mem_singleton.1 hf]
    simp only
    omega
 ·rw[if_pos h1]at h0;exact absurd h0 h1
theorem stepS_w {s:Sch} {e:Evt} (h:SchW s) (he:e.wf) (h0:echk s e=0):SchW (stepS s e):=by
 obtain⟨_,h1⟩:=echk_ok h0
 unfold stepS
 split
 ·rcases h1 with h1 | h1 | h1
  ·omega
  ·omega
  ·exact sgrow_w h he.name h1.2
 ·exact h
end Go.Am.Ab
namespace Go.Am.Ab
open Go.Proofs
set_option maxHeartbeats 8000000
set_option maxRecDepth 4000
def EsG (es:List (D × V)):Prop:= ∀p∈es, ∃c:Cel,p.1=c.d
def mapPut (es:List (D × V)) (bs:List Nat) (ck:Nat) (k:D) (v:V):Obj:=match locM es k with | some _=> .map (putM es k v) bs ck | none=> .map (putM es k v) (bs++[ck]) (ck+1)
theorem putM_good {c:Cel} {v:V}: ∀ {es:List (D × V)},EsG es→EsG (putM es c.d v)
 |[],_=>fun p hp=>by simp only[putM,List.mem_singleton]at hp;exact⟨c,by rw[hp]⟩
 |(k',v')::r,h=>fun p hp=>by
  simp only[putM]at hp
  split at hp
  ·rcases List.mem_cons.1 hp with rfl | hp
   ·exact⟨c,rfl⟩
   ·exact h p (List.mem_cons_of_mem _ hp)
  ·rcases List.mem_cons.1 hp with rfl | hp
   ·exact h _ (by simp)
   ·exact putM_good (fun q hq=>h q (List.mem_cons_of_mem _ hq)) p hp
theorem mapPut_is {es:List (D × V)} (bs:List Nat) (ck:Nat) (c:Cel) (v:V) (h:EsG es): ∃es' bs' ck',mapPut es bs ck c.d v= .map es' bs' ck'∧EsG es':=by
 unfold mapPut
 split
 ·exact⟨_,_,_,rfl,putM_good h⟩
 ·exact⟨_,_,_,rfl,putM_good h⟩
theorem key_map:keyK Tryz.prog 86=some (1,29,159):=by kernel_rfl
theorem flat_cel:flat1 Tryz.prog 29=some [(0,0),(1,0),(2,2)]:=by kernel_rfl
theorem keyE_cel (c d:Cel):keyE Tryz.prog (1,29,159) c.d d.d=true:=by
 obtain⟨k,n,s⟩:=c
 obtain⟨k',n',s'⟩:=d
 simp only[Cel.d,keyE,flat_cel]
 simp[List.range_succ,eqCells,eqCell,eqbL,D.eqb,str_beq]
theorem allE_cel {es:List (D × V)} (c:Cel) (h:EsG es):es.all (fun p=>keyE Tryz.prog (1,29,159) c.d p.1)=true:=by
 rw[List.all_eq_true]
 intro p hp
 obtain⟨d,e⟩:=h p hp
 rw[e]
 exact keyE_cel c d
theorem delM_good {k:D}: ∀ {es:List (D × V)},EsG es→EsG (delM es k)
 |[],_=>fun p hp=>by simp[delM]at hp
 |(k',v')::r,h=>fun p hp=>by
  simp only[delM]at hp
  split at hp
  ·exact h p (List.mem_cons_of_mem _ hp)
  ·rcases List.mem_cons.1 hp with rfl | hp
   ·exact h _ (by simp)
   ·exact delM_good (fun q hq=>h q (List.mem_cons_of_mem _ hq)) p hp
theorem upd_3 {es:List (D × V)} {bs:List Nat} {ck:Nat} {o0 o2:Obj} {r:List Obj} {k:Nat} {n:Int} {s:ByteArray} {xs:List D} {w m:Nat} (h:EsG es) (hm:m=xs.length):
 updateV Tryz.prog (o0:: .map es bs ck::o2:: .arr 1 xs w::r) 86 (.mp 1) (.d (.agg [.int .u8 k,.int .i64 n,.str s])) (.arr 3 m)=some (.tup [],o0::mapPut es bs ck (.agg [.int .u8 k,.int .i64 n,.str s]) (.d (.list xs))::o2:: .arr 1 xs xs.length::r):=by
 have h1:=keyE_cel ⟨k,n,s⟩ ⟨k,n,s⟩
 have h2:=allE_cel ⟨k,n,s⟩ h
 simp only[Cel.d]at h1 h2
 subst hm
 unfold updateV
 simp only[key_map,valM,pureV,pure1,Option.map_some,if_true,List.getElem?_cons_succ,List.getElem?_cons_zero,h1,h2,Bool.and_self,List.set_cons_succ,List.set_cons_zero]
 rfl
theorem del_1 {es:List (D × V)} {bs:List Nat} {ck:Nat} {o0:Obj} {r:List Obj} {k:Nat} {n:Int} {s:ByteArray} (h:EsG es):
 deleteV Tryz.prog (o0:: .map es bs ck::r) 86 (.mp 1) (.d (.agg [.int .u8 k,.int .i64 n,.str s]))=some (.tup [],o0:: .map (delM es (.agg [.int .u8 k,.int .i64 n,.str s])) (match locM es (.agg [.int .u8 k,.int .i64 n,.str s]) with | some i=>bs.eraseIdx i | none=>bs) ck::r):=by
 have h1:=keyE_cel ⟨k,n,s⟩ ⟨k,n,s⟩
 have h2:=allE_cel ⟨k,n,s⟩ h
 simp only[Cel.d]at h1 h2
 unfold deleteV
 simp only[key_map,List.getElem?_cons_succ,List.getElem?_cons_zero,h1,h2,Bool.and_self,if_true,List.set_cons_succ,List.set_cons_zero]
 rfl
theorem vcell_runs (v:Val):R 153 [.d v.d] []=some ([.d (cellOf v).d,.d (.bool true)],[]):=by
 rcases v with _ | n | b | s
 ·simp only[Val.d,cellOf,Cel.none,Cel.d]
  refine run_goal (rs:=[.cell 2 29,.tmp 3]) (ts:=[29,4]) Tryz.func153 rfl rfl rfl (by kernel_rfl) (by kernel_rfl) (.inl sp_153) (by simp[Tryz.f153]) ?_
  intro T hT
  simp -dsimp -implicitDefEqProofs (disch:=first|omega|assumption) [startSlots,nI,wI]
  simpa -dsimp -implicitDefEqProofs (disch:=first|omega|assumption) [nI,wI]using hT
 ·simp only[Val.d,cellOf,Cel.none,Cel.d]
  refine run_goal (rs:=[.cell 2 29,.tmp 3]) (ts:=[29,4]) Tryz.func153 rfl rfl rfl (by kernel_rfl) (by kernel_rfl) (.inl sp_153) (by simp[Tryz.f153]) ?_
  intro T hT
  simp -dsimp -implicitDefEqProofs (disch:=first|omega|assumption) [startSlots,nI,wI]
  simpa -dsimp -implicitDefEqProofs (disch:=first|omega|assumption) [nI,wI]using hT
 ·simp only[Val.d,cellOf,Cel.none,Cel.d]
  cases b
  all_goals
   refine run_goal (rs:=[.cell 2 29,.tmp 3]) (ts:=[29,4]) Tryz.func153 rfl rfl rfl (by kernel_rfl) (by kernel_rfl) (.inl sp_153) (by simp[Tryz.f153]) ?_
   intro T hT
   simp -dsimp -implicitDefEqProofs (disch:=first|omega|assumption) [startSlots,nI,wI]
   simpa -dsimp -implicitDefEqProofs (disch:=first|omega|assumption) [nI,wI]using hT
 ·simp only[Val.d,cellOf,Cel.none,Cel.d]
  refine run_goal (rs:=[.cell 2 29,.tmp 3]) (ts:=[29,4]) Tryz.func153 rfl rfl rfl (by kernel_rfl) (by kernel_rfl) (.inl sp_153) (by simp[Tryz.f153]) ?_
  intro T hT
  simp -dsimp -implicitDefEqProofs (disch:=first|omega|assumption) [startSlots,nI,wI]
  simpa -dsimp -implicitDefEqProofs (disch:=first|omega|assumption) [nI,wI]using hT
theorem ecell_runs {c:Cel} (h:chk c=0):R 96 [.d (valOf c).d] []=some ([.d c.d],[]):=by
 have h1:=vcell_runs (valOf c)
 rw[cell_back h]at h1
 obtain⟨k,n,s⟩:=c
 simp only[Cel.d]at h1 ⊢
 generalize (valOf ⟨k,n,s⟩).d=x at*
 refine run_goal (rs:=[.cell 2 29]) (ts:=[29]) Tryz.func96 rfl rfl rfl (by kernel_rfl) (by kernel_rfl) (.inl sp_96) (by simp[Tryz.f96]) ?_
 intro T hT
 simp -dsimp -implicitDefEqProofs (disch:=first|omega|assumption) [startSlots,nI,wI,h1]
 simpa -dsimp -implicitDefEqProofs (disch:=first|omega|assumption) [nI,wI]using hT
theorem rgS2:List.range 2=[0,1]:=rfl
def psH (s:Sch) (n:Nat) (es:List (D × V)) (bs:List Nat) (ck:Nat):List Obj:=[.box [.d (.int .u32 s.id),.d (.list (s.fields.map Fld.d)),.mp 1,.d (.int .u64 n)],.map es bs ck]
theorem sdo_no {s:Sch} {e:Evt} {n:Nat} {es:List (D × V)} {bs:List Nat} {ck:Nat} (hs:SchW s) (he:e.wf) (hn:n<1000000) (ho:e.off=(n:Int)+1) (hc:echk s e≠0):
 R 52 [.ptr 0 0,.d e.d] (psH s n es bs ck)=some ([.d (.int .i64 (echk s e))],psH s n es bs ck):=by
 have h:=echk_runs s e hs he
 generalize echk s e=q at*
 obtain⟨off,op,row,⟨ck0,cn0,cs0⟩,nm,kd⟩:=e
 obtain⟨sid,fs⟩:=s
 simp only[Evt.d,Sch.d]at ho h ⊢
 subst ho
 simp only[psH]
 generalize fs.map Fld.d=X at*
 generalize ce row=Y at*
 have a0: ¬ (n:Int)+1=0:=by omega
 have w1:IntKind.wrap .u64 (n:Int)=n:=wrap_u64 (by omega) (by omega)
 refine run_goal (rs:=[.tmp 4]) (ts:=[36]) Tryz.func52 rfl rfl rfl (by kernel_rfl) (by kernel_rfl) (.inl sp_52) (by simp[Tryz.f52]) ?_
 intro T hT
 simp -dsimp -implicitDefEqProofs (disch:=first|omega|assumption) [startSlots,nI,wI,h,hc,a0,w1,rgS2]
 simpa -dsimp -implicitDefEqProofs (disch:=first|omega|assumption) [nI,wI]using hT
theorem sdo_put {s:Sch} {e:Evt} {n:Nat} {es:List (D × V)} {bs:List Nat} {ck:Nat} (hs:SchW s) (he:e.wf) (hE:EsG es) (hn:n<1000000) (ho:e.off=(n:Int)+1) (hc:echk s e=0) (h1:e.op=1) (hr:rchk e.row=0) (hp:0<e.row.length):
 ∃es' bs' ck',EsG es'∧R 52 [.ptr 0 0,.d e.d] (psH s n es bs ck)=some ([.d (.int .i64 0)],psH s (n+1) es' bs' ck'):=by
 have h:=echk_runs s e hs he
 rw[hc]at h
 have hv:=values_runs s e.row he.row he.len hs.len
 rw[if_pos hr]at hv
 obtain⟨c0,r0,hrow⟩: ∃c0 r0,e.row=c0::r0:=by cases hh:e.row with | nil=>rw[hh]at hp;simp at hp | cons a b=>exact⟨a,b,rfl⟩
 have hc0:chk c0=0:=by
  rw[hrow]at hr
  simp only[rchk]at hr
  split at hr
  ·assumption
  ·omega
 have hec:=ecell_runs hc0
 have hvl:(vs (e.row.map valOf)).length=e.row.length:=by rw[List.length_map,List.length_map]
 have hv0:(vs (e.row.map valOf))[0]? =some (valOf c0).d:=by rw[hrow];rfl
 obtain⟨es',bs',ck',hm,hg⟩:=mapPut_is bs ck c0 (.d (.list (vs (e.row.map valOf)))) hE
 refine⟨es',bs',ck',hg, ?_⟩
 have hU:= @upd_3
 have hwl:=he.len
 obtain⟨off,op,row,⟨ck0,cn0,cs0⟩,nm,kd⟩:=e
 obtain⟨sid,fs⟩:=s
 obtain⟨xk,xn,xs⟩:=c0
 simp only[Evt.d,Sch.d,Cel.d]at ho h h1 hv hec hm hvl hv0 hwl hp ⊢
 subst ho h1
 simp only[psH]
 have hv1:0<(vs (row.map valOf)).length:=by omega
 have hv2:(vs (row.map valOf))[0]=(valOf ⟨xk,xn,xs⟩).d:=by rw[List.getElem?_eq_getElem hv1]at hv0;exact Option.some.inj hv0
 have hsz:(valOf ⟨xk,xn,xs⟩).d.cells=[(valOf ⟨xk,xn,xs⟩).d]:=by cases valOf ⟨xk,xn,xs⟩ <;> rfl
 generalize fit ⟨sid,fs⟩ (row.map valOf)=g at*
 generalize vs (row.map valOf)=Z at*
 generalize fs.map Fld.d=X at*
 generalize (valOf ⟨xk,xn,xs⟩).d=y at*
 generalize ce row=Y at*
 generalize row.length=m at*
 have a0: ¬ (n:Int)+1=0:=by omega
 have w1:IntKind.wrap .u64 (n:Int)=n:=wrap_u64 (by omega) (by omega)
 refine run_goal (rs:=[.tmp 4]) (ts:=[36]) Tryz.func52 rfl rfl rfl (by kernel_rfl) (by kernel_rfl) (.inl sp_52) (by simp[Tryz.f52]) ?_
 intro T hT
 simp -dsimp -implicitDefEqProofs (disch:=first|omega|assumption) [startSlots,nI,wI,h,hv,hec,hm,hU,hE,hvl,hv1,hv2,hsz,a0,w1,rgS2]
 simpa -dsimp -implicitDefEqProofs (disch:=first|omega|assumption) [nI,wI]using hT
theorem sdo_rem {s:Sch} {e:Evt} {n:Nat} {es:List (D × V)} {bs:List Nat} {ck:Nat} (hs:SchW s) (he:e.wf) (hE:EsG es) (hn:n<1000000) (ho:e.off=(n:Int)+1) (hc:echk s e=0) (h1:e.op=2):
 ∃es' bs' ck',EsG es'∧R 52 [.ptr 0 0,.d e.d] (psH s n es bs ck)=some ([.d (.int .i64 0)],psH s (n+1) es' bs' ck'):=by
 have h:=echk_runs s e hs he
 rw[hc]at h
 refine⟨delM es e.key.d,(match locM es e.key.d with | some i=>bs.eraseIdx i | none=>bs),ck,delM_good hE, ?_⟩
 have hU:= @del_1
 obtain⟨off,op,row,⟨ck0,cn0,cs0⟩,nm,kd⟩:=e
 obtain⟨sid,fs⟩:=s
 simp only[Evt.d,Sch.d,Cel.d]at ho h h1 ⊢
 subst ho h1
 simp only[psH]
 generalize fs.map Fld.d=X at*
 generalize ce row=Y at*
 have a0: ¬ (n:Int)+1=0:=by omega
 have w1:IntKind.wrap .u64 (n:Int)=n:=wrap_u64 (by omega) (by omega)
 refine run_goal (rs:=[.tmp 4]) (ts:=[36]) Tryz.func52 rfl rfl rfl (by kernel_rfl) (by kernel_rfl) (.inl sp_52) (by simp[Tryz.f52]) ?_
 intro T hT
 simp -dsimp -implicitDefEqProofs (disch:=first|omega|assumption) [startSlots,nI,wI,h,hU,hE,a0,w1,rgS2]
 simpa -dsimp -implicitDefEqProofs (disch:=first|omega|assumption) [nI,wI]using hT
theorem sdo_wid {s:Sch} {e:Evt} {n:Nat} {bs:List Nat} {ck:Nat} (hs:SchW s) (he:e.wf) (hn:n<1000000) (ho:e.off=(n:Int)+1) (hc:echk s e=0) (h1:e.op=3) (h0:sadd s e.name e.kind=0):
 R 52 [.ptr 0 0,.d e.d] (psH s n [] bs ck)=some ([.d (.int .i64 0)],psH (sgrow s e.name e.kind) (n+1) [] bs ck):=by
 have h:=echk_runs s e hs he
 rw[hc]at h
 have ha:=add_runs s e.name e.kind hs he.name
 obtain⟨g1,g2⟩:=add_good h0
 rw[g1,g2]at ha
 obtain⟨off,op,row,⟨ck0,cn0,cs0⟩,nm,kd⟩:=e
 obtain⟨sid,fs⟩:=s
 have hZl:((sgrow ⟨sid,fs⟩ nm kd).fields.map Fld.d).length=fs.length+1:=by simp[sgrow]
 have hZi:(sgrow ⟨sid,fs⟩ nm kd).id=sid+1:=rfl
 simp only[Evt.d,Sch.d,psH]at ho h h1 ha ⊢
 subst ho h1
 rw[hZi]
 generalize (sgrow ⟨sid,fs⟩ nm kd).fields.map Fld.d=Z at*
 generalize fs.map Fld.d=X at*
 generalize ce row=Y at*
 generalize fs.length=zn at*
 have a0: ¬ (n:Int)+1=0:=by omega
 have w1:IntKind.wrap .u64 (n:Int)=n:=wrap_u64 (by omega) (by omega)
 refine run_goal (rs:=[.tmp 4]) (ts:=[36]) Tryz.func52 rfl rfl rfl (by kernel_rfl) (by kernel_rfl) (.inl sp_52) (by simp[Tryz.f52]) ?_
 intro T hT
 simp -dsimp -implicitDefEqProofs (disch:=first|omega|assumption) [startSlots,nI,wI,h,ha,hZl,a0,w1,rgS2]
 generalize hz:loopT _ _ _ _ _ _=z
 revert z
 refine loop_any (σ:=Unit) (fun _=>[(0,.ptr 0 0),(3,.ptr 2 0),(53,.ptr 3 0)]) (fun _=>[.box [.d (.int .u32 (sid+1)),.d (.list Z),.mp 1,.d (.int .u64 n)],.map [] bs ck,.box [.d (.int .u64 ((n:Int)+1)),.d (.int .u8 3),.d (.list Y),.d (.int .u8 ck0),.d (.int .i64 cn0),.d (.str cs0),.d (.str nm),.d (.int .u8 kd)],.miter 1]) (fun _=>True) (fun _=>0) () ?_ ?_ ?_
 ·trivial
 ·simp -dsimp -implicitDefEqProofs (disch:=first|omega|assumption) [rgS2]
 intro T' f hT' _ _ ih
 subst hT'
 simp -dsimp -implicitDefEqProofs (disch:=first|omega|assumption) [nI,wI,rgS2]
 simpa -dsimp -implicitDefEqProofs (disch:=first|omega|assumption) [nI,wI]using hT
end Go.Am.Ab
