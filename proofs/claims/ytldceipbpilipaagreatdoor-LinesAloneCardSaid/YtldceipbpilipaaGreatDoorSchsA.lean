/- Schemas. -/
import Derived.Test.YtldceipbpilipaaGreatDoorBase
import Derived.Test.YtldceipbpilipaaGreatDoorSignsA
import Derived.Test.YtldceipbpilipaaGreatDoorCelsA
set_option linter.all false
namespace Go.Am.Ab
open Go.Proofs
set_option maxHeartbeats 4000000
set_option maxRecDepth 4000
theorem sgL_le (s:ByteArray): ∀ (m i:Nat), ∀x∈sgL s m i,x.1≤1114111∧(x.2.2=true→x.1<55296∨57344≤x.1)
 |0,_,x,h=>by cases h
 |m+1,i,x,h=>by
  simp only[sgL]at h
  split at h
  ·rcases List.mem_cons.1 h with rfl | h
   ·refine⟨sig_lt _, ?_⟩
    simp only
    unfold sig sgf
    (repeat' split) <;> simp only <;> intro _ <;> omega
   ·exact sgL_le s m _ x h
  ·cases h
def sgOk (x:Nat × Nat × Bool):Bool:=(decide (97≤x.1∧x.1≤122) || decide (x.1=95) || decide (127<x.1)) || (decide (48≤x.1∧x.1≤57) && decide (0<x.2.1))
def nmOk (s:ByteArray):Bool:=decide (1≤s.size∧s.size≤16) && ((sgs s).all (·.2.2) && (sgs s).all sgOk)
theorem nmOk_long {s:ByteArray} (h: ¬ (1≤s.size∧s.size≤16)):nmOk s=false:=by unfold nmOk;rw[decide_eq_false h];rfl
theorem named_runs (s:ByteArray) (hm:s.size<1000000000):R 141 [.d (.str s)] []=some ([.d (.bool (nmOk s))],[]):=by
 have hcl:=clean_runs s hm
 by_cases h1:s.size<1
 ·have h1':(s.size:Int)<1:=by omega
  rw[nmOk_long (by omega)]
  refine run_goal (rs:=[.tmp 2]) (ts:=[4]) Tryz.func141 rfl rfl rfl (by kernel_rfl) (by kernel_rfl) (.inl sp_141) (by simp[Tryz.f141]) ?_
  intro T hT
  simp -dsimp -implicitDefEqProofs (disch:=first|omega|assumption) [startSlots,nI,wI,h1']
  simpa -dsimp -implicitDefEqProofs (disch:=first|omega|assumption) [nI,wI]using hT
 have h1': ¬ (s.size:Int)<1:=by omega
 by_cases h2:16<s.size
 ·have h2':(16:Int)<s.size:=by omega
  rw[nmOk_long (by omega)]
  refine run_goal (rs:=[.tmp 2]) (ts:=[4]) Tryz.func141 rfl rfl rfl (by kernel_rfl) (by kernel_rfl) (.inl sp_141) (by simp[Tryz.f141]) ?_
  intro T hT
  simp -dsimp -implicitDefEqProofs (disch:=first|omega|assumption) [startSlots,nI,wI,h1',h2']
  simpa -dsimp -implicitDefEqProofs (disch:=first|omega|assumption) [nI,wI]using hT
 have h2': ¬ (16:Int)<s.size:=by omega
 have e:nmOk s=((sgs s).all (·.2.2) && (sgs s).all sgOk):=by unfold nmOk;rw[decide_eq_true ⟨by omega,by omega⟩];rfl
 rw[e]
 cases hall:(sgs s).all (·.2.2) with
 |false=>
  rw[hall]at hcl
  refine run_goal (rs:=[.tmp 2]) (ts:=[4]) Tryz.func141 rfl rfl rfl (by kernel_rfl) (by kernel_rfl) (.inl sp_141) (by simp[Tryz.f141]) ?_
  intro T hT
  simp -dsimp -implicitDefEqProofs (disch:=first|omega|assumption) [startSlots,nI,wI,h1',h2',hcl]
  simpa -dsimp -implicitDefEqProofs (disch:=first|omega|assumption) [nI,wI]using hT
 |true=>
  rw[hall]at hcl
  rw[Bool.true_and]
  have hle: ∀x∈sgs s,x.1≤1114111:=fun x hx=>(sgL_le s s.size 0 x hx).1
  refine run_goal (rs:=[.tmp 2]) (ts:=[4]) Tryz.func141 rfl rfl rfl (by kernel_rfl) (by kernel_rfl) (.inl sp_141) (by simp[Tryz.f141]) ?_
  intro T hT
  simp -dsimp -implicitDefEqProofs (disch:=first|omega|assumption) [startSlots,nI,wI,h1',h2',hcl]
  generalize hz:loopT _ _ _ _ _ _=z
  revert z
  refine loop_any (σ:=Nat × Nat) (fun x=>[(19,.ptr 0 0)]) (fun x=>[.siter s x.1]) (fun x=>s.size≤x.2+x.1∧x.1≤s.size∧(sgs s).all sgOk=(sgL s x.2 x.1).all sgOk) (fun x=>s.size - x.1) (0,s.size) ?_ ?_ ?_
  ·exact⟨by simp only;omega,Nat.zero_le _,rfl⟩
  ·simp -dsimp -implicitDefEqProofs (disch:=first|omega|assumption)
  intro T' f hT' ⟨i,m⟩ ⟨g1,g2,g3⟩ ih
  simp only at g1 g2 g3 ih
  by_cases hi:i<s.size
  ·obtain⟨k,rfl,e1,e2⟩:=sgL_more hi g1
   have hw:=sig_width (s:=rst s i) (by rw[rst_size g2];omega)
   have hp:=sig_pos (rst s i)
   rw[rst_size g2]at hw
   have hd:=dec_sg hi
   rw[e1,List.all_cons]at g3
   generalize sig (rst s i)=x at*
   obtain⟨c,w,ok⟩:=x
   simp only at e2 hw hp g3 hd
   have goOn:sgOk (c,i,ok)=true→(sgs s).all sgOk=(sgL s k (i+w)).all sgOk:=fun h=>by rw[g3,h,Bool.true_and]
   have stop:sgOk (c,i,ok)=false→(sgs s).all sgOk=false:=fun h=>by rw[g3,h,Bool.false_and]
   clear g3
   by_cases a1:(97≤c∧c≤122)
   ·have b1:(97:Int)≤c:=by omega
    have b2:(c:Int)≤122:=by omega
    have g:=goOn (by unfold sgOk;simp[a1])
    simp -dsimp -implicitDefEqProofs (disch:=first|omega|assumption) [nI,wI,hi,hd,b1,b2]
    refine ih (i+w,k) _ _ ⟨by simp only;omega,by simp only;omega,g⟩ (by simp only;omega) ?_
    simp -dsimp -implicitDefEqProofs (disch:=first|omega|assumption)
   by_cases a2:c=95
   ·have g:=goOn (by unfold sgOk;simp[a2])
    have b0:(c:Int)=95:=by omega
    subst a2
    simp -dsimp -implicitDefEqProofs (disch:=first|omega|assumption) [nI,wI,hi,hd]
    refine ih (i+w,k) _ _ ⟨by simp only;omega,by simp only;omega,g⟩ (by simp only;omega) ?_
    simp -dsimp -implicitDefEqProofs (disch:=first|omega|assumption)
   have b0: ¬ (c:Int)=95:=by omega
   by_cases a3:127<c
   ·have g:=goOn (by unfold sgOk;simp[a3])
    have b3:(127:Int)<c:=by omega
    have b2: ¬ (c:Int)≤122:=by omega
    have b1:(97:Int)≤c:=by omega
    simp -dsimp -implicitDefEqProofs (disch:=first|omega|assumption) [nI,wI,hi,hd,b0,b1,b2,b3,a2]
    refine ih (i+w,k) _ _ ⟨by simp only;omega,by simp only;omega,g⟩ (by simp only;omega) ?_
    simp -dsimp -implicitDefEqProofs (disch:=first|omega|assumption)
   have b3: ¬ (127:Int)<c:=by omega
   by_cases a4:(48≤c∧c≤57)∧0<i
   ·have g:=goOn (by unfold sgOk;simp[a4])
    have b1: ¬ (97:Int)≤c:=by omega
    have b4:(48:Int)≤c:=by omega
    have b5:(c:Int)≤57:=by omega
    have b6:(0:Int)<i:=by omega
    have b7:0<i:=by omega
    simp -dsimp -implicitDefEqProofs (disch:=first|omega|assumption) [nI,wI,hi,hd,b0,b1,b3,b4,b5,b6,b7,a2]
    refine ih (i+w,k) _ _ ⟨by simp only;omega,by simp only;omega,g⟩ (by simp only;omega) ?_
    simp -dsimp -implicitDefEqProofs (disch:=first|omega|assumption)
   ·have g:=stop (by unfold sgOk;simp;omega)
    subst hT'
    rw[g]at hT
    by_cases b1:(97:Int)≤c
    ·have b2: ¬ (c:Int)≤122:=by omega
     have b4:(48:Int)≤c:=by omega
     have b5: ¬ (c:Int)≤57:=by omega
     simp -dsimp -implicitDefEqProofs (disch:=first|omega|assumption) [nI,wI,hi,hd,b0,b1,b2,b3,b4,b5,a2]
     simpa -dsimp -implicitDefEqProofs (disch:=first|omega|assumption) [nI,wI]using hT
    ·by_cases b4:(48:Int)≤c
     ·by_cases b5:(c:Int)≤57
      ·have b6:i=0:=by omega
       subst b6
       simp -dsimp -implicitDefEqProofs (disch:=first|omega|assumption) [nI,wI,hi,hd,b0,b1,b3,b4,b5,a2]
       simpa -dsimp -implicitDefEqProofs (disch:=first|omega|assumption) [nI,wI]using hT
      ·simp -dsimp -implicitDefEqProofs (disch:=first|omega|assumption) [nI,wI,hi,hd,b0,b1,b3,b4,b5,a2]
       simpa -dsimp -implicitDefEqProofs (disch:=first|omega|assumption) [nI,wI]using hT
     ·simp -dsimp -implicitDefEqProofs (disch:=first|omega|assumption) [nI,wI,hi,hd,b0,b1,b3,b4,a2]
      simpa -dsimp -implicitDefEqProofs (disch:=first|omega|assumption) [nI,wI]using hT
  ·have:i=s.size:=by omega
   subst this
   subst hT'
   rw[sgL_end (Nat.lt_irrefl _)]at g3
   rw[g3]at hT
   simp -dsimp -implicitDefEqProofs (disch:=first|omega|assumption) [nI,wI]
   simpa -dsimp -implicitDefEqProofs (disch:=first|omega|assumption) [nI,wI]using hT
end Go.Am.Ab
namespace Go.Am.Ab
open Go.Proofs
set_option maxHeartbeats 4000000
set_option maxRecDepth 4000
attribute [simp] V.plain
def hasN (nm:ByteArray) (l:List Fld):Bool:=l.any fun g=>decide (g.name=nm)
def idxN (nm:ByteArray):List Fld→Nat→Int
 |[],_=> -1
 |g::r,i=>if g.name=nm then i else idxN nm r (i+1)
theorem idxN_has (nm:ByteArray): ∀ (l:List Fld) (i:Nat),decide (0≤idxN nm l i)=hasN nm l
 |[],i=>rfl
 |g::r,i=>by
  have ih:=idxN_has nm r (i+1)
  unfold idxN
  unfold hasN at ih ⊢
  rw[List.any_cons]
  split
  ·rename_i h
   rw[decide_eq_true h,Bool.true_or]
   exact decide_eq_true (by omega)
  ·rename_i h
   rw[decide_eq_false h,Bool.false_or,ih]
def chkF (seen:List Fld) (prev:Int) (f:Fld):Int:=
 if f.id≤prev then 81 else if !nmOk f.name || hasN f.name seen then 80 else if f.kind<1∨3<f.kind then 10
 else if f.need=seen.isEmpty∧ ¬ (seen.isEmpty=true∧f.kind=2) then 0 else 82
def chkL:List Fld→Int→List Fld→Int
 |_,_,[]=>0
 |seen,prev,f::r=>if chkF seen prev f=0 then chkL (seen++[f]) f.id r else chkF seen prev f
def schk (s:Sch):Int:=if s.id=0∨s.fields.length=0∨8<s.fields.length then 1 else chkL [] 0 s.fields
def prevId (fs:List Fld) (k:Nat):Int:=match k with | 0=>0 | k+1=>match fs[k]? with | some f=>f.id | none=>0
theorem chkL_more {fs:List Fld} {k:Nat} {f:Fld} (hk:k<fs.length) (hf:fs[k]=f) (prev:Int):
 chkL (fs.take k) prev (fs.drop k)=if chkF (fs.take k) prev f=0 then chkL (fs.take (k+1)) f.id (fs.drop (k+1)) else chkF (fs.take k) prev f:=by
 rw[List.drop_eq_getElem_cons hk,hf,List.take_succ_eq_append_getElem hk,hf]
 rfl
theorem prevId_succ {fs:List Fld} {k:Nat} {f:Fld} (hk:k<fs.length) (hf:fs[k]=f):prevId fs (k+1)=f.id:=by
 simp only[prevId,List.getElem?_eq_getElem hk,hf]
theorem take_empty {fs:List Fld} {k:Nat} (hk:k<fs.length):(fs.take k).isEmpty=decide (k=0):=by
 cases k with
 |zero=>rfl
 |succ k=>cases fs with
  |nil=>simp at hk
  |cons f r=>rfl
theorem sright_runs (k:Int):R 144 [.d (.int .u8 k)] []=some ([.d (.bool (decide (1≤k∧k≤3)))],[]):=by
 by_cases h1:1≤k
 ·by_cases h2:k≤3
  ·rw[decide_eq_true ⟨h1,h2⟩]
   refine run_goal (rs:=[.tmp 2]) (ts:=[4]) Tryz.func144 rfl rfl rfl (by kernel_rfl) (by kernel_rfl) (.inl sp_144) (by simp[Tryz.f144]) ?_
   intro T hT
   simp -dsimp -implicitDefEqProofs (disch:=first|omega|assumption) [startSlots,nI,wI,h1,h2]
   simpa -dsimp -implicitDefEqProofs (disch:=first|omega|assumption) [nI,wI]using hT
  ·rw[decide_eq_false (fun h=>h2 h.2)]
   refine run_goal (rs:=[.tmp 2]) (ts:=[4]) Tryz.func144 rfl rfl rfl (by kernel_rfl) (by kernel_rfl) (.inl sp_144) (by simp[Tryz.f144]) ?_
   intro T hT
   simp -dsimp -implicitDefEqProofs (disch:=first|omega|assumption) [startSlots,nI,wI,h1,h2]
   simpa -dsimp -implicitDefEqProofs (disch:=first|omega|assumption) [nI,wI]using hT
 ·rw[decide_eq_false (fun h=>h1 h.1)]
  refine run_goal (rs:=[.tmp 2]) (ts:=[4]) Tryz.func144 rfl rfl rfl (by kernel_rfl) (by kernel_rfl) (.inl sp_144) (by simp[Tryz.f144]) ?_
  intro T hT
  simp -dsimp -implicitDefEqProofs (disch:=first|omega|assumption) [startSlots,nI,wI,h1]
  simpa -dsimp -implicitDefEqProofs (disch:=first|omega|assumption) [nI,wI]using hT
theorem fsame_runs (f g:Fld):R 143 [.d f.d,.ptr 0 0] [.box [.d (.int .u32 g.id),.d (.str g.name),.d (.int .u8 g.kind),.d (.bool g.need)]]=some ([.d (.bool (decide (f.name=g.name)))],[.box [.d (.int .u32 g.id),.d (.str g.name),.d (.int .u8 g.kind),.d (.bool g.need)]]):=by
 refine run_goal (rs:=[.tmp 3]) (ts:=[4]) Tryz.func143 rfl rfl rfl (by kernel_rfl) (by kernel_rfl) (.inl sp_143) (by simp[Tryz.f143]) ?_
 intro T hT
 simp -dsimp -implicitDefEqProofs (disch:=first|omega|assumption) [startSlots,nI,wI,str_beq]
 simpa -dsimp -implicitDefEqProofs (disch:=first|omega|assumption) [nI,wI]using hT
theorem findex_runs (fs:List Fld) (g:Fld) (hl:fs.length<1000000000):R 197 [.d (.list (fs.map Fld.d)),.clo 143 [.ptr 0 0]] [.box [.d (.int .u32 g.id),.d (.str g.name),.d (.int .u8 g.kind),.d (.bool g.need)]]
 =some ([.d (.int .i64 (idxN g.name fs 0))],[.box [.d (.int .u32 g.id),.d (.str g.name),.d (.int .u8 g.kind),.d (.bool g.need)]]):=by
 refine run_goal (rs:=[.tmp 4]) (ts:=[3]) Tryz.func197 rfl rfl rfl (by kernel_rfl) (by kernel_rfl) (.inl sp_197) (by simp[Tryz.f197]) ?_
 intro T hT
 simp -dsimp -implicitDefEqProofs (disch:=first|omega|assumption) [startSlots,nI,wI]
 generalize hz:loopT _ _ _ _ _ _=z
 revert z
 refine loop_any (σ:=Nat) (fun k=>[(0,.d (.list (fs.map Fld.d))),(1,.clo 143 [.ptr 0 0]),(7,.d (.int .i64 fs.length)),(8,.d (.int .i64 k))]) (fun _=>[.box [.d (.int .u32 g.id),.d (.str g.name),.d (.int .u8 g.kind),.d (.bool g.need)]]) (fun k=>k≤fs.length∧idxN g.name fs 0=idxN g.name (fs.drop k) k) (fun k=>fs.length - k) 0 ?_ ?_ ?_
 ·exact⟨Nat.zero_le _,rfl⟩
 ·simp -dsimp -implicitDefEqProofs (disch:=first|omega|assumption)
 intro T' f hT' k ⟨g1,g2⟩ ih
 by_cases hk:k<fs.length
 ·obtain⟨x,hx⟩: ∃x,fs[k]=x:=⟨_,rfl⟩
  have hs:=fsame_runs x g
  rw[List.drop_eq_getElem_cons hk,hx]at g2
  simp only[idxN]at g2
  by_cases he:x.name=g.name
  ·rw[if_pos he]at g2
   rw[decide_eq_true he]at hs
   subst hT'
   rw[g2]at hT
   obtain⟨xi,xn,xk,xd⟩:=x
   simp only[Fld.d]at hs
   simp -dsimp -implicitDefEqProofs (disch:=first|omega|assumption) [nI,wI,hk,hx,hs]
   simpa -dsimp -implicitDefEqProofs (disch:=first|omega|assumption) [nI,wI]using hT
  ·rw[if_neg he]at g2
   rw[decide_eq_false he]at hs
   obtain⟨xi,xn,xk,xd⟩:=x
   simp only[Fld.d]at hs
   simp -dsimp -implicitDefEqProofs (disch:=first|omega|assumption) [nI,wI,hk,hx,hs]
   refine ih (k+1) _ _ ⟨by omega,g2⟩ (by omega) ?_
   simp -dsimp -implicitDefEqProofs (disch:=first|omega|assumption) [wI]
 ·have:k=fs.length:=by omega
  subst this
  rw[List.drop_length,show idxN g.name [] fs.length= -1 from rfl]at g2
  subst hT'
  rw[g2]at hT
  simp -dsimp -implicitDefEqProofs (disch:=first|omega|assumption) [nI,wI]
  simpa -dsimp -implicitDefEqProofs (disch:=first|omega|assumption) [nI,wI]using hT
theorem fcontains_runs (fs:List Fld) (g:Fld) (hl:fs.length<1000000000):R 142 [.d (.list (fs.map Fld.d)),.clo 143 [.ptr 0 0]] [.box [.d (.int .u32 g.id),.d (.str g.name),.d (.int .u8 g.kind),.d (.bool g.need)]]
 =some ([.d (.bool (hasN g.name fs))],[.box [.d (.int .u32 g.id),.d (.str g.name),.d (.int .u8 g.kind),.d (.bool g.need)]]):=by
 have h:=findex_runs fs g hl
 rw[← idxN_has g.name fs 0]
 refine run_goal (rs:=[.tmp 4]) (ts:=[4]) Tryz.func142 rfl rfl rfl (by kernel_rfl) (by kernel_rfl) (.inl sp_142) (by simp[Tryz.f142]) ?_
 intro T hT
 simp -dsimp -implicitDefEqProofs (disch:=first|omega|assumption) [startSlots,nI,wI,h]
 simpa -dsimp -implicitDefEqProofs (disch:=first|omega|assumption) [nI,wI]using hT
theorem chkF_id {l:List Fld} {p:Int} {f:Fld} (h:f.id≤p):chkF l p f=81:=by unfold chkF;rw[if_pos h]
theorem chkF_name {l:List Fld} {p:Int} {f:Fld} (h: ¬ f.id≤p) (h2:nmOk f.name=false∨hasN f.name l=true):chkF l p f=80:=by
 unfold chkF;rw[if_neg h,if_pos];rcases h2 with h2 | h2 <;> simp[h2]
theorem chkF_kind {l:List Fld} {p:Int} {f:Fld} (h: ¬ f.id≤p) (h2:nmOk f.name=true) (h3:hasN f.name l=false) (h4:f.kind<1∨3<f.kind):chkF l p f=10:=by
 unfold chkF;rw[if_neg h,if_neg (by simp[h2,h3]),if_pos h4]
theorem chkF_end {l:List Fld} {p:Int} {f:Fld} (h: ¬ f.id≤p) (h2:nmOk f.name=true) (h3:hasN f.name l=false) (h4: ¬ (f.kind<1∨3<f.kind)):
 chkF l p f=if f.need=l.isEmpty∧ ¬ (l.isEmpty=true∧f.kind=2) then 0 else 82:=by
 unfold chkF;rw[if_neg h,if_neg (by simp[h2,h3]),if_neg h4]
theorem scheck_runs (s:Sch) (hid:0≤s.id) (hf: ∀f∈s.fields,f.name.size<1000000000) (hl:s.fields.length<1000000000):R 73 [.d s.d] []=some ([.d (.int .i64 (schk s))],[]):=by
 obtain⟨sid,fs⟩:=s
 simp only at hid hf hl
 unfold schk
 simp only
 by_cases h1:sid<1
 ·rw[if_pos (.inl (by omega))]
  refine run_goal (rs:=[.tmp 2]) (ts:=[36]) Tryz.func73 rfl rfl rfl (by kernel_rfl) (by kernel_rfl) (.inl sp_73) (by simp[Tryz.f73]) ?_
  intro T hT
  simp -dsimp -implicitDefEqProofs (disch:=first|omega|assumption) [startSlots,nI,wI,h1]
  simpa -dsimp -implicitDefEqProofs (disch:=first|omega|assumption) [nI,wI]using hT
 by_cases h2:fs.length<1
 ·rw[if_pos (.inr (.inl (by omega)))]
  have h2':(fs.length:Int)<1:=by omega
  refine run_goal (rs:=[.tmp 2]) (ts:=[36]) Tryz.func73 rfl rfl rfl (by kernel_rfl) (by kernel_rfl) (.inl sp_73) (by simp[Tryz.f73]) ?_
  intro T hT
  simp -dsimp -implicitDefEqProofs (disch:=first|omega|assumption) [startSlots,nI,wI,h1,h2']
  simpa -dsimp -implicitDefEqProofs (disch:=first|omega|assumption) [nI,wI]using hT
 have h2': ¬ (fs.length:Int)<1:=by omega
 by_cases h3:8<fs.length
 ·rw[if_pos (.inr (.inr h3))]
  have h3':(8:Int)<fs.length:=by omega
  refine run_goal (rs:=[.tmp 2]) (ts:=[36]) Tryz.func73 rfl rfl rfl (by kernel_rfl) (by kernel_rfl) (.inl sp_73) (by simp[Tryz.f73]) ?_
  intro T hT
  simp -dsimp -implicitDefEqProofs (disch:=first|omega|assumption) [startSlots,nI,wI,h1,h2',h3']
  simpa -dsimp -implicitDefEqProofs (disch:=first|omega|assumption) [nI,wI]using hT
 have h3': ¬ (8:Int)<fs.length:=by omega
 rw[if_neg (by omega)]
 refine run_goal (rs:=[.tmp 2]) (ts:=[36]) Tryz.func73 rfl rfl rfl (by kernel_rfl) (by kernel_rfl) (.inl sp_73) (by simp[Tryz.f73]) ?_
 intro T hT
 simp -dsimp -implicitDefEqProofs (disch:=first|omega|assumption) [startSlots,nI,wI,h1,h2',h3']
 generalize hz:loopT _ _ _ _ _ _=z
 revert z
 refine loop_any (σ:=Nat) (fun k=>[(1,.ptr 0 0),(3,.d (.int .u32 (prevId fs k))),(22,.d (.list (fs.map Fld.d))),(23,.d (.int .i64 fs.length)),(24,.d (.int .i64 k))]) (fun _=>[.box [.d (.int .u32 sid),.d (.list (fs.map Fld.d))]]) (fun k=>k≤fs.length∧chkL [] 0 fs=chkL (fs.take k) (prevId fs k) (fs.drop k)) (fun k=>fs.length - k) 0 ?_ ?_ ?_
 ·exact⟨Nat.zero_le _,rfl⟩
 ·simp -dsimp -implicitDefEqProofs (disch:=first|omega|assumption) [prevId]
 intro T' fn hT' k ⟨g1,g2⟩ ih
 by_cases hk:k<fs.length
 ·obtain⟨x,hx⟩: ∃x,fs[k]=x:=⟨_,rfl⟩
  rw[chkL_more hk hx]at g2
  have hp:=prevId_succ hk hx
  have hnm:=named_runs x.name (hf x (hx ▸ List.getElem_mem hk))
  have hcn:=fcontains_runs (fs.take k) x (by rw[List.length_take];omega)
  rw[List.map_take]at hcn
  have he:=take_empty hk
  obtain⟨xi,xn,xk,xd⟩:=x
  simp only at hnm hcn hp
  generalize prevId fs k=p at*
  by_cases a1:xi≤p
  ·rw[chkF_id a1,if_neg (by decide)]at g2
   subst hT'
   rw[g2]at hT
   simp -dsimp -implicitDefEqProofs (disch:=first|omega|assumption) [nI,wI,hk,hx,a1]
   simpa -dsimp -implicitDefEqProofs (disch:=first|omega|assumption) [nI,wI]using hT
  cases a2:nmOk xn with
  |false=>
   rw[chkF_name a1 (.inl a2),if_neg (by decide)]at g2
   rw[a2]at hnm
   subst hT'
   rw[g2]at hT
   simp -dsimp -implicitDefEqProofs (disch:=first|omega|assumption) [nI,wI,hk,hx,a1,hnm]
   simpa -dsimp -implicitDefEqProofs (disch:=first|omega|assumption) [nI,wI]using hT
  |true=>
  rw[a2]at hnm
  cases a3:hasN xn (fs.take k) with
  |true=>
   rw[chkF_name a1 (.inr a3),if_neg (by decide)]at g2
   rw[a3]at hcn
   subst hT'
   rw[g2]at hT
   simp -dsimp -implicitDefEqProofs (disch:=first|omega|assumption) [nI,wI,hk,hx,a1,hnm,hcn]
   simpa -dsimp -implicitDefEqProofs (disch:=first|omega|assumption) [nI,wI]using hT
  |false=>
  rw[a3]at hcn
  have hr:=sright_runs xk
  by_cases a4:xk<1∨3<xk
  ·rw[chkF_kind a1 a2 a3 a4,if_neg (by decide)]at g2
   rw[decide_eq_false (by omega)]at hr
   subst hT'
   rw[g2]at hT
   simp -dsimp -implicitDefEqProofs (disch:=first|omega|assumption) [nI,wI,hk,hx,a1,hnm,hcn,hr]
   simpa -dsimp -implicitDefEqProofs (disch:=first|omega|assumption) [nI,wI]using hT
  have hend:=chkF_end (l:=fs.take k) (p:=p) (f:=⟨xi,xn,xk,xd⟩) a1 a2 a3 a4
  rw[he]at hend
  generalize chkF (fs.take k) p ⟨xi,xn,xk,xd⟩=c at g2 hend
  rw[decide_eq_true (by omega)]at hr
  simp only at hend
  cases k with
  |zero=>
   rw[decide_eq_true rfl]at hend
   rw[List.take_zero]at hcn
   cases xd with
   |false=>
    rw[if_neg (by simp)]at hend
    rw[hend,if_neg (by decide)]at g2
    subst hT'
    rw[g2]at hT
    simp -dsimp -implicitDefEqProofs (disch:=first|omega|assumption) [nI,wI,hk,hx,a1,hnm,hcn,hr]
    simpa -dsimp -implicitDefEqProofs (disch:=first|omega|assumption) [nI,wI]using hT
   |true=>
    by_cases a5:xk=2
    ·rw[if_neg (by simp[a5])]at hend
     rw[hend,if_neg (by decide)]at g2
     subst hT'
     rw[g2]at hT
     subst a5
     simp -dsimp -implicitDefEqProofs (disch:=first|omega|assumption) [nI,wI,hk,hx,a1,hnm,hcn,hr]
     simpa -dsimp -implicitDefEqProofs (disch:=first|omega|assumption) [nI,wI]using hT
    ·rw[if_pos (by simp[a5])]at hend
     rw[if_pos hend]at g2
     simp -dsimp -implicitDefEqProofs (disch:=first|omega|assumption) [nI,wI,hk,hx,a1,hnm,hcn,hr,a5]
     have hp1:prevId fs 1=xi:=hp
     refine ih 1 _ _ ⟨by omega,by rw[hp1];exact g2⟩ (by omega) ?_
     simp -dsimp -implicitDefEqProofs (disch:=first|omega|assumption) [wI,hp1]
  |succ k=>
   rw[decide_eq_false (by omega)]at hend
   have b1: ¬ (k:Int)+1=0:=by omega
   have b2:(k:Int)+1<(fs.length:Int):=by omega
   cases xd with
   |true=>
    rw[if_neg (by simp)]at hend
    rw[hend,if_neg (by decide)]at g2
    subst hT'
    rw[g2]at hT
    simp -dsimp -implicitDefEqProofs (disch:=first|omega|assumption) [nI,wI,hk,b2,hx,a1,hnm,hcn,hr,b1]
    simpa -dsimp -implicitDefEqProofs (disch:=first|omega|assumption) [nI,wI]using hT
   |false=>
    rw[if_pos (by simp)]at hend
    rw[if_pos hend]at g2
    simp -dsimp -implicitDefEqProofs (disch:=first|omega|assumption) [nI,wI,hk,b2,hx,a1,hnm,hcn,hr,b1]
    refine ih (k+1+1) _ _ ⟨by omega,by rw[hp];exact g2⟩ (by omega) ?_
    simp -dsimp -implicitDefEqProofs (disch:=first|omega|assumption) [wI,hp]
 ·have:k=fs.length:=by omega
  subst this
  rw[List.drop_length,show ∀l p,chkL l p []=0 from fun _ _=>rfl]at g2
  subst hT'
  rw[g2]at hT
  simp -dsimp -implicitDefEqProofs (disch:=first|omega|assumption) [nI,wI]
  simpa -dsimp -implicitDefEqProofs (disch:=first|omega|assumption) [nI,wI]using hT
end Go.Am.Ab
namespace Go.Am.Ab
open Go.Proofs
set_option maxHeartbeats 4000000
set_option maxRecDepth 4000
end Go.Am.Ab
namespace Go.Am.Ab
open Go.Proofs
set_option maxHeartbeats 4000000
set_option maxRecDepth 4000
def fitV (f:Fld) (v:Val):Int:=
 match v with
 |.null=>if f.need=true then 82 else 0
 |.text s=>if f.kind≠3 then 10 else if 64<s.size then 5 else 0
 |v=>if f.kind≠v.kind then 10 else 0
def fitL:List Fld→List Val→Int
 |f::fs,v::vs=>if fitV f v=0 then fitL fs vs else fitV f v
 |_,_=>0
def fit (s:Sch) (l:List Val):Int:=if l.length≠s.fields.length then 1 else fitL s.fields l
theorem fitV_text {xi:Int} {xn:ByteArray} {xd:Bool} {t:ByteArray}:fitV ⟨xi,xn,3,xd⟩ (.text t)=if 64<t.size then 5 else 0:=rfl
theorem fitL_more {fs:List Fld} {l:List Val} {k:Nat} {f:Fld} {v:Val} (hk:k<fs.length) (hl:k<l.length) (hf:fs[k]=f) (hv:l[k]=v):
 fitL (fs.drop k) (l.drop k)=if fitV f v=0 then fitL (fs.drop (k+1)) (l.drop (k+1)) else fitV f v:=by
 rw[List.drop_eq_getElem_cons hk,List.drop_eq_getElem_cons hl,hf,hv]
 rfl
theorem fitL_end (fs:List Fld) (l:List Val) {k:Nat} (hk:fs.length≤k):fitL (fs.drop k) (l.drop k)=0:=by
 rw[List.drop_eq_nil_of_le hk];rfl
theorem fit_runs (s:Sch) (l:List Val) (hl:s.fields.length<1000000000) (hm:l.length<1000000000):R 164 [.d s.d,.d (.list (vs l))] []=some ([.d (.int .i64 (fit s l))],[]):=by
 obtain⟨sid,fs⟩:=s
 simp only at hl
 unfold fit
 simp only
 by_cases h1:l.length=fs.length
 ·rw[if_neg (not_not_intro h1)]
  have h1':(l.length:Int)=fs.length:=by omega
  refine run_goal (rs:=[.tmp 4]) (ts:=[36]) Tryz.func164 rfl rfl rfl (by kernel_rfl) (by kernel_rfl) (.inl sp_164) (by simp[Tryz.f164]) ?_
  intro T hT
  simp -dsimp -implicitDefEqProofs (disch:=first|omega|assumption) [startSlots,nI,wI,h1']
  generalize hz:loopT _ _ _ _ _ _=z
  revert z
  refine loop_any (σ:=Nat) (fun k=>[(1,.d (.list (vs l))),(16,.d (.list (fs.map Fld.d))),(17,.d (.int .i64 fs.length)),(18,.d (.int .i64 k))]) (fun _=>[]) (fun k=>k≤fs.length∧fitL fs l=fitL (fs.drop k) (l.drop k)) (fun k=>fs.length - k) 0 ?_ ?_ ?_
  ·exact⟨Nat.zero_le _,rfl⟩
  ·simp -dsimp -implicitDefEqProofs (disch:=first|omega|assumption)
  intro T' fn hT' k ⟨g1,g2⟩ ih
  by_cases hk:k<fs.length
  ·have hk2:k<l.length:=by omega
   obtain⟨x,hx⟩: ∃x,fs[k]=x:=⟨_,rfl⟩
   obtain⟨v,hv⟩: ∃v,l[k]=v:=⟨_,rfl⟩
   rw[fitL_more hk hk2 hx hv]at g2
   obtain⟨xi,xn,xk,xd⟩:=x
   cases v with
   |null=>
    cases xd with
    |true=>
     rw[show fitV ⟨xi,xn,xk,true⟩ .null=82 from rfl,if_neg (by decide)]at g2
     subst hT'
     rw[g2]at hT
     simp -dsimp -implicitDefEqProofs (disch:=first|omega|assumption) [nI,wI,hk,hk2,hx,hv,Val.d]
     simpa -dsimp -implicitDefEqProofs (disch:=first|omega|assumption) [nI,wI]using hT
    |false=>
     rw[show fitV ⟨xi,xn,xk,false⟩ .null=0 from rfl,if_pos rfl]at g2
     simp -dsimp -implicitDefEqProofs (disch:=first|omega|assumption) [nI,wI,hk,hk2,hx,hv,Val.d]
     refine ih (k+1) _ _ ⟨by omega,g2⟩ (by omega) ?_
     simp -dsimp -implicitDefEqProofs (disch:=first|omega|assumption) [wI]
   |whole n=>
    have hko:R 84 [.d (.iface 2 (.int .i64 n))] []=some ([.d (.int .u8 1)],[]):=kindOf_runs (.whole n)
    by_cases a1:(1:Int)=xk
    ·subst a1
     rw[show fitV ⟨xi,xn,1,xd⟩ (.whole n)=0 from rfl,if_pos rfl]at g2
     simp -dsimp -implicitDefEqProofs (disch:=first|omega|assumption) [nI,wI,hk,hk2,hx,hv,Val.d,hko]
     refine ih (k+1) _ _ ⟨by omega,g2⟩ (by omega) ?_
     simp -dsimp -implicitDefEqProofs (disch:=first|omega|assumption) [wI]
    ·rw[show fitV ⟨xi,xn,xk,xd⟩ (.whole n)=10 from if_pos (fun h=>a1 h.symm),if_neg (by decide)]at g2
     subst hT'
     rw[g2]at hT
     simp -dsimp -implicitDefEqProofs (disch:=first|omega|assumption) [nI,wI,hk,hk2,hx,hv,Val.d,hko,a1]
     simpa -dsimp -implicitDefEqProofs (disch:=first|omega|assumption) [nI,wI]using hT
   |truth b=>
    have hko:R 84 [.d (.iface 4 (.bool b))] []=some ([.d (.int .u8 2)],[]):=kindOf_runs (.truth b)
    by_cases a1:(2:Int)=xk
    ·subst a1
     rw[show fitV ⟨xi,xn,2,xd⟩ (.truth b)=0 from rfl,if_pos rfl]at g2
     simp -dsimp -implicitDefEqProofs (disch:=first|omega|assumption) [nI,wI,hk,hk2,hx,hv,Val.d,hko]
     refine ih (k+1) _ _ ⟨by omega,g2⟩ (by omega) ?_
     simp -dsimp -implicitDefEqProofs (disch:=first|omega|assumption) [wI]
    ·rw[show fitV ⟨xi,xn,xk,xd⟩ (.truth b)=10 from if_pos (fun h=>a1 h.symm),if_neg (by decide)]at g2
     subst hT'
     rw[g2]at hT
     simp -dsimp -implicitDefEqProofs (disch:=first|omega|assumption) [nI,wI,hk,hk2,hx,hv,Val.d,hko,a1]
     simpa -dsimp -implicitDefEqProofs (disch:=first|omega|assumption) [nI,wI]using hT
   |text t=>
    have hko:R 84 [.d (.iface 9 (.str t))] []=some ([.d (.int .u8 3)],[]):=kindOf_runs (.text t)
    by_cases a1:(3:Int)=xk
    ·subst a1
     by_cases a2:64<t.size
     ·have a2':(64:Int)<t.size:=by omega
      rw[fitV_text,if_pos a2,if_neg (by decide)]at g2
      subst hT'
      rw[g2]at hT
      simp -dsimp -implicitDefEqProofs (disch:=first|omega|assumption) [nI,wI,hk,hk2,hx,hv,Val.d,hko,a2']
      simpa -dsimp -implicitDefEqProofs (disch:=first|omega|assumption) [nI,wI]using hT
     ·have a2': ¬ (64:Int)<t.size:=by omega
      rw[fitV_text,if_neg a2,if_pos rfl]at g2
      simp -dsimp -implicitDefEqProofs (disch:=first|omega|assumption) [nI,wI,hk,hk2,hx,hv,Val.d,hko,a2']
      refine ih (k+1) _ _ ⟨by omega,g2⟩ (by omega) ?_
      simp -dsimp -implicitDefEqProofs (disch:=first|omega|assumption) [wI]
    ·rw[show fitV ⟨xi,xn,xk,xd⟩ (.text t)=10 from if_pos (fun h=>a1 h.symm),if_neg (by decide)]at g2
     subst hT'
     rw[g2]at hT
     simp -dsimp -implicitDefEqProofs (disch:=first|omega|assumption) [nI,wI,hk,hk2,hx,hv,Val.d,hko,a1]
     simpa -dsimp -implicitDefEqProofs (disch:=first|omega|assumption) [nI,wI]using hT
  ·have:k=fs.length:=by omega
   subst this
   rw[fitL_end _ _ (Nat.le_refl _)]at g2
   subst hT'
   rw[g2]at hT
   simp -dsimp -implicitDefEqProofs (disch:=first|omega|assumption) [nI,wI]
   simpa -dsimp -implicitDefEqProofs (disch:=first|omega|assumption) [nI,wI]using hT
 ·rw[if_pos h1]
  have h1': ¬ (l.length:Int)=fs.length:=by omega
  refine run_goal (rs:=[.tmp 4]) (ts:=[36]) Tryz.func164 rfl rfl rfl (by kernel_rfl) (by kernel_rfl) (.inl sp_164) (by simp[Tryz.f164]) ?_
  intro T hT
  simp -dsimp -implicitDefEqProofs (disch:=first|omega|assumption) [startSlots,nI,wI,h1']
  simpa -dsimp -implicitDefEqProofs (disch:=first|omega|assumption) [nI,wI]using hT
end Go.Am.Ab
