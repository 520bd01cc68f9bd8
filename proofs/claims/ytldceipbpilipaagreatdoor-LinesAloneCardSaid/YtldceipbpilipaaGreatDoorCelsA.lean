/- Cells, values. -/
import Derived.Test.YtldceipbpilipaaGreatDoorBase
set_option linter.all false
namespace Go.Am.Ab
open Go.Proofs
set_option maxHeartbeats 4000000
set_option maxRecDepth 4000
attribute [simp] ifaceV assertV
structure Cel where
 kind:Nat
 n:Int
 s:ByteArray
 deriving DecidableEq
abbrev noS:ByteArray:=⟨#[]⟩
def Cel.none:Cel:=⟨0,0,noS⟩
def Cel.d (c:Cel):D:= .agg [.int .u8 c.kind,.int .i64 c.n,.str c.s]
inductive Val where
 |null
 |whole (n:Int)
 |truth (b:Bool)
 |text (s:ByteArray)
 deriving DecidableEq
def Val.d:Val→D
 |.null=> .nilI
 |.whole n=> .iface 2 (.int .i64 n)
 |.truth b=> .iface 4 (.bool b)
 |.text s=> .iface 9 (.str s)
def Val.kind:Val→Nat
 |.null=>0
 |.whole _=>1
 |.truth _=>2
 |.text _=>3
abbrev vs (l:List Val):List D:=l.map Val.d
abbrev ce (l:List Cel):List D:=l.map Cel.d
theorem bytes_inj {a b:ByteArray} (h:a.toList=b.toList):a=b:=by
 rw[ByteArray.toList_eq,ByteArray.toList_eq]at h
 obtain⟨⟨x⟩⟩:=a
 obtain⟨⟨y⟩⟩:=b
 simp at h
 rw[h]
theorem str_beq (a b:ByteArray):(a.toList == b.toList)=decide (a=b):=by
 by_cases e:a=b
 ·subst e;simp
 ·rw[decide_eq_false e]
  exact beq_false_of_ne fun h=>e (bytes_inj h)
theorem str_empty (a:ByteArray):a.toList.isEmpty=decide (a=noS):=by
 rw[← str_beq]
 have:noS.toList=[]:=by rw[ByteArray.toList_eq]
 rw[this]
 cases a.toList <;> rfl
theorem allSize_map0 {α:Type} {g:α→D} {n:Nat} (l:List α) (h: ∀a,(g a).cells.length=n):allSize n (l.map g)=true:=by
 induction l with
 |nil=>rfl
 |cons a l ih=>rw[List.map_cons,allSize,ih,h a];simp
@[simp] theorem allSize_vs (l:List Val):allSize 1 (l.map Val.d)=true:=allSize_map0 l fun v=>by cases v <;> rfl
@[simp] theorem allSize_ce (l:List Cel):allSize 3 (l.map Cel.d)=true:=allSize_map0 l fun v=>rfl
@[simp] theorem cells_val (v:Val):v.d.cells=[v.d]:=by cases v <;> rfl
@[simp] theorem vcells_val (v:Val):(V.d v.d).cells=[V.d v.d]:=by cases v <;> rfl
def preD {α:Type} (g:α→D) (p:List α) (i:Nat):List D:=(p.take i).map g
theorem preD_zero {α:Type} (g:α→D) (p:List α):preD g p 0=[]:=rfl
theorem preD_succ {α:Type} {g:α→D} {p:List α} {i:Nat} (h:i<p.length):preD g p (i+1)=preD g p i++[g p[i]]:=by
 unfold preD;rw[List.take_succ_eq_append_getElem h,List.map_append];rfl
theorem preD_length {α:Type} {g:α→D} {p:List α} {i:Nat} (h:i≤p.length):(preD g p i).length=i:=by simp[preD];omega
theorem preD_end {α:Type} {g:α→D} {p:List α} {i:Nat} (h:p.length≤i):preD g p i=p.map g:=by rw[preD,List.take_of_length_le h]
def chk (c:Cel):Nat:=
 if 3<c.kind then 10 else
 if (c.kind≠3∧c.s≠noS)∨(c.kind≠1∧c.kind≠2∧c.n≠0)∨(c.kind=2∧c.n≠0∧c.n≠1) then 1 else
 if 64<c.s.size then 5 else 0
end Go.Am.Ab
namespace Go.Am.Ab
open Go.Proofs
set_option maxHeartbeats 4000000
set_option maxRecDepth 4000
end Go.Am.Ab
namespace Go.Am.Ab
open Go.Proofs
set_option maxHeartbeats 4000000
set_option maxRecDepth 4000
theorem cel_d (c:Cel):c.d= .agg [.int .u8 c.kind,.int .i64 c.n,.str c.s]:=rfl
def fix (c:Cel):Cel:=if chk c=0 then c else Cel.none
theorem chk_kind {c:Cel} (h:chk c=0):c.kind≤3∧(c.kind≠3→c.s=noS)∧(c.kind≠1→c.kind≠2→c.n=0)∧(c.kind=2→c.n=0∨c.n=1)∧c.s.size≤64:=by
 unfold chk at h
 split at h
 ·omega
 ·split at h
  ·omega
  ·rename_i h1 h2
   split at h
   ·omega
   ·refine⟨by omega,fun a=> ?_,fun a b=> ?_,fun a=> ?_,by omega⟩
    ·exact Classical.byContradiction fun b=>h2 (.inl ⟨a,b⟩)
    ·exact Classical.byContradiction fun b'=>h2 (.inr (.inl ⟨a,b,b'⟩))
    ·exact Classical.byContradiction fun b=>h2 (.inr (.inr ⟨a,fun e=>b (.inl e),fun e=>b (.inr e)⟩))
def valOf (c:Cel):Val:=if (fix c).kind=1 then .whole (fix c).n else if (fix c).kind=2 then .truth (decide ((fix c).n=1)) else if (fix c).kind=3 then .text (fix c).s else .null
end Go.Am.Ab
namespace Go.Am.Ab
open Go.Proofs
set_option maxHeartbeats 8000000
set_option maxRecDepth 4000
theorem vd0:Val.null.d= .nilI:=rfl
theorem vd1 (n:Int):(Val.whole n).d= .iface 2 (.int .i64 n):=rfl
theorem vd2 (b:Bool):(Val.truth b).d= .iface 4 (.bool b):=rfl
theorem vd3 (s:ByteArray):(Val.text s).d= .iface 9 (.str s):=rfl
theorem vof_runs (c:Cel) (hc:c.kind<256) (hs:c.s.size≤9223372036854775807):R 83 [.d c.d] []=some ([.d (valOf c).d,.d (.int .i64 (chk c))],[]):=by
 obtain⟨k,n,s⟩:=c
 simp only at hc hs
 simp only[Cel.d]
 have hk:k=0∨k=1∨k=2∨k=3∨3<k:=by omega
 rcases hk with rfl | rfl | rfl | rfl | hk
 ·by_cases h1:n=0
  ·by_cases h2:s=noS
   ·subst h1 h2
    refine run_goal (rs:=[.tmp 2,.tmp 3]) (ts:=[162,36]) Tryz.func83 rfl rfl rfl (by kernel_rfl) (by kernel_rfl) (.inl sp_83) (by simp[Tryz.f83]) ?_
    intro T hT
    simp -dsimp -implicitDefEqProofs (disch:=first|omega|assumption) [startSlots,nI,wI,str_beq]
    simpa -dsimp -implicitDefEqProofs (disch:=first|omega|assumption) [nI,wI,valOf,fix,chk,Val.d]using hT
   ·have e:chk ⟨0,n,s⟩=1:=by simp[chk,h2]
    have h4:s.toList.isEmpty=false:=by rw[str_empty];simp[h2]
    rw[show valOf ⟨0,n,s⟩= .null by simp[valOf,fix,e,Cel.none],e,vd0]
    refine run_goal (rs:=[.tmp 2,.tmp 3]) (ts:=[162,36]) Tryz.func83 rfl rfl rfl (by kernel_rfl) (by kernel_rfl) (.inl sp_83) (by simp[Tryz.f83]) ?_
    intro T hT
    simp -dsimp -implicitDefEqProofs (disch:=first|omega|assumption) [startSlots,nI,wI,h1,h4]
    simpa -dsimp -implicitDefEqProofs (disch:=first|omega|assumption) [nI,wI]using hT
  ·have e:chk ⟨0,n,s⟩=1:=by simp[chk,h1]
   rw[show valOf ⟨0,n,s⟩= .null by simp[valOf,fix,e,Cel.none],e,vd0]
   refine run_goal (rs:=[.tmp 2,.tmp 3]) (ts:=[162,36]) Tryz.func83 rfl rfl rfl (by kernel_rfl) (by kernel_rfl) (.inl sp_83) (by simp[Tryz.f83]) ?_
   intro T hT
   simp -dsimp -implicitDefEqProofs (disch:=first|omega|assumption) [startSlots,nI,wI,h1,str_beq]
   simpa -dsimp -implicitDefEqProofs (disch:=first|omega|assumption) [nI,wI]using hT
 ·by_cases h2:s=noS
  ·subst h2
   have e:chk ⟨1,n,noS⟩=0:=by simp[chk]
   rw[show valOf ⟨1,n,noS⟩= .whole n by simp[valOf,fix,e],e,vd1]
   refine run_goal (rs:=[.tmp 2,.tmp 3]) (ts:=[162,36]) Tryz.func83 rfl rfl rfl (by kernel_rfl) (by kernel_rfl) (.inl sp_83) (by simp[Tryz.f83]) ?_
   intro T hT
   simp -dsimp -implicitDefEqProofs (disch:=first|omega|assumption) [startSlots,nI,wI,str_beq]
   simpa -dsimp -implicitDefEqProofs (disch:=first|omega|assumption) [nI,wI]using hT
  ·have e:chk ⟨1,n,s⟩=1:=by simp[chk,h2]
   have h4:s.toList.isEmpty=false:=by rw[str_empty];simp[h2]
   rw[show valOf ⟨1,n,s⟩= .null by simp[valOf,fix,e,Cel.none],e,vd0]
   refine run_goal (rs:=[.tmp 2,.tmp 3]) (ts:=[162,36]) Tryz.func83 rfl rfl rfl (by kernel_rfl) (by kernel_rfl) (.inl sp_83) (by simp[Tryz.f83]) ?_
   intro T hT
   simp -dsimp -implicitDefEqProofs (disch:=first|omega|assumption) [startSlots,nI,wI,h4]
   simpa -dsimp -implicitDefEqProofs (disch:=first|omega|assumption) [nI,wI]using hT
 ·by_cases h2:s=noS
  ·subst h2
   by_cases h1:n=0
   ·subst h1
    rw[show valOf ⟨2,0,noS⟩= .truth false by simp[valOf,fix,chk],show chk ⟨2,0,noS⟩=0 by simp[chk],vd2]
    refine run_goal (rs:=[.tmp 2,.tmp 3]) (ts:=[162,36]) Tryz.func83 rfl rfl rfl (by kernel_rfl) (by kernel_rfl) (.inl sp_83) (by simp[Tryz.f83]) ?_
    intro T hT
    simp -dsimp -implicitDefEqProofs (disch:=first|omega|assumption) [startSlots,nI,wI,str_beq]
    simpa -dsimp -implicitDefEqProofs (disch:=first|omega|assumption) [nI,wI]using hT
   ·by_cases h3:n=1
    ·subst h3
     rw[show valOf ⟨2,1,noS⟩= .truth true by simp[valOf,fix,chk],show chk ⟨2,1,noS⟩=0 by simp[chk],vd2]
     refine run_goal (rs:=[.tmp 2,.tmp 3]) (ts:=[162,36]) Tryz.func83 rfl rfl rfl (by kernel_rfl) (by kernel_rfl) (.inl sp_83) (by simp[Tryz.f83]) ?_
     intro T hT
     simp -dsimp -implicitDefEqProofs (disch:=first|omega|assumption) [startSlots,nI,wI,str_beq]
     simpa -dsimp -implicitDefEqProofs (disch:=first|omega|assumption) [nI,wI]using hT
    ·have e:chk ⟨2,n,noS⟩=1:=by simp[chk,h1,h3]
     rw[show valOf ⟨2,n,noS⟩= .null by simp[valOf,fix,e,Cel.none],e,vd0]
     refine run_goal (rs:=[.tmp 2,.tmp 3]) (ts:=[162,36]) Tryz.func83 rfl rfl rfl (by kernel_rfl) (by kernel_rfl) (.inl sp_83) (by simp[Tryz.f83]) ?_
     intro T hT
     simp -dsimp -implicitDefEqProofs (disch:=first|omega|assumption) [startSlots,nI,wI,h1,h3,str_beq]
     simpa -dsimp -implicitDefEqProofs (disch:=first|omega|assumption) [nI,wI]using hT
  ·have e:chk ⟨2,n,s⟩=1:=by simp[chk,h2]
   have h4:s.toList.isEmpty=false:=by rw[str_empty];simp[h2]
   rw[show valOf ⟨2,n,s⟩= .null by simp[valOf,fix,e,Cel.none],e,vd0]
   refine run_goal (rs:=[.tmp 2,.tmp 3]) (ts:=[162,36]) Tryz.func83 rfl rfl rfl (by kernel_rfl) (by kernel_rfl) (.inl sp_83) (by simp[Tryz.f83]) ?_
   intro T hT
   simp -dsimp -implicitDefEqProofs (disch:=first|omega|assumption) [startSlots,nI,wI,h4]
   simpa -dsimp -implicitDefEqProofs (disch:=first|omega|assumption) [nI,wI]using hT
 ·by_cases h1:n=0
  ·subst h1
   by_cases h2:s.size≤64
   ·have e:chk ⟨3,0,s⟩=0:=by simp[chk,h2]
    rw[show valOf ⟨3,0,s⟩= .text s by simp[valOf,fix,e],e,vd3]
    have h2':(s.size:Int)≤64:=by omega
    refine run_goal (rs:=[.tmp 2,.tmp 3]) (ts:=[162,36]) Tryz.func83 rfl rfl rfl (by kernel_rfl) (by kernel_rfl) (.inl sp_83) (by simp[Tryz.f83]) ?_
    intro T hT
    simp -dsimp -implicitDefEqProofs (disch:=first|omega|assumption) [startSlots,nI,wI,h2']
    simpa -dsimp -implicitDefEqProofs (disch:=first|omega|assumption) [nI,wI]using hT
   ·have h3:64<s.size:=by omega
    have e:chk ⟨3,0,s⟩=5:=by simp[chk,h3]
    rw[show valOf ⟨3,0,s⟩= .null by simp[valOf,fix,e,Cel.none],e,vd0]
    have h2': ¬ (s.size:Int)≤64:=by omega
    refine run_goal (rs:=[.tmp 2,.tmp 3]) (ts:=[162,36]) Tryz.func83 rfl rfl rfl (by kernel_rfl) (by kernel_rfl) (.inl sp_83) (by simp[Tryz.f83]) ?_
    intro T hT
    simp -dsimp -implicitDefEqProofs (disch:=first|omega|assumption) [startSlots,nI,wI,h2']
    simpa -dsimp -implicitDefEqProofs (disch:=first|omega|assumption) [nI,wI]using hT
  ·have e:chk ⟨3,n,s⟩=1:=by simp[chk,h1]
   rw[show valOf ⟨3,n,s⟩= .null by simp[valOf,fix,e,Cel.none],e,vd0]
   refine run_goal (rs:=[.tmp 2,.tmp 3]) (ts:=[162,36]) Tryz.func83 rfl rfl rfl (by kernel_rfl) (by kernel_rfl) (.inl sp_83) (by simp[Tryz.f83]) ?_
   intro T hT
   simp -dsimp -implicitDefEqProofs (disch:=first|omega|assumption) [startSlots,nI,wI,h1]
   simpa -dsimp -implicitDefEqProofs (disch:=first|omega|assumption) [nI,wI]using hT
 ·have e:chk ⟨k,n,s⟩=10:=by simp[chk,hk]
  rw[show valOf ⟨k,n,s⟩= .null by simp[valOf,fix,e,Cel.none],e,vd0]
  have h0: ¬ (k:Int)=0:=by omega
  have h1: ¬ (k:Int)=1:=by omega
  have h2: ¬ (k:Int)=2:=by omega
  have h3: ¬ (k:Int)=3:=by omega
  have k0: ¬ k=0:=by omega
  have k1: ¬ k=1:=by omega
  have k2: ¬ k=2:=by omega
  have k3: ¬ k=3:=by omega
  refine run_goal (rs:=[.tmp 2,.tmp 3]) (ts:=[162,36]) Tryz.func83 rfl rfl rfl (by kernel_rfl) (by kernel_rfl) (.inl sp_83) (by simp[Tryz.f83]) ?_
  intro T hT
  simp -dsimp -implicitDefEqProofs (disch:=first|omega|assumption) [startSlots,nI,wI,h0,h1,h2,h3,k0,k1,k2,k3]
  simpa -dsimp -implicitDefEqProofs (disch:=first|omega|assumption) [nI,wI]using hT
def cellOf:Val→Cel
 |.null=>Cel.none
 |.whole n=>⟨1,n,noS⟩
 |.truth b=>⟨2,if b then 1 else 0,noS⟩
 |.text s=>⟨3,0,s⟩
theorem fix_same {c:Cel} (h:chk c=0):fix c=c:=by rw[fix,if_pos h]
theorem cell_back {c:Cel} (h:chk c=0):cellOf (valOf c)=c:=by
 obtain⟨h1,h2,h3,h4,h5⟩:=chk_kind h
 unfold valOf
 rw[fix_same h]
 obtain⟨k,n,s⟩:=c
 simp only at h1 h2 h3 h4 h5 ⊢
 have hk:k=0∨k=1∨k=2∨k=3:=by omega
 rcases hk with rfl | rfl | rfl | rfl
 ·rw[h2 (by decide),h3 (by decide) (by decide)];rfl
 ·rw[h2 (by decide)];rfl
 ·rw[h2 (by decide)]
  rcases h4 rfl with rfl | rfl <;> rfl
 ·have:chk ⟨3,n,s⟩=0:=h
  have hn:n=0:=h3 (by decide) (by decide)
  rw[hn];rfl
theorem kindOf_runs (v:Val):R 84 [.d v.d] []=some ([.d (.int .u8 v.kind)],[]):=by
 rcases v with _ | n | b | s
 all_goals
  simp only[Val.d,Val.kind]
  refine run_goal (rs:=[.tmp 2]) (ts:=[27]) Tryz.func84 rfl rfl rfl (by kernel_rfl) (by kernel_rfl) (.inl sp_84) (by simp[Tryz.f84]) ?_
  intro T hT
  simp -dsimp -implicitDefEqProofs (disch:=first|omega|assumption) [startSlots,nI,wI]
  simpa -dsimp -implicitDefEqProofs (disch:=first|omega|assumption) [nI,wI]using hT
end Go.Am.Ab
