/- Cells, values. -/
import Derived.Test.YtldceipbpilipaaGreatDoorBase
set_option linter.all false
namespace Go.Am.Ab
open Go.Proofs
set_option maxHeartbeats 4000000
set_option maxRecDepth 4000
attribute [simp] ifaceV assertV
structure Cel where
 kind : Nat
 n : Int
 s : ByteArray
 deriving DecidableEq
abbrev noS : ByteArray := ⟨#[]⟩
def Cel.none : Cel := ⟨0,0,noS⟩
def Cel.d (c : Cel) : D := .agg [.int .u8 c.kind,.int .i64 c.n,.str c.s]
inductive Val where
 | null
 | whole (n : Int)
 | truth (b : Bool)
 | text (s : ByteArray)
 deriving DecidableEq
def Val.d : Val → D
 | .null => .nilI
 | .whole n => .iface 2 (.int .i64 n)
 | .truth b => .iface 4 (.bool b)
 | .text s => .iface 9 (.str s)
def Val.kind : Val → Nat
 | .null => 0
 | .whole _ => 1
 | .truth _ => 2
 | .text _ => 3
abbrev vs (l : List Val) : List D := l.map Val.d
abbrev ce (l : List Cel) : List D := l.map Cel.d
theorem bytes_inj {a b : ByteArray} (h : a.toList = b.toList) : a = b := by
 rw [ByteArray.toList_eq,ByteArray.toList_eq] at h
 obtain ⟨⟨x⟩⟩ := a
 obtain ⟨⟨y⟩⟩ := b
 simp at h
 rw [h]
theorem str_beq (a b : ByteArray) : (a.toList == b.toList) = decide (a = b) := by
 by_cases e : a = b
 ·subst e; simp
 ·rw [decide_eq_false e]
  exact beq_false_of_ne fun h => e (bytes_inj h)
theorem str_empty (a : ByteArray) : a.toList.isEmpty = decide (a = noS) := by
 rw [← str_beq]
 have : noS.toList = [] := by rw [ByteArray.toList_eq]
 rw [this]
 cases a.toList <;> rfl
theorem allSize_map0 {α : Type} {g : α → D} {n : Nat} (l : List α) (h : ∀ a,(g a).cells.length = n) : allSize n (l.map g) = true := by
 induction l with
 | nil => rfl
 | cons a l ih => rw [List.map_cons,allSize,ih,h a]; simp
@[simp] theorem allSize_vs (l : List Val) : allSize 1 (l.map Val.d) = true := allSize_map0 l fun v => by cases v <;> rfl
@[simp] theorem allSize_ce (l : List Cel) : allSize 3 (l.map Cel.d) = true := allSize_map0 l fun v => rfl
@[simp] theorem cells_val (v : Val) : v.d.cells = [v.d] := by cases v <;> rfl
@[simp] theorem vcells_val (v : Val) : (V.d v.d).cells = [V.d v.d] := by cases v <;> rfl
def preD {α : Type} (g : α → D) (p : List α) (i : Nat) : List D := (p.take i).map g
theorem preD_zero {α : Type} (g : α → D) (p : List α) : preD g p 0 = [] := rfl
theorem preD_succ {α : Type} {g : α → D} {p : List α} {i : Nat} (h : i < p.length) : preD g p (i + 1) = preD g p i ++ [g p[i]] := by
 unfold preD; rw [List.take_succ_eq_append_getElem h,List.map_append]; rfl
theorem preD_length {α : Type} {g : α → D} {p : List α} {i : Nat} (h : i ≤ p.length) : (preD g p i).length = i := by simp [preD]; omega
theorem preD_end {α : Type} {g : α → D} {p : List α} {i : Nat} (h : p.length ≤ i) : preD g p i = p.map g := by rw [preD,List.take_of_length_le h]
def chk (c : Cel) : Nat :=
 if 3 < c.kind then 10 else
 if (c.kind ≠ 3 ∧ c.s ≠ noS) ∨ (c.kind ≠ 1 ∧ c.kind ≠ 2 ∧ c.n ≠ 0) ∨ (c.kind = 2 ∧ c.n ≠ 0 ∧ c.n ≠ 1) then 1 else
 if 64 < c.s.size then 5 else 0
end Go.Am.Ab
namespace Go.Am.Ab
open Go.Proofs
set_option maxHeartbeats 4000000
set_option maxRecDepth 4000
theorem rcheck_runs (c : Cel) (hc : c.kind < 256) (hs : c.s.size ≤ 9223372036854775807) : R 41 [.d c.d] [] = some ([.d (.int .i64 (chk c))],[]) := by
 obtain ⟨k,n,s⟩ := c
 simp only at hc hs
 simp only [Cel.d]
 by_cases h3 : 3 < k
 ·have h3' : (3 : Int) < k := by omega
  have e : chk ⟨k,n,s⟩ = 10 := by simp [chk,h3]
  rw [e]
  refine run_goal (rs:=[.tmp 2]) (ts:=[3]) Tryz.func41 rfl rfl rfl (by kernel_rfl) (by kernel_rfl) (.inl sp_41) (by simp [Tryz.f41]) ?_
  intro T hT
  simp -dsimp -implicitDefEqProofs (disch:=first|omega|assumption) [startSlots,nI,wI,h3']
  simpa -dsimp -implicitDefEqProofs (disch:=first|omega|assumption) [nI,wI] using hT
 by_cases a1 : s = noS <;> by_cases a2 : n = 0 <;> by_cases a3 : n = 1 <;> by_cases a4 : 64 < s.size
 all_goals have hk : k = 0 ∨ k = 1 ∨ k = 2 ∨ k = 3 := by omega
 all_goals first
  | (exfalso; omega)
  | (exfalso; subst a1; simp at a4; done)
  | skip
 all_goals
  rcases hk with rfl | rfl | rfl | rfl
  all_goals
   have a4' : ((64 : Int) < (s.size : Int)) = (64 < s.size) := by simp only [eq_iff_iff]; omega
   simp [chk,a1,a2,a3,a4]
   refine run_goal (rs:=[.tmp 2]) (ts:=[3]) Tryz.func41 rfl rfl rfl (by kernel_rfl) (by kernel_rfl) (.inl sp_41) (by simp [Tryz.f41]) ?_
   intro T hT
   simp -dsimp -implicitDefEqProofs (disch:=first|omega|assumption) [startSlots,nI,wI,str_beq,str_empty,a1,a2,a3,a4',a4]
   simpa -dsimp -implicitDefEqProofs (disch:=first|omega|assumption) [nI,wI] using hT
end Go.Am.Ab
namespace Go.Am.Ab
open Go.Proofs
set_option maxHeartbeats 4000000
set_option maxRecDepth 4000
theorem cel_d (c : Cel) : c.d = .agg [.int .u8 c.kind,.int .i64 c.n,.str c.s] := rfl
theorem cel_cells (c : Cel) : c.d.cells = [.int .u8 c.kind,.int .i64 c.n,.str c.s] := rfl
def fix (c : Cel) : Cel := if chk c = 0 then c else Cel.none
theorem rfix_runs (c : Cel) (hc : c.kind < 256) (hs : c.s.size ≤ 9223372036854775807) : R 87 [.d c.d] [] = some ([.d (fix c).d],[]) := by
 have h := rcheck_runs c hc hs
 simp only [Cel.d] at h ⊢
 by_cases h0 : chk c = 0
 ·have e : fix c = c := by simp [fix,h0]
  rw [e]
  refine run_goal (rs:=[.cell 2 29]) (ts:=[29]) Tryz.func87 rfl rfl rfl (by kernel_rfl) (by kernel_rfl) (.inl sp_87) (by simp [Tryz.f87]) ?_
  intro T hT
  simp -dsimp -implicitDefEqProofs (disch:=first|omega|assumption) [startSlots,nI,wI,h,h0]
  simpa -dsimp -implicitDefEqProofs (disch:=first|omega|assumption) [nI,wI] using hT
 ·have e : fix c = Cel.none := by simp [fix,h0]
  have h0' : ¬ (chk c : Int) = 0 := by omega
  rw [e]
  refine run_goal (rs:=[.cell 2 29]) (ts:=[29]) Tryz.func87 rfl rfl rfl (by kernel_rfl) (by kernel_rfl) (.inl sp_87) (by simp [Tryz.f87]) ?_
  intro T hT
  simp -dsimp -implicitDefEqProofs (disch:=first|omega|assumption) [startSlots,nI,wI,h,h0,h0']
  simpa -dsimp -implicitDefEqProofs (disch:=first|omega|assumption) [nI,wI,Cel.none] using hT
theorem chk_kind {c : Cel} (h : chk c = 0) : c.kind ≤ 3 ∧ (c.kind ≠ 3 → c.s = noS) ∧ (c.kind ≠ 1 → c.kind ≠ 2 → c.n = 0) ∧ (c.kind = 2 → c.n = 0 ∨ c.n = 1) ∧ c.s.size ≤ 64 := by
 unfold chk at h
 split at h
 ·omega
 ·split at h
  ·omega
  ·rename_i h1 h2
   split at h
   ·omega
   ·refine ⟨by omega,fun a => ?_,fun a b => ?_,fun a => ?_,by omega⟩
    ·exact Classical.byContradiction fun b => h2 (.inl ⟨a,b⟩)
    ·exact Classical.byContradiction fun b' => h2 (.inr (.inl ⟨a,b,b'⟩))
    ·exact Classical.byContradiction fun b => h2 (.inr (.inr ⟨a,fun e => b (.inl e),fun e => b (.inr e)⟩))
def valOf (c : Cel) : Val := if (fix c).kind = 1 then .whole (fix c).n else if (fix c).kind = 2 then .truth (decide ((fix c).n = 1)) else if (fix c).kind = 3 then .text (fix c).s else .null
theorem fixRow_runs (l : List Cel) (hl : ∀ c ∈ l,c.kind < 256 ∧ c.s.size ≤ 9223372036854775807) (hn : l.length ≤ 1000000) : R 43 [.d (.list (ce l))] [] = some ([.arr 0 l.length],[.arr 3 (ce (l.map fix)) 0]) := by
 have hend : ce (l.map fix) = preD (fun c => (fix c).d) l l.length := by
  rw [preD_end (Nat.le_refl _)]
  show (l.map fix).map Cel.d = _
  rw [List.map_map]; rfl
 rw [hend]
 refine run_goal (rs:=[.tmp 2]) (ts:=[26]) Tryz.func43 rfl rfl rfl (by kernel_rfl) (by kernel_rfl) (.inl sp_43) (by simp [Tryz.f43]) ?_
 intro T hT
 simp -dsimp -implicitDefEqProofs (disch:=first|omega|assumption) [startSlots,nI,wI]
 generalize hz : loopT _ _ _ _ _ _ = z
 revert z
 refine loop_any (σ:=Nat) (fun i => [(0,.d (.list (ce l))),(3,.arr 0 i),(4,.d (.int .i64 i))]) (fun i => [.arr 3 (preD (fun c => (fix c).d) l i) 0]) (fun i => i ≤ l.length) (fun i => l.length - i) 0 ?_ ?_ ?_
 ·exact Nat.zero_le _
 ·simp -dsimp -implicitDefEqProofs (disch:=first|omega|assumption) [preD_zero]
 intro T' f hT' i hi ih
 by_cases h1 : i < l.length
 ·have hc := hl l[i] (List.getElem_mem _)
  have h := rfix_runs l[i] hc.1 hc.2
  rw [cel_d] at h
  have hcc := cel_cells l[i]
  have hsz : (fix l[i]).d.cells.length = 3 := rfl
  have htk := preD_succ (g := fun c => (fix c).d) h1
  have hlen := preD_length (g := fun c => (fix c).d) hi
  simp -dsimp -implicitDefEqProofs (disch:=first|omega|assumption) [nI,wI,h1,h,hlen,hcc,hsz]
  refine ih (i + 1) _ _ h1 (by omega) ?_
  rw [htk]
  simp -dsimp -implicitDefEqProofs (disch:=first|omega|assumption)
 ·have e : i = l.length := by omega
  subst e
  subst hT'
  simp -dsimp -implicitDefEqProofs (disch:=first|omega|assumption) [nI,wI]
  simpa -dsimp -implicitDefEqProofs (disch:=first|omega|assumption) [nI,wI] using hT
end Go.Am.Ab
namespace Go.Am.Ab
open Go.Proofs
set_option maxHeartbeats 8000000
set_option maxRecDepth 4000
theorem vd0 : Val.null.d = .nilI := rfl
theorem vd1 (n : Int) : (Val.whole n).d = .iface 2 (.int .i64 n) := rfl
theorem vd2 (b : Bool) : (Val.truth b).d = .iface 4 (.bool b) := rfl
theorem vd3 (s : ByteArray) : (Val.text s).d = .iface 9 (.str s) := rfl
theorem vof_runs (c : Cel) (hc : c.kind < 256) (hs : c.s.size ≤ 9223372036854775807) : R 83 [.d c.d] [] = some ([.d (valOf c).d,.d (.int .i64 (chk c))],[]) := by
 obtain ⟨k,n,s⟩ := c
 simp only at hc hs
 simp only [Cel.d]
 have hk : k = 0 ∨ k = 1 ∨ k = 2 ∨ k = 3 ∨ 3 < k := by omega
 rcases hk with rfl | rfl | rfl | rfl | hk
 ·by_cases h1 : n = 0
  ·by_cases h2 : s = noS
   ·subst h1 h2
    refine run_goal (rs:=[.tmp 2,.tmp 3]) (ts:=[162,36]) Tryz.func83 rfl rfl rfl (by kernel_rfl) (by kernel_rfl) (.inl sp_83) (by simp [Tryz.f83]) ?_
    intro T hT
    simp -dsimp -implicitDefEqProofs (disch:=first|omega|assumption) [startSlots,nI,wI,str_beq]
    simpa -dsimp -implicitDefEqProofs (disch:=first|omega|assumption) [nI,wI,valOf,fix,chk,Val.d] using hT
   ·have e : chk ⟨0,n,s⟩ = 1 := by simp [chk,h2]
    have h4 : s.toList.isEmpty = false := by rw [str_empty]; simp [h2]
    rw [show valOf ⟨0,n,s⟩ = .null by simp [valOf,fix,e,Cel.none],e,vd0]
    refine run_goal (rs:=[.tmp 2,.tmp 3]) (ts:=[162,36]) Tryz.func83 rfl rfl rfl (by kernel_rfl) (by kernel_rfl) (.inl sp_83) (by simp [Tryz.f83]) ?_
    intro T hT
    simp -dsimp -implicitDefEqProofs (disch:=first|omega|assumption) [startSlots,nI,wI,h1,h4]
    simpa -dsimp -implicitDefEqProofs (disch:=first|omega|assumption) [nI,wI] using hT
  ·have e : chk ⟨0,n,s⟩ = 1 := by simp [chk,h1]
   rw [show valOf ⟨0,n,s⟩ = .null by simp [valOf,fix,e,Cel.none],e,vd0]
   refine run_goal (rs:=[.tmp 2,.tmp 3]) (ts:=[162,36]) Tryz.func83 rfl rfl rfl (by kernel_rfl) (by kernel_rfl) (.inl sp_83) (by simp [Tryz.f83]) ?_
   intro T hT
   simp -dsimp -implicitDefEqProofs (disch:=first|omega|assumption) [startSlots,nI,wI,h1,str_beq]
   simpa -dsimp -implicitDefEqProofs (disch:=first|omega|assumption) [nI,wI] using hT
 ·by_cases h2 : s = noS
  ·subst h2
   have e : chk ⟨1,n,noS⟩ = 0 := by simp [chk]
   rw [show valOf ⟨1,n,noS⟩ = .whole n by simp [valOf,fix,e],e,vd1]
   refine run_goal (rs:=[.tmp 2,.tmp 3]) (ts:=[162,36]) Tryz.func83 rfl rfl rfl (by kernel_rfl) (by kernel_rfl) (.inl sp_83) (by simp [Tryz.f83]) ?_
   intro T hT
   simp -dsimp -implicitDefEqProofs (disch:=first|omega|assumption) [startSlots,nI,wI,str_beq]
   simpa -dsimp -implicitDefEqProofs (disch:=first|omega|assumption) [nI,wI] using hT
  ·have e : chk ⟨1,n,s⟩ = 1 := by simp [chk,h2]
   have h4 : s.toList.isEmpty = false := by rw [str_empty]; simp [h2]
   rw [show valOf ⟨1,n,s⟩ = .null by simp [valOf,fix,e,Cel.none],e,vd0]
   refine run_goal (rs:=[.tmp 2,.tmp 3]) (ts:=[162,36]) Tryz.func83 rfl rfl rfl (by kernel_rfl) (by kernel_rfl) (.inl sp_83) (by simp [Tryz.f83]) ?_
   intro T hT
   simp -dsimp -implicitDefEqProofs (disch:=first|omega|assumption) [startSlots,nI,wI,h4]
   simpa -dsimp -implicitDefEqProofs (disch:=first|omega|assumption) [nI,wI] using hT
 ·by_cases h2 : s = noS
  ·subst h2
   by_cases h1 : n = 0
   ·subst h1
    rw [show valOf ⟨2,0,noS⟩ = .truth false by simp [valOf,fix,chk],show chk ⟨2,0,noS⟩ = 0 by simp [chk],vd2]
    refine run_goal (rs:=[.tmp 2,.tmp 3]) (ts:=[162,36]) Tryz.func83 rfl rfl rfl (by kernel_rfl) (by kernel_rfl) (.inl sp_83) (by simp [Tryz.f83]) ?_
    intro T hT
    simp -dsimp -implicitDefEqProofs (disch:=first|omega|assumption) [startSlots,nI,wI,str_beq]
    simpa -dsimp -implicitDefEqProofs (disch:=first|omega|assumption) [nI,wI] using hT
   ·by_cases h3 : n = 1
    ·subst h3
     rw [show valOf ⟨2,1,noS⟩ = .truth true by simp [valOf,fix,chk],show chk ⟨2,1,noS⟩ = 0 by simp [chk],vd2]
     refine run_goal (rs:=[.tmp 2,.tmp 3]) (ts:=[162,36]) Tryz.func83 rfl rfl rfl (by kernel_rfl) (by kernel_rfl) (.inl sp_83) (by simp [Tryz.f83]) ?_
     intro T hT
     simp -dsimp -implicitDefEqProofs (disch:=first|omega|assumption) [startSlots,nI,wI,str_beq]
     simpa -dsimp -implicitDefEqProofs (disch:=first|omega|assumption) [nI,wI] using hT
    ·have e : chk ⟨2,n,noS⟩ = 1 := by simp [chk,h1,h3]
     rw [show valOf ⟨2,n,noS⟩ = .null by simp [valOf,fix,e,Cel.none],e,vd0]
     refine run_goal (rs:=[.tmp 2,.tmp 3]) (ts:=[162,36]) Tryz.func83 rfl rfl rfl (by kernel_rfl) (by kernel_rfl) (.inl sp_83) (by simp [Tryz.f83]) ?_
     intro T hT
     simp -dsimp -implicitDefEqProofs (disch:=first|omega|assumption) [startSlots,nI,wI,h1,h3,str_beq]
     simpa -dsimp -implicitDefEqProofs (disch:=first|omega|assumption) [nI,wI] using hT
  ·have e : chk ⟨2,n,s⟩ = 1 := by simp [chk,h2]
   have h4 : s.toList.isEmpty = false := by rw [str_empty]; simp [h2]
   rw [show valOf ⟨2,n,s⟩ = .null by simp [valOf,fix,e,Cel.none],e,vd0]
   refine run_goal (rs:=[.tmp 2,.tmp 3]) (ts:=[162,36]) Tryz.func83 rfl rfl rfl (by kernel_rfl) (by kernel_rfl) (.inl sp_83) (by simp [Tryz.f83]) ?_
   intro T hT
   simp -dsimp -implicitDefEqProofs (disch:=first|omega|assumption) [startSlots,nI,wI,h4]
   simpa -dsimp -implicitDefEqProofs (disch:=first|omega|assumption) [nI,wI] using hT
 ·by_cases h1 : n = 0
  ·subst h1
   by_cases h2 : s.size ≤ 64
   ·have e : chk ⟨3,0,s⟩ = 0 := by simp [chk,h2]
    rw [show valOf ⟨3,0,s⟩ = .text s by simp [valOf,fix,e],e,vd3]
    have h2' : (s.size : Int) ≤ 64 := by omega
    refine run_goal (rs:=[.tmp 2,.tmp 3]) (ts:=[162,36]) Tryz.func83 rfl rfl rfl (by kernel_rfl) (by kernel_rfl) (.inl sp_83) (by simp [Tryz.f83]) ?_
    intro T hT
    simp -dsimp -implicitDefEqProofs (disch:=first|omega|assumption) [startSlots,nI,wI,h2']
    simpa -dsimp -implicitDefEqProofs (disch:=first|omega|assumption) [nI,wI] using hT
   ·have h3 : 64 < s.size := by omega
    have e : chk ⟨3,0,s⟩ = 5 := by simp [chk,h3]
    rw [show valOf ⟨3,0,s⟩ = .null by simp [valOf,fix,e,Cel.none],e,vd0]
    have h2' : ¬ (s.size : Int) ≤ 64 := by omega
    refine run_goal (rs:=[.tmp 2,.tmp 3]) (ts:=[162,36]) Tryz.func83 rfl rfl rfl (by kernel_rfl) (by kernel_rfl) (.inl sp_83) (by simp [Tryz.f83]) ?_
    intro T hT
    simp -dsimp -implicitDefEqProofs (disch:=first|omega|assumption) [startSlots,nI,wI,h2']
    simpa -dsimp -implicitDefEqProofs (disch:=first|omega|assumption) [nI,wI] using hT
  ·have e : chk ⟨3,n,s⟩ = 1 := by simp [chk,h1]
   rw [show valOf ⟨3,n,s⟩ = .null by simp [valOf,fix,e,Cel.none],e,vd0]
   refine run_goal (rs:=[.tmp 2,.tmp 3]) (ts:=[162,36]) Tryz.func83 rfl rfl rfl (by kernel_rfl) (by kernel_rfl) (.inl sp_83) (by simp [Tryz.f83]) ?_
   intro T hT
   simp -dsimp -implicitDefEqProofs (disch:=first|omega|assumption) [startSlots,nI,wI,h1]
   simpa -dsimp -implicitDefEqProofs (disch:=first|omega|assumption) [nI,wI] using hT
 ·have e : chk ⟨k,n,s⟩ = 10 := by simp [chk,hk]
  rw [show valOf ⟨k,n,s⟩ = .null by simp [valOf,fix,e,Cel.none],e,vd0]
  have h0 : ¬ (k : Int) = 0 := by omega
  have h1 : ¬ (k : Int) = 1 := by omega
  have h2 : ¬ (k : Int) = 2 := by omega
  have h3 : ¬ (k : Int) = 3 := by omega
  have k0 : ¬ k = 0 := by omega
  have k1 : ¬ k = 1 := by omega
  have k2 : ¬ k = 2 := by omega
  have k3 : ¬ k = 3 := by omega
  refine run_goal (rs:=[.tmp 2,.tmp 3]) (ts:=[162,36]) Tryz.func83 rfl rfl rfl (by kernel_rfl) (by kernel_rfl) (.inl sp_83) (by simp [Tryz.f83]) ?_
  intro T hT
  simp -dsimp -implicitDefEqProofs (disch:=first|omega|assumption) [startSlots,nI,wI,h0,h1,h2,h3,k0,k1,k2,k3]
  simpa -dsimp -implicitDefEqProofs (disch:=first|omega|assumption) [nI,wI] using hT
def cellOf : Val → Cel
 | .null => Cel.none
 | .whole n => ⟨1,n,noS⟩
 | .truth b => ⟨2,if b then 1 else 0,noS⟩
 | .text s => ⟨3,0,s⟩
theorem fix_same {c : Cel} (h : chk c = 0) : fix c = c := by rw [fix,if_pos h]
theorem cell_back {c : Cel} (h : chk c = 0) : cellOf (valOf c) = c := by
 obtain ⟨h1,h2,h3,h4,h5⟩ := chk_kind h
 unfold valOf
 rw [fix_same h]
 obtain ⟨k,n,s⟩ := c
 simp only at h1 h2 h3 h4 h5 ⊢
 have hk : k = 0 ∨ k = 1 ∨ k = 2 ∨ k = 3 := by omega
 rcases hk with rfl | rfl | rfl | rfl
 ·rw [h2 (by decide),h3 (by decide) (by decide)]; rfl
 ·rw [h2 (by decide)]; rfl
 ·rw [h2 (by decide)]
  rcases h4 rfl with rfl | rfl <;> rfl
 ·have : chk ⟨3,n,s⟩ = 0 := h
  have hn : n = 0 := h3 (by decide) (by decide)
  rw [hn]; rfl
theorem kindOf_runs (v : Val) : R 84 [.d v.d] [] = some ([.d (.int .u8 v.kind)],[]) := by
 rcases v with _ | n | b | s
 all_goals
  simp only [Val.d,Val.kind]
  refine run_goal (rs:=[.tmp 2]) (ts:=[27]) Tryz.func84 rfl rfl rfl (by kernel_rfl) (by kernel_rfl) (.inl sp_84) (by simp [Tryz.f84]) ?_
  intro T hT
  simp -dsimp -implicitDefEqProofs (disch:=first|omega|assumption) [startSlots,nI,wI]
  simpa -dsimp -implicitDefEqProofs (disch:=first|omega|assumption) [nI,wI] using hT
def lsS (a b : ByteArray) : Bool := Op.bytesLess a.toList b.toList
def ltC (a b : Cel) : Bool := if a.kind ≠ b.kind then decide (a.kind < b.kind) else decide (a.n < b.n) || (decide (a.n = b.n) && lsS a.s b.s)
theorem rless_runs (a b : Cel) : R 174 [.d a.d,.d b.d] [] = some ([.d (.bool (ltC a b))],[]) := by
 obtain ⟨k,n,s⟩ := a
 obtain ⟨k',n',s'⟩ := b
 simp only [Cel.d]
 by_cases hk : k = k'
 ·subst hk
  have e : ltC ⟨k,n,s⟩ ⟨k,n',s'⟩ = (decide (n < n') || (decide (n = n') && lsS s s')) := by simp [ltC]
  rw [e]
  have hl : Op.bytesLess s.toList s'.toList = lsS s s' := rfl
  by_cases h1 : n < n'
  ·have h2 : ¬ n = n' := by omega
   refine run_goal (rs:=[.tmp 4]) (ts:=[4]) Tryz.func174 rfl rfl rfl (by kernel_rfl) (by kernel_rfl) (.inl sp_174) (by simp [Tryz.f174]) ?_
   intro T hT
   simp -dsimp -implicitDefEqProofs (disch:=first|omega|assumption) [startSlots,nI,wI,h1,h2]
   simpa -dsimp -implicitDefEqProofs (disch:=first|omega|assumption) [nI,wI,h1] using hT
  ·by_cases h2 : n = n'
   ·subst h2
    refine run_goal (rs:=[.tmp 4]) (ts:=[4]) Tryz.func174 rfl rfl rfl (by kernel_rfl) (by kernel_rfl) (.inl sp_174) (by simp [Tryz.f174]) ?_
    intro T hT
    simp -dsimp -implicitDefEqProofs (disch:=first|omega|assumption) [startSlots,nI,wI,hl]
    simpa -dsimp -implicitDefEqProofs (disch:=first|omega|assumption) [nI,wI] using hT
   ·refine run_goal (rs:=[.tmp 4]) (ts:=[4]) Tryz.func174 rfl rfl rfl (by kernel_rfl) (by kernel_rfl) (.inl sp_174) (by simp [Tryz.f174]) ?_
    intro T hT
    simp -dsimp -implicitDefEqProofs (disch:=first|omega|assumption) [startSlots,nI,wI,h1,h2]
    simpa -dsimp -implicitDefEqProofs (disch:=first|omega|assumption) [nI,wI,h1,h2] using hT
 ·have hk' : ¬ (k : Int) = k' := by omega
  have e : ltC ⟨k,n,s⟩ ⟨k',n',s'⟩ = decide (k < k') := by simp [ltC,hk]
  rw [e]
  by_cases h1 : k < k'
  ·have h1' : (k : Int) < k' := by omega
   refine run_goal (rs:=[.tmp 4]) (ts:=[4]) Tryz.func174 rfl rfl rfl (by kernel_rfl) (by kernel_rfl) (.inl sp_174) (by simp [Tryz.f174]) ?_
   intro T hT
   simp -dsimp -implicitDefEqProofs (disch:=first|omega|assumption) [startSlots,nI,wI,hk,hk',h1,h1']
   simpa -dsimp -implicitDefEqProofs (disch:=first|omega|assumption) [nI,wI,h1] using hT
  ·have h1' : ¬ (k : Int) < k' := by omega
   refine run_goal (rs:=[.tmp 4]) (ts:=[4]) Tryz.func174 rfl rfl rfl (by kernel_rfl) (by kernel_rfl) (.inl sp_174) (by simp [Tryz.f174]) ?_
   intro T hT
   simp -dsimp -implicitDefEqProofs (disch:=first|omega|assumption) [startSlots,nI,wI,hk,hk',h1,h1']
   simpa -dsimp -implicitDefEqProofs (disch:=first|omega|assumption) [nI,wI,h1] using hT
def cmpC (a b : Cel) : Int := if ltC a b = true then -1 else if ltC b a = true then 1 else 0
theorem rcompare_runs (a b : Cel) : R 99 [.d a.d,.d b.d] [] = some ([.d (.int .i64 (cmpC a b))],[]) := by
 have h1 := rless_runs a b
 have h2 := rless_runs b a
 unfold cmpC
 generalize ltC a b = x at *
 generalize ltC b a = y at *
 simp only [Cel.d] at h1 h2 ⊢
 cases x <;> cases y
 all_goals
  refine run_goal (rs:=[.tmp 4]) (ts:=[3]) Tryz.func99 rfl rfl rfl (by kernel_rfl) (by kernel_rfl) (.inl sp_99) (by simp [Tryz.f99]) ?_
  intro T hT
  simp -dsimp -implicitDefEqProofs (disch:=first|omega|assumption) [startSlots,nI,wI,h1,h2]
  simpa -dsimp -implicitDefEqProofs (disch:=first|omega|assumption) [nI,wI] using hT
end Go.Am.Ab
