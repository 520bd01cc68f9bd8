/- Cells, values. -/
import Derived.Test.YtlgdomajdebbdaaGreatDoorIntsA
set_option linter.all false
namespace Go.Am.Ab
open Go.Proofs
set_option maxHeartbeats 4000000
set_option maxRecDepth 4000
attribute [simp] ifaceV assertV
structure Cel where
 kind : Nat
 n : Int
 s : ByteArray
 deriving DecidableEq
abbrev noS : ByteArray := ⟨#[]⟩
def Cel.none : Cel := ⟨0,0,noS⟩
def Cel.d (c : Cel) : D := .agg [.int .u8 c.kind,.int .i64 c.n,.str c.s]
inductive Val where
 | null
 | whole (n : Int)
 | truth (b : Bool)
 | text (s : ByteArray)
 deriving DecidableEq
def Val.d : Val → D
 | .null => .nilI
 | .whole n => .iface 2 (.int .i64 n)
 | .truth b => .iface 4 (.bool b)
 | .text s => .iface 9 (.str s)
def Val.kind : Val → Nat
 | .null => 0
 | .whole _ => 1
 | .truth _ => 2
 | .text _ => 3
abbrev vs (l : List Val) : List D := l.map Val.d
abbrev ce (l : List Cel) : List D := l.map Cel.d
theorem bytes_inj {a b : ByteArray} (h : a.toList = b.toList) : a = b := by
 rw [ByteArray.toList_eq,ByteArray.toList_eq] at h
 obtain ⟨⟨x⟩⟩ := a
 obtain ⟨⟨y⟩⟩ := b
 simp at h
 rw [h]
theorem str_beq (a b : ByteArray) : (a.toList == b.toList) = decide (a = b) := by
 by_cases e : a = b
 ·subst e; simp
 ·rw [decide_eq_false e]
  exact beq_false_of_ne fun h => e (bytes_inj h)
theorem str_empty (a : ByteArray) : a.toList.isEmpty = decide (a = noS) := by
 rw [← str_beq]
 have : noS.toList = [] := by rw [ByteArray.toList_eq]
 rw [this]
 cases a.toList <;> rfl
@[simp] theorem allSize_vs (l : List Val) : allSize 1 (l.map Val.d) = true := allSize_map l fun v => by cases v <;> rfl
@[simp] theorem allSize_ce (l : List Cel) : allSize 3 (l.map Cel.d) = true := allSize_map l fun v => rfl
@[simp] theorem cells_val (v : Val) : v.d.cells = [v.d] := by cases v <;> rfl
@[simp] theorem vcells_val (v : Val) : (V.d v.d).cells = [V.d v.d] := by cases v <;> rfl
def preD {α : Type} (g : α → D) (p : List α) (i : Nat) : List D := (p.take i).map g
theorem preD_zero {α : Type} (g : α → D) (p : List α) : preD g p 0 = [] := rfl
theorem preD_succ {α : Type} {g : α → D} {p : List α} {i : Nat} (h : i < p.length) : preD g p (i + 1) = preD g p i ++ [g p[i]] := by
 unfold preD; rw [List.take_succ_eq_append_getElem h,List.map_append]; rfl
theorem preD_length {α : Type} {g : α → D} {p : List α} {i : Nat} (h : i ≤ p.length) : (preD g p i).length = i := by simp [preD]; omega
theorem preD_end {α : Type} {g : α → D} {p : List α} {i : Nat} (h : p.length ≤ i) : preD g p i = p.map g := by rw [preD,List.take_of_length_le h]
def chk (c : Cel) : Nat :=
 if 3 < c.kind then 10 else
 if (c.kind ≠ 3 ∧ c.s ≠ noS) ∨ (c.kind ≠ 1 ∧ c.kind ≠ 2 ∧ c.n ≠ 0) ∨ (c.kind = 2 ∧ c.n ≠ 0 ∧ c.n ≠ 1) then 1 else
 if 64 < c.s.size then 5 else 0
end Go.Am.Ab
namespace Go.Am.Ab
open Go.Proofs
set_option maxHeartbeats 4000000
set_option maxRecDepth 4000
theorem rcheck_runs (c : Cel) (hc : c.kind < 256) (hs : c.s.size ≤ 9223372036854775807) : R 78 [.d c.d] [] = some ([.d (.int .i64 (chk c))],[]) := by
 obtain ⟨k,n,s⟩ := c
 simp only at hc hs
 simp only [Cel.d]
 by_cases h3 : 3 < k
 ·have h3' : (3 : Int) < k := by omega
  have e : chk ⟨k,n,s⟩ = 10 := by simp [chk,h3]
  rw [e]
  refine run_goal (rs:=[.tmp 2]) (ts:=[3]) Tryz.func78 rfl rfl rfl (by kernel_rfl) (by kernel_rfl) (.inl sp_78) (by simp [Tryz.f78]) ?_
  intro T hT
  simp -dsimp -implicitDefEqProofs (disch:=first|omega|assumption) [startSlots,nI,wI,h3']
  simpa -dsimp -implicitDefEqProofs (disch:=first|omega|assumption) [nI,wI] using hT
 by_cases a1 : s = noS <;> by_cases a2 : n = 0 <;> by_cases a3 : n = 1 <;> by_cases a4 : 64 < s.size
 all_goals have hk : k = 0 ∨ k = 1 ∨ k = 2 ∨ k = 3 := by omega
 all_goals first
  | (exfalso; omega)
  | (exfalso; subst a1; simp at a4; done)
  | skip
 all_goals
  rcases hk with rfl | rfl | rfl | rfl
  all_goals
   have a4' : ((64 : Int) < (s.size : Int)) = (64 < s.size) := by simp only [eq_iff_iff]; omega
   simp [chk,a1,a2,a3,a4]
   refine run_goal (rs:=[.tmp 2]) (ts:=[3]) Tryz.func78 rfl rfl rfl (by kernel_rfl) (by kernel_rfl) (.inl sp_78) (by simp [Tryz.f78]) ?_
   intro T hT
   simp -dsimp -implicitDefEqProofs (disch:=first|omega|assumption) [startSlots,nI,wI,str_beq,str_empty,a1,a2,a3,a4',a4]
   simpa -dsimp -implicitDefEqProofs (disch:=first|omega|assumption) [nI,wI] using hT
end Go.Am.Ab
namespace Go.Am.Ab
open Go.Proofs
set_option maxHeartbeats 4000000
set_option maxRecDepth 4000
theorem cel_d (c : Cel) : c.d = .agg [.int .u8 c.kind,.int .i64 c.n,.str c.s] := rfl
theorem cel_cells (c : Cel) : c.d.cells = [.int .u8 c.kind,.int .i64 c.n,.str c.s] := rfl
def fix (c : Cel) : Cel := if chk c = 0 then c else Cel.none
theorem rfix_runs (c : Cel) (hc : c.kind < 256) (hs : c.s.size ≤ 9223372036854775807) : R 29 [.d c.d] [] = some ([.d (fix c).d],[]) := by
 have h := rcheck_runs c hc hs
 simp only [Cel.d] at h ⊢
 by_cases h0 : chk c = 0
 ·have e : fix c = c := by simp [fix,h0]
  rw [e]
  refine run_goal (rs:=[.cell 2 47]) (ts:=[47]) Tryz.func29 rfl rfl rfl (by kernel_rfl) (by kernel_rfl) (.inl sp_29) (by simp [Tryz.f29]) ?_
  intro T hT
  simp -dsimp -implicitDefEqProofs (disch:=first|omega|assumption) [startSlots,nI,wI,h,h0]
  simpa -dsimp -implicitDefEqProofs (disch:=first|omega|assumption) [nI,wI] using hT
 ·have e : fix c = Cel.none := by simp [fix,h0]
  have h0' : ¬ (chk c : Int) = 0 := by omega
  rw [e]
  refine run_goal (rs:=[.cell 2 47]) (ts:=[47]) Tryz.func29 rfl rfl rfl (by kernel_rfl) (by kernel_rfl) (.inl sp_29) (by simp [Tryz.f29]) ?_
  intro T hT
  simp -dsimp -implicitDefEqProofs (disch:=first|omega|assumption) [startSlots,nI,wI,h,h0,h0']
  simpa -dsimp -implicitDefEqProofs (disch:=first|omega|assumption) [nI,wI,Cel.none] using hT
theorem chk_kind {c : Cel} (h : chk c = 0) : c.kind ≤ 3 ∧ (c.kind ≠ 3 → c.s = noS) ∧ (c.kind ≠ 1 → c.kind ≠ 2 → c.n = 0) ∧ (c.kind = 2 → c.n = 0 ∨ c.n = 1) ∧ c.s.size ≤ 64 := by
 unfold chk at h
 split at h
 ·omega
 ·split at h
  ·omega
  ·rename_i h1 h2
   split at h
   ·omega
   ·refine ⟨by omega,fun a => ?_,fun a b => ?_,fun a => ?_,by omega⟩
    ·exact Classical.byContradiction fun b => h2 (.inl ⟨a,b⟩)
    ·exact Classical.byContradiction fun b' => h2 (.inr (.inl ⟨a,b,b'⟩))
    ·exact Classical.byContradiction fun b => h2 (.inr (.inr ⟨a,fun e => b (.inl e),fun e => b (.inr e)⟩))
theorem fix_ok (c : Cel) : chk (fix c) = 0 := by
 unfold fix
 split
 ·assumption
 ·rfl
theorem fix_fix (c : Cel) : fix (fix c) = fix c := by
 rw [fix,if_pos (fix_ok c)]
def valOf (c : Cel) : Val := if (fix c).kind = 1 then .whole (fix c).n else if (fix c).kind = 2 then .truth (decide ((fix c).n = 1)) else if (fix c).kind = 3 then .text (fix c).s else .null
theorem value_runs (c : Cel) (hc : c.kind < 256) (hs : c.s.size ≤ 9223372036854775807) : R 28 [.d c.d] [] = some ([.d (valOf c).d],[]) := by
 have h := rfix_runs c hc hs
 have hk := (chk_kind (fix_ok c)).1
 unfold valOf
 obtain ⟨f,hf⟩ : ∃ f,f = fix c := ⟨_,rfl⟩
 rw [← hf] at h hk ⊢
 obtain ⟨k,n,s⟩ := f
 simp only [Cel.d] at h ⊢
 simp only at hk ⊢
 have hk4 : k = 0 ∨ k = 1 ∨ k = 2 ∨ k = 3 := by omega
 rcases hk4 with rfl | rfl | rfl | rfl
 all_goals
  refine run_goal (rs:=[.tmp 2]) (ts:=[44]) Tryz.func28 rfl rfl rfl (by kernel_rfl) (by kernel_rfl) (.inl sp_28) (by simp [Tryz.f28]) ?_
  intro T hT
  simp -dsimp -implicitDefEqProofs (disch:=first|omega|assumption) [startSlots,nI,wI,h]
  simpa -dsimp -implicitDefEqProofs (disch:=first|omega|assumption) [nI,wI,Val.d] using hT
theorem row_runs (l : List Cel) (hl : ∀ c ∈ l,c.kind < 256 ∧ c.s.size ≤ 9223372036854775807) (hn : l.length ≤ 1000000) : R 16 [.d (.list (ce l))] [] = some ([.arr 0 l.length],[.arr 1 (vs (l.map valOf)) 0]) := by
 have hend : vs (l.map valOf) = preD (fun c => (valOf c).d) l l.length := by
  rw [preD_end (Nat.le_refl _)]
  show (l.map valOf).map Val.d = _
  rw [List.map_map]; rfl
 rw [hend]
 refine run_goal (rs:=[.tmp 2]) (ts:=[29]) Tryz.func16 rfl rfl rfl (by kernel_rfl) (by kernel_rfl) (.inl sp_16) (by simp [Tryz.f16]) ?_
 intro T hT
 simp -dsimp -implicitDefEqProofs (disch:=first|omega|assumption) [startSlots,nI,wI]
 generalize hz : loopT _ _ _ _ _ _ = z
 revert z
 refine loop_any (σ:=Nat) (fun i => [(0,.d (.list (ce l))),(3,.arr 0 i),(4,.d (.int .i64 i))]) (fun i => [.arr 1 (preD (fun c => (valOf c).d) l i) 0]) (fun i => i ≤ l.length) (fun i => l.length - i) 0 ?_ ?_ ?_
 ·exact Nat.zero_le _
 ·simp -dsimp -implicitDefEqProofs (disch:=first|omega|assumption) [preD_zero]
 intro T' f hT' i hi ih
 by_cases h1 : i < l.length
 ·have hc := hl l[i] (List.getElem_mem _)
  have h := value_runs l[i] hc.1 hc.2
  rw [cel_d] at h
  have hcc := cel_cells l[i]
  have htk := preD_succ (g := fun c => (valOf c).d) h1
  have hlen := preD_length (g := fun c => (valOf c).d) hi
  simp -dsimp -implicitDefEqProofs (disch:=first|omega|assumption) [nI,wI,h1,h,hlen,hcc]
  refine ih (i + 1) _ _ h1 (by omega) ?_
  rw [htk]
  simp -dsimp -implicitDefEqProofs (disch:=first|omega|assumption)
 ·have e : i = l.length := by omega
  subst e
  subst hT'
  simp -dsimp -implicitDefEqProofs (disch:=first|omega|assumption) [nI,wI]
  simpa -dsimp -implicitDefEqProofs (disch:=first|omega|assumption) [nI,wI] using hT
def cellOf : Val → Cel
 | .null => Cel.none
 | .whole n => ⟨1,n,noS⟩
 | .truth b => ⟨2,if b then 1 else 0,noS⟩
 | .text s => ⟨3,0,s⟩
theorem kindOf_runs (v : Val) : R 58 [.d v.d] [] = some ([.d (.int .u8 v.kind)],[]) := by
 rcases v with _ | n | b | s
 all_goals
  simp only [Val.d,Val.kind]
  refine run_goal (rs:=[.tmp 2]) (ts:=[28]) Tryz.func58 rfl rfl rfl (by kernel_rfl) (by kernel_rfl) (.inl sp_58) (by simp [Tryz.f58]) ?_
  intro T hT
  simp -dsimp -implicitDefEqProofs (disch:=first|omega|assumption) [startSlots,nI,wI]
  simpa -dsimp -implicitDefEqProofs (disch:=first|omega|assumption) [nI,wI] using hT
theorem right_runs (k : Nat) (hk : k < 256) : R 121 [.d (.int .u8 k)] [] = some ([.d (.bool (decide (1 ≤ k ∧ k ≤ 3)))],[]) := by
 by_cases h1 : 1 ≤ k
 ·have h1' : (1 : Int) ≤ k := by omega
  by_cases h2 : k ≤ 3
  ·have h2' : (k : Int) ≤ 3 := by omega
   have e : decide (1 ≤ k ∧ k ≤ 3) = true := by simp; omega
   rw [e]
   refine run_goal (rs:=[.tmp 2]) (ts:=[4]) Tryz.func121 rfl rfl rfl (by kernel_rfl) (by kernel_rfl) (.inl sp_121) (by simp [Tryz.f121]) ?_
   intro T hT
   simp -dsimp -implicitDefEqProofs (disch:=first|omega|assumption) [startSlots,nI,wI,h1',h2']
   simpa -dsimp -implicitDefEqProofs (disch:=first|omega|assumption) [nI,wI] using hT
  ·have h2' : ¬ (k : Int) ≤ 3 := by omega
   have e : decide (1 ≤ k ∧ k ≤ 3) = false := by simp; omega
   rw [e]
   refine run_goal (rs:=[.tmp 2]) (ts:=[4]) Tryz.func121 rfl rfl rfl (by kernel_rfl) (by kernel_rfl) (.inl sp_121) (by simp [Tryz.f121]) ?_
   intro T hT
   simp -dsimp -implicitDefEqProofs (disch:=first|omega|assumption) [startSlots,nI,wI,h1',h2']
   simpa -dsimp -implicitDefEqProofs (disch:=first|omega|assumption) [nI,wI] using hT
 ·have h1' : ¬ (1 : Int) ≤ k := by omega
  have e : decide (1 ≤ k ∧ k ≤ 3) = false := by simp; omega
  rw [e]
  refine run_goal (rs:=[.tmp 2]) (ts:=[4]) Tryz.func121 rfl rfl rfl (by kernel_rfl) (by kernel_rfl) (.inl sp_121) (by simp [Tryz.f121]) ?_
  intro T hT
  simp -dsimp -implicitDefEqProofs (disch:=first|omega|assumption) [startSlots,nI,wI,h1']
  simpa -dsimp -implicitDefEqProofs (disch:=first|omega|assumption) [nI,wI] using hT
end Go.Am.Ab
