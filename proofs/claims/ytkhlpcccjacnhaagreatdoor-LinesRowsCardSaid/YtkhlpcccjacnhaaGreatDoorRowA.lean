/- Rows written. -/
import Derived.Test.YtkhlpcccjacnhaaGreatDoorExtra
set_option linter.all false
namespace Go.Am.Ab
open Go.Proofs
set_option maxHeartbeats 4000000
set_option maxRecDepth 4000
attribute [simp] ifaceV assertV
structure Cel where
 kind : Nat
 n : Int
 s : ByteArray
 deriving DecidableEq
abbrev noS : ByteArray := ⟨#[]⟩
def Cel.none : Cel := ⟨0,0,noS⟩
def Cel.d (c : Cel) : D := .agg [.int .u8 c.kind,.int .i64 c.n,.str c.s]
inductive Val where
 | null
 | whole (n : Int)
 | truth (b : Bool)
 | text (s : ByteArray)
 deriving DecidableEq
def Val.d : Val → D
 | .null => .nilI
 | .whole n => .iface 2 (.int .i64 n)
 | .truth b => .iface 4 (.bool b)
 | .text s => .iface 9 (.str s)
def Val.kind : Val → Nat
 | .null => 0
 | .whole _ => 1
 | .truth _ => 2
 | .text _ => 3
abbrev vs (l : List Val) : List D := l.map Val.d
abbrev ce (l : List Cel) : List D := l.map Cel.d
theorem bytes_inj {a b : ByteArray} (h : a.toList = b.toList) : a = b := by
 rw [ByteArray.toList_eq,ByteArray.toList_eq] at h
 obtain ⟨⟨x⟩⟩ := a
 obtain ⟨⟨y⟩⟩ := b
 simp at h
 rw [h]
theorem str_beq (a b : ByteArray) : (a.toList == b.toList) = decide (a = b) := by
 by_cases e : a = b
 ·subst e; simp
 ·rw [decide_eq_false e]
  exact beq_false_of_ne fun h => e (bytes_inj h)
theorem str_empty (a : ByteArray) : a.toList.isEmpty = decide (a = noS) := by
 rw [← str_beq]
 have : noS.toList = [] := by rw [ByteArray.toList_eq]
 rw [this]
 cases a.toList <;> rfl
theorem allSize_map0 {α : Type} {g : α → D} {n : Nat} (l : List α) (h : ∀ a,(g a).cells.length = n) : allSize n (l.map g) = true := by
 induction l with
 | nil => rfl
 | cons a l ih => rw [List.map_cons,allSize,ih,h a]; simp
@[simp] theorem allSize_vs (l : List Val) : allSize 1 (l.map Val.d) = true := allSize_map0 l fun v => by cases v <;> rfl
@[simp] theorem allSize_ce (l : List Cel) : allSize 3 (l.map Cel.d) = true := allSize_map0 l fun v => rfl
@[simp] theorem cells_val (v : Val) : v.d.cells = [v.d] := by cases v <;> rfl
@[simp] theorem vcells_val (v : Val) : (V.d v.d).cells = [V.d v.d] := by cases v <;> rfl
def preD {α : Type} (g : α → D) (p : List α) (i : Nat) : List D := (p.take i).map g
theorem preD_zero {α : Type} (g : α → D) (p : List α) : preD g p 0 = [] := rfl
theorem preD_succ {α : Type} {g : α → D} {p : List α} {i : Nat} (h : i < p.length) : preD g p (i + 1) = preD g p i ++ [g p[i]] := by
 unfold preD; rw [List.take_succ_eq_append_getElem h,List.map_append]; rfl
theorem preD_length {α : Type} {g : α → D} {p : List α} {i : Nat} (h : i ≤ p.length) : (preD g p i).length = i := by simp [preD]; omega
theorem preD_end {α : Type} {g : α → D} {p : List α} {i : Nat} (h : p.length ≤ i) : preD g p i = p.map g := by rw [preD,List.take_of_length_le h]
def chk (c : Cel) : Nat :=
 if 3 < c.kind then 10 else
 if (c.kind ≠ 3 ∧ c.s ≠ noS) ∨ (c.kind ≠ 1 ∧ c.kind ≠ 2 ∧ c.n ≠ 0) ∨ (c.kind = 2 ∧ c.n ≠ 0 ∧ c.n ≠ 1) then 1 else
 if 64 < c.s.size then 5 else 0
end Go.Am.Ab
namespace Go.Am.Ab
open Go.Proofs
set_option maxHeartbeats 4000000
set_option maxRecDepth 4000
theorem rcheck_runs (c : Cel) (hc : c.kind < 256) (hs : c.s.size ≤ 9223372036854775807) : R 81 [.d c.d] [] = some ([.d (.int .i64 (chk c))],[]) := by
 obtain ⟨k,n,s⟩ := c
 simp only at hc hs
 simp only [Cel.d]
 by_cases h3 : 3 < k
 ·have h3' : (3 : Int) < k := by omega
  have e : chk ⟨k,n,s⟩ = 10 := by simp [chk,h3]
  rw [e]
  refine run_goal (rs:=[.tmp 2]) (ts:=[3]) Tryz.func81 rfl rfl rfl (by kernel_rfl) (by kernel_rfl) (.inl sp_81) (by simp [Tryz.f81]) ?_
  intro T hT
  simp -dsimp -implicitDefEqProofs (disch:=first|omega|assumption) [startSlots,nI,wI,h3']
  simpa -dsimp -implicitDefEqProofs (disch:=first|omega|assumption) [nI,wI] using hT
 by_cases a1 : s = noS <;> by_cases a2 : n = 0 <;> by_cases a3 : n = 1 <;> by_cases a4 : 64 < s.size
 all_goals have hk : k = 0 ∨ k = 1 ∨ k = 2 ∨ k = 3 := by omega
 all_goals first
  | (exfalso; omega)
  | (exfalso; subst a1; simp at a4; done)
  | skip
 all_goals
  rcases hk with rfl | rfl | rfl | rfl
  all_goals
   have a4' : ((64 : Int) < (s.size : Int)) = (64 < s.size) := by simp only [eq_iff_iff]; omega
   simp [chk,a1,a2,a3,a4]
   refine run_goal (rs:=[.tmp 2]) (ts:=[3]) Tryz.func81 rfl rfl rfl (by kernel_rfl) (by kernel_rfl) (.inl sp_81) (by simp [Tryz.f81]) ?_
   intro T hT
   simp -dsimp -implicitDefEqProofs (disch:=first|omega|assumption) [startSlots,nI,wI,str_beq,str_empty,a1,a2,a3,a4',a4]
   simpa -dsimp -implicitDefEqProofs (disch:=first|omega|assumption) [nI,wI] using hT
end Go.Am.Ab
namespace Go.Am.Ab
open Go.Proofs
set_option maxHeartbeats 4000000
set_option maxRecDepth 4000
theorem cel_d (c : Cel) : c.d = .agg [.int .u8 c.kind,.int .i64 c.n,.str c.s] := rfl
theorem cel_cells (c : Cel) : c.d.cells = [.int .u8 c.kind,.int .i64 c.n,.str c.s] := rfl
def fix (c : Cel) : Cel := if chk c = 0 then c else Cel.none
theorem rfix_runs (c : Cel) (hc : c.kind < 256) (hs : c.s.size ≤ 9223372036854775807) : R 36 [.d c.d] [] = some ([.d (fix c).d],[]) := by
 have h := rcheck_runs c hc hs
 simp only [Cel.d] at h ⊢
 by_cases h0 : chk c = 0
 ·have e : fix c = c := by simp [fix,h0]
  rw [e]
  refine run_goal (rs:=[.cell 2 40]) (ts:=[40]) Tryz.func36 rfl rfl rfl (by kernel_rfl) (by kernel_rfl) (.inl sp_36) (by simp [Tryz.f36]) ?_
  intro T hT
  simp -dsimp -implicitDefEqProofs (disch:=first|omega|assumption) [startSlots,nI,wI,h,h0]
  simpa -dsimp -implicitDefEqProofs (disch:=first|omega|assumption) [nI,wI] using hT
 ·have e : fix c = Cel.none := by simp [fix,h0]
  have h0' : ¬ (chk c : Int) = 0 := by omega
  rw [e]
  refine run_goal (rs:=[.cell 2 40]) (ts:=[40]) Tryz.func36 rfl rfl rfl (by kernel_rfl) (by kernel_rfl) (.inl sp_36) (by simp [Tryz.f36]) ?_
  intro T hT
  simp -dsimp -implicitDefEqProofs (disch:=first|omega|assumption) [startSlots,nI,wI,h,h0,h0']
  simpa -dsimp -implicitDefEqProofs (disch:=first|omega|assumption) [nI,wI,Cel.none] using hT
theorem chk_kind {c : Cel} (h : chk c = 0) : c.kind ≤ 3 ∧ (c.kind ≠ 3 → c.s = noS) ∧ (c.kind ≠ 1 → c.kind ≠ 2 → c.n = 0) ∧ (c.kind = 2 → c.n = 0 ∨ c.n = 1) ∧ c.s.size ≤ 64 := by
 unfold chk at h
 split at h
 ·omega
 ·split at h
  ·omega
  ·rename_i h1 h2
   split at h
   ·omega
   ·refine ⟨by omega,fun a => ?_,fun a b => ?_,fun a => ?_,by omega⟩
    ·exact Classical.byContradiction fun b => h2 (.inl ⟨a,b⟩)
    ·exact Classical.byContradiction fun b' => h2 (.inr (.inl ⟨a,b,b'⟩))
    ·exact Classical.byContradiction fun b => h2 (.inr (.inr ⟨a,fun e => b (.inl e),fun e => b (.inr e)⟩))
theorem fix_ok (c : Cel) : chk (fix c) = 0 := by
 unfold fix
 split
 ·assumption
 ·rfl
def valOf (c : Cel) : Val := if (fix c).kind = 1 then .whole (fix c).n else if (fix c).kind = 2 then .truth (decide ((fix c).n = 1)) else if (fix c).kind = 3 then .text (fix c).s else .null
theorem cval_runs (c : Cel) (hc : c.kind < 256) (hs : c.s.size ≤ 9223372036854775807) : R 39 [.d c.d] [] = some ([.d (valOf c).d],[]) := by
 have h := rfix_runs c hc hs
 have hk := (chk_kind (fix_ok c)).1
 unfold valOf
 obtain ⟨f,hf⟩ : ∃ f,f = fix c := ⟨_,rfl⟩
 rw [← hf] at h hk ⊢
 obtain ⟨k,n,s⟩ := f
 simp only [Cel.d] at h ⊢
 simp only at hk ⊢
 have hk4 : k = 0 ∨ k = 1 ∨ k = 2 ∨ k = 3 := by omega
 rcases hk4 with rfl | rfl | rfl | rfl
 all_goals
  refine run_goal (rs:=[.tmp 2]) (ts:=[88]) Tryz.func39 rfl rfl rfl (by kernel_rfl) (by kernel_rfl) (.inl sp_39) (by simp [Tryz.f39]) ?_
  intro T hT
  simp -dsimp -implicitDefEqProofs (disch:=first|omega|assumption) [startSlots,nI,wI,h]
  simpa -dsimp -implicitDefEqProofs (disch:=first|omega|assumption) [nI,wI,Val.d] using hT
theorem row_runs (l : List Cel) (hl : ∀ c ∈ l,c.kind < 256 ∧ c.s.size ≤ 9223372036854775807) (hn : l.length ≤ 1000000) : R 13 [.d (.list (ce l))] [] = some ([.arr 0 l.length],[.arr 1 (vs (l.map valOf)) 0]) := by
 have hend : vs (l.map valOf) = preD (fun c => (valOf c).d) l l.length := by
  rw [preD_end (Nat.le_refl _)]
  show (l.map valOf).map Val.d = _
  rw [List.map_map]; rfl
 rw [hend]
 refine run_goal (rs:=[.tmp 2]) (ts:=[35]) Tryz.func13 rfl rfl rfl (by kernel_rfl) (by kernel_rfl) (.inl sp_13) (by simp [Tryz.f13]) ?_
 intro T hT
 simp -dsimp -implicitDefEqProofs (disch:=first|omega|assumption) [startSlots,nI,wI]
 generalize hz : loopT _ _ _ _ _ _ = z
 revert z
 refine loop_any (σ:=Nat) (fun i => [(0,.d (.list (ce l))),(3,.arr 0 i),(4,.d (.int .i64 i))]) (fun i => [.arr 1 (preD (fun c => (valOf c).d) l i) 0]) (fun i => i ≤ l.length) (fun i => l.length - i) 0 ?_ ?_ ?_
 ·exact Nat.zero_le _
 ·simp -dsimp -implicitDefEqProofs (disch:=first|omega|assumption) [preD_zero]
 intro T' f hT' i hi ih
 by_cases h1 : i < l.length
 ·have hc := hl l[i] (List.getElem_mem _)
  have h := cval_runs l[i] hc.1 hc.2
  rw [cel_d] at h
  have hcc := cel_cells l[i]
  have htk := preD_succ (g := fun c => (valOf c).d) h1
  have hlen := preD_length (g := fun c => (valOf c).d) hi
  simp -dsimp -implicitDefEqProofs (disch:=first|omega|assumption) [nI,wI,h1,h,hlen,hcc]
  refine ih (i + 1) _ _ h1 (by omega) ?_
  rw [htk]
  simp -dsimp -implicitDefEqProofs (disch:=first|omega|assumption)
 ·have e : i = l.length := by omega
  subst e
  subst hT'
  simp -dsimp -implicitDefEqProofs (disch:=first|omega|assumption) [nI,wI]
  simpa -dsimp -implicitDefEqProofs (disch:=first|omega|assumption) [nI,wI] using hT
theorem fixRow_runs (l : List Cel) (hl : ∀ c ∈ l,c.kind < 256 ∧ c.s.size ≤ 9223372036854775807) (hn : l.length ≤ 1000000) : R 11 [.d (.list (ce l))] [] = some ([.arr 0 l.length],[.arr 3 (ce (l.map fix)) 0]) := by
 have hend : ce (l.map fix) = preD (fun c => (fix c).d) l l.length := by
  rw [preD_end (Nat.le_refl _)]
  show (l.map fix).map Cel.d = _
  rw [List.map_map]; rfl
 rw [hend]
 refine run_goal (rs:=[.tmp 2]) (ts:=[32]) Tryz.func11 rfl rfl rfl (by kernel_rfl) (by kernel_rfl) (.inl sp_11) (by simp [Tryz.f11]) ?_
 intro T hT
 simp -dsimp -implicitDefEqProofs (disch:=first|omega|assumption) [startSlots,nI,wI]
 generalize hz : loopT _ _ _ _ _ _ = z
 revert z
 refine loop_any (σ:=Nat) (fun i => [(0,.d (.list (ce l))),(3,.arr 0 i),(4,.d (.int .i64 i))]) (fun i => [.arr 3 (preD (fun c => (fix c).d) l i) 0]) (fun i => i ≤ l.length) (fun i => l.length - i) 0 ?_ ?_ ?_
 ·exact Nat.zero_le _
 ·simp -dsimp -implicitDefEqProofs (disch:=first|omega|assumption) [preD_zero]
 intro T' f hT' i hi ih
 by_cases h1 : i < l.length
 ·have hc := hl l[i] (List.getElem_mem _)
  have h := rfix_runs l[i] hc.1 hc.2
  rw [cel_d] at h
  have hcc := cel_cells l[i]
  have hsz : (fix l[i]).d.cells.length = 3 := rfl
  have htk := preD_succ (g := fun c => (fix c).d) h1
  have hlen := preD_length (g := fun c => (fix c).d) hi
  simp -dsimp -implicitDefEqProofs (disch:=first|omega|assumption) [nI,wI,h1,h,hlen,hcc,hsz]
  refine ih (i + 1) _ _ h1 (by omega) ?_
  rw [htk]
  simp -dsimp -implicitDefEqProofs (disch:=first|omega|assumption)
 ·have e : i = l.length := by omega
  subst e
  subst hT'
  simp -dsimp -implicitDefEqProofs (disch:=first|omega|assumption) [nI,wI]
  simpa -dsimp -implicitDefEqProofs (disch:=first|omega|assumption) [nI,wI] using hT
end Go.Am.Ab
namespace Go.Am.Ab
open Go.Proofs
set_option maxHeartbeats 4000000
set_option maxRecDepth 4000
abbrev wNull : List UInt8 := [110,117,108,108]
abbrev wYes : List UInt8 := [121,101,115]
abbrev wNo : List UInt8 := [110,111]
def wv : Val → List UInt8
 | .null => wNull
 | .whole n => itoaL n
 | .truth b => if b then wYes else wNo
 | .text s => 39 :: s.data.toList
theorem strsD_map : ∀ ws : List (List UInt8),strsD (ws.map strD) = some ws
 | [] => rfl
 | w :: ws => by
  have ih := strsD_map ws
  simp only [List.map_cons,strD,strsD,strD] at ih ⊢
  simp [ih]
theorem join_runs {ws : List (List UInt8)} (h : (joinL [32] ws).length < 1000000000) (hn : ws.length < 1000000000) : R 38 [W ws,S [32]] [] = some ([S (joinL [32] ws)],[]) := by
 refine Runs_sort 3 (by omega) so_38 ?_
 rw [sortV_lib (by omega)]
 unfold libV
 show (libD 4 [.list (ws.map strD),strD [32]]).map _ = _
 unfold libD
 simp only [strD]
 rw [show (ws.map strD) = ws.map (fun l => D.str ⟨l.toArray⟩) from rfl] at *
 have hs := strsD_map ws
 rw [show (ws.map strD) = ws.map (fun l => D.str ⟨l.toArray⟩) from rfl] at hs
 simp only [hs,h,hn,and_self,if_true]
 rfl
theorem fmt_runs {n : Int} (h1 : -9223372036854775808 ≤ n) (h2 : n ≤ 9223372036854775807) : R 37 [I n,I 10] [] = some ([S (itoaL n)],[]) := by
 refine Runs_sort 5 (by omega) so_37 ?_
 rw [sortV_lib (by omega)]
 unfold libV
 show (if -9223372036854775808 ≤ n ∧ n ≤ 9223372036854775807 then some [strD (itoaL n)] else none).map _ = _
 rw [if_pos ⟨h1,h2⟩]
 rfl
theorem join_len {sep : List UInt8} {k : Nat} : ∀ {ws : List (List UInt8)},(∀ w ∈ ws,w.length ≤ k) → (joinL sep ws).length ≤ (k + sep.length) * ws.length
 | [],_ => by simp [joinL]
 | [x],h => by
  have := h x (by simp)
  simp [joinL]; omega
 | x :: y :: r,h => by
  have ih := join_len (sep := sep) (k := k) (ws := y :: r) (fun w hw => h w (List.mem_cons_of_mem _ hw))
  have hx := h x (by simp)
  simp only [joinL,List.length_append,List.length_cons,Nat.mul_add,Nat.mul_one] at ih ⊢
  omega
theorem join_snoc {sep w : List UInt8} : ∀ {ws : List (List UInt8)},ws ≠ [] → joinL sep (ws ++ [w]) = joinL sep ws ++ sep ++ w
 | [],h => absurd rfl h
 | [x],_ => rfl
 | x :: y :: r,_ => by
  have ih := join_snoc (sep := sep) (w := w) (ws := y :: r) (by simp)
  simp only [List.cons_append,joinL] at ih ⊢
  rw [ih]; simp
def vOk (v : Val) : Prop := match v with | .whole n => -9223372036854775808 ≤ n ∧ n ≤ 9223372036854775807 | .text s => s.size ≤ 64 | _ => True
theorem wv_len {v : Val} (h : vOk v) : (wv v).length ≤ 70 := by
 cases v with
 | null => decide
 | whole n => have := itoaL_len n; simp only [wv]; omega
 | truth b => cases b <;> decide
 | text s =>
  have : s.data.toList.length ≤ 64 := h
  simp only [wv,List.length_cons]; omega
def wvD (v : Val) : D := strD (wv v)
theorem lrow_runs (l : List Val) (hl : ∀ v ∈ l,vOk v) (hn : l.length ≤ 100) : R 12 [.d (.list (vs l))] [] = some ([S (joinL [32] (l.map wv))],[]) := by
 have hj := join_len (sep := [32]) (k := 70) (ws := l.map wv) (fun w hw => by
  obtain ⟨v,hv,rfl⟩ := List.mem_map.1 hw
  exact wv_len (hl v hv))
 simp only [List.length_map,List.length_cons,List.length_nil] at hj
 have hjr := join_runs (ws := l.map wv) (by omega) (by simp; omega)
 have hend : (l.map wv).map strD = preD wvD l l.length := by
  rw [preD_end (Nat.le_refl _),List.map_map]; rfl
 unfold W at hjr
 rw [hend] at hjr
 refine run_goal (rs:=[.tmp 2]) (ts:=[9]) Tryz.func12 rfl rfl rfl (by kernel_rfl) (by kernel_rfl) (.inl sp_12) (by simp [Tryz.f12]) ?_
 intro T hT
 simp -dsimp -implicitDefEqProofs (disch:=first|omega|assumption) [startSlots,nI,wI]
 generalize hz : loopT _ _ _ _ _ _ = z
 revert z
 refine loop_any (σ:=Nat) (fun i => [(3,.arr 0 i),(11,.d (.list (vs l))),(12,I l.length),(13,I i)]) (fun i => [.arr 1 (preD wvD l i) 0]) (fun i => i ≤ l.length) (fun i => l.length - i) 0 ?_ ?_ ?_
 ·exact Nat.zero_le _
 ·simp -dsimp -implicitDefEqProofs (disch:=first|omega|assumption) [preD_zero]
 intro T' f hT' i hi ih
 by_cases h1 : i < l.length
 ·have hv := hl l[i] (List.getElem_mem h1)
  have htk := preD_succ (g := wvD) h1
  have hlen := preD_length (g := wvD) hi
  cases hlv : l[i] with
  | null =>
   have hw : wvD l[i] = .str ⟨#[110,117,108,108]⟩ := by rw [hlv]; rfl
   simp -dsimp -implicitDefEqProofs (disch:=first|omega|assumption) [nI,wI,h1,hlv,Val.d,hlen]
   refine ih (i + 1) _ _ h1 (by omega) ?_
   rw [htk,hw]
   simp -dsimp -implicitDefEqProofs (disch:=first|omega|assumption)
  | whole n =>
   rw [hlv] at hv
   have hf := fmt_runs hv.1 hv.2
   have hw : wvD l[i] = .str ⟨(itoaL n).toArray⟩ := by rw [hlv]; rfl
   simp -dsimp -implicitDefEqProofs (disch:=first|omega|assumption) [nI,wI,h1,hlv,Val.d,hlen,hf]
   refine ih (i + 1) _ _ h1 (by omega) ?_
   rw [htk,hw]
   simp -dsimp -implicitDefEqProofs (disch:=first|omega|assumption)
  | truth b =>
   cases b
   ·have hw : wvD l[i] = .str ⟨#[110,111]⟩ := by rw [hlv]; rfl
    simp -dsimp -implicitDefEqProofs (disch:=first|omega|assumption) [nI,wI,h1,hlv,Val.d,hlen]
    refine ih (i + 1) _ _ h1 (by omega) ?_
    rw [htk,hw]
    simp -dsimp -implicitDefEqProofs (disch:=first|omega|assumption)
   ·have hw : wvD l[i] = .str ⟨#[121,101,115]⟩ := by rw [hlv]; rfl
    simp -dsimp -implicitDefEqProofs (disch:=first|omega|assumption) [nI,wI,h1,hlv,Val.d,hlen]
    refine ih (i + 1) _ _ h1 (by omega) ?_
    rw [htk,hw]
    simp -dsimp -implicitDefEqProofs (disch:=first|omega|assumption)
  | text s =>
   rw [hlv] at hv
   have hs : s.size ≤ 64 := hv
   have hadd : (⟨#[39]⟩ : ByteArray) ++ s = ⟨(39 :: s.data.toList).toArray⟩ := mk1_add 39 s.data.toList
   have hw : wvD l[i] = .str ⟨(39 :: s.data.toList).toArray⟩ := by rw [hlv]; rfl
   simp -dsimp -implicitDefEqProofs (disch:=first|omega|assumption) [nI,wI,h1,hlv,Val.d,hlen,hadd,ba_size]
   refine ih (i + 1) _ _ h1 (by omega) ?_
   rw [htk,hw]
   simp -dsimp -implicitDefEqProofs (disch:=first|omega|assumption)
 ·have e : i = l.length := by omega
  subst e
  subst hT'
  have hlen := preD_length (g := wvD) (Nat.le_refl l.length)
  simp -dsimp -implicitDefEqProofs (disch:=first|omega|assumption) [nI,wI,hjr,hlen]
  simpa -dsimp -implicitDefEqProofs (disch:=first|omega|assumption) [nI,wI] using hT
def wd (c : Cel) : List UInt8 := if c.kind = 0 then wNull else if c.kind = 1 then itoaL c.n else if c.kind = 2 then (if c.n = 1 then wYes else wNo) else 39 :: c.s.data.toList
def cOk (c : Cel) : Prop := c.kind ≤ 3 ∧ (-9223372036854775808 ≤ c.n ∧ c.n ≤ 9223372036854775807) ∧ c.s.size ≤ 64
theorem wd_len {c : Cel} (h : cOk c) : (wd c).length ≤ 70 := by
 have h1 := itoaL_len c.n
 have h2 : c.s.data.toList.length ≤ 64 := h.2.2
 unfold wd
 split
 ·decide
 ·split
  ·omega
  ·split
   ·split <;> decide
   ·simp only [List.length_cons]; omega
theorem nil_add (s : ByteArray) : (⟨#[]⟩ : ByteArray) ++ s = s := by
 apply ByteArray.ext
 simp
theorem rrow_runs (l : List Cel) (hl : ∀ c ∈ l,cOk c) (hn : l.length ≤ 100) : R 14 [.d (.list (ce l))] [] = some ([S (joinL [32] (l.map wd))],[]) := by
 refine run_goal (rs:=[.tmp 2]) (ts:=[9]) Tryz.func14 rfl rfl rfl (by kernel_rfl) (by kernel_rfl) (.inl sp_14) (by simp [Tryz.f14]) ?_
 intro T hT
 simp -dsimp -implicitDefEqProofs (disch:=first|omega|assumption) [startSlots,nI,wI]
 generalize hz : loopT _ _ _ _ _ _ = z
 revert z
 refine loop_any (σ:=Nat) (fun i => [(0,.d (.list (ce l))),(3,S (joinL [32] ((l.take i).map wd))),(4,I i)]) (fun i => []) (fun i => i ≤ l.length) (fun i => l.length - i) 0 ?_ ?_ ?_
 ·exact Nat.zero_le _
 ·simp -dsimp -implicitDefEqProofs (disch:=first|omega|assumption) [joinL]
 intro T' f hT' i hi ih
 by_cases h1 : i < l.length
 ·have hcok := hl l[i] (List.getElem_mem h1)
  have htk : (l.take (i + 1)).map wd = (l.take i).map wd ++ [wd l[i]] := by rw [List.take_add_one,List.getElem?_eq_getElem h1,List.map_append]; rfl
  have hpl : (joinL [32] ((l.take i).map wd)).length ≤ 7100 := by
   have := join_len (sep := [32]) (k := 70) (ws := (l.take i).map wd) (fun w hw => by
    obtain ⟨c,hc,rfl⟩ := List.mem_map.1 hw
    exact wd_len (hl c (List.mem_of_mem_take hc)))
   simp only [List.length_map,List.length_take,List.length_cons,List.length_nil] at this
   omega
  have hstep : ∀ w,wd l[i] = w → joinL [32] ((l.take (i + 1)).map wd) = if i = 0 then w else joinL [32] ((l.take i).map wd) ++ [32] ++ w := fun w hw => by
   rw [htk,hw]
   split
   ·rename_i h0; subst h0; rfl
   ·rw [join_snoc]
    intro e
    have := congrArg List.length e
    rw [List.length_map,List.length_take,List.length_nil] at this
    omega
  have hnum := rnumber_runs hcok.2.1.1 hcok.2.1.2
  have hsz : (⟨(joinL [32] ((l.take i).map wd)).toArray⟩ : ByteArray).size = (joinL [32] ((l.take i).map wd)).length := strD_size _
  rcases hc : l[i] with ⟨k,n,s⟩
  rw [hc] at hcok hnum hstep
  obtain ⟨ck,cn,cs⟩ := hcok
  simp only at ck cn cs hnum
  have hk4 : k = 0 ∨ k = 1 ∨ k = 2 ∨ k = 3 := by omega
  have hp7 : (⟨(joinL [32] ((l.take i).map wd)).toArray⟩ : ByteArray).size ≤ 7100 := by rw [hsz]; exact hpl
  have hsp : (⟨(joinL [32] ((l.take i).map wd)).toArray⟩ : ByteArray) ++ ⟨#[32]⟩ = ⟨(joinL [32] ((l.take i).map wd) ++ [32]).toArray⟩ := mk_add _ [32]
  have hit := itoaL_len n
  generalize hJ : joinL [32] ((l.take i).map wd) = J at *
  have had : ∀ (a b : List UInt8),(⟨a.toArray⟩ : ByteArray) ++ ⟨b.toArray⟩ = ⟨(a ++ b).toArray⟩ := mk_add
  have hJ0 : i = 0 → J = [] := fun h => by rw [h] at hJ; exact hJ.symm
  clear hJ
  have hn1 : True := trivial
  rcases hk4 with rfl | rfl | rfl | rfl
  ·have hst := hstep wNull rfl
   by_cases h0 : i = 0
   ·rw [if_pos h0] at hst
    have hJn := hJ0 h0
    subst hJn
    subst h0
    simp -dsimp -implicitDefEqProofs (disch:=first|omega|assumption) [nI,wI,h1,hc,Cel.d,hn1]
    refine ih (0 + 1) _ _ h1 (by omega) ?_
    rw [hst]
    simp -dsimp -implicitDefEqProofs (disch:=first|omega|assumption) [nil_add]
   ·rw [if_neg h0] at hst
    have h0' : (0 : Int) < i := by omega
    have h0n : 0 < i := by omega
    simp -dsimp -implicitDefEqProofs (disch:=first|omega|assumption) [nI,wI,h1,hc,Cel.d,h0,h0',h0n,hp7,hpl,hsp,had,ba_size,hn1]
    refine ih (i + 1) _ _ h1 (by omega) ?_
    rw [hst]
    simp -dsimp -implicitDefEqProofs (disch:=first|omega|assumption) [nil_add]
  ·have hst := hstep (itoaL n) rfl
   by_cases h0 : i = 0
   ·rw [if_pos h0] at hst
    have hJn := hJ0 h0
    subst hJn
    subst h0
    simp -dsimp -implicitDefEqProofs (disch:=first|omega|assumption) [nI,wI,h1,hc,Cel.d,hnum,hit]
    refine ih (0 + 1) _ _ h1 (by omega) ?_
    rw [hst]
    simp -dsimp -implicitDefEqProofs (disch:=first|omega|assumption) [nil_add]
   ·rw [if_neg h0] at hst
    have h0' : (0 : Int) < i := by omega
    have h0n : 0 < i := by omega
    simp -dsimp -implicitDefEqProofs (disch:=first|omega|assumption) [nI,wI,h1,hc,Cel.d,h0,h0',h0n,hp7,hpl,hsp,had,ba_size,hnum,hit]
    refine ih (i + 1) _ _ h1 (by omega) ?_
    rw [hst]
    simp -dsimp -implicitDefEqProofs (disch:=first|omega|assumption) [nil_add]
  ·by_cases hn1' : n = 1
   ·subst hn1'
    ·have hst := hstep wYes rfl
     by_cases h0 : i = 0
     ·rw [if_pos h0] at hst
      have hJn := hJ0 h0
      subst hJn
      subst h0
      simp -dsimp -implicitDefEqProofs (disch:=first|omega|assumption) [nI,wI,h1,hc,Cel.d,hn1]
      refine ih (0 + 1) _ _ h1 (by omega) ?_
      rw [hst]
      simp -dsimp -implicitDefEqProofs (disch:=first|omega|assumption) [nil_add]
     ·rw [if_neg h0] at hst
      have h0' : (0 : Int) < i := by omega
      have h0n : 0 < i := by omega
      simp -dsimp -implicitDefEqProofs (disch:=first|omega|assumption) [nI,wI,h1,hc,Cel.d,h0,h0',h0n,hp7,hpl,hsp,had,ba_size,hn1]
      refine ih (i + 1) _ _ h1 (by omega) ?_
      rw [hst]
      simp -dsimp -implicitDefEqProofs (disch:=first|omega|assumption) [nil_add]
   ·have hnn : ¬ n = 1 := hn1'
    ·have hst := hstep wNo (by show (if n = 1 then wYes else wNo) = wNo; rw [if_neg hnn])
     by_cases h0 : i = 0
     ·rw [if_pos h0] at hst
      have hJn := hJ0 h0
      subst hJn
      subst h0
      simp -dsimp -implicitDefEqProofs (disch:=first|omega|assumption) [nI,wI,h1,hc,Cel.d,hnn,hn1']
      refine ih (0 + 1) _ _ h1 (by omega) ?_
      rw [hst]
      simp -dsimp -implicitDefEqProofs (disch:=first|omega|assumption) [nil_add]
     ·rw [if_neg h0] at hst
      have h0' : (0 : Int) < i := by omega
      have h0n : 0 < i := by omega
      simp -dsimp -implicitDefEqProofs (disch:=first|omega|assumption) [nI,wI,h1,hc,Cel.d,h0,h0',h0n,hp7,hpl,hsp,had,ba_size,hnn,hn1']
      refine ih (i + 1) _ _ h1 (by omega) ?_
      rw [hst]
      simp -dsimp -implicitDefEqProofs (disch:=first|omega|assumption) [nil_add]
  ·obtain ⟨L,rfl⟩ : ∃ L : List UInt8,s = ⟨L.toArray⟩ := ⟨s.data.toList,rfl⟩
   have hls : L.length ≤ 64 := by rw [strD_size] at cs; exact cs
   have hst := hstep (39 :: L) rfl
   by_cases h0 : i = 0
   ·rw [if_pos h0] at hst
    have hJn := hJ0 h0
    subst hJn
    subst h0
    simp -dsimp -implicitDefEqProofs (disch:=first|omega|assumption) [nI,wI,h1,hc,Cel.d,hls,had,ba_size]
    refine ih (0 + 1) _ _ h1 (by omega) ?_
    rw [hst]
    simp -dsimp -implicitDefEqProofs (disch:=first|omega|assumption) [nil_add]
   ·rw [if_neg h0] at hst
    have h0' : (0 : Int) < i := by omega
    have h0n : 0 < i := by omega
    simp -dsimp -implicitDefEqProofs (disch:=first|omega|assumption) [nI,wI,h1,hc,Cel.d,h0,h0',h0n,hp7,hpl,had,ba_size,hls]
    refine ih (i + 1) _ _ h1 (by omega) ?_
    rw [hst]
    simp -dsimp -implicitDefEqProofs (disch:=first|omega|assumption) [nil_add]
 ·have e : i = l.length := by omega
  subst e
  subst hT'
  rw [List.take_length]
  simp -dsimp -implicitDefEqProofs (disch:=first|omega|assumption) [nI,wI]
  simpa -dsimp -implicitDefEqProofs (disch:=first|omega|assumption) [nI,wI] using hT
end Go.Am.Ab
