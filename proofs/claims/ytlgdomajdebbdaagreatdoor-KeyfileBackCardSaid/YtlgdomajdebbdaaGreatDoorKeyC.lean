/- Sets of keys. -/
import Derived.Test.YtlgdomajdebbdaaGreatDoorKeyB
set_option linter.all false
namespace Go.Am.Ab
open Go.Proofs
set_option maxHeartbeats 8000000
set_option maxRecDepth 4000
theorem cloneV_runs (l : List Val) (hn : l.length ≤ 1024) : R 59 [.d (.list (vs l))] [] = some ([.arr 0 l.length],[.arr 1 (vs l) 0]) := by
 obtain ⟨wd,r,hwd,hr⟩ := ranksV l
 have h := Str.Vs.clone_runs hwd r (by rw [← hr] at hn; simpa using hn)
 have e : vs l = Str.Vs.ws wd r := by rw [← hr]; exact vs_map wd r
 have hl : r.length = l.length := by rw [← hr]; simp
 rw [e,← hl]; exact h
theorem skind_runs (k : Nat) (l : List D) (n w : Nat) : R 25 [.ptr 0 0] [.box [.d (.int .u8 k),.arr 1 n],.arr 1 l w] = some ([.d (.int .u8 k)],[.box [.d (.int .u8 k),.arr 1 n],.arr 1 l w]) := by
 refine run_goal (rs:=[.tmp 2]) (ts:=[28]) Tryz.func25 rfl rfl rfl (by kernel_rfl) (by kernel_rfl) (.inl sp_25) (by simp [Tryz.f25]) ?_
 intro T hT
 simp -dsimp -implicitDefEqProofs (disch:=first|omega|assumption) [startSlots,nI,wI,range2]
 simpa -dsimp -implicitDefEqProofs (disch:=first|omega|assumption) [nI,wI,range2] using hT
theorem slen_runs (k : Nat) (l : List D) (w : Nat) : R 26 [.ptr 0 0] [.box [.d (.int .u8 k),.arr 1 l.length],.arr 1 l w] = some ([.d (.int .i64 l.length)],[.box [.d (.int .u8 k),.arr 1 l.length],.arr 1 l w]) := by
 refine run_goal (rs:=[.tmp 2]) (ts:=[3]) Tryz.func26 rfl rfl rfl (by kernel_rfl) (by kernel_rfl) (.inl sp_26) (by simp [Tryz.f26]) ?_
 intro T hT
 simp -dsimp -implicitDefEqProofs (disch:=first|omega|assumption) [startSlots,nI,wI,range2]
 simpa -dsimp -implicitDefEqProofs (disch:=first|omega|assumption) [nI,wI,range2] using hT
theorem skeys_runs (k : Nat) (l : List Val) (hn : l.length ≤ 256) : R 23 [.ptr 0 0] [.box [.d (.int .u8 k),.arr 1 l.length],.arr 1 (vs l) l.length] = some ([.arr 2 l.length],[.box [.d (.int .u8 k),.arr 1 l.length],.arr 1 (vs l) l.length,.arr 1 (vs l) 0]) := by
 have h := cloneV_runs l (by omega)
 obtain ⟨vl,hvl⟩ : ∃ vl,vl = vs l := ⟨_,rfl⟩
 have hl : vl.length = l.length := by rw [hvl]; simp
 have ha : allSize 1 vl = true := by rw [hvl]; simp
 rw [← hvl] at h ⊢
 refine run_goal (rs:=[.tmp 2]) (ts:=[29]) Tryz.func23 rfl rfl rfl (by kernel_rfl) (by kernel_rfl) (.inl sp_23) (by simp [Tryz.f23]) ?_
 intro T hT
 simp -dsimp -implicitDefEqProofs (disch:=first|omega|assumption) [startSlots,nI,wI,h,hl,range2]
 simpa -dsimp -implicitDefEqProofs (disch:=first|omega|assumption) [nI,wI,hl,range2] using hT
theorem ge1_runs (x y : Int) : R 76 [.d (Val.whole y).d,.ptr 0 0] [.box [.d (.int .i64 x)]] = some ([.d (.bool (!ltV (.whole y) (.whole x)))],[.box [.d (.int .i64 x)]]) := by
 have e : (!ltV (.whole y) (.whole x)) = decide (x ≤ y) := by
  simp only [ltV]
  by_cases h : y < x
  ·simp [h]
  ·simp [h]; omega
 rw [e]
 simp only [Val.d]
 refine run_goal (rs:=[.tmp 3]) (ts:=[4]) Tryz.func76 rfl rfl rfl (by kernel_rfl) (by kernel_rfl) (.inl sp_76) (by simp [Tryz.f76]) ?_
 intro T hT
 simp -dsimp -implicitDefEqProofs (disch:=first|omega|assumption) [startSlots,nI,wI]
 simpa -dsimp -implicitDefEqProofs (disch:=first|omega|assumption) [nI,wI] using hT
theorem ge2_runs (x y : ByteArray) : R 77 [.d (Val.text y).d,.ptr 0 0] [.box [.d (.str x)]] = some ([.d (.bool (!ltV (.text y) (.text x)))],[.box [.d (.str x)]]) := by
 have e : (!ltV (.text y) (.text x)) = !Op.bytesLess y.toList x.toList := rfl
 rw [e]
 simp only [Val.d]
 refine run_goal (rs:=[.tmp 3]) (ts:=[4]) Tryz.func77 rfl rfl rfl (by kernel_rfl) (by kernel_rfl) (.inl sp_77) (by simp [Tryz.f77]) ?_
 intro T hT
 simp -dsimp -implicitDefEqProofs (disch:=first|omega|assumption) [startSlots,nI,wI]
 simpa -dsimp -implicitDefEqProofs (disch:=first|omega|assumption) [nI,wI] using hT
theorem found_any (F : Nat) (hF : byRef G F = false) (bx : List V) (hbx : bx = bx) (l : List Val) (hn : l.length ≤ 256) (hr : RisesV l) (v : Val)
  (hge : ∀ y ∈ l,R F [.d y.d,.ptr 0 0] [.box bx] = some ([.d (.bool (!ltV y v))],[.box bx])) (hflat : bx.flatMap V.ids1 = []) (hren : ∀ f,bx.mapM (V.ren1 f) = some bx) :
  R 75 [.d (.list (vs l)),.clo F [.ptr 0 0],.d v.d] [.box bx] = some ([.d (.bool (decide (v ∈ l)))],[.box bx]) := by
 have hget := risesV_get hr
 obtain ⟨vd,hvd⟩ : ∃ d,d = v.d := ⟨_,rfl⟩
 have hsame : ∀ y : Val,R 63 [.d y.d,.d vd] [] = some ([.d (.bool (decide (y = v)))],[]) := fun y => by rw [hvd]; exact vsame_runs y v
 rw [← hvd]
 clear hvd
 refine run_goal (rs:=[.tmp 6]) (ts:=[4]) Tryz.func75 rfl rfl rfl (by kernel_rfl) (by kernel_rfl) (.inl sp_75) (by simp [Tryz.f75]) ?_
 intro T hT
 simp -dsimp -implicitDefEqProofs (disch:=first|omega|assumption) [startSlots,nI,wI,hflat,hren,hF]
 generalize hz : loopT _ _ _ _ _ _ = z
 revert z
 refine loop_any (σ:=Nat × Nat) (fun x => [(0,.d (.list (vs l))),(1,.clo F [.ptr 0 0]),(2,.d vd),(7,.d (.int .i64 x.1)),(8,.d (.int .i64 x.2))]) (fun x => [.box bx]) (fun x => x.1 ≤ x.2 ∧ x.2 ≤ l.length ∧ (∀ j,(h : j < l.length) → j < x.1 → ltV l[j] v = true) ∧ ∀ j,(h : j < l.length) → x.2 ≤ j → ltV l[j] v = false) (fun x => x.2 - x.1) (0,l.length) ?_ ?_ ?_
 ·exact ⟨Nat.zero_le _,Nat.le_refl _,fun j h h2 => by simp only at h2; omega,fun j h h2 => by simp only at h2; omega⟩
 ·simp -dsimp -implicitDefEqProofs (disch:=first|omega|assumption) [hflat,hren]
 intro T' f hT' ⟨a,b⟩ ⟨hab,hb,h1,h2⟩ ih
 simp only at hab hb h1 h2 ih
 by_cases hlt : a < b
 ·obtain ⟨m,hm⟩ : ∃ m,m = (a + b) / 2 := ⟨_,rfl⟩
  have hmi : ((a : Int) + b) / 2 = m := by omega
  have hml : m < l.length := by omega
  have hg := hge l[m] (List.getElem_mem _)
  have hcl := cells_val l[m]
  cases hc : ltV l[m] v with
  | true =>
   rw [hc] at hg
   simp -dsimp -implicitDefEqProofs (disch:=first|omega|assumption) [nI,wI,hlt,hmi,hml,hg,hflat,hren,hF]
   refine ih (m + 1,b) _ _ ⟨by simp only; omega,hb,fun j h h3 => ?_,h2⟩ (by simp only; omega) (by simp -dsimp -implicitDefEqProofs (disch:=first|omega|assumption) [hflat,hren])
   by_cases e : j = m
   ·subst e; exact hc
   ·simp only at h3
    exact ltV_trans (hget j m (by omega) hml) hc
  | false =>
   rw [hc] at hg
   simp -dsimp -implicitDefEqProofs (disch:=first|omega|assumption) [nI,wI,hlt,hmi,hml,hg,hflat,hren,hF]
   refine ih (a,m) _ _ ⟨by simp only; omega,by simp only; omega,h1,fun j h h3 => ?_⟩ (by simp only; omega) (by simp -dsimp -implicitDefEqProofs (disch:=first|omega|assumption) [hflat,hren])
   simp only at h3
   by_cases e : j = m
   ·subst e; exact hc
   ·cases hj : ltV l[j] v with
    | false => rfl
    | true =>
     have := ltV_trans (hget m j (by omega) h) hj
     rw [hc] at this
     cases this
 obtain rfl : a = b := by omega
 subst hT'
 by_cases hal : a < l.length
 ·have hs := hsame l[a]
  have e : decide (v ∈ l) = decide (l[a] = v) := by
   refine decide_eq_decide.2 ⟨fun hm => ?_,fun e => by rw [← e]; exact List.getElem_mem _⟩
   obtain ⟨j,hj,rfl⟩ := List.mem_iff_getElem.1 hm
   have g1 := h1 j hj
   have g2 := h2 a hal (Nat.le_refl _)
   rcases Nat.lt_trichotomy j a with c | c | c
   ·have := g1 c
    rw [ltV_irrefl] at this; cases this
   ·subst c; rfl
   ·rw [hget a j c hj] at g2; cases g2
  rw [e] at hT
  have hcl := cells_val l[a]
  simp -dsimp -implicitDefEqProofs (disch:=first|omega|assumption) [nI,wI,hal,hs,hflat,hren]
  simpa -dsimp -implicitDefEqProofs (disch:=first|omega|assumption) [nI,wI,hflat,hren] using hT
 ·have e : decide (v ∈ l) = false := by
   refine decide_eq_false fun hm => ?_
   obtain ⟨j,hj,rfl⟩ := List.mem_iff_getElem.1 hm
   have := h1 j hj (by omega)
   rw [ltV_irrefl] at this; cases this
  rw [e] at hT
  simp -dsimp -implicitDefEqProofs (disch:=first|omega|assumption) [nI,wI,hal,hflat,hren]
  simpa -dsimp -implicitDefEqProofs (disch:=first|omega|assumption) [nI,wI,hflat,hren] using hT
end Go.Am.Ab
namespace Go.Am.Ab
open Go.Proofs
set_option maxHeartbeats 8000000
set_option maxRecDepth 4000
theorem has_runs (k : Nat) (hk : k = 1 ∨ k = 3) (l : List Val) (hall : ∀ v ∈ l,v.kind = k) (hr : RisesV l) (hn : l.length ≤ 256) (v : Val) :
  R 27 [.ptr 0 0,.d v.d] [.box [.d (.int .u8 k),.arr 1 l.length],.arr 1 (vs l) l.length] = some ([.d (.bool (decide (v ∈ l)))],[.box [.d (.int .u8 k),.arr 1 l.length],.arr 1 (vs l) l.length]) := by
 have hno : v.kind ≠ k → decide (v ∈ l) = false := fun h => decide_eq_false fun hm => h (hall v hm)
 obtain ⟨vl,hvl⟩ : ∃ vl,vl = vs l := ⟨_,rfl⟩
 have hl : vl.length = l.length := by rw [hvl]; simp
 have ha : allSize 1 vl = true := by rw [hvl]; simp
 cases v with
 | null =>
  rw [hno (by simp only [Val.kind]; omega),← hvl]
  simp only [Val.d]
  refine run_goal (rs:=[.tmp 4]) (ts:=[4]) Tryz.func27 rfl rfl rfl (by kernel_rfl) (by kernel_rfl) (.inl sp_27) (by simp [Tryz.f27]) ?_
  intro T hT
  simp -dsimp -implicitDefEqProofs (disch:=first|omega|assumption) [startSlots,nI,wI,range2]
  simpa -dsimp -implicitDefEqProofs (disch:=first|omega|assumption) [nI,wI,range2] using hT
 | truth b =>
  rw [hno (by simp only [Val.kind]; omega),← hvl]
  simp only [Val.d]
  refine run_goal (rs:=[.tmp 4]) (ts:=[4]) Tryz.func27 rfl rfl rfl (by kernel_rfl) (by kernel_rfl) (.inl sp_27) (by simp [Tryz.f27]) ?_
  intro T hT
  simp -dsimp -implicitDefEqProofs (disch:=first|omega|assumption) [startSlots,nI,wI,range2]
  simpa -dsimp -implicitDefEqProofs (disch:=first|omega|assumption) [nI,wI,range2] using hT
 | whole x =>
  rcases hk with rfl | rfl
  ·have hf := found_any 76 (by simp) [.d (.int .i64 x)] rfl l hn hr (.whole x) (fun y hy => by
    have := hall y hy
    cases y <;> simp [Val.kind] at this
    exact ge1_runs x _) (by simp) (fun f => by simp)
   rw [← hvl] at hf ⊢
   generalize decide (Val.whole x ∈ l) = q at *
   simp only [Val.d] at hf ⊢
   refine run_goal (rs:=[.tmp 4]) (ts:=[4]) Tryz.func27 rfl rfl rfl (by kernel_rfl) (by kernel_rfl) (.inl sp_27) (by simp [Tryz.f27]) ?_
   intro T hT
   simp -dsimp -implicitDefEqProofs (disch:=first|omega|assumption) [startSlots,nI,wI,hl,hf,range2,V.plain]
   simpa -dsimp -implicitDefEqProofs (disch:=first|omega|assumption) [nI,wI,hl,range2] using hT
  ·rw [hno (by simp [Val.kind]),← hvl]
   simp only [Val.d]
   refine run_goal (rs:=[.tmp 4]) (ts:=[4]) Tryz.func27 rfl rfl rfl (by kernel_rfl) (by kernel_rfl) (.inl sp_27) (by simp [Tryz.f27]) ?_
   intro T hT
   simp -dsimp -implicitDefEqProofs (disch:=first|omega|assumption) [startSlots,nI,wI,range2]
   simpa -dsimp -implicitDefEqProofs (disch:=first|omega|assumption) [nI,wI,range2] using hT
 | text x =>
  rcases hk with rfl | rfl
  ·rw [hno (by simp [Val.kind]),← hvl]
   simp only [Val.d]
   refine run_goal (rs:=[.tmp 4]) (ts:=[4]) Tryz.func27 rfl rfl rfl (by kernel_rfl) (by kernel_rfl) (.inl sp_27) (by simp [Tryz.f27]) ?_
   intro T hT
   simp -dsimp -implicitDefEqProofs (disch:=first|omega|assumption) [startSlots,nI,wI,range2]
   simpa -dsimp -implicitDefEqProofs (disch:=first|omega|assumption) [nI,wI,range2] using hT
  ·have hf := found_any 77 (by simp) [.d (.str x)] rfl l hn hr (.text x) (fun y hy => by
    have := hall y hy
    cases y <;> simp [Val.kind] at this
    exact ge2_runs x _) (by simp) (fun f => by simp)
   rw [← hvl] at hf ⊢
   generalize decide (Val.text x ∈ l) = q at *
   simp only [Val.d] at hf ⊢
   refine run_goal (rs:=[.tmp 4]) (ts:=[4]) Tryz.func27 rfl rfl rfl (by kernel_rfl) (by kernel_rfl) (.inl sp_27) (by simp [Tryz.f27]) ?_
   intro T hT
   simp -dsimp -implicitDefEqProofs (disch:=first|omega|assumption) [startSlots,nI,wI,hl,hf,range2,V.plain]
   simpa -dsimp -implicitDefEqProofs (disch:=first|omega|assumption) [nI,wI,hl,range2] using hT
theorem risesV_ext : ∀ {a b : List Val},RisesV a → RisesV b → (∀ y,y ∈ a ↔ y ∈ b) → a = b
 | [],[],_,_,_ => rfl
 | [],y :: r,_,_,h => by have := (h y).2 (by simp); simp at this
 | x :: r,[],_,_,h => by have := (h x).1 (by simp); simp at this
 | x :: r,y :: s,h1,h2,h => by
  have no : ∀ {p q : Val},ltV p q = true → ltV q p = true → False := fun a b => by
   have := ltV_trans a b
   rw [ltV_irrefl] at this; cases this
  have e : x = y := by
   have hx := (h x).1 (by simp)
   have hy := (h y).2 (by simp)
   rcases List.mem_cons.1 hx with e | hx
   ·exact e
   ·rcases List.mem_cons.1 hy with e | hy
    ·exact e.symm
    ·exact (no (h1.1 y hy) (h2.1 x hx)).elim
  subst e
  rw [risesV_ext h1.2 h2.2 fun z => ?_]
  constructor
  ·intro hz
   rcases List.mem_cons.1 ((h z).1 (by simp [hz])) with e | hz'
   ·subst e; have := h1.1 z hz; rw [ltV_irrefl] at this; cases this
   ·exact hz'
  ·intro hz
   rcases List.mem_cons.1 ((h z).2 (by simp [hz])) with e | hz'
   ·subst e; have := h2.1 z hz; rw [ltV_irrefl] at this; cases this
   ·exact hz'
theorem uniV_id {u : List Val} (h : RisesV u) : uniV u = u := risesV_ext (uniV_rises u) h fun _ => uniV_mem
theorem uniV_ext {a b : List Val} (h : ∀ y,y ∈ a ↔ y ∈ b) : uniV a = uniV b := risesV_ext (uniV_rises a) (uniV_rises b) fun y => by rw [uniV_mem,uniV_mem,h y]
theorem openK_back {k : Nat} (hk : k = 1 ∨ k = 3) {u : List Val} (g : Good k u) (hall : ∀ v ∈ u,v.kind = k) (hr : RisesV u) (hn : u.length ≤ 256) : openK (keyF k u) = .inr (k,u) := by
 have hk3 : 1 ≤ k ∧ k ≤ 3 := by omega
 unfold openK
 have ho : openB (keyF k u) = some (keyT k u.length (colB k u)) := open_seal _
 rw [ho]
 simp only
 have h3 : (keyT k u.length (colB k u)).take 3 = [75,70,49] := rfl
 have hd : (keyT k u.length (colB k u)).drop 3 = put k ++ (put u.length ++ colB k u) := rfl
 have hl : ¬ (keyT k u.length (colB k u)).length < 3 := by unfold keyT; simp only [List.length_cons]; omega
 have g1 := get_put (n := k) (by omega) (put u.length ++ colB k u)
 have g2 := get_put (n := u.length) (by omega) (colB k u)
 have hb : kBody (keyF k u) (put k ++ (put u.length ++ colB k u)) = some (k,u) := by
  unfold kBody
  rw [g1]
  simp only [ne_eq,not_true_eq_false,if_false,List.drop_left]
  rw [if_neg (by omega),g2]
  simp only [not_true_eq_false,if_false,List.drop_left]
  rw [if_neg (by omega),top_back hk3 g hn]
  simp only [not_true_eq_false,if_false]
  rw [if_pos (uniV_all.2 ⟨hk,hall⟩),uniV_id hr,if_pos rfl]
 rw [if_neg (fun c => c.elim hl (fun c => c h3)),hd,hb]
end Go.Am.Ab
namespace Go.Am.Ab
open Go.Proofs
set_option maxHeartbeats 8000000
set_option maxRecDepth 4000
def keysC (k : Nat) (l : List Cel) : List Cel := ((l.take 256).map fix).filter fun c => decide (c.kind = k)
theorem keys1_runs (l : List Cel) (hl : ∀ c ∈ l,c.kind < 256 ∧ c.s.size ≤ 9223372036854775807) (hn : l.length ≤ 9223372036854775807) :
  R 19 [.d (.bool false),.d (.list (ce l))] [] = some ([.d (.int .u8 1),.arr 0 (keysC 1 l).length],[.arr 3 (ce (keysC 1 l)) 0]) := by
 refine run_goal (rs:=[.tmp 4,.tmp 5]) (ts:=[28,22]) Tryz.func19 rfl rfl rfl (by kernel_rfl) (by kernel_rfl) (.inl sp_19) (by simp [Tryz.f19]) ?_
 intro T hT
 simp -dsimp -implicitDefEqProofs (disch:=first|omega|assumption) [startSlots,nI,wI]
 generalize hz : loopT _ _ _ _ _ _ = z
 revert z
 refine loop_any (σ:=Nat × List Cel) (fun x => [(1,.d (.list (ce l))),(6,.d (.int .u8 1)),(7,.arr 0 x.2.length),(8,.d (.int .i64 x.1))]) (fun x => [.arr 3 (ce x.2) 0]) (fun x => x.1 ≤ l.length ∧ x.1 ≤ 256 ∧ x.2.length ≤ x.1 ∧ x.2 = ((l.take x.1).map fix).filter fun c => decide (c.kind = 1)) (fun x => l.length - x.1) (0,[]) ?_ ?_ ?_
 ·exact ⟨Nat.zero_le _,Nat.zero_le _,Nat.le_refl _,by simp⟩
 ·simp -dsimp -implicitDefEqProofs (disch:=first|omega|assumption)
 intro T' f hT' ⟨i,dn⟩ ⟨hi,h256,hdl,hd⟩ ih
 simp only at hi h256 hdl hd ih
 by_cases h1 : i < l.length
 ·by_cases h2 : i < 256
  ·have h2' : (i : Int) < 256 := by omega
   have hc := hl l[i] (List.getElem_mem _)
   have hfx := rfix_runs l[i] hc.1 hc.2
   have hcc := cel_cells l[i]
   have hst : ((l.take (i + 1)).map fix).filter (fun c => decide (c.kind = 1)) = dn ++ (if (fix l[i]).kind = 1 then [fix l[i]] else []) := by
    rw [take_snoc h1,List.map_append,List.filter_append,← hd]
    by_cases h : (fix l[i]).kind = 1 <;> simp [h]
   rw [cel_d] at hfx
   obtain ⟨⟨k',n',s'⟩,hx⟩ : ∃ y,y = fix l[i] := ⟨_,rfl⟩
   rw [← hx] at hfx hst
   simp only [Cel.d] at hfx
   by_cases z : k' = 1
   ·subst z
    rw [if_pos rfl] at hst
    simp -dsimp -implicitDefEqProofs (disch:=first|omega|assumption) [nI,wI,h1,h2,h2',hfx,hcc]
    refine ih (i + 1,dn ++ [⟨1,n',s'⟩]) _ _ ⟨h1,h2,by simp; omega,hst.symm⟩ (by simp only; omega) (by simp -dsimp -implicitDefEqProofs (disch:=first|omega|assumption) [Cel.d])
   ·have z' : ¬ (k' : Int) = 1 := by omega
    rw [if_neg z,List.append_nil] at hst
    simp -dsimp -implicitDefEqProofs (disch:=first|omega|assumption) [nI,wI,h1,h2,h2',hfx,hcc,z,z']
    refine ih (i + 1,dn) _ _ ⟨h1,h2,by simp only; omega,hst.symm⟩ (by simp only; omega) (by simp -dsimp -implicitDefEqProofs (disch:=first|omega|assumption))
  ·obtain rfl : i = 256 := by omega
   have e : dn = keysC 1 l := hd
   have h1' : (256 : Int) < l.length := by omega
   subst hT'
   simp -dsimp -implicitDefEqProofs (disch:=first|omega|assumption) [nI,wI,h1,h1']
   rw [← e] at hT
   simpa -dsimp -implicitDefEqProofs (disch:=first|omega|assumption) [nI,wI] using hT
 ·obtain rfl : i = l.length := by omega
  have e : dn = keysC 1 l := by rw [hd,keysC,List.take_of_length_le (Nat.le_refl _),List.take_of_length_le h256]
  subst hT'
  simp -dsimp -implicitDefEqProofs (disch:=first|omega|assumption) [nI,wI,h1]
  rw [← e] at hT
  simpa -dsimp -implicitDefEqProofs (disch:=first|omega|assumption) [nI,wI] using hT
theorem keys3_runs (l : List Cel) (hl : ∀ c ∈ l,c.kind < 256 ∧ c.s.size ≤ 9223372036854775807) (hn : l.length ≤ 9223372036854775807) :
  R 19 [.d (.bool true),.d (.list (ce l))] [] = some ([.d (.int .u8 3),.arr 0 (keysC 3 l).length],[.arr 3 (ce (keysC 3 l)) 0]) := by
 refine run_goal (rs:=[.tmp 4,.tmp 5]) (ts:=[28,22]) Tryz.func19 rfl rfl rfl (by kernel_rfl) (by kernel_rfl) (.inl sp_19) (by simp [Tryz.f19]) ?_
 intro T hT
 simp -dsimp -implicitDefEqProofs (disch:=first|omega|assumption) [startSlots,nI,wI]
 generalize hz : loopT _ _ _ _ _ _ = z
 revert z
 refine loop_any (σ:=Nat × List Cel) (fun x => [(1,.d (.list (ce l))),(6,.d (.int .u8 3)),(7,.arr 0 x.2.length),(8,.d (.int .i64 x.1))]) (fun x => [.arr 3 (ce x.2) 0]) (fun x => x.1 ≤ l.length ∧ x.1 ≤ 256 ∧ x.2.length ≤ x.1 ∧ x.2 = ((l.take x.1).map fix).filter fun c => decide (c.kind = 3)) (fun x => l.length - x.1) (0,[]) ?_ ?_ ?_
 ·exact ⟨Nat.zero_le _,Nat.zero_le _,Nat.le_refl _,by simp⟩
 ·simp -dsimp -implicitDefEqProofs (disch:=first|omega|assumption)
 intro T' f hT' ⟨i,dn⟩ ⟨hi,h256,hdl,hd⟩ ih
 simp only at hi h256 hdl hd ih
 by_cases h1 : i < l.length
 ·by_cases h2 : i < 256
  ·have h2' : (i : Int) < 256 := by omega
   have hc := hl l[i] (List.getElem_mem _)
   have hfx := rfix_runs l[i] hc.1 hc.2
   have hcc := cel_cells l[i]
   have hst : ((l.take (i + 1)).map fix).filter (fun c => decide (c.kind = 3)) = dn ++ (if (fix l[i]).kind = 3 then [fix l[i]] else []) := by
    rw [take_snoc h1,List.map_append,List.filter_append,← hd]
    by_cases h : (fix l[i]).kind = 3 <;> simp [h]
   rw [cel_d] at hfx
   obtain ⟨⟨k',n',s'⟩,hx⟩ : ∃ y,y = fix l[i] := ⟨_,rfl⟩
   rw [← hx] at hfx hst
   simp only [Cel.d] at hfx
   by_cases z : k' = 3
   ·subst z
    rw [if_pos rfl] at hst
    simp -dsimp -implicitDefEqProofs (disch:=first|omega|assumption) [nI,wI,h1,h2,h2',hfx,hcc]
    refine ih (i + 1,dn ++ [⟨3,n',s'⟩]) _ _ ⟨h1,h2,by simp; omega,hst.symm⟩ (by simp only; omega) (by simp -dsimp -implicitDefEqProofs (disch:=first|omega|assumption) [Cel.d])
   ·have z' : ¬ (k' : Int) = 3 := by omega
    rw [if_neg z,List.append_nil] at hst
    simp -dsimp -implicitDefEqProofs (disch:=first|omega|assumption) [nI,wI,h1,h2,h2',hfx,hcc,z,z']
    refine ih (i + 1,dn) _ _ ⟨h1,h2,by simp only; omega,hst.symm⟩ (by simp only; omega) (by simp -dsimp -implicitDefEqProofs (disch:=first|omega|assumption))
  ·obtain rfl : i = 256 := by omega
   have e : dn = keysC 3 l := hd
   have h1' : (256 : Int) < l.length := by omega
   subst hT'
   simp -dsimp -implicitDefEqProofs (disch:=first|omega|assumption) [nI,wI,h1,h1']
   rw [← e] at hT
   simpa -dsimp -implicitDefEqProofs (disch:=first|omega|assumption) [nI,wI] using hT
 ·obtain rfl : i = l.length := by omega
  have e : dn = keysC 3 l := by rw [hd,keysC,List.take_of_length_le (Nat.le_refl _),List.take_of_length_le h256]
  subst hT'
  simp -dsimp -implicitDefEqProofs (disch:=first|omega|assumption) [nI,wI,h1]
  rw [← e] at hT
  simpa -dsimp -implicitDefEqProofs (disch:=first|omega|assumption) [nI,wI] using hT
end Go.Am.Ab
namespace Go.Am.Ab
open Go.Proofs
set_option maxHeartbeats 8000000
set_option maxRecDepth 4000
theorem best35 : bestB [3,5] = [0,6,10] := by
 have h0 : encB 0 [3,5] = [6,10] := by simp [encB,plainB,putInt,zig,put_lt,u8n]
 have h1 : encB 1 [3,5] = [6,4] := by simp [encB,deltaB,deltas,plainB,putInt,zig,put_lt,wI,u8n]
 have h2 : encB 2 [3,5] = [6,1,10,1] := by simp [encB,runsB,runsF,cnt,putInt,zig,put_lt,u8n]
 have h3 : (encB 3 [3,5]).length = 4 := by
  have hu : uniq [3,5] = [3,5] := by decide
  have hp : places [3,5] [3,5] = [0,1] := by decide
  have hw : width [0,1] = 1 := by decide
  simp [encB,dictB,hu,hp,hw,riseB,gaps,putInt,zig,put_lt,u8n,packed,packN,le]
 have h4 : (encB 4 [3,5]).length = 3 := by
  have hm : minL [3,5] = 3 := by decide
  have hp : mores [3,5] = [0,2] := by decide
  have hw : width [0,2] = 2 := by decide
  simp [encB,packedB,hm,hp,hw,putInt,zig,put_lt,u8n,packed,packN,le]
 obtain ⟨e3,he3⟩ : ∃ e,e = encB 3 [3,5] := ⟨_,rfl⟩
 obtain ⟨e4,he4⟩ : ∃ e,e = encB 4 [3,5] := ⟨_,rfl⟩
 rw [← he3] at h3
 rw [← he4] at h4
 simp [bestB,bestTo,h0,h1,h2,← he3,← he4,h3,h4,u8n]
def exU : List Val := [.whole 3,.whole 5]
theorem ex_uni : uniV [.whole 5,.whole 3,.whole 5] = exU := by decide
theorem ex_col : colB 1 exU = [0,0,6,10] := by
 have hb : bestB (wholes exU) = [0,6,10] := best35
 have hh : headB exU = [0] := by
  unfold headB
  rw [if_neg (by decide)]
 rw [colB,hh]
 show [0] ++ bestB (wholes exU) = _
 rw [hb]; rfl
theorem ex_good : Good 1 exU := by
 intro v hv
 simp [exU] at hv
 rcases hv with rfl | rfl
 all_goals exact .inr ⟨rfl,fun n e => (by cases e; unfold isI64; omega),fun s e => by cases e⟩
theorem ex_key : keyT 1 2 [0,0,6,10] = [75,70,49,1,2,0,0,6,10] := by
 unfold keyT
 rw [put_lt (by omega),put_lt (by omega)]; rfl
theorem alive11 : R 14 [] [] = some ([.d (.bool true)],[]) := by
 have hall : ∀ v ∈ exU,v.kind = 1 := by decide
 have hris : RisesV exU := ⟨by decide,by decide,trivial⟩
 have hw := write_ok 1 (by decide) exU ex_good (by decide)
 have hx : ∀ v ∈ [Val.whole 5,.whole 3,.whole 5],v.kind = 1 := by decide
 have h1 := kwrite_step1 [.whole 5,.whole 3,.whole 5] (by decide) hx (colB 1 exU) 0 (by rw [ex_col]; decide) (by rw [ex_uni]; exact hw)
 rw [ex_uni,ex_col,if_neg (by simp)] at h1
 have hk : keyF 1 exU = sealB [75,70,49,1,2,0,0,6,10] := by
  rw [keyF,ex_col]
  show sealB (keyT 1 2 [0,0,6,10]) = _
  rw [ex_key]
 have hk2 : keyT 1 exU.length [0,0,6,10] = [75,70,49,1,2,0,0,6,10] := ex_key
 rw [hk2] at h1
 have ho := kopen_runs (sealB [75,70,49,1,2,0,0,6,10]) (by rw [sealB_length]; decide)
 have hb := openK_back (.inl rfl) ex_good hall hris (by decide)
 rw [hk] at hb
 rw [hb] at ho
 unfold KoR at ho
 have hlen := slen_runs 1 (vs exU) 2
 have q1 := has_runs 1 (.inl rfl) exU hall hris (by decide) (.whole 3)
 have q2 := has_runs 1 (.inl rfl) exU hall hris (by decide) (.text ⟨#[51]⟩)
 have q3 := has_runs 1 (.inl rfl) exU hall hris (by decide) (.whole 4)
 rw [show decide (Val.whole 3 ∈ exU) = true by decide] at q1
 rw [show decide (Val.text ⟨#[51]⟩ ∈ exU) = false by decide] at q2
 rw [show decide (Val.whole 4 ∈ exU) = false by decide] at q3
 obtain ⟨cr,hcr⟩ : ∃ cr,cr = crcB [75,70,49,1,2,0,0,6,10] := ⟨_,rfl⟩
 have hs : sealB [75,70,49,1,2,0,0,6,10] = [75,70,49,1,2,0,0,6,10] ++ cr := by rw [hcr]; rfl
 have hcl : cr.length = 4 := by rw [hcr]; rfl
 rw [hs] at h1 ho
 have h1' : R 15 [.d (.int .u8 1),.d (.list [.iface 2 (.int .i64 5),.iface 2 (.int .i64 3),.iface 2 (.int .i64 5)])] [] = some ([.arr 0 (cr.length + 9),.d (.int .i64 0)],[.arr 1 (.int .u8 75 :: .int .u8 70 :: .int .u8 49 :: .int .u8 1 :: .int .u8 2 :: .int .u8 0 :: .int .u8 0 :: .int .u8 6 :: .int .u8 10 :: bytes cr) 0]) := h1
 have ho' : R 20 [.d (.list (.int .u8 75 :: .int .u8 70 :: .int .u8 49 :: .int .u8 1 :: .int .u8 2 :: .int .u8 0 :: .int .u8 0 :: .int .u8 6 :: .int .u8 10 :: bytes cr))] [] = some ([.ptr 0 0,.d (.int .i64 0)],[.box [.d (.int .u8 1),.arr 1 2],.arr 1 [.iface 2 (.int .i64 3),.iface 2 (.int .i64 5)] 2]) := ho
 have hlen' : R 26 [.ptr 0 0] [.box [.d (.int .u8 1),.arr 1 2],.arr 1 [.iface 2 (.int .i64 3),.iface 2 (.int .i64 5)] 2] = some ([.d (.int .i64 2)],[.box [.d (.int .u8 1),.arr 1 2],.arr 1 [.iface 2 (.int .i64 3),.iface 2 (.int .i64 5)] 2]) := hlen
 have q1' : R 27 [.ptr 0 0,.d (.iface 2 (.int .i64 3))] [.box [.d (.int .u8 1),.arr 1 2],.arr 1 [.iface 2 (.int .i64 3),.iface 2 (.int .i64 5)] 2] = some ([.d (.bool true)],[.box [.d (.int .u8 1),.arr 1 2],.arr 1 [.iface 2 (.int .i64 3),.iface 2 (.int .i64 5)] 2]) := q1
 have q2' : R 27 [.ptr 0 0,.d (.iface 9 (.str ⟨#[51]⟩))] [.box [.d (.int .u8 1),.arr 1 2],.arr 1 [.iface 2 (.int .i64 3),.iface 2 (.int .i64 5)] 2] = some ([.d (.bool false)],[.box [.d (.int .u8 1),.arr 1 2],.arr 1 [.iface 2 (.int .i64 3),.iface 2 (.int .i64 5)] 2]) := q2
 have q3' : R 27 [.ptr 0 0,.d (.iface 2 (.int .i64 4))] [.box [.d (.int .u8 1),.arr 1 2],.arr 1 [.iface 2 (.int .i64 3),.iface 2 (.int .i64 5)] 2] = some ([.d (.bool false)],[.box [.d (.int .u8 1),.arr 1 2],.arr 1 [.iface 2 (.int .i64 3),.iface 2 (.int .i64 5)] 2]) := q3
 clear h1 ho hlen q1 q2 q3 hcr hs
 refine run_goal (rs:=[.tmp 0]) (ts:=[4]) Tryz.func14 rfl rfl rfl (by kernel_rfl) (by kernel_rfl) (.inl sp_14) (by simp [Tryz.f14]) ?_
 intro T hT
 simp -dsimp -implicitDefEqProofs (disch:=first|omega|assumption) [startSlots,nI,wI,h1',ho',hlen',q1',q2',q3',byteOf_u8]
 simpa -dsimp -implicitDefEqProofs (disch:=first|omega|assumption) [nI,wI] using hT
end Go.Am.Ab
namespace Go.Am.Ab
open Go.Proofs
set_option maxHeartbeats 8000000
set_option maxRecDepth 4000
theorem flatL_vs (l : List Val) : flatL (vs l) = true := flatL_map _ (fun v => by cases v <;> rfl) l
theorem keysC_is {k : Nat} {l : List Cel} (hl : ∀ c ∈ l,c.kind < 256 ∧ isI64 c.n) : ∀ c ∈ keysC k l,chk c = 0 ∧ isI64 c.n ∧ c.kind = k := by
 intro c hc
 obtain ⟨h1,h2⟩ := List.mem_filter.1 hc
 obtain ⟨a,ha,rfl⟩ := List.mem_map.1 h1
 have h := hl a (List.mem_of_mem_take ha)
 refine ⟨fix_ok a, ?_,of_decide_eq_true h2⟩
 unfold fix
 split
 ·exact h.2
 ·show isI64 0
  unfold isI64; omega
theorem keysC_length (k : Nat) (l : List Cel) : (keysC k l).length ≤ 256 := by
 have h1 : (keysC k l).length ≤ ((l.take 256).map fix).length := List.length_filter_le _ _
 rw [List.length_map,List.length_take] at h1
 omega
theorem keysC_vals {k : Nat} (hk : k = 1 ∨ k = 3) {l : List Cel} (hl : ∀ c ∈ l,c.kind < 256 ∧ isI64 c.n) : Good k ((keysC k l).map valOf) ∧ (∀ v ∈ (keysC k l).map valOf,v.kind = k) ∧ ((keysC k l).map valOf).map cellOf = keysC k l ∧ ((keysC k l).map valOf).length ≤ 256 := by
 have h := keysC_is (k := k) hl
 refine ⟨fun v hv => ?_,fun v hv => ?_, ?_,by rw [List.length_map]; exact keysC_length k l⟩
 ·obtain ⟨c,hc,rfl⟩ := List.mem_map.1 hv
  obtain ⟨h1,h2,h3⟩ := h c hc
  exact valOf_good (by omega) h1 h2 (.inr h3)
 ·obtain ⟨c,hc,rfl⟩ := List.mem_map.1 hv
  obtain ⟨h1,h2,h3⟩ := h c hc
  rw [val_kind h1]; exact h3
 ·rw [List.map_map]
  conv => rhs; rw [← List.map_id (keysC k l)]
  apply List.map_congr_left
  intro c hc
  exact cell_back (h c hc).1
theorem xor_u8 (x y : UInt8) : intBin .xor .u8 (x.toNat : Int) (y.toNat : Int) = some (.int .u8 (((x ^^^ y).toNat : Nat) : Int)) := by
 show some (D.int .u8 (IntKind.u8.wrap ((BitVec.ofInt 8 ((x.toNat : Nat) : Int) ^^^ BitVec.ofInt 8 ((y.toNat : Nat) : Int)).toNat))) = _
 have hx := x.toNat_lt
 have hy := y.toNat_lt
 have h1 : (BitVec.ofInt 8 ((x.toNat : Nat) : Int) ^^^ BitVec.ofInt 8 ((y.toNat : Nat) : Int)).toNat = x.toNat ^^^ y.toNat := by
  rw [BitVec.toNat_xor,ofInt_nat,ofInt_nat,Nat.mod_eq_of_lt (by omega),Nat.mod_eq_of_lt (by omega)]
 have h2 : x.toNat ^^^ y.toNat < 256 := Nat.xor_lt_two_pow (n := 8) (by omega) (by omega)
 have h3 : (x ^^^ y).toNat = x.toNat ^^^ y.toNat := by simp
 rw [h1,h3,wrap_u8 (by omega) (by omega)]
theorem xor_ne {x y : UInt8} (h : y.toNat ≠ 0) : x ^^^ y ≠ x := by
 intro e
 apply h
 have := congrArg (x ^^^ ·) e
 simp only [← UInt8.xor_assoc,UInt8.xor_self,UInt8.zero_xor] at this
 rw [this]; rfl
theorem keyF_turned (k : Nat) (u : List Val) (i : Nat) (x : UInt8) (hi : i < (keyF k u).length) (hx : x ≠ (keyF k u)[i]) : openK ((keyF k u).set i x) = .inl 101 := by
 unfold openK
 have : openB ((keyF k u).set i x) = none := open_turned _ i x hi hx
 rw [this]
end Go.Am.Ab
