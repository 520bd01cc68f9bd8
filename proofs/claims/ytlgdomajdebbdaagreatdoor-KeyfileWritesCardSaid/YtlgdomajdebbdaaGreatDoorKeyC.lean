/- Sets of keys. -/
import Derived.Test.YtlgdomajdebbdaaGreatDoorKeyB
set_option linter.all false
namespace Go.Am.Ab
open Go.Proofs
set_option maxHeartbeats 8000000
set_option maxRecDepth 4000
theorem slen_runs (k : Nat) (l : List D) (w : Nat) : R 26 [.ptr 0 0] [.box [.d (.int .u8 k),.arr 1 l.length],.arr 1 l w] = some ([.d (.int .i64 l.length)],[.box [.d (.int .u8 k),.arr 1 l.length],.arr 1 l w]) := by
 refine run_goal (rs:=[.tmp 2]) (ts:=[3]) Tryz.func26 rfl rfl rfl (by kernel_rfl) (by kernel_rfl) (.inl sp_26) (by simp [Tryz.f26]) ?_
 intro T hT
 simp -dsimp -implicitDefEqProofs (disch:=first|omega|assumption) [startSlots,nI,wI,range2]
 simpa -dsimp -implicitDefEqProofs (disch:=first|omega|assumption) [nI,wI,range2] using hT
theorem ge1_runs (x y : Int) : R 76 [.d (Val.whole y).d,.ptr 0 0] [.box [.d (.int .i64 x)]] = some ([.d (.bool (!ltV (.whole y) (.whole x)))],[.box [.d (.int .i64 x)]]) := by
 have e : (!ltV (.whole y) (.whole x)) = decide (x ≤ y) := by
  simp only [ltV]
  by_cases h : y < x
  ·simp [h]
  ·simp [h]; omega
 rw [e]
 simp only [Val.d]
 refine run_goal (rs:=[.tmp 3]) (ts:=[4]) Tryz.func76 rfl rfl rfl (by kernel_rfl) (by kernel_rfl) (.inl sp_76) (by simp [Tryz.f76]) ?_
 intro T hT
 simp -dsimp -implicitDefEqProofs (disch:=first|omega|assumption) [startSlots,nI,wI]
 simpa -dsimp -implicitDefEqProofs (disch:=first|omega|assumption) [nI,wI] using hT
theorem ge2_runs (x y : ByteArray) : R 77 [.d (Val.text y).d,.ptr 0 0] [.box [.d (.str x)]] = some ([.d (.bool (!ltV (.text y) (.text x)))],[.box [.d (.str x)]]) := by
 have e : (!ltV (.text y) (.text x)) = !Op.bytesLess y.toList x.toList := rfl
 rw [e]
 simp only [Val.d]
 refine run_goal (rs:=[.tmp 3]) (ts:=[4]) Tryz.func77 rfl rfl rfl (by kernel_rfl) (by kernel_rfl) (.inl sp_77) (by simp [Tryz.f77]) ?_
 intro T hT
 simp -dsimp -implicitDefEqProofs (disch:=first|omega|assumption) [startSlots,nI,wI]
 simpa -dsimp -implicitDefEqProofs (disch:=first|omega|assumption) [nI,wI] using hT
theorem found_any (F : Nat) (hF : byRef G F = false) (bx : List V) (hbx : bx = bx) (l : List Val) (hn : l.length ≤ 256) (hr : RisesV l) (v : Val)
  (hge : ∀ y ∈ l,R F [.d y.d,.ptr 0 0] [.box bx] = some ([.d (.bool (!ltV y v))],[.box bx])) (hflat : bx.flatMap V.ids1 = []) (hren : ∀ f,bx.mapM (V.ren1 f) = some bx) :
  R 75 [.d (.list (vs l)),.clo F [.ptr 0 0],.d v.d] [.box bx] = some ([.d (.bool (decide (v ∈ l)))],[.box bx]) := by
 have hget := risesV_get hr
 obtain ⟨vd,hvd⟩ : ∃ d,d = v.d := ⟨_,rfl⟩
 have hsame : ∀ y : Val,R 63 [.d y.d,.d vd] [] = some ([.d (.bool (decide (y = v)))],[]) := fun y => by rw [hvd]; exact vsame_runs y v
 rw [← hvd]
 clear hvd
 refine run_goal (rs:=[.tmp 6]) (ts:=[4]) Tryz.func75 rfl rfl rfl (by kernel_rfl) (by kernel_rfl) (.inl sp_75) (by simp [Tryz.f75]) ?_
 intro T hT
 simp -dsimp -implicitDefEqProofs (disch:=first|omega|assumption) [startSlots,nI,wI,hflat,hren,hF]
 generalize hz : loopT _ _ _ _ _ _ = z
 revert z
 refine loop_any (σ:=Nat × Nat) (fun x => [(0,.d (.list (vs l))),(1,.clo F [.ptr 0 0]),(2,.d vd),(7,.d (.int .i64 x.1)),(8,.d (.int .i64 x.2))]) (fun x => [.box bx]) (fun x => x.1 ≤ x.2 ∧ x.2 ≤ l.length ∧ (∀ j,(h : j < l.length) → j < x.1 → ltV l[j] v = true) ∧ ∀ j,(h : j < l.length) → x.2 ≤ j → ltV l[j] v = false) (fun x => x.2 - x.1) (0,l.length) ?_ ?_ ?_
 ·exact ⟨Nat.zero_le _,Nat.le_refl _,fun j h h2 => by simp only at h2; omega,fun j h h2 => by simp only at h2; omega⟩
 ·simp -dsimp -implicitDefEqProofs (disch:=first|omega|assumption) [hflat,hren]
 intro T' f hT' ⟨a,b⟩ ⟨hab,hb,h1,h2⟩ ih
 simp only at hab hb h1 h2 ih
 by_cases hlt : a < b
 ·obtain ⟨m,hm⟩ : ∃ m,m = (a + b) / 2 := ⟨_,rfl⟩
  have hmi : ((a : Int) + b) / 2 = m := by omega
  have hml : m < l.length := by omega
  have hg := hge l[m] (List.getElem_mem _)
  have hcl := cells_val l[m]
  cases hc : ltV l[m] v with
  | true =>
   rw [hc] at hg
   simp -dsimp -implicitDefEqProofs (disch:=first|omega|assumption) [nI,wI,hlt,hmi,hml,hg,hflat,hren,hF]
   refine ih (m + 1,b) _ _ ⟨by simp only; omega,hb,fun j h h3 => ?_,h2⟩ (by simp only; omega) (by simp -dsimp -implicitDefEqProofs (disch:=first|omega|assumption) [hflat,hren])
   by_cases e : j = m
   ·subst e; exact hc
   ·simp only at h3
    exact ltV_trans (hget j m (by omega) hml) hc
  | false =>
   rw [hc] at hg
   simp -dsimp -implicitDefEqProofs (disch:=first|omega|assumption) [nI,wI,hlt,hmi,hml,hg,hflat,hren,hF]
   refine ih (a,m) _ _ ⟨by simp only; omega,by simp only; omega,h1,fun j h h3 => ?_⟩ (by simp only; omega) (by simp -dsimp -implicitDefEqProofs (disch:=first|omega|assumption) [hflat,hren])
   simp only at h3
   by_cases e : j = m
   ·subst e; exact hc
   ·cases hj : ltV l[j] v with
    | false => rfl
    | true =>
     have := ltV_trans (hget m j (by omega) h) hj
     rw [hc] at this
     cases this
 obtain rfl : a = b := by omega
 subst hT'
 by_cases hal : a < l.length
 ·have hs := hsame l[a]
  have e : decide (v ∈ l) = decide (l[a] = v) := by
   refine decide_eq_decide.2 ⟨fun hm => ?_,fun e => by rw [← e]; exact List.getElem_mem _⟩
   obtain ⟨j,hj,rfl⟩ := List.mem_iff_getElem.1 hm
   have g1 := h1 j hj
   have g2 := h2 a hal (Nat.le_refl _)
   rcases Nat.lt_trichotomy j a with c | c | c
   ·have := g1 c
    rw [ltV_irrefl] at this; cases this
   ·subst c; rfl
   ·rw [hget a j c hj] at g2; cases g2
  rw [e] at hT
  have hcl := cells_val l[a]
  simp -dsimp -implicitDefEqProofs (disch:=first|omega|assumption) [nI,wI,hal,hs,hflat,hren]
  simpa -dsimp -implicitDefEqProofs (disch:=first|omega|assumption) [nI,wI,hflat,hren] using hT
 ·have e : decide (v ∈ l) = false := by
   refine decide_eq_false fun hm => ?_
   obtain ⟨j,hj,rfl⟩ := List.mem_iff_getElem.1 hm
   have := h1 j hj (by omega)
   rw [ltV_irrefl] at this; cases this
  rw [e] at hT
  simp -dsimp -implicitDefEqProofs (disch:=first|omega|assumption) [nI,wI,hal,hflat,hren]
  simpa -dsimp -implicitDefEqProofs (disch:=first|omega|assumption) [nI,wI,hflat,hren] using hT
end Go.Am.Ab
namespace Go.Am.Ab
open Go.Proofs
set_option maxHeartbeats 8000000
set_option maxRecDepth 4000
theorem has_runs (k : Nat) (hk : k = 1 ∨ k = 3) (l : List Val) (hall : ∀ v ∈ l,v.kind = k) (hr : RisesV l) (hn : l.length ≤ 256) (v : Val) :
  R 27 [.ptr 0 0,.d v.d] [.box [.d (.int .u8 k),.arr 1 l.length],.arr 1 (vs l) l.length] = some ([.d (.bool (decide (v ∈ l)))],[.box [.d (.int .u8 k),.arr 1 l.length],.arr 1 (vs l) l.length]) := by
 have hno : v.kind ≠ k → decide (v ∈ l) = false := fun h => decide_eq_false fun hm => h (hall v hm)
 obtain ⟨vl,hvl⟩ : ∃ vl,vl = vs l := ⟨_,rfl⟩
 have hl : vl.length = l.length := by rw [hvl]; simp
 have ha : allSize 1 vl = true := by rw [hvl]; simp
 cases v with
 | null =>
  rw [hno (by simp only [Val.kind]; omega),← hvl]
  simp only [Val.d]
  refine run_goal (rs:=[.tmp 4]) (ts:=[4]) Tryz.func27 rfl rfl rfl (by kernel_rfl) (by kernel_rfl) (.inl sp_27) (by simp [Tryz.f27]) ?_
  intro T hT
  simp -dsimp -implicitDefEqProofs (disch:=first|omega|assumption) [startSlots,nI,wI,range2]
  simpa -dsimp -implicitDefEqProofs (disch:=first|omega|assumption) [nI,wI,range2] using hT
 | truth b =>
  rw [hno (by simp only [Val.kind]; omega),← hvl]
  simp only [Val.d]
  refine run_goal (rs:=[.tmp 4]) (ts:=[4]) Tryz.func27 rfl rfl rfl (by kernel_rfl) (by kernel_rfl) (.inl sp_27) (by simp [Tryz.f27]) ?_
  intro T hT
  simp -dsimp -implicitDefEqProofs (disch:=first|omega|assumption) [startSlots,nI,wI,range2]
  simpa -dsimp -implicitDefEqProofs (disch:=first|omega|assumption) [nI,wI,range2] using hT
 | whole x =>
  rcases hk with rfl | rfl
  ·have hf := found_any 76 (by simp) [.d (.int .i64 x)] rfl l hn hr (.whole x) (fun y hy => by
    have := hall y hy
    cases y <;> simp [Val.kind] at this
    exact ge1_runs x _) (by simp) (fun f => by simp)
   rw [← hvl] at hf ⊢
   generalize decide (Val.whole x ∈ l) = q at *
   simp only [Val.d] at hf ⊢
   refine run_goal (rs:=[.tmp 4]) (ts:=[4]) Tryz.func27 rfl rfl rfl (by kernel_rfl) (by kernel_rfl) (.inl sp_27) (by simp [Tryz.f27]) ?_
   intro T hT
   simp -dsimp -implicitDefEqProofs (disch:=first|omega|assumption) [startSlots,nI,wI,hl,hf,range2,V.plain]
   simpa -dsimp -implicitDefEqProofs (disch:=first|omega|assumption) [nI,wI,hl,range2] using hT
  ·rw [hno (by simp [Val.kind]),← hvl]
   simp only [Val.d]
   refine run_goal (rs:=[.tmp 4]) (ts:=[4]) Tryz.func27 rfl rfl rfl (by kernel_rfl) (by kernel_rfl) (.inl sp_27) (by simp [Tryz.f27]) ?_
   intro T hT
   simp -dsimp -implicitDefEqProofs (disch:=first|omega|assumption) [startSlots,nI,wI,range2]
   simpa -dsimp -implicitDefEqProofs (disch:=first|omega|assumption) [nI,wI,range2] using hT
 | text x =>
  rcases hk with rfl | rfl
  ·rw [hno (by simp [Val.kind]),← hvl]
   simp only [Val.d]
   refine run_goal (rs:=[.tmp 4]) (ts:=[4]) Tryz.func27 rfl rfl rfl (by kernel_rfl) (by kernel_rfl) (.inl sp_27) (by simp [Tryz.f27]) ?_
   intro T hT
   simp -dsimp -implicitDefEqProofs (disch:=first|omega|assumption) [startSlots,nI,wI,range2]
   simpa -dsimp -implicitDefEqProofs (disch:=first|omega|assumption) [nI,wI,range2] using hT
  ·have hf := found_any 77 (by simp) [.d (.str x)] rfl l hn hr (.text x) (fun y hy => by
    have := hall y hy
    cases y <;> simp [Val.kind] at this
    exact ge2_runs x _) (by simp) (fun f => by simp)
   rw [← hvl] at hf ⊢
   generalize decide (Val.text x ∈ l) = q at *
   simp only [Val.d] at hf ⊢
   refine run_goal (rs:=[.tmp 4]) (ts:=[4]) Tryz.func27 rfl rfl rfl (by kernel_rfl) (by kernel_rfl) (.inl sp_27) (by simp [Tryz.f27]) ?_
   intro T hT
   simp -dsimp -implicitDefEqProofs (disch:=first|omega|assumption) [startSlots,nI,wI,hl,hf,range2,V.plain]
   simpa -dsimp -implicitDefEqProofs (disch:=first|omega|assumption) [nI,wI,hl,range2] using hT
end Go.Am.Ab
namespace Go.Am.Ab
open Go.Proofs
set_option maxHeartbeats 8000000
set_option maxRecDepth 4000
end Go.Am.Ab
namespace Go.Am.Ab
open Go.Proofs
set_option maxHeartbeats 8000000
set_option maxRecDepth 4000
theorem best35 : bestB [3,5] = [0,6,10] := by
 have h0 : encB 0 [3,5] = [6,10] := by simp [encB,plainB,putInt,zig,put_lt,u8n]
 have h1 : encB 1 [3,5] = [6,4] := by simp [encB,deltaB,deltas,plainB,putInt,zig,put_lt,wI,u8n]
 have h2 : encB 2 [3,5] = [6,1,10,1] := by simp [encB,runsB,runsF,cnt,putInt,zig,put_lt,u8n]
 have h3 : (encB 3 [3,5]).length = 4 := by
  have hu : uniq [3,5] = [3,5] := by decide
  have hp : places [3,5] [3,5] = [0,1] := by decide
  have hw : width [0,1] = 1 := by decide
  simp [encB,dictB,hu,hp,hw,riseB,gaps,putInt,zig,put_lt,u8n,packed,packN,le]
 have h4 : (encB 4 [3,5]).length = 3 := by
  have hm : minL [3,5] = 3 := by decide
  have hp : mores [3,5] = [0,2] := by decide
  have hw : width [0,2] = 2 := by decide
  simp [encB,packedB,hm,hp,hw,putInt,zig,put_lt,u8n,packed,packN,le]
 obtain ⟨e3,he3⟩ : ∃ e,e = encB 3 [3,5] := ⟨_,rfl⟩
 obtain ⟨e4,he4⟩ : ∃ e,e = encB 4 [3,5] := ⟨_,rfl⟩
 rw [← he3] at h3
 rw [← he4] at h4
 simp [bestB,bestTo,h0,h1,h2,← he3,← he4,h3,h4,u8n]
def exU : List Val := [.whole 3,.whole 5]
theorem ex_uni : uniV [.whole 5,.whole 3,.whole 5] = exU := by decide
theorem ex_col : colB 1 exU = [0,0,6,10] := by
 have hb : bestB (wholes exU) = [0,6,10] := best35
 have hh : headB exU = [0] := by
  unfold headB
  rw [if_neg (by decide)]
 rw [colB,hh]
 show [0] ++ bestB (wholes exU) = _
 rw [hb]; rfl
theorem ex_good : Good 1 exU := by
 intro v hv
 simp [exU] at hv
 rcases hv with rfl | rfl
 all_goals exact .inr ⟨rfl,fun n e => (by cases e; unfold isI64; omega),fun s e => by cases e⟩
theorem ex_key : keyT 1 2 [0,0,6,10] = [75,70,49,1,2,0,0,6,10] := by
 unfold keyT
 rw [put_lt (by omega),put_lt (by omega)]; rfl
theorem ex_all : ∀ v ∈ exU,v.kind = 1 := by decide
theorem ex_ris : RisesV exU := ⟨by decide,by decide,trivial⟩
theorem alive11_of (ho : R 20 [B (sealB [75,70,49,1,2,0,0,6,10])] [] = KoR (.inr (1,exU))) : R 14 [] [] = some ([.d (.bool true)],[]) := by
 have hw := write_ok 1 (by decide) exU ex_good (by decide)
 have hx : ∀ v ∈ [Val.whole 5,.whole 3,.whole 5],v.kind = 1 := by decide
 have h1 := kwrite_step1 [.whole 5,.whole 3,.whole 5] (by decide) hx (colB 1 exU) 0 (by rw [ex_col]; decide) (by rw [ex_uni]; exact hw)
 rw [ex_uni,ex_col,if_neg (by simp)] at h1
 have hk2 : keyT 1 exU.length [0,0,6,10] = [75,70,49,1,2,0,0,6,10] := ex_key
 rw [hk2] at h1
 unfold KoR at ho
 have hlen := slen_runs 1 (vs exU) 2
 have q1 := has_runs 1 (.inl rfl) exU ex_all ex_ris (by decide) (.whole 3)
 have q2 := has_runs 1 (.inl rfl) exU ex_all ex_ris (by decide) (.text ⟨#[51]⟩)
 have q3 := has_runs 1 (.inl rfl) exU ex_all ex_ris (by decide) (.whole 4)
 rw [show decide (Val.whole 3 ∈ exU) = true by decide] at q1
 rw [show decide (Val.text ⟨#[51]⟩ ∈ exU) = false by decide] at q2
 rw [show decide (Val.whole 4 ∈ exU) = false by decide] at q3
 obtain ⟨cr,hcr⟩ : ∃ cr,cr = crcB [75,70,49,1,2,0,0,6,10] := ⟨_,rfl⟩
 have hs : sealB [75,70,49,1,2,0,0,6,10] = [75,70,49,1,2,0,0,6,10] ++ cr := by rw [hcr]; rfl
 have hcl : cr.length = 4 := by rw [hcr]; rfl
 rw [hs] at h1 ho
 have h1' : R 15 [.d (.int .u8 1),.d (.list [.iface 2 (.int .i64 5),.iface 2 (.int .i64 3),.iface 2 (.int .i64 5)])] [] = some ([.arr 0 (cr.length + 9),.d (.int .i64 0)],[.arr 1 (.int .u8 75 :: .int .u8 70 :: .int .u8 49 :: .int .u8 1 :: .int .u8 2 :: .int .u8 0 :: .int .u8 0 :: .int .u8 6 :: .int .u8 10 :: bytes cr) 0]) := h1
 have ho' : R 20 [.d (.list (.int .u8 75 :: .int .u8 70 :: .int .u8 49 :: .int .u8 1 :: .int .u8 2 :: .int .u8 0 :: .int .u8 0 :: .int .u8 6 :: .int .u8 10 :: bytes cr))] [] = some ([.ptr 0 0,.d (.int .i64 0)],[.box [.d (.int .u8 1),.arr 1 2],.arr 1 [.iface 2 (.int .i64 3),.iface 2 (.int .i64 5)] 2]) := ho
 have hlen' : R 26 [.ptr 0 0] [.box [.d (.int .u8 1),.arr 1 2],.arr 1 [.iface 2 (.int .i64 3),.iface 2 (.int .i64 5)] 2] = some ([.d (.int .i64 2)],[.box [.d (.int .u8 1),.arr 1 2],.arr 1 [.iface 2 (.int .i64 3),.iface 2 (.int .i64 5)] 2]) := hlen
 have q1' : R 27 [.ptr 0 0,.d (.iface 2 (.int .i64 3))] [.box [.d (.int .u8 1),.arr 1 2],.arr 1 [.iface 2 (.int .i64 3),.iface 2 (.int .i64 5)] 2] = some ([.d (.bool true)],[.box [.d (.int .u8 1),.arr 1 2],.arr 1 [.iface 2 (.int .i64 3),.iface 2 (.int .i64 5)] 2]) := q1
 have q2' : R 27 [.ptr 0 0,.d (.iface 9 (.str ⟨#[51]⟩))] [.box [.d (.int .u8 1),.arr 1 2],.arr 1 [.iface 2 (.int .i64 3),.iface 2 (.int .i64 5)] 2] = some ([.d (.bool false)],[.box [.d (.int .u8 1),.arr 1 2],.arr 1 [.iface 2 (.int .i64 3),.iface 2 (.int .i64 5)] 2]) := q2
 have q3' : R 27 [.ptr 0 0,.d (.iface 2 (.int .i64 4))] [.box [.d (.int .u8 1),.arr 1 2],.arr 1 [.iface 2 (.int .i64 3),.iface 2 (.int .i64 5)] 2] = some ([.d (.bool false)],[.box [.d (.int .u8 1),.arr 1 2],.arr 1 [.iface 2 (.int .i64 3),.iface 2 (.int .i64 5)] 2]) := q3
 clear h1 ho hlen q1 q2 q3 hcr hs
 refine run_goal (rs:=[.tmp 0]) (ts:=[4]) Tryz.func14 rfl rfl rfl (by kernel_rfl) (by kernel_rfl) (.inl sp_14) (by simp [Tryz.f14]) ?_
 intro T hT
 simp -dsimp -implicitDefEqProofs (disch:=first|omega|assumption) [startSlots,nI,wI,h1',ho',hlen',q1',q2',q3',byteOf_u8]
 simpa -dsimp -implicitDefEqProofs (disch:=first|omega|assumption) [nI,wI] using hT
end Go.Am.Ab
namespace Go.Am.Ab
open Go.Proofs
set_option maxHeartbeats 8000000
set_option maxRecDepth 4000
end Go.Am.Ab
namespace Go.Am.Ab
open Go.Proofs
set_option maxHeartbeats 8000000
set_option maxRecDepth 4000
theorem ex_ints : R 227 [.d (.list [.int .u8 0,.int .u8 6,.int .u8 10]),.d (.int .i64 2)] [] = some ([.arr 0 2,.d (.int .i64 0)],[.arr 1 [.int .i64 3,.int .i64 5] 0]) := by
 have v1 := whole_ok [6,10] (by decide)
 rw [show get [6,10] = (6,1,0) from rfl] at v1
 have w1 : R 249 [.ptr 0 0] [.box [.d (.list [.int .u8 6,.int .u8 10]),.d (.int .i64 0)]] = some ([.d (.int .i64 3)],[.box [.d (.list [.int .u8 10]),.d (.int .i64 0)]]) := v1
 have v2 := whole_ok [10] (by decide)
 rw [show get [10] = (10,1,0) from rfl] at v2
 have w2 : R 249 [.ptr 0 0] [.box [.d (.list [.int .u8 10]),.d (.int .i64 0)]] = some ([.d (.int .i64 5)],[.box [.d (.list []),.d (.int .i64 0)]]) := v2
 have e1 := iencode_yes 0 [3,5] (by intro n hn; simp at hn; unfold isI64; omega) (by decide) (by omega)
 rw [show encB 0 [3,5] = [6,10] by simp [encB,plainB,putInt,zig,put_lt,u8n]] at e1
 have enc : R 178 [.d (.int .u8 0),.d (.list [.int .i64 3,.int .i64 5])] [] = some ([.arr 0 2,.d (.bool true)],[.arr 1 [.int .u8 6,.int .u8 10] 0]) := e1
 have q1 := equal_runs [6,10] [6,10] (by decide)
 rw [decide_eq_true rfl] at q1
 have heq : R 72 [.d (.list [.int .u8 6,.int .u8 10]),.d (.list [.int .u8 6,.int .u8 10])] [] = some ([.d (.bool true)],[]) := q1
 clear v1 v2 e1 q1
 refine run_goal (rs:=[.tmp 4,.tmp 5]) (ts:=[179,25]) Tryz.func227 rfl rfl rfl (by kernel_rfl) (by kernel_rfl) (.inl sp_227) (by simp [Tryz.f227]) ?_
 intro T hT
 simp -dsimp -implicitDefEqProofs (disch:=first|omega|assumption) [startSlots,nI,wI]
 generalize hz : loopT _ _ _ _ _ _ = z
 revert z
 refine loop_any (σ:=List D × List D × Int) (fun x => [(0,.d (.list [.int .u8 0,.int .u8 6,.int .u8 10])),(1,.d (.int .i64 2)),(6,.ptr 0 0),(7,.arr 1 x.1.length),(8,.d (.int .i64 x.2.2))]) (fun x => [.box [.d (.list x.2.1),.d (.int .i64 0)],.arr 1 x.1 0]) (fun x => x = ([],[.int .u8 6,.int .u8 10],0) ∨ x = ([.int .i64 3],[.int .u8 10],3) ∨ x = ([.int .i64 3,.int .i64 5],[],5)) (fun x => 2 - x.1.length) ([],[.int .u8 6,.int .u8 10],0) ?_ ?_ ?_
 ·exact .inl rfl
 ·simp -dsimp -implicitDefEqProofs (disch:=first|omega|assumption)
 intro T' f hT' x hx ih
 rcases hx with rfl | rfl | rfl
 ·simp -dsimp -implicitDefEqProofs (disch:=first|omega|assumption) [nI,wI,w1]
  exact ih _ _ _ (.inr (.inl rfl)) (by simp) (by simp -dsimp -implicitDefEqProofs (disch:=first|omega|assumption))
 ·simp -dsimp -implicitDefEqProofs (disch:=first|omega|assumption) [nI,wI,w2]
  exact ih _ _ _ (.inr (.inr rfl)) (by simp) (by simp -dsimp -implicitDefEqProofs (disch:=first|omega|assumption))
 ·subst hT'
  simp -dsimp -implicitDefEqProofs (disch:=first|omega|assumption) [nI,wI,enc,heq]
  simpa -dsimp -implicitDefEqProofs (disch:=first|omega|assumption) [nI,wI] using hT
theorem ex_values : R 191 [.d (.int .u8 1),.d (.list [.int .u8 0,.int .u8 6,.int .u8 10]),.d (.int .i64 2)] [] = some ([.arr 0 2,.d (.int .i64 0)],[.arr 1 [.iface 2 (.int .i64 3),.iface 2 (.int .i64 5)] 0]) := by
 have h := ex_ints
 refine run_goal (rs:=[.tmp 6,.tmp 7]) (ts:=[29,25]) Tryz.func191 rfl rfl rfl (by kernel_rfl) (by kernel_rfl) (.inl sp_191) (by simp [Tryz.f191]) ?_
 intro T hT
 simp -dsimp -implicitDefEqProofs (disch:=first|omega|assumption) [startSlots,nI,wI,h]
 generalize hz : loopT _ _ _ _ _ _ = z
 revert z
 refine loop_any (σ:=List D) (fun x => [(8,.arr 0 x.length),(10,.d (.int .i64 0)),(30,.arr 1 2),(31,.d (.int .i64 2)),(32,.d (.int .i64 x.length))]) (fun x => [.arr 1 x 0,.arr 1 [.int .i64 3,.int .i64 5] 0]) (fun x => x = [] ∨ x = [.iface 2 (.int .i64 3)] ∨ x = [.iface 2 (.int .i64 3),.iface 2 (.int .i64 5)]) (fun x => 2 - x.length) [] ?_ ?_ ?_
 ·exact .inl rfl
 ·simp -dsimp -implicitDefEqProofs (disch:=first|omega|assumption)
 intro T' f hT' x hx ih
 rcases hx with rfl | rfl | rfl
 ·simp -dsimp -implicitDefEqProofs (disch:=first|omega|assumption) [nI,wI]
  exact ih _ _ _ (.inr (.inl rfl)) (by simp) (by simp -dsimp -implicitDefEqProofs (disch:=first|omega|assumption))
 ·simp -dsimp -implicitDefEqProofs (disch:=first|omega|assumption) [nI,wI]
  exact ih _ _ _ (.inr (.inr rfl)) (by simp) (by simp -dsimp -implicitDefEqProofs (disch:=first|omega|assumption))
 ·subst hT'
  simp -dsimp -implicitDefEqProofs (disch:=first|omega|assumption) [nI,wI]
  simpa -dsimp -implicitDefEqProofs (disch:=first|omega|assumption) [nI,wI] using hT
theorem ex_read : R 132 [.d (.int .u8 1),.d (.list [.int .u8 0,.int .u8 0,.int .u8 6,.int .u8 10]),.d (.int .i64 2)] [] = some ([.arr 0 2,.d (.int .i64 0)],[.arr 1 [.iface 2 (.int .i64 3),.iface 2 (.int .i64 5)] 0]) := by
 have hval := ex_values
 have hrep : R 189 [.arr 0 1,.d (.int .i64 2)] [.arr 1 [.int .u64 1] 0] = some ([.arr 1 2],[.arr 1 [.int .u64 1] 0,.arr 1 [.int .u64 1,.int .u64 1] 0]) := repeatU_runs 1 2 (by omega)
 refine run_goal (rs:=[.tmp 6,.tmp 7]) (ts:=[29,25]) Tryz.func132 rfl rfl rfl (by kernel_rfl) (by kernel_rfl) (.inl sp_132) (by simp [Tryz.f132]) ?_
 intro T hT
 simp -dsimp -implicitDefEqProofs (disch:=first|omega|assumption) [startSlots,nI,wI,hrep]
 generalize hz : loopT _ _ _ _ _ _ = z
 revert z
 refine loop_any (σ:=Nat) (fun i => [(0,.d (.int .u8 1)),(1,.d (.list [.int .u8 0,.int .u8 6,.int .u8 10])),(2,.d (.int .i64 2)),(9,.arr 0 2),(12,.d (.int .i64 i)),(56,.arr 0 2),(57,.d (.int .i64 2)),(58,.d (.int .i64 i))]) (fun i => [.arr 1 [.int .u64 1,.int .u64 1] 0]) (fun i => i = 0 ∨ i = 1 ∨ i = 2) (fun i => 2 - i) 0 ?_ ?_ ?_
 ·exact .inl rfl
 ·simp -dsimp -implicitDefEqProofs (disch:=first|omega|assumption)
 intro T' f hT' i hi ih
 rcases hi with rfl | rfl | rfl
 ·simp -dsimp -implicitDefEqProofs (disch:=first|omega|assumption) [nI,wI]
  exact ih 1 _ _ (.inr (.inl rfl)) (by omega) (by simp -dsimp -implicitDefEqProofs (disch:=first|omega|assumption))
 ·simp -dsimp -implicitDefEqProofs (disch:=first|omega|assumption) [nI,wI]
  exact ih 2 _ _ (.inr (.inr rfl)) (by omega) (by simp -dsimp -implicitDefEqProofs (disch:=first|omega|assumption))
 subst hT'
 clear ih
 simp -dsimp -implicitDefEqProofs (disch:=first|omega|assumption) [nI,wI,hval]
 generalize hz : loopT _ _ _ _ _ _ = z
 revert z
 refine loop_any (σ:=Nat × List D × List D) (fun x => [(15,.d (.list x.2.2)),(17,.arr 0 2),(79,.arr 1 2),(80,.d (.int .i64 2)),(81,.d (.int .i64 x.1))]) (fun x => [.arr 1 x.2.1 0,.arr 1 [.int .u64 1,.int .u64 1] 0]) (fun x => x = (0,[.nilI,.nilI],[.iface 2 (.int .i64 3),.iface 2 (.int .i64 5)]) ∨ x = (1,[.iface 2 (.int .i64 3),.nilI],[.iface 2 (.int .i64 5)]) ∨ x = (2,[.iface 2 (.int .i64 3),.iface 2 (.int .i64 5)],[])) (fun x => 2 - x.1) (0,[.nilI,.nilI],[.iface 2 (.int .i64 3),.iface 2 (.int .i64 5)]) ?_ ?_ ?_
 ·exact .inl rfl
 ·simp -dsimp -implicitDefEqProofs (disch:=first|omega|assumption)
 intro T2 f2 hT2 x hx ih
 rcases hx with rfl | rfl | rfl
 ·simp -dsimp -implicitDefEqProofs (disch:=first|omega|assumption) [nI,wI]
  exact ih _ _ _ (.inr (.inl rfl)) (by simp) (by simp -dsimp -implicitDefEqProofs (disch:=first|omega|assumption))
 ·simp -dsimp -implicitDefEqProofs (disch:=first|omega|assumption) [nI,wI]
  exact ih _ _ _ (.inr (.inr rfl)) (by simp) (by simp -dsimp -implicitDefEqProofs (disch:=first|omega|assumption))
 ·subst hT2
  simp -dsimp -implicitDefEqProofs (disch:=first|omega|assumption) [nI,wI]
  simpa -dsimp -implicitDefEqProofs (disch:=first|omega|assumption) [nI,wI] using hT
theorem ex_colread : R 71 [.d (.int .u8 1),.d (.list [.int .u8 0,.int .u8 0,.int .u8 6,.int .u8 10]),.d (.int .i64 2)] [] = some ([.arr 0 2,.d (.int .i64 0)],[.arr 1 [.iface 2 (.int .i64 3),.iface 2 (.int .i64 5)] 2]) := by
 have h := ex_read
 have r1 := right_runs 1 (by omega)
 rw [decide_eq_true (by omega)] at r1
 have hr : R 121 [.d (.int .u8 1)] [] = some ([.d (.bool true)],[]) := r1
 have w1 := write_ok 1 (by decide) exU ex_good (by decide)
 rw [ex_col] at w1
 have hw : R 64 [.d (.int .u8 1),.d (.list [.iface 2 (.int .i64 3),.iface 2 (.int .i64 5)])] [] = some ([.arr 0 4,.d (.int .i64 0)],[.arr 1 [.int .u8 0,.int .u8 0,.int .u8 6,.int .u8 10] 0]) := w1
 have q1 := equal_runs [0,0,6,10] [0,0,6,10] (by decide)
 rw [decide_eq_true rfl] at q1
 have heq : R 72 [.d (.list [.int .u8 0,.int .u8 0,.int .u8 6,.int .u8 10]),.d (.list [.int .u8 0,.int .u8 0,.int .u8 6,.int .u8 10])] [] = some ([.d (.bool true)],[]) := q1
 clear w1 q1 r1
 refine run_goal (rs:=[.tmp 6,.tmp 7]) (ts:=[29,25]) Tryz.func71 rfl rfl rfl (by kernel_rfl) (by kernel_rfl) (.inl sp_71) (by simp [Tryz.f71]) ?_
 intro T hT
 simp -dsimp -implicitDefEqProofs (disch:=first|omega|assumption) [startSlots,nI,wI,hr,h,hw,heq]
 simpa -dsimp -implicitDefEqProofs (disch:=first|omega|assumption) [nI,wI] using hT
theorem ex_open : R 20 [B (sealB [75,70,49,1,2,0,0,6,10])] [] = KoR (.inr (1,exU)) := by
 have o1 := copen_runs (sealB [75,70,49,1,2,0,0,6,10]) (by rw [sealB_length]; decide)
 rw [open_seal] at o1
 unfold OpR at o1
 have g1 := get_runs [1,2,0,0,6,10] (by decide)
 rw [show get [1,2,0,0,6,10] = (1,1,0) from rfl] at g1
 have hg : R 70 [.d (.list [.int .u8 1,.int .u8 2,.int .u8 0,.int .u8 0,.int .u8 6,.int .u8 10])] [] = some ([.d (.int .u64 1),.d (.int .i64 1),.d (.int .i64 0)],[]) := g1
 have g2 := get_runs [2,0,0,6,10] (by decide)
 rw [show get [2,0,0,6,10] = (2,1,0) from rfl] at g2
 have hg2 : R 70 [.d (.list [.int .u8 2,.int .u8 0,.int .u8 0,.int .u8 6,.int .u8 10])] [] = some ([.d (.int .u64 2),.d (.int .i64 1),.d (.int .i64 0)],[]) := g2
 have hrd := ex_colread
 have hu : uniV exU = exU := by decide
 have w1 := kwrite_step1 exU (by decide) ex_all (colB 1 exU) 0 (by rw [ex_col]; decide) (by rw [hu]; exact write_ok 1 (by decide) exU ex_good (by decide))
 rw [hu,ex_col,if_neg (by simp),show keyT 1 exU.length [0,0,6,10] = [75,70,49,1,2,0,0,6,10] from ex_key] at w1
 obtain ⟨b,hb⟩ : ∃ b,b = sealB [75,70,49,1,2,0,0,6,10] := ⟨_,rfl⟩
 rw [← hb] at o1 w1 ⊢
 have ho : R 69 [B b] [] = some ([.arr 0 9,.d (.bool true)],[.arr 1 [.int .u8 75,.int .u8 70,.int .u8 49,.int .u8 1,.int .u8 2,.int .u8 0,.int .u8 0,.int .u8 6,.int .u8 10] 9]) := o1
 have hw : R 15 [.d (.int .u8 1),.d (.list [.iface 2 (.int .i64 3),.iface 2 (.int .i64 5)])] [] = some ([.arr 0 b.length,E 0],[.arr 1 (bytes b) 0]) := w1
 have heq := equal_runs b b (by rw [hb,sealB_length]; decide)
 rw [decide_eq_true rfl] at heq
 show R 20 [B b] [] = some ([.ptr 0 0,E 0],[.box [.d (.int .u8 1),.arr 1 2],.arr 1 [.iface 2 (.int .i64 3),.iface 2 (.int .i64 5)] 2])
 clear o1 g1 g2 w1 hb
 refine run_goal (rs:=[.tmp 2,.tmp 3]) (ts:=[37,25]) Tryz.func20 rfl rfl rfl (by kernel_rfl) (by kernel_rfl) (.inl sp_20) (by simp [Tryz.f20]) ?_
 intro T hT
 simp -dsimp -implicitDefEqProofs (disch:=first|omega|assumption) [startSlots,nI,wI,ho,hg,hg2,hrd,hw,heq,byteOf_u8]
 simpa -dsimp -implicitDefEqProofs (disch:=first|omega|assumption) [nI,wI,E] using hT
theorem alive11e : R 14 [] [] = some ([.d (.bool true)],[]) := alive11_of ex_open
end Go.Am.Ab
