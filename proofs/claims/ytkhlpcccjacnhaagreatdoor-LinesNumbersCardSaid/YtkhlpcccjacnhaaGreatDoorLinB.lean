/- Lines of numbers. -/
import Derived.Test.YtkhlpcccjacnhaaGreatDoorLinA
import Derived.Test.YtkhlpcccjacnhaaGreatDoorEv25
set_option linter.all false
namespace Go.Am.Ab
open Go.Proofs
set_option maxHeartbeats 2000000
set_option maxRecDepth 4000
theorem cutL_none : ∀ {w : List UInt8},32 ∉ w → cutL 32 w = [w]
 | [],_ => rfl
 | x :: w,h => by
  simp only [List.mem_cons,not_or] at h
  unfold cutL
  rw [if_neg (fun e => h.1 e.symm),cutL_none h.2]
theorem cutL_app : ∀ {a : List UInt8} (b : List UInt8),32 ∉ a → cutL 32 (a ++ 32 :: b) = a :: cutL 32 b
 | [],b,_ => by simp [cutL]
 | x :: a,b,h => by
  simp only [List.mem_cons,not_or] at h
  rw [List.cons_append]
  conv => lhs; unfold cutL
  rw [if_neg (fun e => h.1 e.symm),cutL_app b h.2]
def actV (k n : Int) : V := .agg [.d (.int .u8 k),.d (.int .i64 n),.d (.int .i64 0),.d (.int .u64 0),.nilS,.d (.int .u64 0),.d (.int .u8 0),.nilS,.d (.int .u8 0),.d (.int .i64 0),.d (.str ⟨#[]⟩),.d (.str ⟨#[]⟩),.d (.int .u8 0)]
theorem counted_del : R 48 [S [100,101,108,105,118,101,114]] [] = some ([.d (.int .u8 1)],[]) := by
 refine run_goal (rs:=[.tmp 2]) (ts:=[5]) Tryz.func48 rfl rfl rfl (by kernel_rfl) (by kernel_rfl) (.inl sp_48) (by simp [Tryz.f48]) ?_
 intro T hT
 simp -dsimp -implicitDefEqProofs (disch:=first|omega|assumption) [startSlots,nI,wI]
 simpa -dsimp -implicitDefEqProofs (disch:=first|omega|assumption) [nI,wI] using hT
theorem act_del {w : List UInt8} (hl : w.length ≤ 1000000) : R 26 [.d (.list [strD [100,101,108,105,118,101,114],strD w])] [] = some ([actV 1 (numV w),.d (.bool (numOk w (-999999999)))],[]) := by
 have hn := number_runs hl (low := -999999999)
 have hc := counted_del
 unfold actV at *
 refine run_goal (rs:=[.cell 2 55,.tmp 3]) (ts:=[55,4]) Tryz.func26 rfl rfl rfl (by kernel_rfl) (by kernel_rfl) (.inl sp_26) (by simp [Tryz.f26]) ?_
 intro T hT
 simp -dsimp -implicitDefEqProofs (disch:=first|omega|assumption) [startSlots,nI,wI,strD,hn,hc]
 simpa -dsimp -implicitDefEqProofs (disch:=first|omega|assumption) [nI,wI] using hT
theorem act_del3 (a b : List UInt8) : R 26 [.d (.list [strD [100,101,108,105,118,101,114],strD a,strD b])] [] = some ([actV 0 0,.d (.bool false)],[]) := by
 unfold actV at *
 refine run_goal (rs:=[.cell 2 55,.tmp 3]) (ts:=[55,4]) Tryz.func26 rfl rfl rfl (by kernel_rfl) (by kernel_rfl) (.inl sp_26) (by simp [Tryz.f26]) ?_
 intro T hT
 simp -dsimp -implicitDefEqProofs (disch:=first|omega|assumption) [startSlots,nI,wI,strD]
 simpa -dsimp -implicitDefEqProofs (disch:=first|omega|assumption) [nI,wI] using hT
theorem Act_del {w : List UInt8} (hw : 32 ∉ w) (hl : w.length ≤ 1000000) : R 19 [S ([100,101,108,105,118,101,114,32] ++ w)] [] = some ((if numOk w (-999999999) = true then [actV 1 (numV w),.d (.int .i64 0)] else [actV 0 0,.d (.int .i64 250)]),[]) := by
 have hs := split_runs (l := [100,101,108,105,118,101,114,32] ++ w) (by simp; omega)
 have hc : cutL 32 ([100,101,108,105,118,101,114,32] ++ w) = [[100,101,108,105,118,101,114],w] := by
  rw [show [100,101,108,105,118,101,114,32] ++ w = [100,101,108,105,118,101,114] ++ 32 :: w from rfl,cutL_app w (by decide),cutL_none hw]
 rw [hc] at hs
 simp only [List.map_cons,List.map_nil] at hs
 have ha := act_del hl
 unfold actV at *
 generalize [100,101,108,105,118,101,114,32] ++ w = l at hs
 generalize strD w = d at *
 generalize strD [100,101,108,105,118,101,114] = d0 at *
 cases hn : numOk w (-999999999) with
 | true =>
  rw [hn] at ha
  refine run_goal (rs:=[.cell 2 55,.tmp 3]) (ts:=[55,44]) Tryz.func19 rfl rfl rfl (by kernel_rfl) (by kernel_rfl) (.inl sp_19) (by simp [Tryz.f19]) ?_
  intro T hT
  simp -dsimp -implicitDefEqProofs (disch:=first|omega|assumption) [startSlots,nI,wI,hs,ha]
  simpa -dsimp -implicitDefEqProofs (disch:=first|omega|assumption) [nI,wI] using hT
 | false =>
  rw [hn] at ha
  refine run_goal (rs:=[.cell 2 55,.tmp 3]) (ts:=[55,44]) Tryz.func19 rfl rfl rfl (by kernel_rfl) (by kernel_rfl) (.inl sp_19) (by simp [Tryz.f19]) ?_
  intro T hT
  simp -dsimp -implicitDefEqProofs (disch:=first|omega|assumption) [startSlots,nI,wI,hs,ha]
  simpa -dsimp -implicitDefEqProofs (disch:=first|omega|assumption) [nI,wI] using hT
theorem Act_del2 {w : List UInt8} (hw : 32 ∉ w) (hl : w.length ≤ 1000000) : R 19 [S ([100,101,108,105,118,101,114,32,32] ++ w)] [] = some ([actV 0 0,.d (.int .i64 250)],[]) := by
 have hs := split_runs (l := [100,101,108,105,118,101,114,32,32] ++ w) (by simp; omega)
 have hc : cutL 32 ([100,101,108,105,118,101,114,32,32] ++ w) = [[100,101,108,105,118,101,114],[],w] := by
  rw [show [100,101,108,105,118,101,114,32,32] ++ w = [100,101,108,105,118,101,114] ++ 32 :: ([] ++ 32 :: w) from rfl,cutL_app _ (by decide),cutL_app _ (by decide),cutL_none hw]
 rw [hc] at hs
 simp only [List.map_cons,List.map_nil] at hs
 have ha := act_del3 [] w
 unfold actV at *
 generalize [100,101,108,105,118,101,114,32,32] ++ w = l at hs
 generalize strD w = d at *
 generalize strD [] = d1 at *
 generalize strD [100,101,108,105,118,101,114] = d0 at *
 refine run_goal (rs:=[.cell 2 55,.tmp 3]) (ts:=[55,44]) Tryz.func19 rfl rfl rfl (by kernel_rfl) (by kernel_rfl) (.inl sp_19) (by simp [Tryz.f19]) ?_
 intro T hT
 simp -dsimp -implicitDefEqProofs (disch:=first|omega|assumption) [startSlots,nI,wI,hs,ha]
 simpa -dsimp -implicitDefEqProofs (disch:=first|omega|assumption) [nI,wI] using hT
def cellV (k n : Int) (s : List UInt8) : V := .d (.agg [.int .u8 k,.int .i64 n,.str ⟨s.toArray⟩])
theorem cutp_runs {c : UInt8} {r : List UInt8} (hc : c ≠ 39) (hl : r.length < 1000000) : R 90 [S (c :: r),S [39]] [] = some ([S (c :: r),.d (.bool false)],[]) := by
 have h1 : R 139 [S (c :: r),S [39]] [] = some ([S (c :: r),.d (.bool false)],[]) := by
  have hp : R 140 [S (c :: r),S [39]] [] = some ([.d (.bool false)],[]) := by
   have g1 : (1 : Int) ≤ (r.length : Int) + 1 := by omega
   have ex : (⟨(c :: r).toArray⟩ : ByteArray).extract 0 1 = ⟨[c].toArray⟩ := by
    apply ByteArray.ext
    simp
   have e1 : ([c] == ([39] : List UInt8)) = false := beq_false_of_ne (fun e => by cases e; exact hc rfl)
   refine run_goal (rs:=[.tmp 4]) (ts:=[4]) Tryz.func140 rfl rfl rfl (by kernel_rfl) (by kernel_rfl) (.inl sp_140) (by simp [Tryz.f140]) ?_
   intro T hT
   simp -dsimp -implicitDefEqProofs (disch:=first|omega|assumption) [startSlots,nI,wI,g1,ex,e1]
   simpa -dsimp -implicitDefEqProofs (disch:=first|omega|assumption) [nI,wI] using hT
  refine run_goal (rs:=[.tmp 4,.tmp 5]) (ts:=[9,4]) Tryz.func139 rfl rfl rfl (by kernel_rfl) (by kernel_rfl) (.inl sp_139) (by simp [Tryz.f139]) ?_
  intro T hT
  simp -dsimp -implicitDefEqProofs (disch:=first|omega|assumption) [startSlots,nI,wI,hp]
  simpa -dsimp -implicitDefEqProofs (disch:=first|omega|assumption) [nI,wI] using hT
 refine run_goal (rs:=[.tmp 4,.tmp 5]) (ts:=[9,4]) Tryz.func90 rfl rfl rfl (by kernel_rfl) (by kernel_rfl) (.inl sp_90) (by simp [Tryz.f90]) ?_
 intro T hT
 simp -dsimp -implicitDefEqProofs (disch:=first|omega|assumption) [startSlots,nI,wI,h1]
 simpa -dsimp -implicitDefEqProofs (disch:=first|omega|assumption) [nI,wI] using hT
theorem cell_num {c : UInt8} {r : List UInt8} (hc : c = 45 ∨ (48 ≤ c.toNat ∧ c.toNat ≤ 57)) (hl : r.length < 1000000) : R 44 [S (c :: r)] [] = some ([cellV 1 (numV (c :: r)) [],.d (.bool (numOk (c :: r) (-999999999)))],[]) := by
 have hn := number_runs (l := c :: r) (by simp; omega) (low := -999999999)
 have h39 : c ≠ 39 := by rintro rfl; rcases hc with hc | hc <;> revert hc <;> decide
 have hp := cutp_runs h39 (r := r) (by omega)
 have n1 : ((c :: r : List UInt8) == [110,117,108,108]) = false := beq_false_of_ne (fun e => by cases e; revert hc; decide)
 have n2 : ((c :: r : List UInt8) == [121,101,115]) = false := beq_false_of_ne (fun e => by cases e; revert hc; decide)
 have n3 : ((c :: r : List UInt8) == [110,111]) = false := beq_false_of_ne (fun e => by cases e; revert hc; decide)
 unfold cellV
 generalize c :: r = l at *
 refine run_goal (rs:=[.cell 2 40,.tmp 3]) (ts:=[40,4]) Tryz.func44 rfl rfl rfl (by kernel_rfl) (by kernel_rfl) (.inl sp_44) (by simp [Tryz.f44]) ?_
 intro T hT
 simp -dsimp -implicitDefEqProofs (disch:=first|omega|assumption) [startSlots,nI,wI,hn,hp,n1,n2,n3]
 simpa -dsimp -implicitDefEqProofs (disch:=first|omega|assumption) [nI,wI] using hT
end Go.Am.Ab
namespace Go.Am.Ab
open Go.Proofs
set_option maxHeartbeats 4000000
set_option maxRecDepth 4000
def eventV (o k n : Int) : V := .agg [.d (.int .u64 0),.d (.int .u8 o),.nilS,.d (.int .u8 k),.d (.int .i64 n),.d (.str ⟨#[]⟩),.d (.str ⟨#[]⟩),.d (.int .u8 0)]
theorem event_rem {c : UInt8} {r : List UInt8} (hc : c = 45 ∨ (48 ≤ c.toNat ∧ c.toNat ≤ 57)) (hl : r.length < 1000000) : R 24 [.d (.list [strD [114,101,109,111,118,101],strD (c :: r)])] [] = some ([eventV 2 1 (numV (c :: r)),.d (.bool (numOk (c :: r) (-999999999)))],[]) := by
 have hn := cell_num hc hl
 unfold eventV
 unfold cellV at hn
 generalize c :: r = l at *
 refine run_goal (rs:=[.cell 2 43,.tmp 3]) (ts:=[43,4]) Tryz.func24 rfl rfl rfl (by kernel_rfl) (by kernel_rfl) (.inl sp_24) (by simp [Tryz.f24]) ?_
 intro T hT
 simp -dsimp -implicitDefEqProofs (disch:=first|omega|assumption) [startSlots,nI,wI,strD,hn]
 simpa -dsimp -implicitDefEqProofs (disch:=first|omega|assumption) [nI,wI] using hT
theorem Event_rem {w : List UInt8} {c : UInt8} {r : List UInt8} (hcr : w = c :: r) (hc : c = 45 ∨ (48 ≤ c.toNat ∧ c.toNat ≤ 57)) (hw : 32 ∉ w) (hl : w.length < 1000000) : R 15 [S ([114,101,109,111,118,101,32] ++ w)] [] = some ((if numOk w (-999999999) = true then [eventV 2 1 (numV w),.d (.int .i64 0)] else [eventV 0 0 0,.d (.int .i64 250)]),[]) := by
 have hs := split_runs (l := [114,101,109,111,118,101,32] ++ w) (by simp; omega)
 have hct : cutL 32 ([114,101,109,111,118,101,32] ++ w) = [[114,101,109,111,118,101],w] := by
  rw [show [114,101,109,111,118,101,32] ++ w = [114,101,109,111,118,101] ++ 32 :: w from rfl,cutL_app w (by decide),cutL_none hw]
 rw [hct] at hs
 simp only [List.map_cons,List.map_nil] at hs
 have ha := event_rem (r := r) hc (by rw [hcr] at hl; simp at hl; omega)
 rw [← hcr] at ha
 unfold eventV at *
 generalize [114,101,109,111,118,101,32] ++ w = l at hs
 generalize strD w = d at *
 generalize strD [114,101,109,111,118,101] = d0 at *
 cases hn : numOk w (-999999999) with
 | true =>
  rw [hn] at ha
  refine run_goal (rs:=[.cell 2 43,.tmp 3]) (ts:=[43,44]) Tryz.func15 rfl rfl rfl (by kernel_rfl) (by kernel_rfl) (.inl sp_15) (by simp [Tryz.f15]) ?_
  intro T hT
  simp -dsimp -implicitDefEqProofs (disch:=first|omega|assumption) [startSlots,nI,wI,hs,ha]
  simpa -dsimp -implicitDefEqProofs (disch:=first|omega|assumption) [nI,wI] using hT
 | false =>
  rw [hn] at ha
  refine run_goal (rs:=[.cell 2 43,.tmp 3]) (ts:=[43,44]) Tryz.func15 rfl rfl rfl (by kernel_rfl) (by kernel_rfl) (.inl sp_15) (by simp [Tryz.f15]) ?_
  intro T hT
  simp -dsimp -implicitDefEqProofs (disch:=first|omega|assumption) [startSlots,nI,wI,hs,ha]
  simpa -dsimp -implicitDefEqProofs (disch:=first|omega|assumption) [nI,wI] using hT
theorem dig_no32 {c : UInt8} (h : digB c = true) : c ≠ 32 := by
 rintro rfl; revert h; decide
theorem itoa_no32 (n : Int) : 32 ∉ itoaL n := by
 have key : ∀ u,(32 : UInt8) ∉ digF 20 u := fun u hm => dig_no32 (List.all_eq_true.1 (digF_all 20 u) _ hm) rfl
 unfold itoaL
 split
 ·intro hm
  rcases List.mem_cons.1 hm with hm | hm
  ·cases hm
  ·exact key _ hm
 ·exact key _
def zs (i : Nat) (l : List UInt8) : List UInt8 := List.replicate i 48 ++ l
theorem zs_succ (i : Nat) (l : List UInt8) : zs (i + 1) l = 48 :: zs i l := rfl
theorem zs_no32 (i : Nat) {l : List UInt8} (h : 32 ∉ l) : 32 ∉ zs i l := by
 intro hm
 rcases List.mem_append.1 hm with hm | hm
 ·have := (List.mem_replicate.1 hm).2
  cases this
 ·exact h hm
theorem zs_len (i : Nat) (l : List UInt8) : (zs i l).length = i + l.length := by simp [zs]
theorem zs_ne (i : Nat) {l : List UInt8} (h : l ≠ []) : zs i l ≠ [] := fun e => by
 have := congrArg List.length e
 rw [zs_len] at this
 cases l with
 | nil => exact h rfl
 | cons => simp at this
end Go.Am.Ab
namespace Go.Am.Ab
open Go.Proofs
set_option maxHeartbeats 8000000
set_option maxRecDepth 6000
def lDel (s : List UInt8) : List UInt8 := [100,101,108,105,118,101,114,32] ++ s
def lRem (s : List UInt8) : List UInt8 := [114,101,109,111,118,101,32] ++ s
def lTwo (s : List UInt8) : List UInt8 := [100,101,108,105,118,101,114,32,32] ++ s
theorem ad_del (s : List UInt8) : (⟨#[100,101,108,105,118,101,114,32]⟩ : ByteArray) ++ ⟨s.toArray⟩ = ⟨(lDel s).toArray⟩ := mk_add [100,101,108,105,118,101,114,32] s
theorem ad_rem (s : List UInt8) : (⟨#[114,101,109,111,118,101,32]⟩ : ByteArray) ++ ⟨s.toArray⟩ = ⟨(lRem s).toArray⟩ := mk_add [114,101,109,111,118,101,32] s
theorem ad_two (s : List UInt8) : (⟨#[100,101,108,105,118,101,114,32,32]⟩ : ByteArray) ++ ⟨s.toArray⟩ = ⟨(lTwo s).toArray⟩ := mk_add [100,101,108,105,118,101,114,32,32] s
theorem ad_plus (s : List UInt8) : (⟨#[100,101,108,105,118,101,114,32,43]⟩ : ByteArray) ++ ⟨s.toArray⟩ = ⟨(lDel (43 :: s)).toArray⟩ := mk_add [100,101,108,105,118,101,114,32,43] s
theorem ad_zero (i : Nat) (l : List UInt8) : (⟨#[48]⟩ : ByteArray) ++ ⟨(zs i l).toArray⟩ = ⟨(zs (i + 1) l).toArray⟩ := mk_add [48] (zs i l)
theorem zs_zero (l : List UInt8) : zs 0 l = l := rfl
theorem numbers_runs (n : Int) (h1 : -9223372036854775808 ≤ n) (h2 : n ≤ 9223372036854775807) (z : Nat) (hz : z < 256) : R 6 [I n,.d (.int .u8 z)] [] = some ([.d (.bool true)],[]) := by
 have hA := alive_runs
 have hN := rnumber_runs h1 h2
 have hlen := itoaL_len n
 obtain ⟨v1,v2⟩ := num_itoa h1 h2 (-999999999)
 obtain ⟨c,r,hcr,hc⟩ := itoaL_cons n
 have h32 := itoa_no32 n
 have hD : R 19 [S (lDel (itoaL n))] [] = _ := Act_del h32 (by omega)
 have hE : R 15 [S (lRem (itoaL n))] [] = _ := Event_rem hcr hc h32 (by omega)
 have hne : itoaL n ≠ [] := by rw [hcr]; simp
 have hZ : ∀ i,i < 4 → R 19 [S (lDel (zs (i + 1) (itoaL n)))] [] = some ([actV 0 0,.d (.int .i64 250)],[]) := fun i hi => by
  have := Act_del (w := zs (i + 1) (itoaL n)) (zs_no32 _ h32) (by rw [zs_len]; omega)
  rw [zs_succ,num_zero (zs_ne i hne)] at this
  exact this
 have hP : ∀ i,i < 5 → R 19 [S (lDel (43 :: zs i (itoaL n)))] [] = some ([actV 0 0,.d (.int .i64 250)],[]) := fun i hi => by
  have := Act_del (w := 43 :: zs i (itoaL n)) (by
   intro hm
   rcases List.mem_cons.1 hm with hm | hm
   ·cases hm
   ·exact zs_no32 i h32 hm) (by rw [List.length_cons,zs_len]; omega)
  rw [num_plus] at this
  exact this
 have hS : ∀ i,i < 5 → R 19 [S (lTwo (zs i (itoaL n)))] [] = some ([actV 0 0,.d (.int .i64 250)],[]) := fun i hi => Act_del2 (zs_no32 _ h32) (by rw [zs_len]; omega)
 rw [v2,v1] at hD hE
 have hz0 : itoaL n = zs 0 (itoaL n) := rfl
 generalize itoaL n = l at *
 have hsl : ∀ i,(zs i l).length = i + l.length := fun i => zs_len i l
 unfold actV at hD hZ hP hS
 unfold eventV at hE
 obtain ⟨m4,hm4⟩ : ∃ m4,m4 = z % 4 := ⟨_,rfl⟩
 have q1 : (z : Int) % 4 = m4 := by omega
 have q2 : m4 < 4 := by omega
 by_cases f1 : -999999999 ≤ n
 ·by_cases f2 : n ≤ 999999999
  ·simp only [f1,f2,decide_true,Bool.and_true,if_true] at hD hE
   refine run_goal (rs:=[.tmp 4]) (ts:=[4]) Tryz.func6 rfl rfl rfl (by kernel_rfl) (by kernel_rfl) (.inl sp_6) (by simp [Tryz.f6]) ?_
   intro T hT
   simp -dsimp -implicitDefEqProofs (disch:=first|omega|assumption) [startSlots,nI,wI,hA,hN,ad_del,ad_rem,ba_size,hD,hE,f1,f2,hlen]
   generalize hz : loopT _ _ _ _ _ _ = z
   revert z
   refine loop_any (σ:=Nat) (fun i => [(1,.d (.int .u8 z)),(5,S (zs i l)),(11,I i)]) (fun i => []) (fun i => i ≤ m4) (fun i => m4 - i) 0 ?_ ?_ ?_
   ·exact Nat.zero_le _
   ·simp -dsimp -implicitDefEqProofs (disch:=first|omega|assumption) [zs_zero]
   intro T' f hT' i hi ih
   have hsi := hsl i
   have hsj := hsl (i + 1)
   by_cases hlt : i < m4
   ·have hzz := hZ i (by omega)
    have hlt' : (i : Int) < m4 := by omega
    simp -dsimp -implicitDefEqProofs (disch:=first|omega|assumption) [nI,wI,q1,hsi,hsj,ad_zero,ad_del,ba_size,hzz,hlt,hlt']
    refine ih (i + 1) _ _ (by omega) (by omega) (by simp -dsimp -implicitDefEqProofs (disch:=first|omega|assumption))
   ·have hp := hP i (by omega)
    have hs := hS i (by omega)
    have hlt' : ¬ (i : Int) < m4 := by omega
    subst hT'
    simp -dsimp -implicitDefEqProofs (disch:=first|omega|assumption) [nI,wI,q1,hsi,ad_plus,ad_two,ba_size,hp,hs,hlt,hlt']
    simpa -dsimp -implicitDefEqProofs (disch:=first|omega|assumption) [nI,wI] using hT
  ·simp only [f1,f2,decide_true,decide_false,Bool.and_false,Bool.false_eq_true,if_false] at hD hE
   refine run_goal (rs:=[.tmp 4]) (ts:=[4]) Tryz.func6 rfl rfl rfl (by kernel_rfl) (by kernel_rfl) (.inl sp_6) (by simp [Tryz.f6]) ?_
   intro T hT
   simp -dsimp -implicitDefEqProofs (disch:=first|omega|assumption) [startSlots,nI,wI,hA,hN,ad_del,ad_rem,ba_size,hD,hE,f1,f2,hlen]
   generalize hz : loopT _ _ _ _ _ _ = z
   revert z
   refine loop_any (σ:=Nat) (fun i => [(1,.d (.int .u8 z)),(5,S (zs i l)),(11,I i)]) (fun i => []) (fun i => i ≤ m4) (fun i => m4 - i) 0 ?_ ?_ ?_
   ·exact Nat.zero_le _
   ·simp -dsimp -implicitDefEqProofs (disch:=first|omega|assumption) [zs_zero]
   intro T' f hT' i hi ih
   have hsi := hsl i
   have hsj := hsl (i + 1)
   by_cases hlt : i < m4
   ·have hzz := hZ i (by omega)
    have hlt' : (i : Int) < m4 := by omega
    simp -dsimp -implicitDefEqProofs (disch:=first|omega|assumption) [nI,wI,q1,hsi,hsj,ad_zero,ad_del,ba_size,hzz,hlt,hlt']
    refine ih (i + 1) _ _ (by omega) (by omega) (by simp -dsimp -implicitDefEqProofs (disch:=first|omega|assumption))
   ·have hp := hP i (by omega)
    have hs := hS i (by omega)
    have hlt' : ¬ (i : Int) < m4 := by omega
    subst hT'
    simp -dsimp -implicitDefEqProofs (disch:=first|omega|assumption) [nI,wI,q1,hsi,ad_plus,ad_two,ba_size,hp,hs,hlt,hlt']
    simpa -dsimp -implicitDefEqProofs (disch:=first|omega|assumption) [nI,wI] using hT
 ·simp only [f1,decide_false,Bool.false_and,Bool.false_eq_true,if_false] at hD hE
  have f2 : True := trivial
  ·refine run_goal (rs:=[.tmp 4]) (ts:=[4]) Tryz.func6 rfl rfl rfl (by kernel_rfl) (by kernel_rfl) (.inl sp_6) (by simp [Tryz.f6]) ?_
   intro T hT
   simp -dsimp -implicitDefEqProofs (disch:=first|omega|assumption) [startSlots,nI,wI,hA,hN,ad_del,ad_rem,ba_size,hD,hE,f1,hlen]
   generalize hz : loopT _ _ _ _ _ _ = z
   revert z
   refine loop_any (σ:=Nat) (fun i => [(1,.d (.int .u8 z)),(5,S (zs i l)),(11,I i)]) (fun i => []) (fun i => i ≤ m4) (fun i => m4 - i) 0 ?_ ?_ ?_
   ·exact Nat.zero_le _
   ·simp -dsimp -implicitDefEqProofs (disch:=first|omega|assumption) [zs_zero]
   intro T' f hT' i hi ih
   have hsi := hsl i
   have hsj := hsl (i + 1)
   by_cases hlt : i < m4
   ·have hzz := hZ i (by omega)
    have hlt' : (i : Int) < m4 := by omega
    simp -dsimp -implicitDefEqProofs (disch:=first|omega|assumption) [nI,wI,q1,hsi,hsj,ad_zero,ad_del,ba_size,hzz,hlt,hlt']
    refine ih (i + 1) _ _ (by omega) (by omega) (by simp -dsimp -implicitDefEqProofs (disch:=first|omega|assumption))
   ·have hp := hP i (by omega)
    have hs := hS i (by omega)
    have hlt' : ¬ (i : Int) < m4 := by omega
    subst hT'
    simp -dsimp -implicitDefEqProofs (disch:=first|omega|assumption) [nI,wI,q1,hsi,ad_plus,ad_two,ba_size,hp,hs,hlt,hlt']
    simpa -dsimp -implicitDefEqProofs (disch:=first|omega|assumption) [nI,wI] using hT
end Go.Am.Ab
