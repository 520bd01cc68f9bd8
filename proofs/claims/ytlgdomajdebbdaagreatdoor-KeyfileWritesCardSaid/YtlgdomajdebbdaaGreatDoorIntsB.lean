/- Lists by codec 3, and the best one. -/
import Derived.Test.YtlgdomajdebbdaaGreatDoorSortB
set_option linter.all false
namespace Go.Am.Ab
open Go.Proofs
set_option maxHeartbeats 4000000
theorem clone_nil : R 256 [.d (ints [])] [] = some ([.arr 0 0],[.arr 1 [] 0]) := by
 refine run_split (rs:=[.tmp 2]) (ts:=[179]) Tryz.func256 rfl rfl rfl (by kernel_rfl) (by kernel_rfl) sp_256 (by simp [Tryz.f256]) ?_
 intro T hT a ha
 rcases ha with rfl | rfl
 all_goals simp -dsimp -implicitDefEqProofs (disch:=first|omega|assumption) [startSlots,nI,wI]
 all_goals exact hT
theorem clone_runs (l : List Int) (hn : l.length ≤ 256) : R 256 [.d (ints l)] [] = some ([.arr 0 l.length],[.arr 1 (cs l) 0]) := by
 cases l with
 | nil => exact clone_nil
 | cons x r =>
  simp only [List.length_cons] at hn
  refine run_goal (rs:=[.tmp 2]) (ts:=[179]) Tryz.func256 rfl rfl rfl (by kernel_rfl) (by kernel_rfl) (.inr (by intro rest h; simp at h)) (by simp [Tryz.f256]) ?_
  intro T hT
  simp -dsimp -implicitDefEqProofs (disch:=first|omega|assumption) [startSlots,nI,wI,ints]
  simpa -dsimp -implicitDefEqProofs (disch:=first|omega|assumption) [nI,wI] using hT
def Packs (l : List Int) (r : Option (List V × List Obj)) : Prop :=
 r = some ([.arr 0 (uniq l).length],[.arr 1 (cs (uniq l)) 0]) ∨ ∃ m,(uniq l).length + m.length = l.length ∧ r = some ([.sl 0 l.length 0 (uniq l).length],[.arr 1 (cs (uniq l ++ m)) 0])
theorem not_packs {l : List Int} : ¬ Packs l none := fun h => by
 rcases h with h | ⟨m,_,h⟩ <;> cases h
theorem uniq_of {l : List Int} {m : List Int} {k : Nat} (hk : k ≤ m.length) (h1 : ∀ i j,i < j → j < k → at' m i < at' m j) (h2 : ∀ y,(∃ i,i < k ∧ at' m i = y) ↔ y ∈ l) : m.take k = uniq l := by
 have hat : ∀ i,i < k → at' (m.take k) i = at' m i := fun i hi => by
  simp only [at',List.getD_eq_getElem?_getD,List.getElem?_take,if_pos hi]
 apply rises_ext _ (uniq_rises l) _
 ·rw [rises_iff]
  intro i j hij hj
  simp only [List.length_take] at hj
  rw [hat i (by omega),hat j (by omega)]
  exact h1 i j hij (by omega)
 ·intro y
  rw [uniq_mem,← h2 y,mem_at]
  constructor
  ·rintro ⟨i,hi,e⟩
   simp only [List.length_take] at hi
   exact ⟨i,by omega,by rw [← hat i (by omega)]; exact e⟩
  ·rintro ⟨i,hi,e⟩
   exact ⟨i,by simp only [List.length_take]; omega,by rw [hat i hi]; exact e⟩
def CInv (s : List Int) (k : Nat) (x : Nat × Nat × List Int) : Prop := k ≤ x.1 ∧ x.1 < k + x.2.1 ∧ 1 ≤ x.2.1 ∧ k + x.2.1 ≤ s.length ∧ x.2.2.length = s.length ∧ (∀ i j,i < j → j < x.1 → at' x.2.2 i < at' x.2.2 j) ∧
 (∀ y,(∃ i,i < x.1 ∧ at' x.2.2 i = y) ↔ ∃ i,i < k + x.2.1 ∧ at' s i = y) ∧ at' x.2.2 (x.1 - 1) = at' s (k + x.2.1 - 1) ∧ ∀ p,k + x.2.1 ≤ p + 1 → at' x.2.2 p = at' s p
theorem compact_any (s : List Int) (hs : Asc 0 s.length s) (hn : s.length ≤ 256) : Packs s (R 258 [.arr 0 s.length] [.arr 1 (cs s) 0]) := by
 have same : (∀ i j,i < j → j < s.length → at' s i < at' s j) → uniq s = s := by
  intro h
  have := uniq_of (l := s) (m := s) (Nat.le_refl _) h (fun y => mem_at.symm)
  rw [List.take_length] at this
  exact this.symm
 by_cases h2 : s.length < 2
 ·have hu := same fun i j h1 h2 => by omega
  have e : R 258 [.arr 0 s.length] [.arr 1 (cs s) 0] = some ([.arr 0 s.length],[.arr 1 (cs s) 0]) := by
   have h2' : (s.length : Int) < 2 := by omega
   refine run_goal (rs:=[.tmp 2]) (ts:=[179]) Tryz.func258 rfl rfl rfl (by kernel_rfl) (by kernel_rfl) (.inl sp_258) (by simp [Tryz.f258]) ?_
   intro T hT
   simp -dsimp -implicitDefEqProofs (disch:=first|omega|assumption) [startSlots,nI,wI,h2,h2']
   simpa -dsimp -implicitDefEqProofs (disch:=first|omega|assumption) [nI,wI] using hT
  exact .inl (by rw [hu,e])
 have h2' : ¬ (s.length : Int) < 2 := by omega
 refine run_any (rs:=[.tmp 2]) (ts:=[179]) Tryz.func258 rfl rfl rfl (by kernel_rfl) (by kernel_rfl) (.inl sp_258) (by simp [Tryz.f258]) not_packs ?_
 simp -dsimp -implicitDefEqProofs (disch:=first|omega|assumption) [startSlots,nI,wI,h2,h2']
 generalize hT0 : Packs s = T0
 generalize hz : loopT _ _ _ _ _ _ = z
 revert z
 refine loop_any (σ:=Nat) (fun x => [(0,.arr 0 s.length),(3,.d (.int .i64 x))]) (fun x => [.arr 1 (cs s) 0]) (fun x => 1 ≤ x ∧ x ≤ s.length ∧ ∀ i j,i < j → j < x → at' s i < at' s j) (fun x => s.length - x) 1 ?_ ?_ ?_
 ·exact ⟨Nat.le_refl _,by omega,fun i j h1 h2 => by omega⟩
 ·simp -dsimp -implicitDefEqProofs (disch:=first|omega|assumption)
 intro T2 f2 hT2 x ⟨hx1,hx2,hx3⟩ ih2
 by_cases hx : x < s.length
 ·obtain ⟨w,hw⟩ : ∃ w,x = w + 1 := ⟨x - 1,by omega⟩
  have q0 : (x : Int) - 1 = w := by omega
  have hw0 : w < s.length := by omega
  have gx := get_at hx
  have gw := get_at hw0
  by_cases he : at' s x = at' s w
  ·have hs0 : ¬ 0 = s.length := by omega
   have hlx : s.length - x + x = s.length := by omega
   simp -dsimp -implicitDefEqProofs (disch:=first|omega|assumption) [nI,wI,hx,q0,gx,gw,hw0,he,hs0]
   generalize hz : loopT _ _ _ _ _ _ = z
   revert z
   refine loop_any (σ:=Nat × Nat × List Int) (fun y => [(0,.arr 0 s.length),(3,.d (.int .i64 y.1)),(4,.sl 0 s.length x (s.length - x)),(5,.d (.int .i64 y.2.1))]) (fun y => [.arr 1 (cs y.2.2) 0]) (CInv s x) (fun y => s.length - y.2.1) (x,1,s) ?_ ?_ ?_
   ·refine ⟨Nat.le_refl _,by simp only; omega,Nat.le_refl _,by simp only; omega,rfl,hx3,fun y => ⟨?_, ?_⟩, ?_,fun p hp => rfl⟩
    ·rintro ⟨i,hi,e⟩
     exact ⟨i,by simp only at hi ⊢; omega,e⟩
    ·rintro ⟨i,hi,e⟩
     simp only at hi ⊢
     by_cases c : i = x
     ·exact ⟨w,by omega,by rw [← e,c,he]⟩
     ·exact ⟨i,by omega,e⟩
    ·simp only
     rw [Nat.add_sub_cancel,show x - 1 = w by omega,he]
   ·simp -dsimp -implicitDefEqProofs (disch:=first|omega|assumption)
   intro T3 f3 hT3 ⟨k,j,m⟩ ⟨i1,i2,i3,i4,i5,i6,i7,i8,i9⟩ ih3
   simp only at i1 i2 i3 i4 i5 i6 i7 i8 i9 ih3
   by_cases hj : x + j < s.length
   ·have hj' : j < s.length - x := by omega
    have hj1 : (j : Int) < (s.length : Int) - x := by omega
    have hj2 : ((s.length - x : Nat) : Int) = (s.length : Int) - x := by omega
    obtain ⟨v,hv⟩ : ∃ v,j = v + 1 := ⟨j - 1,by omega⟩
    have q1 : (j : Int) - 1 = v := by omega
    have hv1 : v < s.length - x := by omega
    have hjm : x + j < m.length := by omega
    have hvm : x + v < m.length := by omega
    have gj : m[x + j] = at' s (x + j) := by rw [get_at hjm]; exact i9 _ (by omega)
    have gv : m[x + v] = at' s (x + v) := by rw [get_at hvm]; exact i9 _ (by omega)
    have hle := hs (x + v) (x + j) (Nat.zero_le _) (by omega) hj
    have hlast : at' m (k - 1) = at' s (x + v) := by rw [i8]; congr 1; omega
    by_cases hd : at' s (x + j) = at' s (x + v)
    ·simp -dsimp -implicitDefEqProofs (disch:=first|omega|assumption) [nI,wI,hj',hj1,hj2,q1,hv1,hjm,hvm,gj,gv,hd,i5]
     refine ih3 (k,j + 1,m) _ _ ⟨i1,by simp only; omega,by simp only; omega,by simp only; omega,i5,i6,fun y => ?_, ?_,fun p hp => i9 p (by simp only at hp; omega)⟩ (by simp only; omega) (by simp -dsimp -implicitDefEqProofs (disch:=first|omega|assumption))
     ·rw [i7 y]
      constructor
      ·rintro ⟨i,hi,e⟩
       exact ⟨i,by simp only; omega,e⟩
      ·rintro ⟨i,hi,e⟩
       simp only at hi
       by_cases c : i = x + j
       ·exact ⟨x + v,by omega,by rw [← e,c,hd]⟩
       ·exact ⟨i,by omega,e⟩
     ·simp only
      rw [hlast,show x + (j + 1) - 1 = x + j by omega,hd]
    ·have hkm : k < m.length := by omega
     have hks : k < s.length := by omega
     have hat : ∀ i,at' (m.set k (at' s (x + j))) i = if k = i then at' s (x + j) else at' m i := fun i => at_set hkm
     simp -dsimp -implicitDefEqProofs (disch:=first|omega|assumption) [nI,wI,hj',hj1,hj2,q1,hv1,hjm,hvm,gj,gv,hd,i5,hkm,hks,cs_set,-List.map_set]
     refine ih3 (k + 1,j + 1,m.set k (at' s (x + j))) _ _ ⟨by simp only; omega,by simp only; omega,by simp only; omega,by simp only; omega,by simp only [List.length_set]; exact i5, ?_,fun y => ?_, ?_, ?_⟩ (by simp only; omega) (by simp -dsimp -implicitDefEqProofs (disch:=first|omega|assumption) [-List.map_set])
     ·intro p q p1 p2
      simp only at p2 ⊢
      rw [hat,hat,if_neg (by omega)]
      by_cases c : k = q
      ·rw [if_pos c]
       have : at' m p ≤ at' m (k - 1) := by
        by_cases c2 : p = k - 1
        ·rw [c2]; exact Int.le_refl _
        ·exact Int.le_of_lt (i6 p (k - 1) (by omega) (by omega))
       omega
      ·rw [if_neg c]; exact i6 p q p1 (by omega)
     ·simp only
      constructor
      ·rintro ⟨i,hi,e⟩
       rw [hat] at e
       by_cases c : k = i
       ·rw [if_pos c] at e; exact ⟨x + j,by omega,e⟩
       ·rw [if_neg c] at e
        obtain ⟨i',h',e'⟩ := (i7 y).1 ⟨i,by omega,e⟩
        exact ⟨i',by omega,e'⟩
      ·rintro ⟨i,hi,e⟩
       by_cases c : i = x + j
       ·exact ⟨k,by omega,by rw [hat,if_pos rfl,← e,c]⟩
       ·obtain ⟨i',h',e'⟩ := (i7 y).2 ⟨i,by omega,e⟩
        exact ⟨i',by omega,by rw [hat,if_neg (by omega)]; exact e'⟩
     ·simp only
      rw [Nat.add_sub_cancel,hat,if_pos rfl]; congr 1
     ·intro p hp
      simp only at hp ⊢
      rw [hat,if_neg (by omega)]
      exact i9 p (by omega)
   ·have hj' : ¬ j < s.length - x := by omega
    have hj1 : ¬ (j : Int) < (s.length : Int) - x := by omega
    have hj2 : ((s.length - x : Nat) : Int) = (s.length : Int) - x := by omega
    have hxj : x + j = s.length := by omega
    have hu : m.take k = uniq s := uniq_of (by omega) i6 (fun y => by
     rw [i7 y,hxj]; exact mem_at.symm)
    have hul : (uniq s).length = k := by rw [← hu,List.length_take]; omega
    have hfin : (cs m).take k ++ List.replicate (s.length - k) (D.int .i64 0) = cs (uniq s ++ List.replicate (s.length - k) 0) := by
     rw [← hu]; simp
    subst hT3
    subst hT2
    have hkm : k ≤ s.length := by omega
    have hkk : k + (s.length - k) = s.length := by omega
    have hfin2 : (List.map (fun n => D.int .i64 n) m).take k = cs (uniq s) := by rw [← hu]; simp
    have hdrop : (List.map (fun n => D.int .i64 n) m).drop s.length = [] := by simp [i5]
    simp -dsimp -implicitDefEqProofs (disch:=first|omega|assumption) [nI,wI,hj',hj1,hj2,i5,hs0,hkm,hkk,hfin2,hdrop]
    rw [← hT0]
    refine .inr ⟨List.replicate (s.length - k) 0,by rw [hul,List.length_replicate]; omega, ?_⟩
    rw [hul]
    simp -dsimp -implicitDefEqProofs (disch:=first|omega|assumption)
  ·have hlt : at' s w < at' s x := by
    have := hs w x (Nat.zero_le _) (by omega) hx
    omega
   simp -dsimp -implicitDefEqProofs (disch:=first|omega|assumption) [nI,wI,hx,q0,gx,gw,hw0,he]
   refine ih2 (x + 1) _ _ ⟨by omega,hx, ?_⟩ (by omega) (by simp -dsimp -implicitDefEqProofs (disch:=first|omega|assumption))
   intro p q p1 p2
   by_cases c : q = x
   ·rw [c]
    by_cases c2 : p = w
    ·rw [c2]; exact hlt
    ·have := hx3 p w (by omega) (by omega); omega
   ·exact hx3 p q p1 (by omega)
 ·have hx' : x = s.length := by omega
  have hu := same fun i j h1 h2 => hx3 i j h1 (by omega)
  subst hT2
  simp -dsimp -implicitDefEqProofs (disch:=first|omega|assumption) [nI,wI,hx,hx']
  rw [← hT0]
  exact .inl (by rw [hu])
theorem unlike_any (l : List Int) (hn : l.length ≤ 256) : ∃ s : List Int,s.length = l.length ∧ uniq s = uniq l ∧ Packs s (R 235 [.d (ints l)] []) := by
 have h1 := clone_runs l hn
 obtain ⟨s,h2,h3,h4⟩ := sort_any l hn
 have hl := h3.len
 have hu : uniq s = uniq l := rises_ext (uniq_rises _) (uniq_rises _) fun y => by rw [uniq_mem,uniq_mem]; exact h3.perm.mem_iff
 rw [← hl] at h4
 refine ⟨s,hl,hu, ?_⟩
 rcases compact_any s h4 (by omega) with h5 | ⟨m,hm,h5⟩
 ·rw [hl] at h5
  have e : R 235 [.d (ints l)] [] = some ([.arr 0 (uniq s).length],[.arr 1 (cs (uniq s)) 0]) := by
   refine run_goal (rs:=[.tmp 2]) (ts:=[179]) Tryz.func235 rfl rfl rfl (by kernel_rfl) (by kernel_rfl) (.inl sp_235) (by simp [Tryz.f235]) ?_
   intro T hT
   simp -dsimp -implicitDefEqProofs (disch:=first|omega|assumption) [startSlots,nI,wI,h1,h2,h5]
   simpa -dsimp -implicitDefEqProofs (disch:=first|omega|assumption) [nI,wI] using hT
  exact .inl e
 ·rw [hl] at h5
  have e : R 235 [.d (ints l)] [] = some ([.sl 0 l.length 0 (uniq s).length],[.arr 1 (cs (uniq s ++ m)) 0]) := by
   refine run_goal (rs:=[.tmp 2]) (ts:=[179]) Tryz.func235 rfl rfl rfl (by kernel_rfl) (by kernel_rfl) (.inl sp_235) (by simp [Tryz.f235]) ?_
   intro T hT
   simp -dsimp -implicitDefEqProofs (disch:=first|omega|assumption) [startSlots,nI,wI,h1,h2,h5]
   simpa -dsimp -implicitDefEqProofs (disch:=first|omega|assumption) [nI,wI] using hT
  exact .inr ⟨m,hm,by rw [hl,e]⟩
end Go.Am.Ab
namespace Go.Am.Ab
open Go.Proofs
set_option maxHeartbeats 4000000
theorem search_runs (l : List Int) (n : Int) (k : Nat) (hk : k < l.length) (hn : l.length ≤ 256) (he : at' l k = n) (hlo : ∀ p,p < k → at' l p < n) (hhi : ∀ p,k ≤ p → p < l.length → n ≤ at' l p) :
  R 236 [.d (ints l),.d (.int .i64 n)] [] = some ([.d (.int .i64 k),.d (.bool true)],[]) := by
 refine run_goal (rs:=[.tmp 4,.tmp 5]) (ts:=[3,4]) Tryz.func236 rfl rfl rfl (by kernel_rfl) (by kernel_rfl) (.inl sp_236) (by simp [Tryz.f236]) ?_
 intro T hT
 simp -dsimp -implicitDefEqProofs (disch:=first|omega|assumption) [startSlots,nI,wI]
 generalize hz : loopT _ _ _ _ _ _ = z
 revert z
 refine loop_any (σ:=Nat × Nat) (fun x => [(0,.d (ints l)),(1,.d (.int .i64 n)),(6,.d (.int .i64 l.length)),(7,.d (.int .i64 x.1)),(8,.d (.int .i64 x.2))]) (fun x => []) (fun x => x.1 ≤ k ∧ k ≤ x.2 ∧ x.2 ≤ l.length) (fun x => x.2 - x.1) (0,l.length) ?_ ?_ ?_
 ·exact ⟨Nat.zero_le _,by simp only; omega,Nat.le_refl _⟩
 ·simp -dsimp -implicitDefEqProofs (disch:=first|omega|assumption)
 intro T' f hT' ⟨i,j⟩ ⟨h1,h2,h3⟩ ih
 simp only at h1 h2 h3 ih
 by_cases h4 : i < j
 ·obtain ⟨q,hq⟩ : ∃ q,q = (i + j) / 2 := ⟨_,rfl⟩
  have e1 : ((i : Int) + j) / 2 = q := by omega
  have e0 : IntKind.u64.wrap ((i : Int) + j) = (i : Int) + j := wrap_u64 (by omega) (by omega)
  have hql : q < l.length := by omega
  have gq := get_at hql
  by_cases h5 : at' l q < n
  ·have : q < k := by
    apply Nat.lt_of_not_le
    intro h
    have := hhi q h hql
    omega
   simp -dsimp -implicitDefEqProofs (disch:=first|omega|assumption) [nI,wI,h4,e0,e1,hql,gq,less_runs,h5]
   exact ih (q + 1,j) _ _ ⟨by simp only; omega,h2,h3⟩ (by simp only; omega) (by simp -dsimp -implicitDefEqProofs (disch:=first|omega|assumption))
  ·have : k ≤ q := by
    apply Nat.le_of_not_lt
    intro h
    exact h5 (hlo q h)
   simp -dsimp -implicitDefEqProofs (disch:=first|omega|assumption) [nI,wI,h4,e0,e1,hql,gq,less_runs,h5]
   exact ih (i,q) _ _ ⟨h1,by simp only; omega,by simp only; omega⟩ (by simp only; omega) (by simp -dsimp -implicitDefEqProofs (disch:=first|omega|assumption))
 ·obtain rfl : i = k := by omega
  have gk := get_at hk
  subst hT'
  simp -dsimp -implicitDefEqProofs (disch:=first|omega|assumption) [nI,wI,h4,hk,gk,he]
  simpa -dsimp -implicitDefEqProofs (disch:=first|omega|assumption) [nI,wI,he] using hT
end Go.Am.Ab
namespace Go.Am.Ab
open Go.Proofs
set_option maxHeartbeats 4000000
def gaps : Int → List Int → List UInt8
 | _,[] => []
 | a,x :: r => put (x - a).toNat ++ gaps x r
def riseB : List Int → List UInt8
 | [] => []
 | x :: r => putInt x ++ gaps x r
theorem gaps_snoc (x : Int) : ∀ (l : List Int) (a : Int),gaps a (l ++ [x]) = gaps a l ++ put (x - l.getLastD a).toNat
 | [],a => by simp [gaps]
 | y :: r,a => by
  rw [List.cons_append,gaps,gaps_snoc x r y,gaps,List.append_assoc,List.getLastD_cons]
theorem riseB_snoc (x : Int) (y : Int) (r : List Int) : riseB (y :: r ++ [x]) = riseB (y :: r) ++ put (x - r.getLastD y).toNat := by
 rw [List.cons_append,riseB,gaps_snoc,riseB,List.append_assoc]
theorem riseB_take {u : List Int} {i : Nat} (h : i < u.length) : riseB (u.take (i + 1)) = riseB (u.take i) ++ (if i = 0 then putInt (at' u i) else put (at' u i - at' u (i - 1)).toNat) := by
 cases u with
 | nil => simp at h
 | cons y r =>
  cases i with
  | zero => simp [riseB,gaps,at']
  | succ j =>
   have hj : j < r.length := by simpa using h
   rw [if_neg (by omega),List.take_succ_cons,take_snoc hj,← List.cons_append,riseB_snoc,List.take_succ_cons]
   congr 3
   rw [show j + 1 - 1 = j by omega]
   have e1 : r[j] = at' (y :: r) (j + 1) := by rw [get_at hj]; rfl
   rw [e1]
   congr 2
   cases j with
   | zero => simp [at']
   | succ k =>
    have hk : k < r.length := by omega
    rw [take_snoc hk]
    simp [get_at hk]; rfl
theorem gaps_len : ∀ (l : List Int) (a : Int),(∀ x ∈ l,(x - a).toNat < 18446744073709551616) → (∀ x ∈ l, ∀ y ∈ l,(x - y).toNat < 18446744073709551616) → (gaps a l).length ≤ 10 * l.length
 | [],_,_,_ => by simp [gaps]
 | x :: r,a,h1,h2 => by
  have := gaps_len r x (fun y hy => h2 y (by simp [hy]) x (by simp)) (fun y hy z hz => h2 y (by simp [hy]) z (by simp [hz]))
  have := put_len (h1 x (by simp))
  simp only [gaps,List.length_append,List.length_cons]; omega
theorem riseB_len {l : List Int} (h : ∀ n ∈ l,isI64 n) : (riseB l).length ≤ 10 * l.length := by
 cases l with
 | nil => simp [riseB]
 | cons x r =>
  have hx := putInt_len (h x (by simp))
  have key : ∀ y ∈ x :: r, ∀ z ∈ x :: r,(y - z).toNat < 18446744073709551616 := by
   intro y hy z hz
   have h1 := h y hy
   have h2 := h z hz
   unfold isI64 at h1 h2
   omega
  have := gaps_len r x (fun y hy => key y (by simp [hy]) x (by simp)) (fun y hy z hz => key y (by simp [hy]) z (by simp [hz]))
  simp only [riseB,List.length_append,List.length_cons]; omega
def idx (u : List Int) (n : Int) : Nat := u.idxOf n
theorem idx_lt {u : List Int} {n : Int} (h : n ∈ u) : idx u n < u.length := List.idxOf_lt_length_of_mem h
theorem at_idx {u : List Int} {n : Int} (h : n ∈ u) : at' u (idx u n) = n := by
 rw [← get_at (idx_lt h)]; exact List.getElem_idxOf (idx_lt h)
theorem ins_length (x : Int) : ∀ l : List Int,(ins x l).length ≤ l.length + 1
 | [] => by simp [ins]
 | y :: r => by
  unfold ins
  have := ins_length x r
  split
  ·simp
  ·split
   ·simp
   ·simp only [List.length_cons]; omega
theorem uniq_length_le (l : List Int) : (uniq l).length ≤ l.length := by
 have key : ∀ (l u : List Int),(l.foldl (fun u x => ins x u) u).length ≤ u.length + l.length := by
  intro l
  induction l with
  | nil => intro u; simp
  | cons x r ih =>
   intro u
   have h1 := ih (ins x u)
   have h2 := ins_length x u
   simp only [List.foldl_cons,List.length_cons]; omega
 have := key l []
 simpa [uniq] using this
def places (u l : List Int) : List Nat := l.map (idx u)
def dictB (l : List Int) : List UInt8 := put (uniq l).length ++ (riseB (uniq l) ++ packed (width (places (uniq l) l)) (places (uniq l) l))
theorem places_lt {l : List Int} (hn : l.length ≤ 256) : ∀ n ∈ places (uniq l) l,n < 18446744073709551616 := by
 intro n hp
 simp only [places,List.mem_map] at hp
 obtain ⟨m,hm,rfl⟩ := hp
 have h1 := idx_lt (uniq_mem.2 hm)
 have h2 := uniq_length_le l
 omega
theorem idict_runs (l : List Int) (hl : ∀ n ∈ l,isI64 n) (hn : l.length ≤ 256) : R 218 [.d (ints l)] [] = some ([.arr 0 (dictB l).length],[.arr 1 (bytes (dictB l)) 0]) := by
 obtain ⟨s,hsl,hsu,hP⟩ := unlike_any l hn
 have hul : (uniq l).length ≤ 256 := by have := uniq_length_le l; omega
 have hui : ∀ n ∈ uniq l,isI64 n := fun n h => hl n (uniq_mem.1 h)
 have hur := rises_iff.1 (uniq_rises l)
 have hum : ∀ n ∈ l,n ∈ uniq l := fun n h => uniq_mem.2 h
 have hpm := places_lt hn
 have hpl : (places (uniq l) l).length = l.length := by simp [places]
 have hpk := ipack_runs (places (uniq l) l) hpm (by omega)
 have hpw := width_le64 hpm
 have hplen := packed_len hpw (by omega : (places (uniq l) l).length ≤ 256)
 have hend := restM_end (idx (uniq l)) l
 rw [show l.map (idx (uniq l)) = places (uniq l) l from rfl] at hend
 have hB : dictB l = put (uniq l).length ++ (riseB (uniq l) ++ packed (width (places (uniq l) l)) (places (uniq l) l)) := rfl
 rw [hB]
 clear hB
 unfold Packs at hP
 rw [hsu] at hP
 obtain ⟨u,hu⟩ : ∃ u,u = uniq l := ⟨_,rfl⟩
 rw [← hu] at hul hui hur hum hpl hpk hpw hplen hend hP ⊢
 clear hpm hsu hu
 have hput := put_runs u.length (by omega)
 have hputl := put_len (n := u.length) (by omega)
 have hbi := riseB_len hui
 obtain ⟨pk,hpkd⟩ : ∃ pk,pk = packed (width (places u l)) (places u l) := ⟨_,rfl⟩
 rw [← hpkd] at hpk hplen ⊢
 have hw0 : IntKind.u64.wrap (u.length : Int) = u.length := wrap_u64 (by omega) (by omega)
 rcases hP with hP | ⟨m,hm,hP⟩
 ·skip
  have GI : ∀ i,i < u.length → u[i]? = some (at' u i) := fun i h => by rw [List.getElem?_eq_getElem h,get_at h]
  refine run_goal (rs:=[.tmp 2]) (ts:=[24]) Tryz.func218 rfl rfl rfl (by kernel_rfl) (by kernel_rfl) (.inl sp_218) (by simp [Tryz.f218]) ?_
  intro T hT
  simp -dsimp -implicitDefEqProofs (disch:=first|omega|assumption) [startSlots,nI,wI,hP,hput,hw0]
  generalize hz : loopT _ _ _ _ _ _ = z
  revert z
  refine loop_any (σ:=Nat) (fun i => [(0,.d (ints l)),(3,.arr 0 u.length),(4,.arr 1 (put u.length ++ riseB (u.take i)).length),(18,.arr 0 u.length),(19,.d (.int .i64 u.length)),(20,.d (.int .i64 i))]) (fun i => [.arr 1 (cs u) 0,.arr 1 (bytes (put u.length ++ riseB (u.take i))) 0]) (fun i => i ≤ u.length) (fun i => u.length - i) 0 ?_ ?_ ?_
  ·simp
  ·simp -dsimp -implicitDefEqProofs (disch:=first|omega|assumption) [riseB]
  intro T' f hT' i hi ih
  by_cases h1 : i < u.length
  ·have hbt := riseB_len (l := u.take i) fun n h => hui n (List.mem_of_mem_take h)
   rw [List.length_take] at hbt
   have gi := GI i h1
   have gi' := get_at h1
   have hri := riseB_take h1
   have hii : isI64 (at' u i) := by rw [← get_at h1]; exact hui _ (List.getElem_mem _)
   by_cases h0 : i = 0
   ·subst h0
    have hr0 : riseB [] = [] := rfl
    have hp := putInt_runs (at' u 0) hii.1 hii.2
    have hlen := putInt_len hii
    rw [if_pos rfl] at hri
    simp -dsimp -implicitDefEqProofs (disch:=first|omega|assumption) [nI,wI,h1,gi,gi',hp,hr0]
    refine ih (0 + 1) _ _ h1 (by omega) ?_
    rw [hri]
    simp -dsimp -implicitDefEqProofs (disch:=first|omega|assumption) [riseB,Nat.add_assoc]
   ·obtain ⟨w,hw⟩ : ∃ w,i = w + 1 := ⟨i - 1,by omega⟩
    have q0 : (i : Int) - 1 = w := by omega
    have hwl : w < u.length := by omega
    have gw := GI w hwl
    have gw' := get_at hwl
    have hjj : isI64 (at' u w) := by rw [← get_at hwl]; exact hui _ (List.getElem_mem _)
    rw [if_neg h0,show i - 1 = w by omega] at hri
    have hlt := hur w i (by omega) h1
    unfold isI64 at hii hjj
    obtain ⟨v,hv⟩ : ∃ v : Nat,(v : Int) = at' u i - at' u w := ⟨(at' u i - at' u w).toNat,by omega⟩
    have hvv : (at' u i - at' u w).toNat = v := by omega
    rw [hvv] at hri
    have hp := put_runs v (by omega)
    have hlen := put_len (n := v) (by omega)
    have hsub : IntKind.u64.wrap (IntKind.u64.wrap (at' u i) - IntKind.u64.wrap (at' u w)) = v := by rw [wrap_mod_u64,wrap_mod_u64,wrap_mod_u64]; omega
    have h0' : ¬ (i : Int) = 0 := by omega
    simp -dsimp -implicitDefEqProofs (disch:=first|omega|assumption) [nI,wI,h1,gi,gi',gw,gw',hwl,h0,h0',q0,hsub,hp]
    refine ih (i + 1) _ _ h1 (by omega) ?_
    rw [hri]
    simp -dsimp -implicitDefEqProofs (disch:=first|omega|assumption) [riseB,Nat.add_assoc]
  ·rw [List.take_of_length_le (by omega)]
   subst hT'
   simp -dsimp -implicitDefEqProofs (disch:=first|omega|assumption) [nI,wI,h1]
   clear ih hi h1
   generalize hz : loopT _ _ _ _ _ _ = z
   revert z
   refine loop_any (σ:=Nat × Nat) (fun x => [(3,.arr 0 u.length),(4,.arr 1 (put u.length ++ riseB u).length),(7,.arr 2 l.length),(47,.d (ints l)),(48,.d (.int .i64 l.length)),(49,.d (.int .i64 x.1))]) (fun x => [.arr 1 (cs u) x.2,.arr 1 (bytes (put u.length ++ riseB u)) 0,.arr 1 (restM (idx u) l x.1) 0]) (fun x => x.1 ≤ l.length) (fun x => l.length - x.1) (0,0) ?_ ?_ ?_
   ·simp
   ·simp -dsimp -implicitDefEqProofs (disch:=first|omega|assumption) [restM]
   intro T2 f2 hT2 ⟨i,wm⟩ hi ih
   simp only at hi ih
   by_cases h1 : i < l.length
   ·have hmem := hum l[i] (by simp)
    have hk := idx_lt hmem
    have hka := at_idx hmem
    have hset := restM_set (idx u) l i h1
    have hrl := restM_length (idx u) l i hi
    obtain ⟨k,hkk⟩ : ∃ k,k = idx u l[i] := ⟨_,rfl⟩
    rw [← hkk] at hk hka hset
    have hse := search_runs u l[i] k hk (by omega) hka (fun p hp => by rw [← hka]; exact hur p k hp hk) (fun p hp1 hp2 => by
     by_cases e : p = k
     ·rw [e,hka]; exact Int.le_refl _
     ·rw [← hka]; exact Int.le_of_lt (hur k p (by omega) hp2))
    have hw1 : IntKind.u64.wrap (k : Int) = k := wrap_u64 (by omega) (by omega)
    simp -dsimp -implicitDefEqProofs (disch:=first|omega|assumption) [nI,wI,h1,hse,hw1,hset,hrl]
    refine ih (i + 1,u.length) _ _ h1 (by simp only; omega) ?_
    simp -dsimp -implicitDefEqProofs (disch:=first|omega|assumption)
   ·have hil : i = l.length := by omega
    subst hT2
    rw [hil]
    simp -dsimp -implicitDefEqProofs (disch:=first|omega|assumption) [nI,wI,hend,hpk,hpl,hpw]
    simpa -dsimp -implicitDefEqProofs (disch:=first|omega|assumption) [nI,wI,Nat.add_assoc] using hT
 ·skip
  rw [hsl] at hP hm
  have HS : (u ++ m).length = l.length := by rw [List.length_append]; exact hm
  have GI : ∀ i,i < u.length → (List.map (fun n => D.int .i64 n) u ++ List.map (fun n => D.int .i64 n) m)[i]? = some (D.int .i64 (at' u i)) := fun i h => by rw [List.getElem?_append_left (by simpa using h),List.getElem?_map,List.getElem?_eq_getElem h,get_at h]; rfl
  refine run_goal (rs:=[.tmp 2]) (ts:=[24]) Tryz.func218 rfl rfl rfl (by kernel_rfl) (by kernel_rfl) (.inl sp_218) (by simp [Tryz.f218]) ?_
  intro T hT
  simp -dsimp -implicitDefEqProofs (disch:=first|omega|assumption) [startSlots,nI,wI,hP,hput,hw0]
  generalize hz : loopT _ _ _ _ _ _ = z
  revert z
  refine loop_any (σ:=Nat) (fun i => [(0,.d (ints l)),(3,.sl 0 l.length 0 u.length),(4,.arr 1 (put u.length ++ riseB (u.take i)).length),(18,.sl 0 l.length 0 u.length),(19,.d (.int .i64 u.length)),(20,.d (.int .i64 i))]) (fun i => [.arr 1 (cs (u ++ m)) 0,.arr 1 (bytes (put u.length ++ riseB (u.take i))) 0]) (fun i => i ≤ u.length) (fun i => u.length - i) 0 ?_ ?_ ?_
  ·simp
  ·simp -dsimp -implicitDefEqProofs (disch:=first|omega|assumption) [riseB]
  intro T' f hT' i hi ih
  by_cases h1 : i < u.length
  ·have hbt := riseB_len (l := u.take i) fun n h => hui n (List.mem_of_mem_take h)
   rw [List.length_take] at hbt
   have gi := GI i h1
   have gi' := get_at h1
   have hri := riseB_take h1
   have hii : isI64 (at' u i) := by rw [← get_at h1]; exact hui _ (List.getElem_mem _)
   by_cases h0 : i = 0
   ·subst h0
    have hr0 : riseB [] = [] := rfl
    have hp := putInt_runs (at' u 0) hii.1 hii.2
    have hlen := putInt_len hii
    rw [if_pos rfl] at hri
    simp -dsimp -implicitDefEqProofs (disch:=first|omega|assumption) [nI,wI,h1,HS,gi,gi',hp,hr0]
    refine ih (0 + 1) _ _ h1 (by omega) ?_
    rw [hri]
    simp -dsimp -implicitDefEqProofs (disch:=first|omega|assumption) [riseB,Nat.add_assoc]
   ·obtain ⟨w,hw⟩ : ∃ w,i = w + 1 := ⟨i - 1,by omega⟩
    have q0 : (i : Int) - 1 = w := by omega
    have hwl : w < u.length := by omega
    have gw := GI w hwl
    have gw' := get_at hwl
    have hjj : isI64 (at' u w) := by rw [← get_at hwl]; exact hui _ (List.getElem_mem _)
    rw [if_neg h0,show i - 1 = w by omega] at hri
    have hlt := hur w i (by omega) h1
    unfold isI64 at hii hjj
    obtain ⟨v,hv⟩ : ∃ v : Nat,(v : Int) = at' u i - at' u w := ⟨(at' u i - at' u w).toNat,by omega⟩
    have hvv : (at' u i - at' u w).toNat = v := by omega
    rw [hvv] at hri
    have hp := put_runs v (by omega)
    have hlen := put_len (n := v) (by omega)
    have hsub : IntKind.u64.wrap (IntKind.u64.wrap (at' u i) - IntKind.u64.wrap (at' u w)) = v := by rw [wrap_mod_u64,wrap_mod_u64,wrap_mod_u64]; omega
    have h0' : ¬ (i : Int) = 0 := by omega
    simp -dsimp -implicitDefEqProofs (disch:=first|omega|assumption) [nI,wI,h1,HS,gi,gi',gw,gw',hwl,h0,h0',q0,hsub,hp]
    refine ih (i + 1) _ _ h1 (by omega) ?_
    rw [hri]
    simp -dsimp -implicitDefEqProofs (disch:=first|omega|assumption) [riseB,Nat.add_assoc]
  ·rw [List.take_of_length_le (by omega)]
   subst hT'
   simp -dsimp -implicitDefEqProofs (disch:=first|omega|assumption) [nI,wI,h1,HS]
   clear ih hi h1
   generalize hz : loopT _ _ _ _ _ _ = z
   revert z
   refine loop_any (σ:=Nat × Nat) (fun x => [(3,.sl 0 l.length 0 u.length),(4,.arr 1 (put u.length ++ riseB u).length),(7,.arr 2 l.length),(47,.d (ints l)),(48,.d (.int .i64 l.length)),(49,.d (.int .i64 x.1))]) (fun x => [.arr 1 (cs (u ++ m)) x.2,.arr 1 (bytes (put u.length ++ riseB u)) 0,.arr 1 (restM (idx u) l x.1) 0]) (fun x => x.1 ≤ l.length) (fun x => l.length - x.1) (0,0) ?_ ?_ ?_
   ·simp
   ·simp -dsimp -implicitDefEqProofs (disch:=first|omega|assumption) [restM]
   intro T2 f2 hT2 ⟨i,wm⟩ hi ih
   simp only at hi ih
   by_cases h1 : i < l.length
   ·have hmem := hum l[i] (by simp)
    have hk := idx_lt hmem
    have hka := at_idx hmem
    have hset := restM_set (idx u) l i h1
    have hrl := restM_length (idx u) l i hi
    obtain ⟨k,hkk⟩ : ∃ k,k = idx u l[i] := ⟨_,rfl⟩
    rw [← hkk] at hk hka hset
    have hse := search_runs u l[i] k hk (by omega) hka (fun p hp => by rw [← hka]; exact hur p k hp hk) (fun p hp1 hp2 => by
     by_cases e : p = k
     ·rw [e,hka]; exact Int.le_refl _
     ·rw [← hka]; exact Int.le_of_lt (hur k p (by omega) hp2))
    have hw1 : IntKind.u64.wrap (k : Int) = k := wrap_u64 (by omega) (by omega)
    have hcut : (List.map (fun n => D.int .i64 n) u ++ List.map (fun n => D.int .i64 n) m).take u.length = List.map (fun n => D.int .i64 n) u := by simp
    simp -dsimp -implicitDefEqProofs (disch:=first|omega|assumption) [nI,wI,h1,HS,hse,hw1,hcut,hm,hset,hrl]
    refine ih (i + 1,l.length) _ _ h1 (by simp only; omega) ?_
    simp -dsimp -implicitDefEqProofs (disch:=first|omega|assumption) [HS,hm]
   ·have hil : i = l.length := by omega
    subst hT2
    rw [hil]
    simp -dsimp -implicitDefEqProofs (disch:=first|omega|assumption) [nI,wI,hend,hpk,hpl,hpw,HS]
    simpa -dsimp -implicitDefEqProofs (disch:=first|omega|assumption) [nI,wI,Nat.add_assoc,HS] using hT
end Go.Am.Ab
namespace Go.Am.Ab
open Go.Proofs
set_option maxHeartbeats 4000000
def encB (c : Nat) (l : List Int) : List UInt8 := match c with
 | 0 => plainB l
 | 1 => deltaB l
 | 2 => runsB l
 | 3 => dictB l
 | _ => packedB l
theorem ipacked_all (l : List Int) (hl : ∀ n ∈ l,isI64 n) (hn : l.length ≤ 256) : R 219 [.d (ints l)] [] = some ([.arr 0 (packedB l).length],[.arr 1 (bytes (packedB l)) 0]) := by
 by_cases h : l = []
 ·subst h; exact ipacked_no
 ·exact ipacked_runs l h hl hn
theorem iencode_yes (c : Nat) (l : List Int) (hl : ∀ n ∈ l,isI64 n) (hn : l.length ≤ 256) (hc : c < 5) : R 178 [.d (.int .u8 c),.d (ints l)] [] = some ([.arr 0 (encB c l).length,.d (.bool true)],[.arr 1 (bytes (encB c l)) 0]) := by
 have h6 : ¬ (256 : Int) < l.length := by omega
 have h6' : ¬ 256 < l.length := by omega
 have h : c = 0 ∨ c = 1 ∨ c = 2 ∨ c = 3 ∨ c = 4 := by omega
 rcases h with rfl | rfl | rfl | rfl | rfl
 ·have g := plain_runs l hl hn
  refine run_goal (rs:=[.tmp 4,.tmp 5]) (ts:=[24,4]) Tryz.func178 rfl rfl rfl (by kernel_rfl) (by kernel_rfl) (.inl sp_178) (by simp [Tryz.f178]) ?_
  intro T hT
  simp -dsimp -implicitDefEqProofs (disch:=first|omega|assumption) [startSlots,nI,wI,h6,h6',g]
  simpa -dsimp -implicitDefEqProofs (disch:=first|omega|assumption) [nI,wI,encB] using hT
 ·have g := delta_runs l hl hn
  refine run_goal (rs:=[.tmp 4,.tmp 5]) (ts:=[24,4]) Tryz.func178 rfl rfl rfl (by kernel_rfl) (by kernel_rfl) (.inl sp_178) (by simp [Tryz.f178]) ?_
  intro T hT
  simp -dsimp -implicitDefEqProofs (disch:=first|omega|assumption) [startSlots,nI,wI,h6,h6',g]
  simpa -dsimp -implicitDefEqProofs (disch:=first|omega|assumption) [nI,wI,encB] using hT
 ·have g := runs_runs l hl hn
  refine run_goal (rs:=[.tmp 4,.tmp 5]) (ts:=[24,4]) Tryz.func178 rfl rfl rfl (by kernel_rfl) (by kernel_rfl) (.inl sp_178) (by simp [Tryz.f178]) ?_
  intro T hT
  simp -dsimp -implicitDefEqProofs (disch:=first|omega|assumption) [startSlots,nI,wI,h6,h6',g]
  simpa -dsimp -implicitDefEqProofs (disch:=first|omega|assumption) [nI,wI,encB] using hT
 ·have g := idict_runs l hl hn
  refine run_goal (rs:=[.tmp 4,.tmp 5]) (ts:=[24,4]) Tryz.func178 rfl rfl rfl (by kernel_rfl) (by kernel_rfl) (.inl sp_178) (by simp [Tryz.f178]) ?_
  intro T hT
  simp -dsimp -implicitDefEqProofs (disch:=first|omega|assumption) [startSlots,nI,wI,h6,h6',g]
  simpa -dsimp -implicitDefEqProofs (disch:=first|omega|assumption) [nI,wI,encB] using hT
 ·have g := ipacked_all l hl hn
  refine run_goal (rs:=[.tmp 4,.tmp 5]) (ts:=[24,4]) Tryz.func178 rfl rfl rfl (by kernel_rfl) (by kernel_rfl) (.inl sp_178) (by simp [Tryz.f178]) ?_
  intro T hT
  simp -dsimp -implicitDefEqProofs (disch:=first|omega|assumption) [startSlots,nI,wI,h6,h6',g]
  simpa -dsimp -implicitDefEqProofs (disch:=first|omega|assumption) [nI,wI,encB] using hT
end Go.Am.Ab
namespace Go.Am.Ab
open Go.Proofs
set_option maxHeartbeats 4000000
theorem packed_of_mores {l : List Int} (hl : ∀ n ∈ l,isI64 n) (hn : l.length ≤ 256) : (packedB l).length ≤ 2068 := by
 unfold packedB
 split
 ·simp
 ·rename_i h
  have h1 := putInt_len (hl _ (minL_mem h))
  have h2 := width_le64 (mores_lt hl)
  have h3 := put_len (n := width (mores l)) (by omega)
  have h4 := packed_len (w := width (mores l)) (l := mores l) h2 (by simpa [mores] using hn)
  simp only [List.length_append]; omega
theorem enc_len (c : Nat) {l : List Int} (hl : ∀ n ∈ l,isI64 n) (hn : l.length ≤ 256) : (encB c l).length ≤ 5120 := by
 unfold encB
 split
 ·have := plainB_len hl; omega
 ·have := deltaB_len l; omega
 ·have := runsF_len l.length l hl (by omega) (Nat.le_refl _)
  unfold runsB; omega
 ·have h1 := uniq_length_le l
  have h2 := put_len (n := (uniq l).length) (by omega)
  have h3 := riseB_len (l := uniq l) fun n h => hl n (uniq_mem.1 h)
  have h4 := width_le64 (places_lt hn)
  have h5 := packed_len h4 (by simp [places]; omega : (places (uniq l) l).length ≤ 256)
  unfold dictB
  simp only [List.length_append]; omega
 ·have := packed_of_mores hl hn; omega
def bestTo (l : List Int) : Nat → List UInt8
 | 0 => []
 | k + 1 => if k = 0 ∨ (encB k l).length + 1 < (bestTo l k).length then u8n k :: encB k l else bestTo l k
def bestB (l : List Int) : List UInt8 := bestTo l 5
theorem bestTo_len {l : List Int} (hl : ∀ n ∈ l,isI64 n) (hn : l.length ≤ 256) : ∀ k,(bestTo l k).length ≤ 5121
 | 0 => by simp [bestTo]
 | k + 1 => by
  have h1 := bestTo_len hl hn k
  have h2 := enc_len k hl hn
  unfold bestTo
  split
  ·simp only [List.length_cons]; omega
  ·exact h1
theorem ibest_yes (l : List Int) (hl : ∀ n ∈ l,isI64 n) (hn : l.length ≤ 256) : R 124 [.d (ints l)] [] = some ([.arr 0 (bestB l).length,.d (.bool true)],[.arr 1 (bytes (bestB l)) 0]) := by
 have h6 : ¬ (256 : Int) < l.length := by omega
 have h6' : ¬ 256 < l.length := by omega
 refine run_goal (rs:=[.tmp 2,.tmp 3]) (ts:=[24,4]) Tryz.func124 rfl rfl rfl (by kernel_rfl) (by kernel_rfl) (.inl sp_124) (by simp [Tryz.f124]) ?_
 intro T hT
 simp -dsimp -implicitDefEqProofs (disch:=first|omega|assumption) [startSlots,nI,wI,h6,h6']
 generalize hz : loopT _ _ _ _ _ _ = z
 revert z
 refine loop_any (σ:=Nat) (fun i => [(0,.d (ints l)),(4,.arr 0 (bestTo l i).length),(11,.d (.int .u8 i))]) (fun i => [.arr 1 (bytes (bestTo l i)) 0]) (fun i => i ≤ 5) (fun i => 5 - i) 0 ?_ ?_ ?_
 ·simp
 ·simp -dsimp -implicitDefEqProofs (disch:=first|omega|assumption) [bestTo]
 intro T' f hT' i hi ih
 have hbl := bestTo_len hl hn i
 by_cases h1 : i < 5
 ·have h1' : (i : Int) < 5 := by omega
  have g := iencode_yes i l hl hn h1
  have hel := enc_len i hl hn
  have hw : ((i : Int) + 1) % 256 = i + 1 := by omega
  have hun : u8n i = u8n i := rfl
  have hbb : D.int .u8 (i : Int) = byteD (u8n i) := (byteD_eq (by rw [u8n_toNat (by omega)])).symm
  by_cases h0 : i = 0
  ·subst h0
   have e1 : bestTo l 1 = u8n 0 :: encB 0 l := by rw [bestTo,if_pos (.inl rfl)]
   rw [show ((0 : Nat) : Int) = 0 from rfl] at g
   simp -dsimp -implicitDefEqProofs (disch:=first|omega|assumption) [nI,wI,g]
   refine ih (0 + 1) _ _ (by omega) (by omega) ?_
   rw [Nat.zero_add,e1]
   simp -dsimp -implicitDefEqProofs (disch:=first|omega|assumption) [Nat.add_comm]
  ·have h0' : ¬ (i : Int) = 0 := by omega
   by_cases h2 : (encB i l).length + 1 < (bestTo l i).length
   ·have h2' : ((encB i l).length : Int) < ((bestTo l i).length : Int) - 1 := by omega
    have e1 : bestTo l (i + 1) = u8n i :: encB i l := by rw [bestTo,if_pos (.inr h2)]
    simp -dsimp -implicitDefEqProofs (disch:=first|omega|assumption) [nI,wI,h1',g,h0,h0',h2',hw]
    refine ih (i + 1) _ _ (by omega) (by omega) ?_
    rw [e1]
    simp -dsimp -implicitDefEqProofs (disch:=first|omega|assumption) [hw,Nat.add_comm]
   ·have h2' : ¬ ((encB i l).length : Int) < ((bestTo l i).length : Int) - 1 := by omega
    have e1 : bestTo l (i + 1) = bestTo l i := by rw [bestTo,if_neg (by omega)]
    simp -dsimp -implicitDefEqProofs (disch:=first|omega|assumption) [nI,wI,h1',g,h0,h0',h2',hw]
    refine ih (i + 1) _ _ (by omega) (by omega) ?_
    rw [e1]
    simp -dsimp -implicitDefEqProofs (disch:=first|omega|assumption) [hw]
 ·obtain rfl : i = 5 := by omega
  subst hT'
  simp -dsimp -implicitDefEqProofs (disch:=first|omega|assumption) [nI,wI]
  simpa -dsimp -implicitDefEqProofs (disch:=first|omega|assumption) [nI,wI,bestB] using hT
end Go.Am.Ab
