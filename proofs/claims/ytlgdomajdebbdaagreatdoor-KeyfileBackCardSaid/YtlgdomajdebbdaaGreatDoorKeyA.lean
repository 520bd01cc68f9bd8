/- Files of keys. -/
import Derived.Test.YtlgdomajdebbdaaGreatDoorValsA
import Derived.Test.YtlgdomajdebbdaaGreatDoorVSortB
import Derived.Test.YtlgdomajdebbdaaGreatDoorSums
import Derived.Test.YtlgdomajdebbdaaGreatDoorColD
set_option linter.all false
namespace Go.Am.Ab
open Go.Proofs
set_option maxHeartbeats 8000000
set_option maxRecDepth 4000
theorem vs_map (wd : Nat → Val) (r : List Nat) : vs (r.map wd) = Str.Vs.ws wd r := by simp
def keyT (k n : Nat) (c : List UInt8) : List UInt8 := 75 :: 70 :: 49 :: (put k ++ (put n ++ c))
theorem kwrite_kind (k : Nat) (hk : k < 256) (h1 : ¬ k = 1) (h3 : ¬ k = 3) (X : List Val) : R 15 [.d (.int .u8 k),.d (.list (vs X))] [] = badW 10 := by
 have h1' : ¬ (k : Int) = 1 := by omega
 have h3' : ¬ (k : Int) = 3 := by omega
 unfold badW
 refine run_goal (rs:=[.tmp 4,.tmp 5]) (ts:=[24,25]) Tryz.func15 rfl rfl rfl (by kernel_rfl) (by kernel_rfl) (.inl sp_15) (by simp [Tryz.f15]) ?_
 intro T hT
 simp -dsimp -implicitDefEqProofs (disch:=first|omega|assumption) [startSlots,nI,wI,h1,h1',h3,h3']
 simpa -dsimp -implicitDefEqProofs (disch:=first|omega|assumption) [nI,wI,E] using hT
theorem uniV_length (l : List Val) : (uniV l).length ≤ l.length := by
 have h := congrArg List.length (uniC_map l)
 have := uniC_length (l.map cellOf)
 rw [List.length_map] at h this
 omega
theorem kwrite_odd1 (X : List Val) (hn : X.length ≤ 1000000) (ho : ∃ v ∈ X,v.kind ≠ 1) : R 15 [.d (.int .u8 1),.d (.list (vs X))] [] = badW 10 := by
 unfold badW
 refine run_goal (rs:=[.tmp 4,.tmp 5]) (ts:=[24,25]) Tryz.func15 rfl rfl rfl (by kernel_rfl) (by kernel_rfl) (.inl sp_15) (by simp [Tryz.f15]) ?_
 intro T hT
 simp -dsimp -implicitDefEqProofs (disch:=first|omega|assumption) [startSlots,nI,wI]
 generalize hz : loopT _ _ _ _ _ _ = z
 revert z
 refine loop_any (σ:=Nat) (fun i => [(0,.d (.int .u8 1)),(1,.d (.list (vs X))),(17,.d (.list (vs X))),(18,.d (.int .i64 X.length)),(19,.d (.int .i64 i))]) (fun i => []) (fun i => i ≤ X.length ∧ ∀ j,(hj : j < i) → (hl : j < X.length) → X[j].kind = 1) (fun i => X.length - i) 0 ?_ ?_ ?_
 ·exact ⟨Nat.zero_le _,fun j hj => by omega⟩
 ·simp -dsimp -implicitDefEqProofs (disch:=first|omega|assumption)
 intro T' f hT' i ⟨hi,hok⟩ ih
 by_cases h1 : i < X.length
 ·have hkd := kindOf_runs X[i]
  by_cases hv : X[i].kind = 1
  ·rw [hv] at hkd
   simp -dsimp -implicitDefEqProofs (disch:=first|omega|assumption) [nI,wI,h1,hkd]
   refine ih (i + 1) _ _ ⟨h1,fun j hj hl => ?_⟩ (by omega) (by simp -dsimp -implicitDefEqProofs (disch:=first|omega|assumption))
   by_cases c : j = i
   ·subst c; exact hv
   ·exact hok j (by omega) hl
  ·have hv' : ¬ (X[i].kind : Int) = 1 := by omega
   subst hT'
   simp -dsimp -implicitDefEqProofs (disch:=first|omega|assumption) [nI,wI,h1,hkd,hv,hv']
   simpa -dsimp -implicitDefEqProofs (disch:=first|omega|assumption) [nI,wI,E] using hT
 ·exfalso
  obtain ⟨v,hv,hne⟩ := ho
  obtain ⟨j,hj,rfl⟩ := List.mem_iff_getElem.1 hv
  exact hne (hok j (by omega) hj)
theorem kwrite_step1 (X : List Val) (hn : X.length ≤ 1024) (hX : ∀ v ∈ X,v.kind = 1) (c : List UInt8) (e : Nat) (hc : c.length ≤ 200000)
  (hw : R 64 [.d (.int .u8 1),.d (.list (vs (uniV X)))] [] = some ([.arr 0 c.length,E e],[.arr 1 (bytes c) 0])) :
  R 15 [.d (.int .u8 1),.d (.list (vs X))] [] = if e ≠ 0 then badW e else some ([.arr 0 (sealB (keyT 1 (uniV X).length c)).length,E 0],[.arr 1 (bytes (sealB (keyT 1 (uniV X).length c))) 0]) := by
 obtain ⟨wd,r,hwd,hr⟩ := ranksV X
 have hrl : r.length = X.length := by rw [← hr]; simp
 have hu : uniV X = (Str.uniq r).map wd := by rw [← hr]; exact uniV_map hwd r
 have hul0 := uniV_length X
 have hsu : vs (uniV X) = Str.Vs.ws wd (Str.uniq r) := by rw [hu]; exact vs_map wd _
 have hulen : (uniV X).length = (Str.uniq r).length := by rw [hu]; simp
 have h1 := Str.Vs.clone_runs hwd r (by omega)
 obtain ⟨s,h2,h3,h4⟩ := Str.Vs.sort_any hwd r (by omega)
 have hlen := h3.len
 have hus : Str.uniq s = Str.uniq r := Str.rises_ext (Str.uniq_rises _) (Str.uniq_rises _) fun y => by rw [Str.uniq_mem,Str.uniq_mem]; exact h3.perm.mem_iff
 rw [← hlen] at h4
 have hP := Str.Vs.compact_any hwd s h4 (by omega)
 unfold Str.Vs.Packs at hP
 rw [hus,hlen] at hP
 rw [hsu] at hw
 rw [hulen]
 obtain ⟨u,hue⟩ : ∃ u,u = Str.uniq r := ⟨_,rfl⟩
 have hul : u.length ≤ 1024 := by rw [hue,← hulen]; omega
 have hp1 := put_runs 1 (by omega)
 have hp2 := put_runs u.length (by omega)
 have hpl1 := put_len (n := 1) (by omega)
 have hpl2 := put_len (n := u.length) (by omega)
 have hsl : (keyT 1 u.length c).length < 1000000000 := by simp only [keyT,List.length_cons,List.length_append]; omega
 have hs := seal_runs (keyT 1 u.length c) hsl
 have hw1 : IntKind.u64.wrap (1 : Int) = 1 := wrap_u64 (by omega) (by omega)
 have hw2 : IntKind.u64.wrap (u.length : Int) = u.length := wrap_u64 (by omega) (by omega)
 rw [← hue] at hw hP ⊢
 have hXr : vs X = Str.Vs.ws wd r := by rw [← hr]; exact vs_map wd _
 have hkd : ∀ i,(h : i < r.length) → (wd r[i]).kind = 1 := fun i h => by
  have : X[i]'(by omega) = wd r[i] := by simp only [← hr,List.getElem_map]
  rw [← this]
  exact hX _ (List.getElem_mem _)
 rw [hXr]
 obtain ⟨sb,hsb⟩ : ∃ sb,sb = sealB (keyT 1 u.length c) := ⟨_,rfl⟩
 rw [← hsb] at hs ⊢
 unfold keyT at hs
 obtain ⟨pk,hpk⟩ : ∃ p,p = put 1 := ⟨_,rfl⟩
 obtain ⟨pn,hpn⟩ : ∃ p,p = put u.length := ⟨_,rfl⟩
 rw [← hpk] at hs hp1 hpl1
 rw [← hpn] at hs hp2 hpl2
 have hp1' : R 65 [.d (.int .u64 1)] [] = some ([.arr 0 pk.length],[.arr 1 (bytes pk) 0]) := hp1
 have hs' : R 66 [.d (.list (.int .u8 75 :: .int .u8 70 :: .int .u8 49 :: (bytes pk ++ (bytes pn ++ bytes c))))] [] = some ([.arr 0 sb.length],[.arr 1 (bytes sb) 0]) := by
  rw [← hs]
  simp [B]
 clear hs hsb hpk hpn hu hsu hus h3 h4 hulen hue hsl hr
 unfold badW
 obtain ⟨rr,hrr⟩ : ∃ rr,some rr = (if e ≠ 0 then some ([.arr 0 0,E e],[.arr 1 [] 0]) else some ([.arr 0 sb.length,E 0],[.arr 1 (bytes sb) 0]) : Option (List V × List Obj)) := by
  by_cases e0 : e ≠ 0
  ·exact ⟨_,by rw [if_pos e0]⟩
  ·exact ⟨_,by rw [if_neg e0]⟩
 rw [← hrr]
 refine run_goal (rs:=[.tmp 4,.tmp 5]) (ts:=[24,25]) Tryz.func15 rfl rfl rfl (by kernel_rfl) (by kernel_rfl) (.inl sp_15) (by simp [Tryz.f15]) ?_
 intro T hT
 simp -dsimp -implicitDefEqProofs (disch:=first|omega|assumption) [startSlots,nI,wI]
 rw [hrr] at hT
 generalize hz : loopT _ _ _ _ _ _ = z
 revert z
 refine loop_any (σ:=Nat) (fun i => [(0,.d (.int .u8 1)),(1,.d (.list (Str.Vs.ws wd r))),(17,.d (.list (Str.Vs.ws wd r))),(18,.d (.int .i64 r.length)),(19,.d (.int .i64 i))]) (fun i => []) (fun i => i ≤ r.length) (fun i => r.length - i) 0 ?_ ?_ ?_
 ·exact Nat.zero_le _
 ·simp -dsimp -implicitDefEqProofs (disch:=first|omega|assumption)
 intro T' f hT' i hi ih
 by_cases h5 : i < r.length
 ·have hk1 := hkd i h5
  have hk2 := kindOf_runs (wd r[i])
  rw [hk1] at hk2
  simp -dsimp -implicitDefEqProofs (disch:=first|omega|assumption) [nI,wI,h5,hk2]
  exact ih (i + 1) _ _ h5 (by omega) (by simp -dsimp -implicitDefEqProofs (disch:=first|omega|assumption))
 obtain rfl : i = r.length := by omega
 subst hT'
 clear ih hi h5
 by_cases e0 : e ≠ 0
 ·have e0' : ¬ (e : Int) = 0 := by omega
  rw [if_pos e0] at hT
  rcases hP with hP | ⟨m,hm,hP⟩
  ·simp -dsimp -implicitDefEqProofs (disch:=first|omega|assumption) [nI,wI,h1,h2,hP,hw,e0,e0']
   simpa -dsimp -implicitDefEqProofs (disch:=first|omega|assumption) [nI,wI,E] using hT
  ·have hm2 : (u.length + m.length) = r.length := hm
   have hm3 : List.take u.length (Str.Vs.ws wd u ++ m) = Str.Vs.ws wd u := by rw [List.take_append_of_le_length (by simp),List.take_of_length_le (by simp)]
   simp -dsimp -implicitDefEqProofs (disch:=first|omega|assumption) [nI,wI,h1,h2,hP,hw,e0,e0',hm2,hm3]
   simpa -dsimp -implicitDefEqProofs (disch:=first|omega|assumption) [nI,wI,E] using hT
 ·obtain rfl : e = 0 := by omega
  rw [if_neg e0] at hT
  rcases hP with hP | ⟨m,hm,hP⟩
  ·simp -dsimp -implicitDefEqProofs (disch:=first|omega|assumption) [nI,wI,h1,h2,hP,hw,hw1,hw2,hp1',hp2,hs']
   simpa -dsimp -implicitDefEqProofs (disch:=first|omega|assumption) [nI,wI,E] using hT
  ·have hm2 : (u.length + m.length) = r.length := hm
   have hm3 : List.take u.length (Str.Vs.ws wd u ++ m) = Str.Vs.ws wd u := by rw [List.take_append_of_le_length (by simp),List.take_of_length_le (by simp)]
   simp -dsimp -implicitDefEqProofs (disch:=first|omega|assumption) [nI,wI,h1,h2,hP,hw,hw1,hw2,hp1',hp2,hs',hm2,hm3]
   simpa -dsimp -implicitDefEqProofs (disch:=first|omega|assumption) [nI,wI,E] using hT
theorem kwrite_odd3 (X : List Val) (hn : X.length ≤ 1000000) (ho : ∃ v ∈ X,v.kind ≠ 3) : R 15 [.d (.int .u8 3),.d (.list (vs X))] [] = badW 10 := by
 unfold badW
 refine run_goal (rs:=[.tmp 4,.tmp 5]) (ts:=[24,25]) Tryz.func15 rfl rfl rfl (by kernel_rfl) (by kernel_rfl) (.inl sp_15) (by simp [Tryz.f15]) ?_
 intro T hT
 simp -dsimp -implicitDefEqProofs (disch:=first|omega|assumption) [startSlots,nI,wI]
 generalize hz : loopT _ _ _ _ _ _ = z
 revert z
 refine loop_any (σ:=Nat) (fun i => [(0,.d (.int .u8 3)),(1,.d (.list (vs X))),(17,.d (.list (vs X))),(18,.d (.int .i64 X.length)),(19,.d (.int .i64 i))]) (fun i => []) (fun i => i ≤ X.length ∧ ∀ j,(hj : j < i) → (hl : j < X.length) → X[j].kind = 3) (fun i => X.length - i) 0 ?_ ?_ ?_
 ·exact ⟨Nat.zero_le _,fun j hj => by omega⟩
 ·simp -dsimp -implicitDefEqProofs (disch:=first|omega|assumption)
 intro T' f hT' i ⟨hi,hok⟩ ih
 by_cases h1 : i < X.length
 ·have hkd := kindOf_runs X[i]
  by_cases hv : X[i].kind = 3
  ·rw [hv] at hkd
   simp -dsimp -implicitDefEqProofs (disch:=first|omega|assumption) [nI,wI,h1,hkd]
   refine ih (i + 1) _ _ ⟨h1,fun j hj hl => ?_⟩ (by omega) (by simp -dsimp -implicitDefEqProofs (disch:=first|omega|assumption))
   by_cases c : j = i
   ·subst c; exact hv
   ·exact hok j (by omega) hl
  ·have hv' : ¬ (X[i].kind : Int) = 3 := by omega
   subst hT'
   simp -dsimp -implicitDefEqProofs (disch:=first|omega|assumption) [nI,wI,h1,hkd,hv,hv']
   simpa -dsimp -implicitDefEqProofs (disch:=first|omega|assumption) [nI,wI,E] using hT
 ·exfalso
  obtain ⟨v,hv,hne⟩ := ho
  obtain ⟨j,hj,rfl⟩ := List.mem_iff_getElem.1 hv
  exact hne (hok j (by omega) hj)
theorem kwrite_step3 (X : List Val) (hn : X.length ≤ 1024) (hX : ∀ v ∈ X,v.kind = 3) (c : List UInt8) (e : Nat) (hc : c.length ≤ 200000)
  (hw : R 64 [.d (.int .u8 3),.d (.list (vs (uniV X)))] [] = some ([.arr 0 c.length,E e],[.arr 1 (bytes c) 0])) :
  R 15 [.d (.int .u8 3),.d (.list (vs X))] [] = if e ≠ 0 then badW e else some ([.arr 0 (sealB (keyT 3 (uniV X).length c)).length,E 0],[.arr 1 (bytes (sealB (keyT 3 (uniV X).length c))) 0]) := by
 obtain ⟨wd,r,hwd,hr⟩ := ranksV X
 have hrl : r.length = X.length := by rw [← hr]; simp
 have hu : uniV X = (Str.uniq r).map wd := by rw [← hr]; exact uniV_map hwd r
 have hul0 := uniV_length X
 have hsu : vs (uniV X) = Str.Vs.ws wd (Str.uniq r) := by rw [hu]; exact vs_map wd _
 have hulen : (uniV X).length = (Str.uniq r).length := by rw [hu]; simp
 have h1 := Str.Vs.clone_runs hwd r (by omega)
 obtain ⟨s,h2,h3,h4⟩ := Str.Vs.sort_any hwd r (by omega)
 have hlen := h3.len
 have hus : Str.uniq s = Str.uniq r := Str.rises_ext (Str.uniq_rises _) (Str.uniq_rises _) fun y => by rw [Str.uniq_mem,Str.uniq_mem]; exact h3.perm.mem_iff
 rw [← hlen] at h4
 have hP := Str.Vs.compact_any hwd s h4 (by omega)
 unfold Str.Vs.Packs at hP
 rw [hus,hlen] at hP
 rw [hsu] at hw
 rw [hulen]
 obtain ⟨u,hue⟩ : ∃ u,u = Str.uniq r := ⟨_,rfl⟩
 have hul : u.length ≤ 1024 := by rw [hue,← hulen]; omega
 have hp1 := put_runs 3 (by omega)
 have hp2 := put_runs u.length (by omega)
 have hpl1 := put_len (n := 3) (by omega)
 have hpl2 := put_len (n := u.length) (by omega)
 have hsl : (keyT 3 u.length c).length < 1000000000 := by simp only [keyT,List.length_cons,List.length_append]; omega
 have hs := seal_runs (keyT 3 u.length c) hsl
 have hw1 : IntKind.u64.wrap (3 : Int) = 3 := wrap_u64 (by omega) (by omega)
 have hw2 : IntKind.u64.wrap (u.length : Int) = u.length := wrap_u64 (by omega) (by omega)
 rw [← hue] at hw hP ⊢
 have hXr : vs X = Str.Vs.ws wd r := by rw [← hr]; exact vs_map wd _
 have hkd : ∀ i,(h : i < r.length) → (wd r[i]).kind = 3 := fun i h => by
  have : X[i]'(by omega) = wd r[i] := by simp only [← hr,List.getElem_map]
  rw [← this]
  exact hX _ (List.getElem_mem _)
 rw [hXr]
 obtain ⟨sb,hsb⟩ : ∃ sb,sb = sealB (keyT 3 u.length c) := ⟨_,rfl⟩
 rw [← hsb] at hs ⊢
 unfold keyT at hs
 obtain ⟨pk,hpk⟩ : ∃ p,p = put 3 := ⟨_,rfl⟩
 obtain ⟨pn,hpn⟩ : ∃ p,p = put u.length := ⟨_,rfl⟩
 rw [← hpk] at hs hp1 hpl1
 rw [← hpn] at hs hp2 hpl2
 have hp1' : R 65 [.d (.int .u64 3)] [] = some ([.arr 0 pk.length],[.arr 1 (bytes pk) 0]) := hp1
 have hs' : R 66 [.d (.list (.int .u8 75 :: .int .u8 70 :: .int .u8 49 :: (bytes pk ++ (bytes pn ++ bytes c))))] [] = some ([.arr 0 sb.length],[.arr 1 (bytes sb) 0]) := by
  rw [← hs]
  simp [B]
 clear hs hsb hpk hpn hu hsu hus h3 h4 hulen hue hsl hr
 unfold badW
 obtain ⟨rr,hrr⟩ : ∃ rr,some rr = (if e ≠ 0 then some ([.arr 0 0,E e],[.arr 1 [] 0]) else some ([.arr 0 sb.length,E 0],[.arr 1 (bytes sb) 0]) : Option (List V × List Obj)) := by
  by_cases e0 : e ≠ 0
  ·exact ⟨_,by rw [if_pos e0]⟩
  ·exact ⟨_,by rw [if_neg e0]⟩
 rw [← hrr]
 refine run_goal (rs:=[.tmp 4,.tmp 5]) (ts:=[24,25]) Tryz.func15 rfl rfl rfl (by kernel_rfl) (by kernel_rfl) (.inl sp_15) (by simp [Tryz.f15]) ?_
 intro T hT
 simp -dsimp -implicitDefEqProofs (disch:=first|omega|assumption) [startSlots,nI,wI]
 rw [hrr] at hT
 generalize hz : loopT _ _ _ _ _ _ = z
 revert z
 refine loop_any (σ:=Nat) (fun i => [(0,.d (.int .u8 3)),(1,.d (.list (Str.Vs.ws wd r))),(17,.d (.list (Str.Vs.ws wd r))),(18,.d (.int .i64 r.length)),(19,.d (.int .i64 i))]) (fun i => []) (fun i => i ≤ r.length) (fun i => r.length - i) 0 ?_ ?_ ?_
 ·exact Nat.zero_le _
 ·simp -dsimp -implicitDefEqProofs (disch:=first|omega|assumption)
 intro T' f hT' i hi ih
 by_cases h5 : i < r.length
 ·have hk1 := hkd i h5
  have hk2 := kindOf_runs (wd r[i])
  rw [hk1] at hk2
  simp -dsimp -implicitDefEqProofs (disch:=first|omega|assumption) [nI,wI,h5,hk2]
  exact ih (i + 1) _ _ h5 (by omega) (by simp -dsimp -implicitDefEqProofs (disch:=first|omega|assumption))
 obtain rfl : i = r.length := by omega
 subst hT'
 clear ih hi h5
 by_cases e0 : e ≠ 0
 ·have e0' : ¬ (e : Int) = 0 := by omega
  rw [if_pos e0] at hT
  rcases hP with hP | ⟨m,hm,hP⟩
  ·simp -dsimp -implicitDefEqProofs (disch:=first|omega|assumption) [nI,wI,h1,h2,hP,hw,e0,e0']
   simpa -dsimp -implicitDefEqProofs (disch:=first|omega|assumption) [nI,wI,E] using hT
  ·have hm2 : (u.length + m.length) = r.length := hm
   have hm3 : List.take u.length (Str.Vs.ws wd u ++ m) = Str.Vs.ws wd u := by rw [List.take_append_of_le_length (by simp),List.take_of_length_le (by simp)]
   simp -dsimp -implicitDefEqProofs (disch:=first|omega|assumption) [nI,wI,h1,h2,hP,hw,e0,e0',hm2,hm3]
   simpa -dsimp -implicitDefEqProofs (disch:=first|omega|assumption) [nI,wI,E] using hT
 ·obtain rfl : e = 0 := by omega
  rw [if_neg e0] at hT
  rcases hP with hP | ⟨m,hm,hP⟩
  ·simp -dsimp -implicitDefEqProofs (disch:=first|omega|assumption) [nI,wI,h1,h2,hP,hw,hw1,hw2,hp1',hp2,hs']
   simpa -dsimp -implicitDefEqProofs (disch:=first|omega|assumption) [nI,wI,E] using hT
  ·have hm2 : (u.length + m.length) = r.length := hm
   have hm3 : List.take u.length (Str.Vs.ws wd u ++ m) = Str.Vs.ws wd u := by rw [List.take_append_of_le_length (by simp),List.take_of_length_le (by simp)]
   simp -dsimp -implicitDefEqProofs (disch:=first|omega|assumption) [nI,wI,h1,h2,hP,hw,hw1,hw2,hp1',hp2,hs',hm2,hm3]
   simpa -dsimp -implicitDefEqProofs (disch:=first|omega|assumption) [nI,wI,E] using hT
end Go.Am.Ab
namespace Go.Am.Ab
open Go.Proofs
set_option maxHeartbeats 8000000
set_option maxRecDepth 4000
def keyF (k : Nat) (u : List Val) : List UInt8 := sealB (keyT k u.length (colB k u))
theorem keyT_len {k n : Nat} {c : List UInt8} (hk : k < 256) (hn : n ≤ 256) (hc : c.length ≤ 200000) : (keyT k n c).length ≤ 200100 := by
 have h1 := put_len (n := k) (by omega)
 have h2 := put_len (n := n) (by omega)
 simp only [keyT,List.length_cons,List.length_append]; omega
theorem uniV_good {k : Nat} {l : List Val} (g : Good k l) : Good k (uniV l) := fun v hv => g v (uniV_mem.1 hv)
def kAll (k : Nat) (l : List Val) : Bool := decide (k = 1 ∨ k = 3) && l.all fun v => decide (v.kind = k)
theorem kwrite_any (k : Nat) (hk : k < 256) (l : List Val) (g : Good k l) (hn : l.length ≤ 256) : R 15 [.d (.int .u8 k),.d (.list (vs l))] [] = if kAll k l = true then some ([.arr 0 (keyF k (uniV l)).length,E 0],[.arr 1 (bytes (keyF k (uniV l))) 0]) else badW 10 := by
 unfold kAll
 have hul := uniV_length l
 by_cases h13 : k = 1 ∨ k = 3
 ·rw [decide_eq_true h13,Bool.true_and]
  have hk3 : 1 ≤ k ∧ k ≤ 3 := by omega
  have hw := write_ok k hk3 (uniV l) (uniV_good g) (by omega)
  have hc := colB_len hk3 (uniV_good g) (by omega)
  by_cases ha : (l.all fun v => decide (v.kind = k)) = true
  ·rw [if_pos ha]
   have ha' : ∀ v ∈ l,v.kind = k := fun v hv => of_decide_eq_true (List.all_eq_true.1 ha v hv)
   rcases h13 with rfl | rfl
   ·exact kwrite_step1 l (by omega) ha' _ 0 hc hw
   ·exact kwrite_step3 l (by omega) ha' _ 0 hc hw
  ·rw [if_neg ha]
   have ho : ∃ v ∈ l,v.kind ≠ k := by
    apply Classical.byContradiction
    intro h
    exact ha (List.all_eq_true.2 fun v hv => decide_eq_true (Classical.byContradiction fun e => h ⟨v,hv,e⟩))
   rcases h13 with rfl | rfl
   ·exact kwrite_odd1 l (by omega) ho
   ·exact kwrite_odd3 l (by omega) ho
 ·rw [decide_eq_false h13,Bool.false_and,if_neg (by simp)]
  exact kwrite_kind k hk (fun e => h13 (.inl e)) (fun e => h13 (.inr e)) l
def kBody (b r : List UInt8) : Option (Nat × List Val) :=
 if (get r).2.2 ≠ 0 then none else
 if 3 < (get r).1 then none else
 if (get (r.drop (get r).2.1)).2.2 ≠ 0 then none else
 if 256 < (get (r.drop (get r).2.1)).1 then none else
 if (readTop (get r).1 ((r.drop (get r).2.1).drop (get (r.drop (get r).2.1)).2.1) (get (r.drop (get r).2.1)).1).2 ≠ 0 then none else
 if kAll (get r).1 (readTop (get r).1 ((r.drop (get r).2.1).drop (get (r.drop (get r).2.1)).2.1) (get (r.drop (get r).2.1)).1).1 = true then
  if keyF (get r).1 (uniV (readTop (get r).1 ((r.drop (get r).2.1).drop (get (r.drop (get r).2.1)).2.1) (get (r.drop (get r).2.1)).1).1) = b then
   some ((get r).1,(readTop (get r).1 ((r.drop (get r).2.1).drop (get (r.drop (get r).2.1)).2.1) (get (r.drop (get r).2.1)).1).1) else none
 else none
def openK (b : List UInt8) : Nat ⊕ (Nat × List Val) :=
 match openB b with
 | none => .inl 101
 | some t => if t.length < 3 ∨ t.take 3 ≠ [75,70,49] then .inl 100 else
  match kBody b (t.drop 3) with
  | none => .inl 102
  | some p => .inr p
def KoR : Nat ⊕ (Nat × List Val) → Option (List V × List Obj)
 | .inl e => some ([.d .nilP,E e],[])
 | .inr (k,l) => some ([.ptr 0 0,E 0],[.box [.d (.int .u8 k),.arr 1 l.length],.arr 1 (vs l) l.length])
theorem readTop_good {k n : Nat} {b : List UInt8} (h : (readTop k b n).2 = 0) : Good k (readTop k b n).1 ∧ (readTop k b n).1.length = n ∧ n ≤ 256 ∧ 1 ≤ k ∧ k ≤ 3 := by
 unfold readTop at h ⊢
 by_cases hk : 1 ≤ k ∧ k ≤ 3
 ·rw [if_neg (fun c => c hk)] at h ⊢
  by_cases h1 : (n : Int) < 0 ∨ 256 < (n : Int)
  ·rw [if_pos h1] at h; simp at h
  rw [if_neg h1,Int.toNat_natCast] at h ⊢
  by_cases h2 : (readC k n b).2 ≠ 0
  ·rw [if_pos h2] at h; exact absurd h h2
  rw [if_neg h2] at h ⊢
  have hg := readC_good hk (n := n) (b := b) (by omega)
  by_cases h3 : colB k (readC k n b).1 = b
  ·rw [if_pos h3]
   exact ⟨hg.1,hg.2,by omega,hk⟩
  ·rw [if_neg h3] at h; simp at h
 ·rw [if_pos hk] at h; simp at h
theorem kopen_runs (b : List UInt8) (hb : b.length < 1000000) : R 20 [B b] [] = KoR (openK b) := by
 have ho := copen_runs b hb
 unfold openK
 cases hp : openB b with
 | none =>
  rw [hp] at ho
  unfold OpR at ho
  simp only [KoR]
  refine run_goal (rs:=[.tmp 2,.tmp 3]) (ts:=[37,25]) Tryz.func20 rfl rfl rfl (by kernel_rfl) (by kernel_rfl) (.inl sp_20) (by simp [Tryz.f20]) ?_
  intro T hT
  simp -dsimp -implicitDefEqProofs (disch:=first|omega|assumption) [startSlots,nI,wI,ho]
  simpa -dsimp -implicitDefEqProofs (disch:=first|omega|assumption) [nI,wI,E] using hT
 | some t =>
  have htb : t.length ≤ b.length := by
   have := congrArg List.length (open_some hp)
   rw [sealB_length] at this; omega
  rw [hp] at ho
  unfold OpR at ho
  simp only at ho ⊢
  clear hp
  by_cases h1 : t.length < 3
  ·have h1' : (t.length : Int) < 3 := by omega
   rw [if_pos (.inl h1)]
   simp only [KoR]
   refine run_goal (rs:=[.tmp 2,.tmp 3]) (ts:=[37,25]) Tryz.func20 rfl rfl rfl (by kernel_rfl) (by kernel_rfl) (.inl sp_20) (by simp [Tryz.f20]) ?_
   intro T hT
   simp -dsimp -implicitDefEqProofs (disch:=first|omega|assumption) [startSlots,nI,wI,ho,h1,h1']
   simpa -dsimp -implicitDefEqProofs (disch:=first|omega|assumption) [nI,wI,E] using hT
  have h1' : ¬ (t.length : Int) < 3 := by omega
  have h1b : 3 ≤ t.length := by omega
  obtain ⟨t3,ht3⟩ : ∃ t3,t3 = t.take 3 := ⟨_,rfl⟩
  have ht3' : List.take 3 (bytes t) = bytes t3 := by rw [ht3,bytes,bytes,List.map_take]
  have hM3 := mapM_bytes t3
  rw [← ht3]
  by_cases h2 : t3 = [75,70,49]
  case neg =>
   rw [if_pos (.inr h2)]
   have h2' : (t3 == [75,70,49]) = false := by simpa using h2
   simp only [KoR]
   refine run_goal (rs:=[.tmp 2,.tmp 3]) (ts:=[37,25]) Tryz.func20 rfl rfl rfl (by kernel_rfl) (by kernel_rfl) (.inl sp_20) (by simp [Tryz.f20]) ?_
   intro T hT
   simp -dsimp -implicitDefEqProofs (disch:=first|omega|assumption) [startSlots,nI,wI,ho,h1,h1',h1b,ht3',hM3,h2']
   simpa -dsimp -implicitDefEqProofs (disch:=first|omega|assumption) [nI,wI,E] using hT
  have h2' : (t3 == [75,70,49]) = true := by simpa using h2
  rw [if_neg (fun c => c.elim h1 (fun c => c h2))]
  obtain ⟨r,hr⟩ : ∃ r,r = t.drop 3 := ⟨_,rfl⟩
  have hr' : List.drop 3 (bytes t) = bytes r := by rw [hr,bytes,bytes,List.map_drop]
  have hrl : r.length < 1000000 := by rw [hr,List.length_drop]; omega
  have hrk : r.length + 3 = t.length := by rw [hr,List.length_drop]; omega
  rw [← hr]
  have hg := get_runs r (by omega)
  have hgu := get_used r
  have hgl := get_lt r
  unfold kBody
  obtain ⟨k,hk⟩ : ∃ g,g = (get r).1 := ⟨_,rfl⟩
  obtain ⟨u1,hu1⟩ : ∃ g,g = (get r).2.1 := ⟨_,rfl⟩
  obtain ⟨e1,he1⟩ : ∃ g,g = (get r).2.2 := ⟨_,rfl⟩
  rw [← hk,← hu1,← he1] at hg
  rw [← hu1] at hgu
  rw [← hk] at hgl
  rw [← hk,← hu1,← he1]
  by_cases c1 : e1 ≠ 0
  ·have c1' : ¬ (e1 : Int) = 0 := by omega
   rw [if_pos c1]
   simp only [KoR]
   refine run_goal (rs:=[.tmp 2,.tmp 3]) (ts:=[37,25]) Tryz.func20 rfl rfl rfl (by kernel_rfl) (by kernel_rfl) (.inl sp_20) (by simp [Tryz.f20]) ?_
   intro T hT
   simp -dsimp -implicitDefEqProofs (disch:=first|omega|assumption) [startSlots,nI,wI,ho,h1,h1',h1b,ht3',hM3,h2',hr',hg,c1,c1']
   simpa -dsimp -implicitDefEqProofs (disch:=first|omega|assumption) [nI,wI,E] using hT
  rw [if_neg c1]
  obtain rfl : e1 = 0 := by omega
  by_cases c2 : 3 < k
  ·have c2' : (3 : Int) < k := by omega
   rw [if_pos c2]
   simp only [KoR]
   refine run_goal (rs:=[.tmp 2,.tmp 3]) (ts:=[37,25]) Tryz.func20 rfl rfl rfl (by kernel_rfl) (by kernel_rfl) (.inl sp_20) (by simp [Tryz.f20]) ?_
   intro T hT
   simp -dsimp -implicitDefEqProofs (disch:=first|omega|assumption) [startSlots,nI,wI,ho,h1,h1',h1b,ht3',hM3,h2',hr',hg,c2,c2']
   simpa -dsimp -implicitDefEqProofs (disch:=first|omega|assumption) [nI,wI,E] using hT
  rw [if_neg c2]
  have c2' : ¬ (3 : Int) < k := by omega
  obtain ⟨r2,hr2⟩ : ∃ r2,r2 = r.drop u1 := ⟨_,rfl⟩
  have hr2' : List.drop (3 + u1) (bytes t) = bytes r2 := by rw [hr2,hr,List.drop_drop,bytes,bytes,List.map_drop]
  have hr2l : r2.length < 1000000 := by rw [hr2,List.length_drop]; omega
  have hr2k : r2.length + u1 = r.length := by rw [hr2,List.length_drop]; omega
  have x1 : ((3 : Int) + u1).toNat = 3 + u1 := by omega
  have hb1 : 3 + u1 ≤ t.length := by omega
  rw [← hr2]
  have hg2 := get_runs r2 (by omega)
  have hgu2 := get_used r2
  have hgl2 := get_lt r2
  obtain ⟨n,hn⟩ : ∃ g,g = (get r2).1 := ⟨_,rfl⟩
  obtain ⟨u2,hu2⟩ : ∃ g,g = (get r2).2.1 := ⟨_,rfl⟩
  obtain ⟨e2,he2⟩ : ∃ g,g = (get r2).2.2 := ⟨_,rfl⟩
  rw [← hn,← hu2,← he2] at hg2
  rw [← hu2] at hgu2
  rw [← hn] at hgl2
  rw [← hn,← hu2,← he2]
  by_cases c3 : e2 ≠ 0
  ·have c3' : ¬ (e2 : Int) = 0 := by omega
   rw [if_pos c3]
   simp only [KoR]
   refine run_goal (rs:=[.tmp 2,.tmp 3]) (ts:=[37,25]) Tryz.func20 rfl rfl rfl (by kernel_rfl) (by kernel_rfl) (.inl sp_20) (by simp [Tryz.f20]) ?_
   intro T hT
   simp -dsimp -implicitDefEqProofs (disch:=first|omega|assumption) [startSlots,nI,wI,ho,h1,h1',h1b,ht3',hM3,h2',hr',hg,c2,c2',x1,hb1,hr2',hg2,c3,c3']
   simpa -dsimp -implicitDefEqProofs (disch:=first|omega|assumption) [nI,wI,E] using hT
  rw [if_neg c3]
  obtain rfl : e2 = 0 := by omega
  by_cases c4 : 256 < n
  ·have c4' : (256 : Int) < n := by omega
   rw [if_pos c4]
   simp only [KoR]
   refine run_goal (rs:=[.tmp 2,.tmp 3]) (ts:=[37,25]) Tryz.func20 rfl rfl rfl (by kernel_rfl) (by kernel_rfl) (.inl sp_20) (by simp [Tryz.f20]) ?_
   intro T hT
   simp -dsimp -implicitDefEqProofs (disch:=first|omega|assumption) [startSlots,nI,wI,ho,h1,h1',h1b,ht3',hM3,h2',hr',hg,c2,c2',x1,hb1,hr2',hg2,c4,c4']
   simpa -dsimp -implicitDefEqProofs (disch:=first|omega|assumption) [nI,wI,E] using hT
  rw [if_neg c4]
  have c4' : ¬ (256 : Int) < n := by omega
  obtain ⟨r3,hr3⟩ : ∃ r3,r3 = r2.drop u2 := ⟨_,rfl⟩
  have hr3' : List.drop (3 + u1 + u2) (bytes t) = bytes r3 := by rw [hr3,hr2,hr,List.drop_drop,List.drop_drop,bytes,bytes,List.map_drop,Nat.add_assoc]
  have hr3l : r3.length < 1000000 := by rw [hr3,List.length_drop]; omega
  have x2 : ((3 : Int) + u1 + u2).toNat = 3 + u1 + u2 := by omega
  have hb2 : 3 + u1 + u2 ≤ t.length := by omega
  have wk : IntKind.u8.wrap (k : Int) = k := wrap_u8 (by omega) (by omega)
  have wk2 : (k : Int) % 256 = k := by omega
  have wn : IntKind.i64.wrap (n : Int) = n := wI (by omega) (by omega)
  rw [← hr3]
  have hrd := col_read_runs k (by omega) r3 n (by unfold isI64; omega) hr3l
  have hgood := readTop_good (k := k) (n := n) (b := r3)
  obtain ⟨l,hl⟩ : ∃ l,l = (readTop k r3 n).1 := ⟨_,rfl⟩
  obtain ⟨e3,he3⟩ : ∃ e,e = (readTop k r3 n).2 := ⟨_,rfl⟩
  rw [← hl,← he3] at hrd hgood
  rw [← hl,← he3]
  by_cases c5 : e3 ≠ 0
  ·have c5' : ¬ (e3 : Int) = 0 := by omega
   rw [if_pos c5]
   simp only [KoR]
   refine run_goal (rs:=[.tmp 2,.tmp 3]) (ts:=[37,25]) Tryz.func20 rfl rfl rfl (by kernel_rfl) (by kernel_rfl) (.inl sp_20) (by simp [Tryz.f20]) ?_
   intro T hT
   simp -dsimp -implicitDefEqProofs (disch:=first|omega|assumption) [startSlots,nI,wI,ho,h1,h1',h1b,ht3',hM3,h2',hr',hg,c2,c2',x1,hb1,hr2',hg2,c4,c4',x2,hb2,hr3',wk,wk2,wn,hrd,c5,c5']
   simpa -dsimp -implicitDefEqProofs (disch:=first|omega|assumption) [nI,wI,E] using hT
  rw [if_neg c5]
  obtain rfl : e3 = 0 := by omega
  obtain ⟨g1,g2,g3,g4,g5⟩ := hgood rfl
  have hkw := kwrite_any k (by omega) l g1 (by omega)
  by_cases c6 : kAll k l = true
  case neg =>
   rw [if_neg c6] at hkw ⊢
   unfold badW at hkw
   simp only [KoR]
   refine run_goal (rs:=[.tmp 2,.tmp 3]) (ts:=[37,25]) Tryz.func20 rfl rfl rfl (by kernel_rfl) (by kernel_rfl) (.inl sp_20) (by simp [Tryz.f20]) ?_
   intro T hT
   simp -dsimp -implicitDefEqProofs (disch:=first|omega|assumption) [startSlots,nI,wI,ho,h1,h1',h1b,ht3',hM3,h2',hr',hg,c2,c2',x1,hb1,hr2',hg2,c4,c4',x2,hb2,hr3',wk,wk2,wn,hrd,hkw]
   simpa -dsimp -implicitDefEqProofs (disch:=first|omega|assumption) [nI,wI,E] using hT
  rw [if_pos c6] at hkw ⊢
  have hul := uniV_length l
  have hfl : (keyF k (uniV l)).length < 1000000 := by
   have h5 := colB_len ⟨g4,g5⟩ (uniV_good g1) (by omega)
   have h6 := keyT_len (k := k) (n := (uniV l).length) (c := colB k (uniV l)) (by omega) (by omega) h5
   unfold keyF
   rw [sealB_length]; omega
  have heq := equal_runs (keyF k (uniV l)) b (by omega)
  generalize keyF k (uniV l) = w at *
  by_cases c7 : w = b
  ·rw [if_pos c7]
   rw [decide_eq_true c7] at heq
   simp only [KoR]
   refine run_goal (rs:=[.tmp 2,.tmp 3]) (ts:=[37,25]) Tryz.func20 rfl rfl rfl (by kernel_rfl) (by kernel_rfl) (.inl sp_20) (by simp [Tryz.f20]) ?_
   intro T hT
   simp -dsimp -implicitDefEqProofs (disch:=first|omega|assumption) [startSlots,nI,wI,ho,h1,h1',h1b,ht3',hM3,h2',hr',hg,c2,c2',x1,hb1,hr2',hg2,c4,c4',x2,hb2,hr3',wk,wk2,wn,hrd,hkw,heq]
   simpa -dsimp -implicitDefEqProofs (disch:=first|omega|assumption) [nI,wI,E] using hT
  ·rw [if_neg c7]
   rw [decide_eq_false c7] at heq
   simp only [KoR]
   refine run_goal (rs:=[.tmp 2,.tmp 3]) (ts:=[37,25]) Tryz.func20 rfl rfl rfl (by kernel_rfl) (by kernel_rfl) (.inl sp_20) (by simp [Tryz.f20]) ?_
   intro T hT
   simp -dsimp -implicitDefEqProofs (disch:=first|omega|assumption) [startSlots,nI,wI,ho,h1,h1',h1b,ht3',hM3,h2',hr',hg,c2,c2',x1,hb1,hr2',hg2,c4,c4',x2,hb2,hr3',wk,wk2,wn,hrd,hkw,heq]
   simpa -dsimp -implicitDefEqProofs (disch:=first|omega|assumption) [nI,wI,E] using hT
end Go.Am.Ab
