/- Files of keys. -/
import Derived.Test.YtlgdomajdebbdaaGreatDoorValsA
import Derived.Test.YtlgdomajdebbdaaGreatDoorVSortB
import Derived.Test.YtlgdomajdebbdaaGreatDoorSums
import Derived.Test.YtlgdomajdebbdaaGreatDoorColD
set_option linter.all false
namespace Go.Am.Ab
open Go.Proofs
set_option maxHeartbeats 8000000
set_option maxRecDepth 4000
theorem vs_map (wd : Nat → Val) (r : List Nat) : vs (r.map wd) = Str.Vs.ws wd r := by simp
def keyT (k n : Nat) (c : List UInt8) : List UInt8 := 75 :: 70 :: 49 :: (put k ++ (put n ++ c))
theorem kwrite_kind (k : Nat) (hk : k < 256) (h1 : ¬ k = 1) (h3 : ¬ k = 3) (X : List Val) : R 15 [.d (.int .u8 k),.d (.list (vs X))] [] = badW 10 := by
 have h1' : ¬ (k : Int) = 1 := by omega
 have h3' : ¬ (k : Int) = 3 := by omega
 unfold badW
 refine run_goal (rs:=[.tmp 4,.tmp 5]) (ts:=[24,25]) Tryz.func15 rfl rfl rfl (by kernel_rfl) (by kernel_rfl) (.inl sp_15) (by simp [Tryz.f15]) ?_
 intro T hT
 simp -dsimp -implicitDefEqProofs (disch:=first|omega|assumption) [startSlots,nI,wI,h1,h1',h3,h3']
 simpa -dsimp -implicitDefEqProofs (disch:=first|omega|assumption) [nI,wI,E] using hT
theorem uniV_length (l : List Val) : (uniV l).length ≤ l.length := by
 have h := congrArg List.length (uniC_map l)
 have := uniC_length (l.map cellOf)
 rw [List.length_map] at h this
 omega
theorem kwrite_odd1 (X : List Val) (hn : X.length ≤ 1000000) (ho : ∃ v ∈ X,v.kind ≠ 1) : R 15 [.d (.int .u8 1),.d (.list (vs X))] [] = badW 10 := by
 unfold badW
 refine run_goal (rs:=[.tmp 4,.tmp 5]) (ts:=[24,25]) Tryz.func15 rfl rfl rfl (by kernel_rfl) (by kernel_rfl) (.inl sp_15) (by simp [Tryz.f15]) ?_
 intro T hT
 simp -dsimp -implicitDefEqProofs (disch:=first|omega|assumption) [startSlots,nI,wI]
 generalize hz : loopT _ _ _ _ _ _ = z
 revert z
 refine loop_any (σ:=Nat) (fun i => [(0,.d (.int .u8 1)),(1,.d (.list (vs X))),(17,.d (.list (vs X))),(18,.d (.int .i64 X.length)),(19,.d (.int .i64 i))]) (fun i => []) (fun i => i ≤ X.length ∧ ∀ j,(hj : j < i) → (hl : j < X.length) → X[j].kind = 1) (fun i => X.length - i) 0 ?_ ?_ ?_
 ·exact ⟨Nat.zero_le _,fun j hj => by omega⟩
 ·simp -dsimp -implicitDefEqProofs (disch:=first|omega|assumption)
 intro T' f hT' i ⟨hi,hok⟩ ih
 by_cases h1 : i < X.length
 ·have hkd := kindOf_runs X[i]
  by_cases hv : X[i].kind = 1
  ·rw [hv] at hkd
   simp -dsimp -implicitDefEqProofs (disch:=first|omega|assumption) [nI,wI,h1,hkd]
   refine ih (i + 1) _ _ ⟨h1,fun j hj hl => ?_⟩ (by omega) (by simp -dsimp -implicitDefEqProofs (disch:=first|omega|assumption))
   by_cases c : j = i
   ·subst c; exact hv
   ·exact hok j (by omega) hl
  ·have hv' : ¬ (X[i].kind : Int) = 1 := by omega
   subst hT'
   simp -dsimp -implicitDefEqProofs (disch:=first|omega|assumption) [nI,wI,h1,hkd,hv,hv']
   simpa -dsimp -implicitDefEqProofs (disch:=first|omega|assumption) [nI,wI,E] using hT
 ·exfalso
  obtain ⟨v,hv,hne⟩ := ho
  obtain ⟨j,hj,rfl⟩ := List.mem_iff_getElem.1 hv
  exact hne (hok j (by omega) hj)
theorem kwrite_step1 (X : List Val) (hn : X.length ≤ 1024) (hX : ∀ v ∈ X,v.kind = 1) (c : List UInt8) (e : Nat) (hc : c.length ≤ 200000)
  (hw : R 64 [.d (.int .u8 1),.d (.list (vs (uniV X)))] [] = some ([.arr 0 c.length,E e],[.arr 1 (bytes c) 0])) :
  R 15 [.d (.int .u8 1),.d (.list (vs X))] [] = if e ≠ 0 then badW e else some ([.arr 0 (sealB (keyT 1 (uniV X).length c)).length,E 0],[.arr 1 (bytes (sealB (keyT 1 (uniV X).length c))) 0]) := by
 obtain ⟨wd,r,hwd,hr⟩ := ranksV X
 have hrl : r.length = X.length := by rw [← hr]; simp
 have hu : uniV X = (Str.uniq r).map wd := by rw [← hr]; exact uniV_map hwd r
 have hul0 := uniV_length X
 have hsu : vs (uniV X) = Str.Vs.ws wd (Str.uniq r) := by rw [hu]; exact vs_map wd _
 have hulen : (uniV X).length = (Str.uniq r).length := by rw [hu]; simp
 have h1 := Str.Vs.clone_runs hwd r (by omega)
 obtain ⟨s,h2,h3,h4⟩ := Str.Vs.sort_any hwd r (by omega)
 have hlen := h3.len
 have hus : Str.uniq s = Str.uniq r := Str.rises_ext (Str.uniq_rises _) (Str.uniq_rises _) fun y => by rw [Str.uniq_mem,Str.uniq_mem]; exact h3.perm.mem_iff
 rw [← hlen] at h4
 have hP := Str.Vs.compact_any hwd s h4 (by omega)
 unfold Str.Vs.Packs at hP
 rw [hus,hlen] at hP
 rw [hsu] at hw
 rw [hulen]
 obtain ⟨u,hue⟩ : ∃ u,u = Str.uniq r := ⟨_,rfl⟩
 have hul : u.length ≤ 1024 := by rw [hue,← hulen]; omega
 have hp1 := put_runs 1 (by omega)
 have hp2 := put_runs u.length (by omega)
 have hpl1 := put_len (n := 1) (by omega)
 have hpl2 := put_len (n := u.length) (by omega)
 have hsl : (keyT 1 u.length c).length < 1000000000 := by simp only [keyT,List.length_cons,List.length_append]; omega
 have hs := seal_runs (keyT 1 u.length c) hsl
 have hw1 : IntKind.u64.wrap (1 : Int) = 1 := wrap_u64 (by omega) (by omega)
 have hw2 : IntKind.u64.wrap (u.length : Int) = u.length := wrap_u64 (by omega) (by omega)
 rw [← hue] at hw hP ⊢
 have hXr : vs X = Str.Vs.ws wd r := by rw [← hr]; exact vs_map wd _
 have hkd : ∀ i,(h : i < r.length) → (wd r[i]).kind = 1 := fun i h => by
  have : X[i]'(by omega) = wd r[i] := by simp only [← hr,List.getElem_map]
  rw [← this]
  exact hX _ (List.getElem_mem _)
 rw [hXr]
 obtain ⟨sb,hsb⟩ : ∃ sb,sb = sealB (keyT 1 u.length c) := ⟨_,rfl⟩
 rw [← hsb] at hs ⊢
 unfold keyT at hs
 obtain ⟨pk,hpk⟩ : ∃ p,p = put 1 := ⟨_,rfl⟩
 obtain ⟨pn,hpn⟩ : ∃ p,p = put u.length := ⟨_,rfl⟩
 rw [← hpk] at hs hp1 hpl1
 rw [← hpn] at hs hp2 hpl2
 have hp1' : R 65 [.d (.int .u64 1)] [] = some ([.arr 0 pk.length],[.arr 1 (bytes pk) 0]) := hp1
 have hs' : R 66 [.d (.list (.int .u8 75 :: .int .u8 70 :: .int .u8 49 :: (bytes pk ++ (bytes pn ++ bytes c))))] [] = some ([.arr 0 sb.length],[.arr 1 (bytes sb) 0]) := by
  rw [← hs]
  simp [B]
 clear hs hsb hpk hpn hu hsu hus h3 h4 hulen hue hsl hr
 unfold badW
 obtain ⟨rr,hrr⟩ : ∃ rr,some rr = (if e ≠ 0 then some ([.arr 0 0,E e],[.arr 1 [] 0]) else some ([.arr 0 sb.length,E 0],[.arr 1 (bytes sb) 0]) : Option (List V × List Obj)) := by
  by_cases e0 : e ≠ 0
  ·exact ⟨_,by rw [if_pos e0]⟩
  ·exact ⟨_,by rw [if_neg e0]⟩
 rw [← hrr]
 refine run_goal (rs:=[.tmp 4,.tmp 5]) (ts:=[24,25]) Tryz.func15 rfl rfl rfl (by kernel_rfl) (by kernel_rfl) (.inl sp_15) (by simp [Tryz.f15]) ?_
 intro T hT
 simp -dsimp -implicitDefEqProofs (disch:=first|omega|assumption) [startSlots,nI,wI]
 rw [hrr] at hT
 generalize hz : loopT _ _ _ _ _ _ = z
 revert z
 refine loop_any (σ:=Nat) (fun i => [(0,.d (.int .u8 1)),(1,.d (.list (Str.Vs.ws wd r))),(17,.d (.list (Str.Vs.ws wd r))),(18,.d (.int .i64 r.length)),(19,.d (.int .i64 i))]) (fun i => []) (fun i => i ≤ r.length) (fun i => r.length - i) 0 ?_ ?_ ?_
 ·exact Nat.zero_le _
 ·simp -dsimp -implicitDefEqProofs (disch:=first|omega|assumption)
 intro T' f hT' i hi ih
 by_cases h5 : i < r.length
 ·have hk1 := hkd i h5
  have hk2 := kindOf_runs (wd r[i])
  rw [hk1] at hk2
  simp -dsimp -implicitDefEqProofs (disch:=first|omega|assumption) [nI,wI,h5,hk2]
  exact ih (i + 1) _ _ h5 (by omega) (by simp -dsimp -implicitDefEqProofs (disch:=first|omega|assumption))
 obtain rfl : i = r.length := by omega
 subst hT'
 clear ih hi h5
 by_cases e0 : e ≠ 0
 ·have e0' : ¬ (e : Int) = 0 := by omega
  rw [if_pos e0] at hT
  rcases hP with hP | ⟨m,hm,hP⟩
  ·simp -dsimp -implicitDefEqProofs (disch:=first|omega|assumption) [nI,wI,h1,h2,hP,hw,e0,e0']
   simpa -dsimp -implicitDefEqProofs (disch:=first|omega|assumption) [nI,wI,E] using hT
  ·have hm2 : (u.length + m.length) = r.length := hm
   have hm3 : List.take u.length (Str.Vs.ws wd u ++ m) = Str.Vs.ws wd u := by rw [List.take_append_of_le_length (by simp),List.take_of_length_le (by simp)]
   simp -dsimp -implicitDefEqProofs (disch:=first|omega|assumption) [nI,wI,h1,h2,hP,hw,e0,e0',hm2,hm3]
   simpa -dsimp -implicitDefEqProofs (disch:=first|omega|assumption) [nI,wI,E] using hT
 ·obtain rfl : e = 0 := by omega
  rw [if_neg e0] at hT
  rcases hP with hP | ⟨m,hm,hP⟩
  ·simp -dsimp -implicitDefEqProofs (disch:=first|omega|assumption) [nI,wI,h1,h2,hP,hw,hw1,hw2,hp1',hp2,hs']
   simpa -dsimp -implicitDefEqProofs (disch:=first|omega|assumption) [nI,wI,E] using hT
  ·have hm2 : (u.length + m.length) = r.length := hm
   have hm3 : List.take u.length (Str.Vs.ws wd u ++ m) = Str.Vs.ws wd u := by rw [List.take_append_of_le_length (by simp),List.take_of_length_le (by simp)]
   simp -dsimp -implicitDefEqProofs (disch:=first|omega|assumption) [nI,wI,h1,h2,hP,hw,hw1,hw2,hp1',hp2,hs',hm2,hm3]
   simpa -dsimp -implicitDefEqProofs (disch:=first|omega|assumption) [nI,wI,E] using hT
theorem kwrite_odd3 (X : List Val) (hn : X.length ≤ 1000000) (ho : ∃ v ∈ X,v.kind ≠ 3) : R 15 [.d (.int .u8 3),.d (.list (vs X))] [] = badW 10 := by
 unfold badW
 refine run_goal (rs:=[.tmp 4,.tmp 5]) (ts:=[24,25]) Tryz.func15 rfl rfl rfl (by kernel_rfl) (by kernel_rfl) (.inl sp_15) (by simp [Tryz.f15]) ?_
 intro T hT
 simp -dsimp -implicitDefEqProofs (disch:=first|omega|assumption) [startSlots,nI,wI]
 generalize hz : loopT _ _ _ _ _ _ = z
 revert z
 refine loop_any (σ:=Nat) (fun i => [(0,.d (.int .u8 3)),(1,.d (.list (vs X))),(17,.d (.list (vs X))),(18,.d (.int .i64 X.length)),(19,.d (.int .i64 i))]) (fun i => []) (fun i => i ≤ X.length ∧ ∀ j,(hj : j < i) → (hl : j < X.length) → X[j].kind = 3) (fun i => X.length - i) 0 ?_ ?_ ?_
 ·exact ⟨Nat.zero_le _,fun j hj => by omega⟩
 ·simp -dsimp -implicitDefEqProofs (disch:=first|omega|assumption)
 intro T' f hT' i ⟨hi,hok⟩ ih
 by_cases h1 : i < X.length
 ·have hkd := kindOf_runs X[i]
  by_cases hv : X[i].kind = 3
  ·rw [hv] at hkd
   simp -dsimp -implicitDefEqProofs (disch:=first|omega|assumption) [nI,wI,h1,hkd]
   refine ih (i + 1) _ _ ⟨h1,fun j hj hl => ?_⟩ (by omega) (by simp -dsimp -implicitDefEqProofs (disch:=first|omega|assumption))
   by_cases c : j = i
   ·subst c; exact hv
   ·exact hok j (by omega) hl
  ·have hv' : ¬ (X[i].kind : Int) = 3 := by omega
   subst hT'
   simp -dsimp -implicitDefEqProofs (disch:=first|omega|assumption) [nI,wI,h1,hkd,hv,hv']
   simpa -dsimp -implicitDefEqProofs (disch:=first|omega|assumption) [nI,wI,E] using hT
 ·exfalso
  obtain ⟨v,hv,hne⟩ := ho
  obtain ⟨j,hj,rfl⟩ := List.mem_iff_getElem.1 hv
  exact hne (hok j (by omega) hj)
theorem kwrite_step3 (X : List Val) (hn : X.length ≤ 1024) (hX : ∀ v ∈ X,v.kind = 3) (c : List UInt8) (e : Nat) (hc : c.length ≤ 200000)
  (hw : R 64 [.d (.int .u8 3),.d (.list (vs (uniV X)))] [] = some ([.arr 0 c.length,E e],[.arr 1 (bytes c) 0])) :
  R 15 [.d (.int .u8 3),.d (.list (vs X))] [] = if e ≠ 0 then badW e else some ([.arr 0 (sealB (keyT 3 (uniV X).length c)).length,E 0],[.arr 1 (bytes (sealB (keyT 3 (uniV X).length c))) 0]) := by
 obtain ⟨wd,r,hwd,hr⟩ := ranksV X
 have hrl : r.length = X.length := by rw [← hr]; simp
 have hu : uniV X = (Str.uniq r).map wd := by rw [← hr]; exact uniV_map hwd r
 have hul0 := uniV_length X
 have hsu : vs (uniV X) = Str.Vs.ws wd (Str.uniq r) := by rw [hu]; exact vs_map wd _
 have hulen : (uniV X).length = (Str.uniq r).length := by rw [hu]; simp
 have h1 := Str.Vs.clone_runs hwd r (by omega)
 obtain ⟨s,h2,h3,h4⟩ := Str.Vs.sort_any hwd r (by omega)
 have hlen := h3.len
 have hus : Str.uniq s = Str.uniq r := Str.rises_ext (Str.uniq_rises _) (Str.uniq_rises _) fun y => by rw [Str.uniq_mem,Str.uniq_mem]; exact h3.perm.mem_iff
 rw [← hlen] at h4
 have hP := Str.Vs.compact_any hwd s h4 (by omega)
 unfold Str.Vs.Packs at hP
 rw [hus,hlen] at hP
 rw [hsu] at hw
 rw [hulen]
 obtain ⟨u,hue⟩ : ∃ u,u = Str.uniq r := ⟨_,rfl⟩
 have hul : u.length ≤ 1024 := by rw [hue,← hulen]; omega
 have hp1 := put_runs 3 (by omega)
 have hp2 := put_runs u.length (by omega)
 have hpl1 := put_len (n := 3) (by omega)
 have hpl2 := put_len (n := u.length) (by omega)
 have hsl : (keyT 3 u.length c).length < 1000000000 := by simp only [keyT,List.length_cons,List.length_append]; omega
 have hs := seal_runs (keyT 3 u.length c) hsl
 have hw1 : IntKind.u64.wrap (3 : Int) = 3 := wrap_u64 (by omega) (by omega)
 have hw2 : IntKind.u64.wrap (u.length : Int) = u.length := wrap_u64 (by omega) (by omega)
 rw [← hue] at hw hP ⊢
 have hXr : vs X = Str.Vs.ws wd r := by rw [← hr]; exact vs_map wd _
 have hkd : ∀ i,(h : i < r.length) → (wd r[i]).kind = 3 := fun i h => by
  have : X[i]'(by omega) = wd r[i] := by simp only [← hr,List.getElem_map]
  rw [← this]
  exact hX _ (List.getElem_mem _)
 rw [hXr]
 obtain ⟨sb,hsb⟩ : ∃ sb,sb = sealB (keyT 3 u.length c) := ⟨_,rfl⟩
 rw [← hsb] at hs ⊢
 unfold keyT at hs
 obtain ⟨pk,hpk⟩ : ∃ p,p = put 3 := ⟨_,rfl⟩
 obtain ⟨pn,hpn⟩ : ∃ p,p = put u.length := ⟨_,rfl⟩
 rw [← hpk] at hs hp1 hpl1
 rw [← hpn] at hs hp2 hpl2
 have hp1' : R 65 [.d (.int .u64 3)] [] = some ([.arr 0 pk.length],[.arr 1 (bytes pk) 0]) := hp1
 have hs' : R 66 [.d (.list (.int .u8 75 :: .int .u8 70 :: .int .u8 49 :: (bytes pk ++ (bytes pn ++ bytes c))))] [] = some ([.arr 0 sb.length],[.arr 1 (bytes sb) 0]) := by
  rw [← hs]
  simp [B]
 clear hs hsb hpk hpn hu hsu hus h3 h4 hulen hue hsl hr
 unfold badW
 obtain ⟨rr,hrr⟩ : ∃ rr,some rr = (if e ≠ 0 then some ([.arr 0 0,E e],[.arr 1 [] 0]) else some ([.arr 0 sb.length,E 0],[.arr 1 (bytes sb) 0]) : Option (List V × List Obj)) := by
  by_cases e0 : e ≠ 0
  ·exact ⟨_,by rw [if_pos e0]⟩
  ·exact ⟨_,by rw [if_neg e0]⟩
 rw [← hrr]
 refine run_goal (rs:=[.tmp 4,.tmp 5]) (ts:=[24,25]) Tryz.func15 rfl rfl rfl (by kernel_rfl) (by kernel_rfl) (.inl sp_15) (by simp [Tryz.f15]) ?_
 intro T hT
 simp -dsimp -implicitDefEqProofs (disch:=first|omega|assumption) [startSlots,nI,wI]
 rw [hrr] at hT
 generalize hz : loopT _ _ _ _ _ _ = z
 revert z
 refine loop_any (σ:=Nat) (fun i => [(0,.d (.int .u8 3)),(1,.d (.list (Str.Vs.ws wd r))),(17,.d (.list (Str.Vs.ws wd r))),(18,.d (.int .i64 r.length)),(19,.d (.int .i64 i))]) (fun i => []) (fun i => i ≤ r.length) (fun i => r.length - i) 0 ?_ ?_ ?_
 ·exact Nat.zero_le _
 ·simp -dsimp -implicitDefEqProofs (disch:=first|omega|assumption)
 intro T' f hT' i hi ih
 by_cases h5 : i < r.length
 ·have hk1 := hkd i h5
  have hk2 := kindOf_runs (wd r[i])
  rw [hk1] at hk2
  simp -dsimp -implicitDefEqProofs (disch:=first|omega|assumption) [nI,wI,h5,hk2]
  exact ih (i + 1) _ _ h5 (by omega) (by simp -dsimp -implicitDefEqProofs (disch:=first|omega|assumption))
 obtain rfl : i = r.length := by omega
 subst hT'
 clear ih hi h5
 by_cases e0 : e ≠ 0
 ·have e0' : ¬ (e : Int) = 0 := by omega
  rw [if_pos e0] at hT
  rcases hP with hP | ⟨m,hm,hP⟩
  ·simp -dsimp -implicitDefEqProofs (disch:=first|omega|assumption) [nI,wI,h1,h2,hP,hw,e0,e0']
   simpa -dsimp -implicitDefEqProofs (disch:=first|omega|assumption) [nI,wI,E] using hT
  ·have hm2 : (u.length + m.length) = r.length := hm
   have hm3 : List.take u.length (Str.Vs.ws wd u ++ m) = Str.Vs.ws wd u := by rw [List.take_append_of_le_length (by simp),List.take_of_length_le (by simp)]
   simp -dsimp -implicitDefEqProofs (disch:=first|omega|assumption) [nI,wI,h1,h2,hP,hw,e0,e0',hm2,hm3]
   simpa -dsimp -implicitDefEqProofs (disch:=first|omega|assumption) [nI,wI,E] using hT
 ·obtain rfl : e = 0 := by omega
  rw [if_neg e0] at hT
  rcases hP with hP | ⟨m,hm,hP⟩
  ·simp -dsimp -implicitDefEqProofs (disch:=first|omega|assumption) [nI,wI,h1,h2,hP,hw,hw1,hw2,hp1',hp2,hs']
   simpa -dsimp -implicitDefEqProofs (disch:=first|omega|assumption) [nI,wI,E] using hT
  ·have hm2 : (u.length + m.length) = r.length := hm
   have hm3 : List.take u.length (Str.Vs.ws wd u ++ m) = Str.Vs.ws wd u := by rw [List.take_append_of_le_length (by simp),List.take_of_length_le (by simp)]
   simp -dsimp -implicitDefEqProofs (disch:=first|omega|assumption) [nI,wI,h1,h2,hP,hw,hw1,hw2,hp1',hp2,hs',hm2,hm3]
   simpa -dsimp -implicitDefEqProofs (disch:=first|omega|assumption) [nI,wI,E] using hT
end Go.Am.Ab
namespace Go.Am.Ab
open Go.Proofs
set_option maxHeartbeats 8000000
set_option maxRecDepth 4000
theorem uniV_good {k : Nat} {l : List Val} (g : Good k l) : Good k (uniV l) := fun v hv => g v (uniV_mem.1 hv)
def KoR : Nat ⊕ (Nat × List Val) → Option (List V × List Obj)
 | .inl e => some ([.d .nilP,E e],[])
 | .inr (k,l) => some ([.ptr 0 0,E 0],[.box [.d (.int .u8 k),.arr 1 l.length],.arr 1 (vs l) l.length])
end Go.Am.Ab
