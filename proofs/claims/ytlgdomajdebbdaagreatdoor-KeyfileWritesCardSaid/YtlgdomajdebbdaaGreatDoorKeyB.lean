/- Files of keys of the document. -/
import Derived.Test.YtlgdomajdebbdaaGreatDoorKeyA
import Derived.Test.YtlgdomajdebbdaaGreatDoorRColE
import Derived.Test.YtlgdomajdebbdaaGreatDoorWLaw1
set_option linter.all false
namespace Go.Am.Ab
open Go.Proofs
set_option maxHeartbeats 8000000
set_option maxRecDepth 4000
theorem celC_good {k : Nat} (hk : 1 ≤ k ∧ k ≤ 3) {X : List Val} (g : Good k X) : (∀ c ∈ X.map cellOf,chk c = 0) ∧ (∀ c ∈ X.map cellOf,isI64 c.n) ∧ (X.map cellOf).map valOf = X := by
 have key : ∀ v ∈ X,chk (cellOf v) = 0 ∧ isI64 (cellOf v).n := by
  intro v hv
  rcases g v hv with rfl | ⟨h1,h2,h3⟩
  ·exact ⟨rfl,by unfold isI64; decide⟩
  ·cases v with
   | null => exact ⟨rfl,by unfold isI64; decide⟩
   | whole n =>
    refine ⟨?_,h2 n rfl⟩
    unfold chk cellOf
    rw [if_neg (by simp),if_neg (by simp),if_neg (by simp [ByteArray.size])]
   | truth b => cases b <;> exact ⟨by decide,by unfold isI64; decide⟩
   | text s =>
    have hs := h3 s rfl
    refine ⟨?_,by show isI64 0; unfold isI64; omega⟩
    unfold chk cellOf
    rw [if_neg (by simp),if_neg (by simp),if_neg (by simp only; omega)]
 refine ⟨fun c hc => ?_,fun c hc => ?_, ?_⟩
 ·obtain ⟨v,hv,rfl⟩ := List.mem_map.1 hc
  exact (key v hv).1
 ·obtain ⟨v,hv,rfl⟩ := List.mem_map.1 hc
  exact (key v hv).2
 ·rw [List.map_map]
  conv => rhs; rw [← List.map_id X]
  apply List.map_congr_left
  intro v hv
  exact (val_cell (g v hv)).1
theorem cell_kind (v : Val) : (cellOf v).kind = v.kind := by cases v <;> rfl
theorem rkwrite_kind (k : Nat) (hk : k < 256) (h1 : ¬ k = 1) (h3 : ¬ k = 3) (l : List Cel) : R 17 [.d (.int .i64 k),.d (.list (ce l))] [] = badW 10 := by
 have h1' : ¬ (k : Int) = 1 := by omega
 have h3' : ¬ (k : Int) = 3 := by omega
 unfold badW
 refine run_goal (rs:=[.tmp 4,.tmp 5]) (ts:=[24,3]) Tryz.func17 rfl rfl rfl (by kernel_rfl) (by kernel_rfl) (.inl sp_17) (by simp [Tryz.f17]) ?_
 intro T hT
 simp -dsimp -implicitDefEqProofs (disch:=first|omega|assumption) [startSlots,nI,wI,h1,h1',h3,h3']
 simpa -dsimp -implicitDefEqProofs (disch:=first|omega|assumption) [nI,wI,E] using hT
theorem rkwrite_odd (k : Nat) (h13 : k = 1 ∨ k = 3) (l : List Cel) (hl : ∀ c ∈ l,c.kind < 256) (hn : l.length ≤ 1000000) (ho : ∃ c ∈ l,c.kind ≠ k) : R 17 [.d (.int .i64 k),.d (.list (ce l))] [] = badW 10 := by
 unfold badW
 obtain ⟨kb,hkb⟩ : ∃ z : Int,z = k := ⟨_,rfl⟩
 rw [← hkb]
 have hc1 : (if kb = 1 then false else decide (¬ kb = 3)) = false := by rcases h13 with e | e <;> simp [hkb,e]
 have main : ∀ k1 : Bool,decide (kb = 1) = k1 → R 17 [.d (.int .i64 kb),.d (.list (ce l))] [] = some ([.arr 0 0,E 10],[.arr 1 [] 0]) := by
  intro k1 hk1
  cases k1
  all_goals
   simp only [decide_eq_true_eq,decide_eq_false_iff_not] at hk1
   have hk3 : kb = 1 ∨ kb = 3 := by omega
  ·have hk3' : kb = 3 := by omega
   subst hk3'
   refine run_goal (rs:=[.tmp 4,.tmp 5]) (ts:=[24,3]) Tryz.func17 rfl rfl rfl (by kernel_rfl) (by kernel_rfl) (.inl sp_17) (by simp [Tryz.f17]) ?_
   intro T hT
   simp -dsimp -implicitDefEqProofs (disch:=first|omega|assumption) [startSlots,nI,wI]
   generalize hz : loopT _ _ _ _ _ _ = z
   revert z
   refine loop_any (σ:=Nat) (fun i => [(0,.d (.int .i64 3)),(1,.d (.list (ce l))),(6,.d (.int .i64 i))]) (fun i => []) (fun i => i ≤ l.length ∧ ∀ j,(hj : j < i) → (hl : j < l.length) → l[j].kind = k) (fun i => l.length - i) 0 ?_ ?_ ?_
   ·exact ⟨Nat.zero_le _,fun j hj => by omega⟩
   ·simp -dsimp -implicitDefEqProofs (disch:=first|omega|assumption)
   intro T' f hT' i ⟨hi,hok⟩ ih
   by_cases h1 : i < l.length
   ·have hc := hl l[i] (List.getElem_mem _)
    by_cases hv : l[i].kind = k
    ·have hx0 := hv
     obtain ⟨⟨ck,n,s⟩,hx⟩ : ∃ x,x = l[i] := ⟨_,rfl⟩
     have gx := hx.symm
     rw [← hx] at hc hx0
     simp only at hc hx0
     have hw : IntKind.i64.wrap (ck : Int) = 3 := by rw [wI (by omega) (by omega)]; omega
     simp -dsimp -implicitDefEqProofs (disch:=first|omega|assumption) [nI,wI,h1,gx,Cel.d,hw]
     refine ih (i + 1) _ _ ⟨h1,fun j hj hl2 => ?_⟩ (by omega) (by simp -dsimp -implicitDefEqProofs (disch:=first|omega|assumption))
     by_cases c : j = i
     ·subst c; exact hv
     ·exact hok j (by omega) hl2
    ·have hx0 := hv
     obtain ⟨⟨ck,n,s⟩,hx⟩ : ∃ x,x = l[i] := ⟨_,rfl⟩
     have gx := hx.symm
     rw [← hx] at hc hx0
     simp only at hc hx0
     have hw : IntKind.i64.wrap (ck : Int) = ck := wI (by omega) (by omega)
     have hne : ¬ (ck : Int) = 3 := by omega
     have hne' : ¬ ck = 3 := by omega
     subst hT'
     simp -dsimp -implicitDefEqProofs (disch:=first|omega|assumption) [nI,wI,h1,gx,Cel.d,hw,hne,hne']
     simpa -dsimp -implicitDefEqProofs (disch:=first|omega|assumption) [nI,wI,E] using hT
   ·exfalso
    obtain ⟨v,hv,hne⟩ := ho
    obtain ⟨j,hj,rfl⟩ := List.mem_iff_getElem.1 hv
    exact hne (hok j (by omega) hj)
  ·subst hk1
   refine run_goal (rs:=[.tmp 4,.tmp 5]) (ts:=[24,3]) Tryz.func17 rfl rfl rfl (by kernel_rfl) (by kernel_rfl) (.inl sp_17) (by simp [Tryz.f17]) ?_
   intro T hT
   simp -dsimp -implicitDefEqProofs (disch:=first|omega|assumption) [startSlots,nI,wI]
   generalize hz : loopT _ _ _ _ _ _ = z
   revert z
   refine loop_any (σ:=Nat) (fun i => [(0,.d (.int .i64 1)),(1,.d (.list (ce l))),(6,.d (.int .i64 i))]) (fun i => []) (fun i => i ≤ l.length ∧ ∀ j,(hj : j < i) → (hl : j < l.length) → l[j].kind = k) (fun i => l.length - i) 0 ?_ ?_ ?_
   ·exact ⟨Nat.zero_le _,fun j hj => by omega⟩
   ·simp -dsimp -implicitDefEqProofs (disch:=first|omega|assumption)
   intro T' f hT' i ⟨hi,hok⟩ ih
   by_cases h1 : i < l.length
   ·have hc := hl l[i] (List.getElem_mem _)
    by_cases hv : l[i].kind = k
    ·have hx0 := hv
     obtain ⟨⟨ck,n,s⟩,hx⟩ : ∃ x,x = l[i] := ⟨_,rfl⟩
     have gx := hx.symm
     rw [← hx] at hc hx0
     simp only at hc hx0
     have hw : IntKind.i64.wrap (ck : Int) = 1 := by rw [wI (by omega) (by omega)]; omega
     simp -dsimp -implicitDefEqProofs (disch:=first|omega|assumption) [nI,wI,h1,gx,Cel.d,hw]
     refine ih (i + 1) _ _ ⟨h1,fun j hj hl2 => ?_⟩ (by omega) (by simp -dsimp -implicitDefEqProofs (disch:=first|omega|assumption))
     by_cases c : j = i
     ·subst c; exact hv
     ·exact hok j (by omega) hl2
    ·have hx0 := hv
     obtain ⟨⟨ck,n,s⟩,hx⟩ : ∃ x,x = l[i] := ⟨_,rfl⟩
     have gx := hx.symm
     rw [← hx] at hc hx0
     simp only at hc hx0
     have hw : IntKind.i64.wrap (ck : Int) = ck := wI (by omega) (by omega)
     have hne : ¬ (ck : Int) = 1 := by omega
     have hne' : ¬ ck = 1 := by omega
     subst hT'
     simp -dsimp -implicitDefEqProofs (disch:=first|omega|assumption) [nI,wI,h1,gx,Cel.d,hw,hne,hne']
     simpa -dsimp -implicitDefEqProofs (disch:=first|omega|assumption) [nI,wI,E] using hT
   ·exfalso
    obtain ⟨v,hv,hne⟩ := ho
    obtain ⟨j,hj,rfl⟩ := List.mem_iff_getElem.1 hv
    exact hne (hok j (by omega) hj)
 exact main _ rfl
end Go.Am.Ab
namespace Go.Am.Ab
open Go.Proofs
set_option maxHeartbeats 8000000
set_option maxRecDepth 4000
theorem rkwrite_step1 (l : List Cel) (hn : l.length ≤ 1024) (hX : ∀ c ∈ l,c.kind = 1) (c : List UInt8) (e : Nat) (hc : c.length ≤ 1000000)
  (hw : R 67 [.d (.int .i64 1),.d (.list (ce (uniC l)))] [] = some ([.arr 0 c.length,E e],[.arr 1 (bytes c) 0])) :
  R 17 [.d (.int .i64 1),.d (.list (ce l))] [] = if e ≠ 0 then badW e else some ([.arr 0 (sealB (keyT 1 (uniC l).length c)).length,E 0],[.arr 1 (bytes (sealB (keyT 1 (uniC l).length c))) 0]) := by
 obtain ⟨w,hs0⟩ := rsort_any l (by omega)
 have hul0 := uniC_length l
 obtain ⟨u,hue⟩ : ∃ u,u = uniC l := ⟨_,rfl⟩
 rw [← hue] at hs0 hw hul0 ⊢
 have hp2 := rput_runs u.length (by omega)
 have hpl2 := put_len (n := u.length) (by omega)
 have hpk : put 1 = [1] := by rw [put_lt (by omega)]; rfl
 have hsl : (keyT 1 u.length c).length < 1000000000 := by simp only [keyT,hpk,List.length_cons,List.length_append,List.length_nil]; omega
 have hs := rseal_runs (keyT 1 u.length c) hsl
 have hw1 : IntKind.u8.wrap (1 : Int) = 1 := wrap_u8 (by omega) (by omega)
 have hw2 : IntKind.u64.wrap (u.length : Int) = u.length := wrap_u64 (by omega) (by omega)
 obtain ⟨sb,hsb⟩ : ∃ sb,sb = sealB (keyT 1 u.length c) := ⟨_,rfl⟩
 rw [← hsb] at hs ⊢
 unfold keyT at hs
 rw [hpk] at hs
 obtain ⟨pn,hpn⟩ : ∃ p,p = put u.length := ⟨_,rfl⟩
 rw [← hpn] at hs hp2 hpl2
 have hs' : R 31 [.d (.list (.int .u8 75 :: .int .u8 70 :: .int .u8 49 :: .int .u8 1 :: (bytes pn ++ bytes c)))] [] = some ([.arr 0 sb.length],[.arr 1 (bytes sb) 0]) := by
  rw [← hs]
  simp [B]
 clear hs hsb hpn hue hsl hpk
 unfold badW
 obtain ⟨rr,hrr⟩ : ∃ rr,some rr = (if e ≠ 0 then some ([.arr 0 0,E e],[.arr 1 [] 0]) else some ([.arr 0 sb.length,E 0],[.arr 1 (bytes sb) 0]) : Option (List V × List Obj)) := by
  by_cases e0 : e ≠ 0
  ·exact ⟨_,by rw [if_pos e0]⟩
  ·exact ⟨_,by rw [if_neg e0]⟩
 rw [← hrr]
 refine run_goal (rs:=[.tmp 4,.tmp 5]) (ts:=[24,3]) Tryz.func17 rfl rfl rfl (by kernel_rfl) (by kernel_rfl) (.inl sp_17) (by simp [Tryz.f17]) ?_
 intro T hT
 simp -dsimp -implicitDefEqProofs (disch:=first|omega|assumption) [startSlots,nI,wI]
 rw [hrr] at hT
 generalize hz : loopT _ _ _ _ _ _ = z
 revert z
 refine loop_any (σ:=Nat) (fun i => [(0,.d (.int .i64 1)),(1,.d (.list (ce l))),(6,.d (.int .i64 i))]) (fun i => []) (fun i => i ≤ l.length) (fun i => l.length - i) 0 ?_ ?_ ?_
 ·exact Nat.zero_le _
 ·simp -dsimp -implicitDefEqProofs (disch:=first|omega|assumption)
 intro T' f hT' i hi ih
 by_cases h5 : i < l.length
 ·have hk1 := hX l[i] (List.getElem_mem _)
  obtain ⟨⟨ck,n,s⟩,hx⟩ : ∃ x,x = l[i] := ⟨_,rfl⟩
  have gx := hx.symm
  rw [← hx] at hk1
  simp only at hk1
  subst hk1
  have hwk : IntKind.i64.wrap ((1 : Nat) : Int) = 1 := wI (by omega) (by omega)
  have hwk' : IntKind.i64.wrap (1 : Int) = 1 := wI (by omega) (by omega)
  simp -dsimp -implicitDefEqProofs (disch:=first|omega|assumption) [nI,wI,h5,gx,Cel.d,hwk,hwk']
  exact ih (i + 1) _ _ h5 (by omega) (by simp -dsimp -implicitDefEqProofs (disch:=first|omega|assumption))
 obtain rfl : i = l.length := by omega
 subst hT'
 clear ih hi h5
 by_cases e0 : e ≠ 0
 ·have e0' : ¬ (e : Int) = 0 := by omega
  rw [if_pos e0] at hT
  simp -dsimp -implicitDefEqProofs (disch:=first|omega|assumption) [nI,wI,hs0,hw,e0,e0']
  simpa -dsimp -implicitDefEqProofs (disch:=first|omega|assumption) [nI,wI,E] using hT
 ·obtain rfl : e = 0 := by omega
  rw [if_neg e0] at hT
  simp -dsimp -implicitDefEqProofs (disch:=first|omega|assumption) [nI,wI,hs0,hw,hw1,hw2,hp2,hs']
  simpa -dsimp -implicitDefEqProofs (disch:=first|omega|assumption) [nI,wI,E] using hT
theorem rkwrite_step3 (l : List Cel) (hn : l.length ≤ 1024) (hX : ∀ c ∈ l,c.kind = 3) (c : List UInt8) (e : Nat) (hc : c.length ≤ 1000000)
  (hw : R 67 [.d (.int .i64 3),.d (.list (ce (uniC l)))] [] = some ([.arr 0 c.length,E e],[.arr 1 (bytes c) 0])) :
  R 17 [.d (.int .i64 3),.d (.list (ce l))] [] = if e ≠ 0 then badW e else some ([.arr 0 (sealB (keyT 3 (uniC l).length c)).length,E 0],[.arr 1 (bytes (sealB (keyT 3 (uniC l).length c))) 0]) := by
 obtain ⟨w,hs0⟩ := rsort_any l (by omega)
 have hul0 := uniC_length l
 obtain ⟨u,hue⟩ : ∃ u,u = uniC l := ⟨_,rfl⟩
 rw [← hue] at hs0 hw hul0 ⊢
 have hp2 := rput_runs u.length (by omega)
 have hpl2 := put_len (n := u.length) (by omega)
 have hpk : put 3 = [3] := by rw [put_lt (by omega)]; rfl
 have hsl : (keyT 3 u.length c).length < 1000000000 := by simp only [keyT,hpk,List.length_cons,List.length_append,List.length_nil]; omega
 have hs := rseal_runs (keyT 3 u.length c) hsl
 have hw1 : IntKind.u8.wrap (3 : Int) = 3 := wrap_u8 (by omega) (by omega)
 have hw2 : IntKind.u64.wrap (u.length : Int) = u.length := wrap_u64 (by omega) (by omega)
 obtain ⟨sb,hsb⟩ : ∃ sb,sb = sealB (keyT 3 u.length c) := ⟨_,rfl⟩
 rw [← hsb] at hs ⊢
 unfold keyT at hs
 rw [hpk] at hs
 obtain ⟨pn,hpn⟩ : ∃ p,p = put u.length := ⟨_,rfl⟩
 rw [← hpn] at hs hp2 hpl2
 have hs' : R 31 [.d (.list (.int .u8 75 :: .int .u8 70 :: .int .u8 49 :: .int .u8 3 :: (bytes pn ++ bytes c)))] [] = some ([.arr 0 sb.length],[.arr 1 (bytes sb) 0]) := by
  rw [← hs]
  simp [B]
 clear hs hsb hpn hue hsl hpk
 unfold badW
 obtain ⟨rr,hrr⟩ : ∃ rr,some rr = (if e ≠ 0 then some ([.arr 0 0,E e],[.arr 1 [] 0]) else some ([.arr 0 sb.length,E 0],[.arr 1 (bytes sb) 0]) : Option (List V × List Obj)) := by
  by_cases e0 : e ≠ 0
  ·exact ⟨_,by rw [if_pos e0]⟩
  ·exact ⟨_,by rw [if_neg e0]⟩
 rw [← hrr]
 refine run_goal (rs:=[.tmp 4,.tmp 5]) (ts:=[24,3]) Tryz.func17 rfl rfl rfl (by kernel_rfl) (by kernel_rfl) (.inl sp_17) (by simp [Tryz.f17]) ?_
 intro T hT
 simp -dsimp -implicitDefEqProofs (disch:=first|omega|assumption) [startSlots,nI,wI]
 rw [hrr] at hT
 generalize hz : loopT _ _ _ _ _ _ = z
 revert z
 refine loop_any (σ:=Nat) (fun i => [(0,.d (.int .i64 3)),(1,.d (.list (ce l))),(6,.d (.int .i64 i))]) (fun i => []) (fun i => i ≤ l.length) (fun i => l.length - i) 0 ?_ ?_ ?_
 ·exact Nat.zero_le _
 ·simp -dsimp -implicitDefEqProofs (disch:=first|omega|assumption)
 intro T' f hT' i hi ih
 by_cases h5 : i < l.length
 ·have hk1 := hX l[i] (List.getElem_mem _)
  obtain ⟨⟨ck,n,s⟩,hx⟩ : ∃ x,x = l[i] := ⟨_,rfl⟩
  have gx := hx.symm
  rw [← hx] at hk1
  simp only at hk1
  subst hk1
  have hwk : IntKind.i64.wrap ((3 : Nat) : Int) = 3 := wI (by omega) (by omega)
  have hwk' : IntKind.i64.wrap (3 : Int) = 3 := wI (by omega) (by omega)
  simp -dsimp -implicitDefEqProofs (disch:=first|omega|assumption) [nI,wI,h5,gx,Cel.d,hwk,hwk']
  exact ih (i + 1) _ _ h5 (by omega) (by simp -dsimp -implicitDefEqProofs (disch:=first|omega|assumption))
 obtain rfl : i = l.length := by omega
 subst hT'
 clear ih hi h5
 by_cases e0 : e ≠ 0
 ·have e0' : ¬ (e : Int) = 0 := by omega
  rw [if_pos e0] at hT
  simp -dsimp -implicitDefEqProofs (disch:=first|omega|assumption) [nI,wI,hs0,hw,e0,e0']
  simpa -dsimp -implicitDefEqProofs (disch:=first|omega|assumption) [nI,wI,E] using hT
 ·obtain rfl : e = 0 := by omega
  rw [if_neg e0] at hT
  simp -dsimp -implicitDefEqProofs (disch:=first|omega|assumption) [nI,wI,hs0,hw,hw1,hw2,hp2,hs']
  simpa -dsimp -implicitDefEqProofs (disch:=first|omega|assumption) [nI,wI,E] using hT
end Go.Am.Ab
namespace Go.Am.Ab
open Go.Proofs
set_option maxHeartbeats 8000000
set_option maxRecDepth 4000
end Go.Am.Ab
