/- Columns, read. -/
import Derived.Test.YtlgdomajdebbdaaGreatDoorParsing
import Derived.Test.YtlgdomajdebbdaaGreatDoorColB
import Derived.Test.YtlgdomajdebbdaaGreatDoorColC
set_option linter.all false
namespace Go.Am.Ab
open Go.Proofs
set_option maxHeartbeats 4000000
set_option maxRecDepth 4000
def keepFrz (p : Option (D × List Am.Obj)) (t : Nat) (s : Slots) (h : List Am.Obj) (r : List (Nat × Nat)) : Slots × List Am.Obj :=
 match p with
 | some (x,h0) => let (s1,h1) := keepSlots s h0 r; ((t,.d x) :: s1,h1)
 | none => keepSlots s h r
@[simp] theorem keepFrz_some (x : D) (h0 h : List Am.Obj) (t : Nat) (s : Slots) (r : List (Nat × Nat)) : keepFrz (some (x,h0)) t s h r = bind1 (keepSlots s h0 r) (fun p => ((t,.d x) :: p.1,p.2)) ⟨⟩ := rfl
@[simp] theorem keepSlots_frz {s : Slots} {h : List Am.Obj} {sz : Nat} {r : List (Nat × Nat)} : keepSlots s h ((1000015,sz) :: r) = keepFrz (pureV h (sget s 15)) 15 s h r := by
 have key : ∀ t,keepSlots s h ((t + 1000000,sz) :: r) = keepFrz (pureV h (sget s t)) t s h r := by
  intro t
  conv => lhs; unfold keepSlots
  rw [if_neg (by omega),Nat.add_sub_cancel]
  unfold keepFrz
  cases pureV h (sget s t) <;> rfl
 exact key 15
abbrev uz (l : List Int) : List D := l.map fun n => D.int .u64 n
@[simp] theorem allSize_repU (x : Int) : ∀ n,allSize 1 (List.replicate n (D.int .u64 x)) = true
 | 0 => rfl
 | n + 1 => by simp [List.replicate_succ,allSize_repU x n]
@[simp] theorem allSize_uz (l : List Int) : allSize 1 (l.map fun n => D.int .u64 n) = true := allSize_map l fun _ => rfl
@[simp] theorem allSize_ucc (l : List Nat) : allSize 1 (l.map fun (n : Nat) => D.int .u64 (n : Int)) = true := allSize_map l fun _ => rfl
theorem repeatU_runs (x : Int) (n : Nat) (hn : n ≤ 256) : R 189 [.arr 0 1,.d (.int .i64 n)] [.arr 1 [.int .u64 x] 0] = some ([.arr 1 n],[.arr 1 [.int .u64 x] 0,.arr 1 (uz (List.replicate n x)) 0]) := by
 have hm := mul_one_runs n hn
 have hw : IntKind.u64.wrap (n : Int) = n := wrap_u64 (by omega) (by omega)
 have hw1 : IntKind.u64.wrap 1 = 1 := wrap_u64 (by omega) (by omega)
 have hn0 : ¬ (n : Int) < 0 := by omega
 have hfit : ¬ (9223372036854775807 : Int) < n := by omega
 have hqi : IntKind.i64.wrap (n : Int) = n := wI (by omega) (by omega)
 by_cases h0 : n = 0
 ·subst h0
  rw [show ((0 : Nat) : Int) = 0 from rfl] at *
  refine run_goal (rs:=[.tmp 4]) (ts:=[188]) Tryz.func189 rfl rfl rfl (by kernel_rfl) (by kernel_rfl) (.inl sp_189) (by simp [Tryz.f189]) ?_
  intro T hT
  simp -dsimp -implicitDefEqProofs (disch:=first|omega|assumption) [startSlots,nI,wI,hm,hw,hw1]
  generalize hz : loopT _ _ _ _ _ _ = z
  revert z
  refine loop_any (σ:=Unit) (fun _ => [(7,.arr 1 0),(8,.d (.int .i64 0))]) (fun _ => [.arr 1 [.int .u64 x] 0,.arr 1 [] 0]) (fun _ => True) (fun _ => 0) () ?_ ?_ ?_
  ·trivial
  ·simp -dsimp -implicitDefEqProofs (disch:=first|omega|assumption)
  intro T' f hT' _ _ ih
  subst hT'
  simp -dsimp -implicitDefEqProofs (disch:=first|omega|assumption) [nI,wI]
  simpa -dsimp -implicitDefEqProofs (disch:=first|omega|assumption) [nI,wI] using hT
 ·have h0' : ¬ (n : Int) = 0 := by omega
  have hmin : min 1 n = 1 := by omega
  have hpos : 0 < n := by omega
  have hfl : ∀ j,j ≤ n → (filled x n j).length = n := fun j hj => by simp [filled]; omega
  have htk : List.take n [D.int .u64 x] = [D.int .u64 x] := List.take_of_length_le (by simp; omega)
  refine run_goal (rs:=[.tmp 4]) (ts:=[188]) Tryz.func189 rfl rfl rfl (by kernel_rfl) (by kernel_rfl) (.inl sp_189) (by simp [Tryz.f189]) ?_
  intro T hT
  simp -dsimp -implicitDefEqProofs (disch:=first|omega|assumption) [startSlots,nI,wI,hm,hw,hw1,hn0,hfit,hqi,h0,h0',hmin,hpos,htk]
  generalize hz : loopT _ _ _ _ _ _ = z
  revert z
  refine loop_any (σ:=Nat) (fun j => [(7,.arr 1 n),(8,.d (.int .i64 j))]) (fun j => [.arr 1 [.int .u64 x] 0,.arr 1 (uz (filled x n j)) 0]) (fun j => 0 < j ∧ j ≤ n) (fun j => n - j) 1 ?_ ?_ ?_
  ·omega
  ·simp -dsimp -implicitDefEqProofs (disch:=first|omega|assumption) [filled]
  intro T' f hT' j ⟨hj0,hj⟩ ih
  have hfj := hfl j hj
  by_cases h1 : j < n
  ·have h1' : (j : Int) < n := by omega
   have hnj : ¬ 0 = n := by omega
   have hjle : j ≤ n := hj
   obtain ⟨k,hk⟩ : ∃ k,k = min (n - j) j := ⟨_,rfl⟩
   have hk' : min (n - j) j = k := hk.symm
   have hk2 : min j (n - j) = k := by omega
   have hA : List.take j (List.map (fun n => D.int .u64 n) (filled x n j)) = List.replicate j (D.int .u64 x) := by
    unfold filled
    rw [List.map_append,List.take_append_of_le_length (by simp),List.take_of_length_le (by simp)]; simp
   have hC : List.drop (j + k) (List.map (fun n => D.int .u64 n) (filled x n j)) = List.replicate (n - j - k) (D.int .u64 0) := by
    unfold filled
    rw [List.map_append,List.drop_append,List.drop_of_length_le (by simp),List.nil_append]
    simp
   have hD : List.replicate j (D.int .u64 x) ++ (List.replicate k (D.int .u64 x) ++ List.replicate (n - j - k) (D.int .u64 0)) = List.map (fun n => D.int .u64 n) (filled x n (j + k)) := by
    unfold filled
    rw [← List.append_assoc,List.replicate_append_replicate,show n - (j + k) = n - j - k by omega]
    simp
   simp -dsimp -implicitDefEqProofs (disch:=first|omega|assumption) [nI,wI,h1,h1',hfj,hnj,hjle,hA,hk',hk2,hC,hD]
   have hnjk : n - (j + k) = n - j - k := by omega
   exact ih (j + k) _ _ (by omega) (by omega) (by simp -dsimp -implicitDefEqProofs (disch:=first|omega|assumption) [filled,hnjk])
  ·have hjn : j = n := by omega
   have hff : filled x n n = List.replicate n x := by simp [filled]
   subst hT'
   rw [hjn,hff]
   simp -dsimp -implicitDefEqProofs (disch:=first|omega|assumption) [nI,wI]
   simpa -dsimp -implicitDefEqProofs (disch:=first|omega|assumption) [nI,wI] using hT
def pHeadC (n : Nat) (b : List UInt8) : PR (List Nat) :=
 match b with
 | [] => .err 30
 | c :: r =>
  if 1 < c.toNat then .err 40
  else if c.toNat = 1 then
   if r.length < (n + 7) / 8 then .err 30
   else if (unpackC (r.take ((n + 7) / 8)) n).2 ≠ 0 then .err (unpackC (r.take ((n + 7) / 8)) n).2
   else .ok (unpackC (r.take ((n + 7) / 8)) n).1 (r.drop ((n + 7) / 8))
  else .ok (List.replicate n 1) r
def scat : List Nat → List Val → List Val
 | [],_ => []
 | x :: t,own => if x = 1 then own.headD .null :: scat t own.tail else .null :: scat t own
def readC (k n : Nat) (b : List UInt8) : List Val × Nat :=
 match pHeadC n b with
 | .err e => ([],e)
 | .ok th r => if (valuesC k th.sum r).2 ≠ 0 then ([],(valuesC k th.sum r).2) else (scat th (valuesC k th.sum r).1,0)
theorem scat_length : ∀ (th : List Nat) (own : List Val),(scat th own).length = th.length
 | [],_ => rfl
 | x :: t,own => by
  unfold scat
  split <;> simp [scat_length t]
def outD (l : List Val) (n : Nat) : List D := vs l ++ List.replicate (n - l.length) .nilI
theorem outD_nil (n : Nat) : outD [] n = List.replicate n .nilI := by simp [outD]
theorem outD_length {l : List Val} {n : Nat} (h : l.length ≤ n) : (outD l n).length = n := by simp [outD]; omega
theorem outD_get {l : List Val} {n : Nat} (h : l.length < n) : (outD l n)[l.length]? = some .nilI := by
 rw [outD,List.getElem?_append_right (by simp),List.length_map,Nat.sub_self,List.getElem?_replicate,if_pos (by omega)]
theorem outD_set {l : List Val} {n : Nat} (h : l.length < n) (v : Val) : (outD l n).set l.length v.d = outD (l ++ [v]) n := by
 have e : n - l.length = (n - (l.length + 1)) + 1 := by omega
 have hl : (vs l).length = l.length := by simp
 rw [outD,outD,e,List.replicate_succ,List.set_append_right _ _ (by omega),hl,Nat.sub_self,List.set_cons_zero,List.length_append,List.length_singleton]
 simp
theorem outD_null {l : List Val} {n : Nat} (h : l.length < n) : outD l n = outD (l ++ [.null]) n := by
 have e : n - l.length = (n - (l.length + 1)) + 1 := by omega
 rw [outD,outD,e,List.replicate_succ,List.length_append,List.length_singleton]
 simp [Val.d]
theorem outD_end {l : List Val} {n : Nat} (h : l.length = n) : outD l n = vs l := by simp [outD,h]
theorem sum_take {l : List Nat} {i : Nat} (h : i < l.length) : (l.take (i + 1)).sum = (l.take i).sum + l[i] := by
 rw [take_snoc h,List.sum_append]; simp
theorem sum_le {l : List Nat} (h : ∀ x ∈ l,x ≤ 1) : l.sum ≤ l.length := by
 induction l with
 | nil => simp
 | cons x r ih =>
  have h1 := h x (by simp)
  have h2 := ih fun y hy => h y (by simp [hy])
  simp only [List.sum_cons,List.length_cons]; omega
theorem pTexts_len : ∀ {sz : List Int} {b rest : List UInt8} {l : List ByteArray},pTexts sz b = .ok l rest → l.length = sz.length
 | [],b,rest,l,h => by simp [pTexts] at h; simp [← h.1]
 | k :: r,b,rest,l,h => by
  unfold pTexts at h
  split at h
  ·simp at h
  ·split at h
   ·simp at h
   ·cases hp : pTexts r (b.drop k.toNat) with
    | err e' => rw [hp] at h; simp at h
    | ok l2 r2 =>
     rw [hp] at h
     simp at h
     rw [← h.1]; simp [pTexts_len hp]
theorem readI_ok {b : List UInt8} {n : Int} (h : (readI b n).2 = 0) : ((readI b n).1.length : Int) = n ∧ ∀ x ∈ (readI b n).1,isI64 x := by
 unfold readI at h ⊢
 split at h
 ·simp at h
 ·rename_i hn
  rw [if_neg hn]
  cases b with
  | nil => simp at h
  | cons c r =>
   simp only at h ⊢
   split at h
   ·simp at h
   ·rename_i hc
    rw [if_neg hc]
    unfold pEnd at h ⊢
    cases hp : pList c.toNat n.toNat r with
    | err e => rw [hp] at h; simp only at h ⊢; exact absurd h (pList_err hp)
    | ok l r2 =>
     rw [hp] at h
     simp only at h ⊢
     split at h
     ·simp at h
     ·rename_i h2
      rw [if_neg h2]
      split at h
      ·rename_i h3
       rw [if_pos h3]
       have := pList_is hp
       exact ⟨by simp only; omega,this.2⟩
      ·simp at h
theorem pCut_len {n : Int} {b rest : List UInt8} {l : List ByteArray} (h : pCut n b = .ok l rest) : (l.length : Int) = n := by
 unfold pCut at h
 split at h
 ·simp at h
 ·split at h
  ·simp at h
  ·split at h
   ·simp at h
   ·rename_i h3
    rw [pTexts_len h]
    exact (readI_ok (by omega)).1
theorem valuesC_len {k n : Nat} {b : List UInt8} (h : (valuesC k n b).2 = 0) : (valuesC k n b).1.length = n := by
 unfold valuesC at h ⊢
 split
 ·rename_i h1
  rw [if_pos h1] at h
  have := (readI_ok h).1
  simp only [List.length_map]; omega
 ·rename_i h1
  rw [if_neg h1] at h
  split
  ·rename_i h2
   rw [if_pos h2] at h
   simp only [List.length_map] at h ⊢
   unfold unpackC at h ⊢
   split at h
   ·simp at h
   ·rename_i h3
    rw [if_neg h3]
    split at h
    ·rename_i h4
     rw [if_pos h4]; simp
    ·simp at h
  ·rename_i h2
   rw [if_neg h2] at h
   simp only [List.length_map] at h ⊢
   unfold pWords at h ⊢
   cases b with
   | nil => simp at h
   | cons c r =>
    simp only at h ⊢
    split at h
    ·rename_i h3
     rw [if_pos h3]
     cases hp : pCut (n : Int) r with
     | err e => rw [hp] at h; exact absurd h (pCut_err hp)
     | ok l rest =>
      rw [hp] at h
      simp only at h ⊢
      split at h
      ·simp at h
      ·rename_i h4
       rw [if_neg h4]
       have := pCut_len hp
       simp only; omega
    ·rename_i h3
     rw [if_neg h3]
     split at h
     ·rename_i h4; exact absurd h h4
     ·rename_i h4
      rw [if_neg h4]
      split at h
      ·simp at h
      ·rename_i h5
       rw [if_neg h5]
       cases hp : pCut ((get r).1 : Int) (r.drop (get r).2.1) with
       | err e => rw [hp] at h; exact absurd h (pCut_err hp)
       | ok u rest =>
        rw [hp] at h
        simp only at h ⊢
        split at h
        ·rename_i h6; exact absurd h h6
        ·rename_i h6
         rw [if_neg h6]
         split at h
         ·rename_i h7
          rw [if_pos h7]
          have := (readI_ok (b := rest) (n := n) (by omega)).1
          simp only [List.length_map]; omega
         ·simp at h
theorem values_runs (k n : Nat) (hk : 1 ≤ k ∧ k ≤ 3) (b : List UInt8) (hn : n ≤ 256) (hb : b.length < 1000000) : R 191 [.d (.int .u8 k),B b,.d (.int .i64 n)] [] = VsR (valuesC k n b) := by
 have h : k = 1 ∨ k = 2 ∨ k = 3 := by omega
 rcases h with rfl | rfl | rfl
 ·exact values1_runs b n hn hb
 ·exact values2_runs b n hn hb
 ·exact values3_runs b n hn hb
theorem read_col_runs (k n : Nat) (hk : 1 ≤ k ∧ k ≤ 3) (b : List UInt8) (hn : n ≤ 256) (hb : b.length < 1000000) : Is (VsR (readC k n b)) (R 132 [.d (.int .u8 k),B b,.d (.int .i64 n)] []) := by
 cases b with
 | nil =>
  refine run_any (rs:=[.tmp 6,.tmp 7]) (ts:=[29,25]) Tryz.func132 rfl rfl rfl (by kernel_rfl) (by kernel_rfl) (.inl sp_132) (by simp [Tryz.f132]) (not_is (vsR_some _)) ?_
  simp -dsimp -implicitDefEqProofs (disch:=first|omega|assumption) [startSlots,nI,wI]
  simp [Is,VsR,readC,pHeadC,E]
 | cons c r =>
 simp only [List.length_cons] at hb
 have hl0 : ¬ ((r.length : Int) + 1 = 0) := by omega
 have hrep := repeatU_runs 1 n hn
 have huz : uz (List.replicate n 1) = uc (List.replicate n 1) := by simp
 rw [huz] at hrep
 unfold readC pHeadC
 simp only
 by_cases c1 : 1 < c.toNat
 ·have c1' : (1 : Int) < c.toNat := by omega
  rw [if_pos c1]
  refine run_any (rs:=[.tmp 6,.tmp 7]) (ts:=[29,25]) Tryz.func132 rfl rfl rfl (by kernel_rfl) (by kernel_rfl) (.inl sp_132) (by simp [Tryz.f132]) (not_is (vsR_some _)) ?_
  simp -dsimp -implicitDefEqProofs (disch:=first|omega|assumption) [startSlots,nI,wI,hl0,hrep,c1,c1']
  simp [Is,VsR,E]
 rw [if_neg c1]
 have c1' : ¬ (1 : Int) < c.toNat := by omega
 by_cases c2 : c.toNat = 1
 ·rw [if_pos c2]
  have c2' : (c.toNat : Int) = 1 := by omega
  obtain ⟨sz,hsz⟩ : ∃ sz,sz = (n + 7) / 8 := ⟨_,rfl⟩
  have hsz' : ((n : Int) + 7) / 8 = sz := by omega
  rw [← hsz]
  by_cases c3 : r.length < sz
  ·rw [if_pos c3]
   have c3' : (r.length : Int) < sz := by omega
   refine run_any (rs:=[.tmp 6,.tmp 7]) (ts:=[29,25]) Tryz.func132 rfl rfl rfl (by kernel_rfl) (by kernel_rfl) (.inl sp_132) (by simp [Tryz.f132]) (not_is (vsR_some _)) ?_
   simp -dsimp -implicitDefEqProofs (disch:=first|omega|assumption) [startSlots,nI,wI,hl0,hrep,c1,c1',c2,c2',hsz',c3,c3']
   simp [Is,VsR,E]
  rw [if_neg c3]
  have c3' : ¬ (r.length : Int) < sz := by omega
  have c3b : sz ≤ r.length := by omega
  obtain ⟨bt,hbt⟩ : ∃ bt,bt = r.take sz := ⟨_,rfl⟩
  obtain ⟨rb,hbd⟩ : ∃ rb,rb = r.drop sz := ⟨_,rfl⟩
  have hbt' : List.take sz (bytes r) = bytes bt := by rw [hbt,bytes,bytes,List.map_take]
  have hbd' : List.drop sz (bytes r) = bytes rb := by rw [hbd,bytes,bytes,List.map_drop]
  have hbtl : bt.length < 1000000 := by rw [hbt,List.length_take]; omega
  have hrbl : rb.length < 1000000 := by rw [hbd,List.length_drop]; omega
  rw [← hbt,← hbd]
  have hup := unpack1_runs bt n hn hbtl
  have hth0 : ∀ x ∈ (unpackC bt n).1,x ≤ 1 := by
   unfold unpackC
   split
   ·simp
   ·split
    ·intro x hx
     simp only [ups,List.mem_map] at hx
     obtain ⟨j,_,rfl⟩ := hx
     omega
    ·simp
  have hthl0 : (unpackC bt n).2 = 0 → (unpackC bt n).1.length = n := by
   unfold unpackC
   split
   ·simp
   ·split
    ·simp
    ·simp
  obtain ⟨th,hte⟩ : ∃ th,th = (unpackC bt n).1 := ⟨_,rfl⟩
  obtain ⟨e,hee⟩ : ∃ e,e = (unpackC bt n).2 := ⟨_,rfl⟩
  rw [← hte,← hee] at hup hthl0
  rw [← hte] at hth0
  rw [← hte,← hee]
  clear hte hee hbt hbd hsz
  by_cases c4 : e ≠ 0
  ·rw [if_pos c4]
   have c4' : ¬ (e : Int) = 0 := by omega
   refine run_any (rs:=[.tmp 6,.tmp 7]) (ts:=[29,25]) Tryz.func132 rfl rfl rfl (by kernel_rfl) (by kernel_rfl) (.inl sp_132) (by simp [Tryz.f132]) (not_is (vsR_some _)) ?_
   simp -dsimp -implicitDefEqProofs (disch:=first|omega|assumption) [startSlots,nI,wI,hl0,hrep,c1,c1',c2,c2',hsz',c3,c3',c3b,hbt',hup,c4,c4']
   simp [Is,VsR,E]
  rw [if_neg c4]
  have c4' : e = 0 := by omega
  subst c4'
  have hthl := hthl0 rfl
  have hth := hth0
  subst hthl
  have hsum := sum_le hth
  have hval := values_runs k th.sum hk rb (by omega) hrbl
  have hvl : (valuesC k th.sum rb).2 = 0 → (valuesC k th.sum rb).1.length = th.sum := valuesC_len
  simp only
  generalize hA : (if (valuesC k th.sum rb).2 ≠ 0 then (([] : List Val),(valuesC k th.sum rb).2) else (scat th (valuesC k th.sum rb).1,0)) = A
  refine run_any (rs:=[.tmp 6,.tmp 7]) (ts:=[29,25]) Tryz.func132 rfl rfl rfl (by kernel_rfl) (by kernel_rfl) (.inl sp_132) (by simp [Tryz.f132]) (not_is (vsR_some _)) ?_
  simp -dsimp -implicitDefEqProofs (disch:=first|omega|assumption) [startSlots,nI,wI,hl0,hrep,c1,c1',c2,c2',hsz',c3,c3',c3b,hbt',hup,hbd']
  generalize hz : loopT _ _ _ _ _ _ = z
  revert z
  refine loop_any (σ:=Nat) (fun i => [(0,.d (.int .u8 k)),(1,B rb),(2,.d (.int .i64 th.length)),(9,.arr 0 th.length),(12,.d (.int .i64 ((th.take i).sum : Nat))),(56,.arr 0 th.length),(57,.d (.int .i64 th.length)),(58,.d (.int .i64 i))]) (fun i => [.arr 1 (uc th) 0]) (fun i => i ≤ th.length) (fun i => th.length - i) 0 ?_ ?_ ?_
  ·exact Nat.zero_le _
  ·simp -dsimp -implicitDefEqProofs (disch:=first|omega|assumption) [B]
  intro T' f hT' i hi ih
  by_cases h1 : i < th.length
  ·have h1' : i < th.length := by omega
   have hx := hth th[i] (List.getElem_mem _)
   have hs := sum_take h1'
   have hsl : (th.take i).sum ≤ i := by
    have := sum_le (l := th.take i) fun x hx => hth x (List.mem_of_mem_take hx)
    have h2 : (th.take i).length ≤ i := by simp; omega
    omega
   obtain ⟨x,hxe⟩ : ∃ x,x = th[i] := ⟨_,rfl⟩
   rw [← hxe] at hx hs
   have gx := hxe.symm
   have hw : IntKind.i64.wrap (x : Int) = x := wI (by omega) (by omega)
   simp -dsimp -implicitDefEqProofs (disch:=first|omega|assumption) [nI,wI,h1,h1',gx,hw]
   refine ih (i + 1) _ _ h1 (by omega) ?_
   rw [hs]
   simp -dsimp -implicitDefEqProofs (disch:=first|omega|assumption) [B]
  obtain rfl : i = th.length := by omega
  subst hT'
  clear ih hi h1
  rw [List.take_length]
  obtain ⟨v,hv⟩ : ∃ v,v = valuesC k th.sum rb := ⟨_,rfl⟩
  rw [← hv] at hval hvl hA
  by_cases hv0 : v.2 ≠ 0
  ·have hv0' : ¬ (v.2 : Int) = 0 := by omega
   rw [if_pos hv0] at hA
   subst hA
   unfold VsR at hval
   simp -dsimp -implicitDefEqProofs (disch:=first|omega|assumption) [nI,wI,hval,hv0,hv0']
   simp [Is,VsR,E]
  rw [if_neg hv0] at hA
  subst hA
  have hv0' : v.2 = 0 := by omega
  have hvl' := hvl hv0'
  unfold VsR at hval
  rw [hv0'] at hval
  simp -dsimp -implicitDefEqProofs (disch:=first|omega|assumption) [nI,wI,hval]
  generalize hT0 : Is _ = T0
  have fin : ∀ r,r = VsR (scat th v.1,0) → T0 r := fun r hr => by rw [← hT0]; exact hr
  generalize hz : loopT _ _ _ _ _ _ = z
  revert z
  refine loop_any (σ:=Nat × List Val × List Val) (fun x => [(15,.d (.list (vs x.2.2))),(17,.arr 0 th.length),(79,.arr 1 th.length),(80,.d (.int .i64 th.length)),(81,.d (.int .i64 x.1))]) (fun x => [.arr 1 (outD x.2.1 th.length) 0,.arr 1 (uc th) 0]) (fun x => x.1 ≤ th.length ∧ x.2.1.length = x.1 ∧ x.2.2.length = (th.drop x.1).sum ∧ scat th v.1 = x.2.1 ++ scat (th.drop x.1) x.2.2) (fun x => th.length - x.1) (0,[],v.1) ?_ ?_ ?_
  ·exact ⟨Nat.zero_le _,rfl,by rw [List.drop_zero]; exact hvl',by rw [List.drop_zero]; rfl⟩
  ·simp -dsimp -implicitDefEqProofs (disch:=first|omega|assumption) [outD_nil]
  intro T2 f2 hT2 ⟨i,dn,own⟩ ⟨hi,hdl,hol,hsc⟩ ih
  simp only at hi hdl hol hsc ih
  by_cases h1 : i < th.length
  ·have hdr : th.drop i = th[i] :: th.drop (i + 1) := List.drop_eq_getElem_cons h1
   obtain ⟨x,hxe⟩ : ∃ x,x = th[i] := ⟨_,rfl⟩
   have hx := hth th[i] (List.getElem_mem _)
   rw [← hxe] at hdr hx
   have gx := hxe.symm
   rw [hdr,List.sum_cons] at hol
   rw [hdr,scat] at hsc
   have hol2 := outD_length (l := dn) (n := th.length) (by omega)
   have hog := outD_get (l := dn) (n := th.length) (by omega)
   rw [hdl] at hog
   by_cases hx1 : x = 1
   ·rw [if_pos hx1] at hsc
    cases own with
    | nil => simp only [List.length_nil] at hol; omega
    | cons v0 own' =>
     have hos := outD_set (l := dn) (n := th.length) (by omega) v0
     rw [hdl] at hos
     subst hx1
     simp only [List.length_cons] at hol
     simp -dsimp -implicitDefEqProofs (disch:=first|omega|assumption) [nI,wI,h1,gx,hol2,hog,hos]
     refine ih (i + 1,dn ++ [v0],own') _ _ ⟨h1,by simp [hdl],by simp only; omega, ?_⟩ (by simp only; omega) ?_
     ·rw [hsc]; simp
     ·simp -dsimp -implicitDefEqProofs (disch:=first|omega|assumption)
   ·rw [if_neg hx1] at hsc
    have hx1' : ¬ (x : Int) = 1 := by omega
    have hon := outD_null (l := dn) (n := th.length) (by omega)
    simp -dsimp -implicitDefEqProofs (disch:=first|omega|assumption) [nI,wI,h1,gx,hol2,hx1']
    refine ih (i + 1,dn ++ [.null],own) _ _ ⟨h1,by simp [hdl],by simp only; omega, ?_⟩ (by simp only; omega) ?_
    ·rw [hsc]; simp
    ·rw [← hon]
     simp -dsimp -implicitDefEqProofs (disch:=first|omega|assumption)
  ·obtain rfl : i = th.length := by omega
   rw [List.drop_length,scat,List.append_nil] at hsc
   have hoe := outD_end (l := dn) (n := th.length) hdl
   subst hT2
   rw [hoe]
   simp -dsimp -implicitDefEqProofs (disch:=first|omega|assumption) [nI,wI,hdl]
   refine fin _ ?_
   rw [hsc]
   simp [VsR,E,hdl]
 ·rw [if_neg c2]
  have c2' : ¬ (c.toNat : Int) = 1 := by omega
  obtain ⟨th,hte⟩ : ∃ th,th = List.replicate n 1 := ⟨_,rfl⟩
  have hth : ∀ x ∈ th,x ≤ 1 := by rw [hte]; intro x hx; have := List.eq_of_mem_replicate hx; omega
  have hthl : th.length = n := by rw [hte]; simp
  rw [← hte] at hrep ⊢
  clear hte huz
  subst hthl
  obtain ⟨rb,hrb⟩ : ∃ rb,rb = r := ⟨_,rfl⟩
  rw [← hrb] at hb hl0 ⊢
  clear hrb
  have hsum := sum_le hth
  have hval := values_runs k th.sum hk rb (by omega) (by omega)
  have hvl : (valuesC k th.sum rb).2 = 0 → (valuesC k th.sum rb).1.length = th.sum := valuesC_len
  simp only
  generalize hA : (if (valuesC k th.sum rb).2 ≠ 0 then (([] : List Val),(valuesC k th.sum rb).2) else (scat th (valuesC k th.sum rb).1,0)) = A
  refine run_any (rs:=[.tmp 6,.tmp 7]) (ts:=[29,25]) Tryz.func132 rfl rfl rfl (by kernel_rfl) (by kernel_rfl) (.inl sp_132) (by simp [Tryz.f132]) (not_is (vsR_some _)) ?_
  simp -dsimp -implicitDefEqProofs (disch:=first|omega|assumption) [startSlots,nI,wI,hl0,hrep,c1,c1',c2,c2']
  generalize hz : loopT _ _ _ _ _ _ = z
  revert z
  refine loop_any (σ:=Nat) (fun i => [(0,.d (.int .u8 k)),(1,B rb),(2,.d (.int .i64 th.length)),(9,.arr 0 th.length),(12,.d (.int .i64 ((th.take i).sum : Nat))),(56,.arr 0 th.length),(57,.d (.int .i64 th.length)),(58,.d (.int .i64 i))]) (fun i => [.arr 1 (uc th) 0]) (fun i => i ≤ th.length) (fun i => th.length - i) 0 ?_ ?_ ?_
  ·exact Nat.zero_le _
  ·simp -dsimp -implicitDefEqProofs (disch:=first|omega|assumption) [B]
  intro T' f hT' i hi ih
  by_cases h1 : i < th.length
  ·have h1' : i < th.length := by omega
   have hx := hth th[i] (List.getElem_mem _)
   have hs := sum_take h1'
   have hsl : (th.take i).sum ≤ i := by
    have := sum_le (l := th.take i) fun x hx => hth x (List.mem_of_mem_take hx)
    have h2 : (th.take i).length ≤ i := by simp; omega
    omega
   obtain ⟨x,hxe⟩ : ∃ x,x = th[i] := ⟨_,rfl⟩
   rw [← hxe] at hx hs
   have gx := hxe.symm
   have hw : IntKind.i64.wrap (x : Int) = x := wI (by omega) (by omega)
   simp -dsimp -implicitDefEqProofs (disch:=first|omega|assumption) [nI,wI,h1,h1',gx,hw]
   refine ih (i + 1) _ _ h1 (by omega) ?_
   rw [hs]
   simp -dsimp -implicitDefEqProofs (disch:=first|omega|assumption) [B]
  obtain rfl : i = th.length := by omega
  subst hT'
  clear ih hi h1
  rw [List.take_length]
  obtain ⟨v,hv⟩ : ∃ v,v = valuesC k th.sum rb := ⟨_,rfl⟩
  rw [← hv] at hval hvl hA
  by_cases hv0 : v.2 ≠ 0
  ·have hv0' : ¬ (v.2 : Int) = 0 := by omega
   rw [if_pos hv0] at hA
   subst hA
   unfold VsR at hval
   simp -dsimp -implicitDefEqProofs (disch:=first|omega|assumption) [nI,wI,hval,hv0,hv0']
   simp [Is,VsR,E]
  rw [if_neg hv0] at hA
  subst hA
  have hv0' : v.2 = 0 := by omega
  have hvl' := hvl hv0'
  unfold VsR at hval
  rw [hv0'] at hval
  simp -dsimp -implicitDefEqProofs (disch:=first|omega|assumption) [nI,wI,hval]
  generalize hT0 : Is _ = T0
  have fin : ∀ r,r = VsR (scat th v.1,0) → T0 r := fun r hr => by rw [← hT0]; exact hr
  generalize hz : loopT _ _ _ _ _ _ = z
  revert z
  refine loop_any (σ:=Nat × List Val × List Val) (fun x => [(15,.d (.list (vs x.2.2))),(17,.arr 0 th.length),(79,.arr 1 th.length),(80,.d (.int .i64 th.length)),(81,.d (.int .i64 x.1))]) (fun x => [.arr 1 (outD x.2.1 th.length) 0,.arr 1 (uc th) 0]) (fun x => x.1 ≤ th.length ∧ x.2.1.length = x.1 ∧ x.2.2.length = (th.drop x.1).sum ∧ scat th v.1 = x.2.1 ++ scat (th.drop x.1) x.2.2) (fun x => th.length - x.1) (0,[],v.1) ?_ ?_ ?_
  ·exact ⟨Nat.zero_le _,rfl,by rw [List.drop_zero]; exact hvl',by rw [List.drop_zero]; rfl⟩
  ·simp -dsimp -implicitDefEqProofs (disch:=first|omega|assumption) [outD_nil]
  intro T2 f2 hT2 ⟨i,dn,own⟩ ⟨hi,hdl,hol,hsc⟩ ih
  simp only at hi hdl hol hsc ih
  by_cases h1 : i < th.length
  ·have hdr : th.drop i = th[i] :: th.drop (i + 1) := List.drop_eq_getElem_cons h1
   obtain ⟨x,hxe⟩ : ∃ x,x = th[i] := ⟨_,rfl⟩
   have hx := hth th[i] (List.getElem_mem _)
   rw [← hxe] at hdr hx
   have gx := hxe.symm
   rw [hdr,List.sum_cons] at hol
   rw [hdr,scat] at hsc
   have hol2 := outD_length (l := dn) (n := th.length) (by omega)
   have hog := outD_get (l := dn) (n := th.length) (by omega)
   rw [hdl] at hog
   by_cases hx1 : x = 1
   ·rw [if_pos hx1] at hsc
    cases own with
    | nil => simp only [List.length_nil] at hol; omega
    | cons v0 own' =>
     have hos := outD_set (l := dn) (n := th.length) (by omega) v0
     rw [hdl] at hos
     subst hx1
     simp only [List.length_cons] at hol
     simp -dsimp -implicitDefEqProofs (disch:=first|omega|assumption) [nI,wI,h1,gx,hol2,hog,hos]
     refine ih (i + 1,dn ++ [v0],own') _ _ ⟨h1,by simp [hdl],by simp only; omega, ?_⟩ (by simp only; omega) ?_
     ·rw [hsc]; simp
     ·simp -dsimp -implicitDefEqProofs (disch:=first|omega|assumption)
   ·rw [if_neg hx1] at hsc
    have hx1' : ¬ (x : Int) = 1 := by omega
    have hon := outD_null (l := dn) (n := th.length) (by omega)
    simp -dsimp -implicitDefEqProofs (disch:=first|omega|assumption) [nI,wI,h1,gx,hol2,hx1']
    refine ih (i + 1,dn ++ [.null],own) _ _ ⟨h1,by simp [hdl],by simp only; omega, ?_⟩ (by simp only; omega) ?_
    ·rw [hsc]; simp
    ·rw [← hon]
     simp -dsimp -implicitDefEqProofs (disch:=first|omega|assumption)
  ·obtain rfl : i = th.length := by omega
   rw [List.drop_length,scat,List.append_nil] at hsc
   have hoe := outD_end (l := dn) (n := th.length) hdl
   subst hT2
   rw [hoe]
   simp -dsimp -implicitDefEqProofs (disch:=first|omega|assumption) [nI,wI,hdl]
   refine fin _ ?_
   rw [hsc]
   simp [VsR,E,hdl]
end Go.Am.Ab
namespace Go.Am.Ab
open Go.Proofs
set_option maxHeartbeats 4000000
theorem readI_best_more {l : List Int} {t : List UInt8} (h : ∀ n ∈ l,isI64 n) (hn : l.length ≤ 256) (ht : t ≠ []) : (readI (bestB l ++ t) l.length).2 ≠ 0 := by
 obtain ⟨⟨c,hc,e⟩,_⟩ := best_form l
 rw [e,List.cons_append,readI_more hc h hn ht]
 simp
theorem unpack_flags (l : List Bool) : unpackC (flagsB l) l.length = (l.map bit,0) := by
 have hb := bit_lt l
 have h := pPacked_packed (w := 1) (p := l.map bit) hb
 have hl : (packed 1 (l.map bit)).length = (l.length + 7) / 8 := by rw [packed_length]; simp
 unfold pPacked at h
 rw [List.length_map,Nat.mul_one,hl,if_neg (Nat.lt_irrefl _),if_neg (Nat.lt_irrefl _)] at h
 unfold unpackC flagsB
 rw [hl,if_neg (fun k => k rfl)]
 split at h
 ·rename_i h2
  rw [if_pos h2]
  simp only [PR.ok.injEq,and_true] at h
  rw [h]
 ·cases h
theorem flags_length (l : List Bool) : (flagsB l).length = (l.length + 7) / 8 := by
 unfold flagsB; rw [packed_length]; simp
theorem unpack_more (l : List Bool) {t : List UInt8} (ht : t ≠ []) : (unpackC (flagsB l ++ t) l.length).2 ≠ 0 := by
 have h1 := flags_length l
 have h2 : 0 < t.length := List.length_pos_iff.2 ht
 unfold unpackC
 rw [if_pos (by rw [List.length_append]; omega)]
 simp
theorem flatT_cons (s : ByteArray) (r : List ByteArray) : flatT (s :: r) (s :: r).length = s.data.toList ++ flatT r r.length := by
 simp [flatT]
theorem pTexts_flat : ∀ (l : List ByteArray) (t : List UInt8),(∀ s ∈ l,s.size ≤ 64) → pTexts (sizesL l) (flatT l l.length ++ t) = .ok l t
 | [],t,_ => rfl
 | s :: r,t,h => by
  have hs := h s (by simp)
  have hl := str_len s
  have ih := pTexts_flat r t fun x hx => h x (by simp [hx])
  rw [flatT_cons,sizesL,List.map_cons,pTexts,if_neg (by omega),List.append_assoc,if_neg (by rw [List.length_append,hl]; omega),Int.toNat_natCast]
  rw [show List.map (fun s => (s.size : Int)) r = sizesL r from rfl]
  rw [List.drop_append_of_le_length (by omega),List.take_append_of_le_length (by omega),List.drop_of_length_le (by omega),List.take_of_length_le (by omega),List.nil_append,ih]
  rfl
theorem pCut_texts (l : List ByteArray) (t : List UInt8) (h : ∀ s ∈ l,s.size ≤ 64) (hn : l.length ≤ 256) : pCut l.length (textsB l ++ t) = .ok l t := by
 have hsi := sizes_is h
 have hsl : (sizesL l).length = l.length := by simp [sizesL]
 have hbl := bestB_len hsi (by omega)
 have hr := readI_best hsi (by omega)
 rw [hsl] at hr
 unfold pCut textsB countedB
 rw [List.append_assoc,List.append_assoc,get_put (by omega)]
 simp only [ne_eq,not_true_eq_false,if_false,List.drop_left]
 rw [if_neg (by rw [List.length_append]; omega),List.take_left,hr]
 simp only [ne_eq,not_true_eq_false,if_false,List.drop_left]
 exact pTexts_flat l t h
theorem pick_places {l : List ByteArray} : (placesS l).map (pick (uniS l)) = l := by
 rw [placesS,List.map_map]
 conv => rhs; rw [← List.map_id l]
 apply List.map_congr_left
 intro s hs
 have h := ixS_lt (uniS_mem.2 hs)
 simp only [Function.comp,pick,Int.toNat_natCast,id]
 rw [List.getD_eq_getElem?_getD,List.getElem?_eq_getElem h]
 exact ixS_get h
theorem pWords_words (l : List ByteArray) (t : List UInt8) (h : ∀ s ∈ l,s.size ≤ 64) (hn : l.length ≤ 256) : (t = [] → pWords l.length (wordsB l ++ t) = (l,0)) ∧ (t ≠ [] → (pWords l.length (wordsB l ++ t)).2 ≠ 0) := by
 unfold wordsB
 split
 ·have hu : ∀ s ∈ uniS l,s.size ≤ 64 := fun s hs => h s (uniS_mem.1 hs)
  have hul := uniS_length_le l
  have hpi := placesS_is hn
  have hpl : (placesS l).length = l.length := by simp [placesS]
  have hcut := pCut_texts (uniS l) (bestB (placesS l) ++ t) hu (by omega)
  unfold listT
  rw [List.append_assoc,List.append_assoc,List.cons_append,pWords]
  rw [if_neg (by decide),get_put (by omega)]
  simp only [ne_eq,not_true_eq_false,if_false,List.drop_left]
  rw [if_neg (by rw [show (1 : UInt8).toNat = 1 from rfl]; omega),hcut]
  simp only
  constructor
  ·rintro rfl
   have hr := readI_best hpi (by omega)
   rw [hpl] at hr
   rw [List.append_nil,hr]
   simp only [ne_eq,not_true_eq_false,if_false]
   rw [if_pos,pick_places]
   intro k hk
   obtain ⟨s,hs,rfl⟩ := List.mem_map.1 hk
   have := ixS_lt (uniS_mem.2 hs)
   omega
  ·intro ht
   have hr := readI_best_more hpi (by omega) ht
   rw [hpl] at hr
   rw [if_pos hr]
   exact hr
 ·have hcut := pCut_texts l t h hn
  unfold plainT
  rw [List.cons_append,pWords]
  rw [if_pos (by decide),hcut]
  simp only
  constructor
  ·rintro rfl
   rw [if_neg (by simp)]
  ·intro ht
   rw [if_pos ht]
   simp
end Go.Am.Ab
namespace Go.Am.Ab
open Go.Proofs
set_option maxHeartbeats 4000000
def goodV (k : Nat) (v : Val) : Prop := v = .null ∨ (v.kind = k ∧ (∀ n,v = .whole n → isI64 n) ∧ ∀ s,v = .text s → s.size ≤ 64)
def Good (k : Nat) (l : List Val) : Prop := ∀ v ∈ l,goodV k v
theorem Good.odd {k : Nat} {l : List Val} (g : Good k l) : l.any (oddV k) = false := by
 rw [List.any_eq_false]
 intro v hv
 rcases g v hv with h | ⟨h,_⟩ <;> simp [oddV,h]
theorem Good.long {k : Nat} {l : List Val} (g : Good k l) : l.any longV = false := by
 rw [List.any_eq_false]
 intro v hv
 rcases g v hv with h | ⟨_,_,h⟩
 ·simp [longV,h]
 ·cases v with
  | text s => have := h s rfl; simp [longV]; omega
  | _ => simp [longV]
theorem Good.i64 {k : Nat} {l : List Val} (g : Good k l) : ∀ n,Val.whole n ∈ l → isI64 n := by
 intro n hn
 rcases g _ hn with h | ⟨_,h,_⟩
 ·cases h
 ·exact h n rfl
theorem Good.tail {k : Nat} {v : Val} {l : List Val} (g : Good k (v :: l)) : Good k l := fun x hx => g x (by simp [hx])
def own (l : List Val) : List Val := l.filter fun v => decide (v ≠ .null)
theorem own_wholes : ∀ {l : List Val},Good 1 l → (wholes l).map .whole = own l
 | [],_ => rfl
 | v :: r,g => by
  have ih := own_wholes g.tail
  rcases g v (by simp) with h | ⟨h,_⟩
  ·subst h; simpa [wholes,own] using ih
  ·cases v <;> simp [Val.kind] at h
   simp only [wholes,own] at ih ⊢
   simp [ih]
theorem own_truths : ∀ {l : List Val},Good 2 l → (truths l).map .truth = own l
 | [],_ => rfl
 | v :: r,g => by
  have ih := own_truths g.tail
  rcases g v (by simp) with h | ⟨h,_⟩
  ·subst h; simpa [truths,own] using ih
  ·cases v <;> simp [Val.kind] at h
   simp only [truths,own] at ih ⊢
   simp [ih]
theorem own_texts : ∀ {l : List Val},Good 3 l → (texts l).map .text = own l
 | [],_ => rfl
 | v :: r,g => by
  have ih := own_texts g.tail
  rcases g v (by simp) with h | ⟨h,_⟩
  ·subst h; simpa [texts,own] using ih
  ·cases v <;> simp [Val.kind] at h
   simp only [texts,own] at ih ⊢
   simp [ih]
theorem bit_truth (b : Bool) : decide (((bit b : Nat) : Int) = 1) = b := by cases b <;> rfl
theorem values_body {k : Nat} (hk : 1 ≤ k ∧ k ≤ 3) {l : List Val} (g : Good k l) (hn : l.length ≤ 256) (t : List UInt8) :
  (t = [] → valuesC k (own l).length (bodyB k l ++ t) = (own l,0)) ∧ (t ≠ [] → (valuesC k (own l).length (bodyB k l ++ t)).2 ≠ 0) := by
 have hkl := kinds_len l
 have h : k = 1 ∨ k = 2 ∨ k = 3 := by omega
 rcases h with rfl | rfl | rfl
 ·have hw := own_wholes g
  have hi := wholes_is g.i64
  have hlen : (own l).length = (wholes l).length := by rw [← hw]; simp
  rw [hlen]
  unfold valuesC bodyB
  simp only [if_true]
  constructor
  ·rintro rfl
   rw [List.append_nil,readI_best hi (by omega),hw]
  ·intro ht
   exact readI_best_more hi (by omega) ht
 ·have hw := own_truths g
  have hlen : (own l).length = (truths l).length := by rw [← hw]; simp
  rw [hlen]
  unfold valuesC bodyB
  rw [if_neg (by decide),if_pos rfl,if_neg (by decide),if_pos rfl]
  constructor
  ·rintro rfl
   rw [List.append_nil,unpack_flags,← hw]
   simp [bit_truth]
  ·intro ht
   exact unpack_more _ ht
 ·have hw := own_texts g
  have hs := texts_is g.long
  have hlen : (own l).length = (texts l).length := by rw [← hw]; simp
  rw [hlen]
  unfold valuesC bodyB
  rw [if_neg (by decide),if_neg (by decide),if_neg (by decide),if_neg (by decide)]
  obtain ⟨h1,h2⟩ := pWords_words (texts l) t hs (by omega)
  constructor
  ·intro ht
   rw [h1 ht,← hw]
  ·exact h2
theorem head_read (l : List Val) (rest : List UInt8) : pHeadC l.length (headB l ++ rest) = .ok ((thereL l).map bit) rest := by
 have hl := thereL_length l
 unfold headB
 by_cases h : false ∈ thereL l
 ·have hu := unpack_flags (thereL l)
  have hf := flags_length (thereL l)
  rw [hl] at hu hf
  rw [if_pos h,List.cons_append,pHeadC]
  rw [if_neg (by decide),if_pos (by decide),if_neg (by rw [List.length_append]; omega),← hf,List.take_left,hu]
  simp only [ne_eq,not_true_eq_false,if_false,List.drop_left]
 ·rw [if_neg h,List.singleton_append,pHeadC]
  rw [if_neg (by decide),if_neg (by decide)]
  congr 1
  apply List.ext_getElem
  ·simp [hl]
  ·intro i h1 h2
   rw [List.getElem_replicate,List.getElem_map]
   have h3 : i < (thereL l).length := by simpa using h2
   cases e : (thereL l)[i] with
   | true => rfl
   | false => exact absurd (e ▸ List.getElem_mem h3) h
theorem sum_bits : ∀ l : List Val,((thereL l).map bit).sum = (own l).length
 | [] => rfl
 | v :: r => by
  have ih := sum_bits r
  by_cases h : v = .null
  ·subst h
   simpa [thereL,own,bit] using ih
  ·have hd : decide (v ≠ .null) = true := by simp [h]
   simp only [thereL,own,List.map_cons,List.sum_cons,List.filter_cons,hd,if_true,List.length_cons] at ih ⊢
   rw [ih]
   simp [bit]; omega
theorem scat_own : ∀ l : List Val,scat ((thereL l).map bit) (own l) = l
 | [] => rfl
 | v :: r => by
  have ih := scat_own r
  by_cases h : v = .null
  ·subst h
   simpa [thereL,own,bit,scat] using ih
  ·have hd : decide (v ≠ .null) = true := by simp [h]
   simp only [thereL,own,List.map_cons,List.filter_cons,hd,if_true,scat] at ih ⊢
   rw [if_pos (by decide)]
   simp only [List.headD_cons,List.tail_cons,ih]
theorem read_back {k : Nat} (hk : 1 ≤ k ∧ k ≤ 3) {l : List Val} (g : Good k l) (hn : l.length ≤ 256) (t : List UInt8) :
  (t = [] → readC k l.length (colB k l ++ t) = (l,0)) ∧ (t ≠ [] → (readC k l.length (colB k l ++ t)).2 ≠ 0) := by
 obtain ⟨h1,h2⟩ := values_body hk g hn t
 unfold readC colB
 rw [List.append_assoc,head_read]
 simp only
 rw [sum_bits]
 constructor
 ·intro ht
  rw [h1 ht]
  simp only [ne_eq,not_true_eq_false,if_false]
  rw [scat_own]
 ·intro ht
  rw [if_pos (h2 ht)]
  exact h2 ht
theorem mkS_size (l : List UInt8) : (mkS l).size = l.length := rfl
theorem pTexts_size : ∀ {sz : List Int} {b rest : List UInt8} {l : List ByteArray},pTexts sz b = .ok l rest → ∀ s ∈ l,s.size ≤ 64
 | [],b,rest,l,h => by
  unfold pTexts at h
  cases h
  intro s hs; cases hs
 | k :: r,b,rest,l,h => by
  unfold pTexts at h
  split at h
  ·simp at h
  ·split at h
   ·simp at h
   ·rename_i h1 h2
    cases hp : pTexts r (b.drop k.toNat) with
    | err e' => rw [hp] at h; simp at h
    | ok l2 r2 =>
     rw [hp] at h
     simp at h
     intro s hs
     rw [← h.1] at hs
     rcases List.mem_cons.1 hs with rfl | hs
     ·rw [mkS_size,List.length_take]; omega
     ·exact pTexts_size hp s hs
theorem pCut_size {n : Int} {b rest : List UInt8} {l : List ByteArray} (h : pCut n b = .ok l rest) : ∀ s ∈ l,s.size ≤ 64 := by
 unfold pCut at h
 split at h
 ·simp at h
 ·split at h
  ·simp at h
  ·split at h
   ·simp at h
   ·exact pTexts_size h
theorem pick_size {u : List ByteArray} (h : ∀ s ∈ u,s.size ≤ 64) (k : Int) : (pick u k).size ≤ 64 := by
 unfold pick
 rw [List.getD_eq_getElem?_getD]
 cases e : u[k.toNat]? with
 | none => simp [ByteArray.size]
 | some s => exact h s (List.mem_of_getElem? e)
theorem pWords_size (n : Nat) (b : List UInt8) : ∀ s ∈ (pWords n b).1,s.size ≤ 64 := by
 unfold pWords
 split
 ·simp
 ·split
  ·split
   ·simp
   ·rename_i hp
    have := pCut_size hp
    split <;> exact this
  ·split
   ·simp
   ·split
    ·simp
    ·split
     ·simp
     ·rename_i hp
      have := pCut_size hp
      split
      ·simp
      ·split
       ·intro s hs
        obtain ⟨k,_,rfl⟩ := List.mem_map.1 hs
        exact pick_size this k
       ·simp
theorem valuesC_good {k n : Nat} (hk : 1 ≤ k ∧ k ≤ 3) {b : List UInt8} (h : (valuesC k n b).2 = 0) : Good k (valuesC k n b).1 := by
 have hc : k = 1 ∨ k = 2 ∨ k = 3 := by omega
 intro v hv
 right
 rcases hc with rfl | rfl | rfl
 ·have h' : (readI b n).2 = 0 := h
  obtain ⟨x,hx,rfl⟩ := List.mem_map.1 (show v ∈ (readI b n).1.map .whole from hv)
  have := (readI_ok h').2 x hx
  exact ⟨rfl,fun m e => (by cases e; exact this),fun s e => by cases e⟩
 ·obtain ⟨x,hx,rfl⟩ := List.mem_map.1 (show v ∈ (unpackC b n).1.map (fun (x : Nat) => Val.truth (decide ((x : Int) = 1))) from hv)
  exact ⟨rfl,fun m e => (by cases e),fun s e => by cases e⟩
 ·obtain ⟨x,hx,rfl⟩ := List.mem_map.1 (show v ∈ (pWords n b).1.map .text from hv)
  have := pWords_size n b x hx
  exact ⟨rfl,fun m e => (by cases e),fun s e => by cases e; exact this⟩
theorem scat_mem {v : Val} : ∀ {th : List Nat} {o : List Val},v ∈ scat th o → v = .null ∨ v ∈ o
 | [],o,h => by simp [scat] at h
 | x :: t,o,h => by
  unfold scat at h
  split at h
  ·rcases List.mem_cons.1 h with h | h
   ·cases o with
    | nil => exact .inl h
    | cons y r => exact .inr (by rw [h]; simp)
   ·rcases scat_mem h with h | h
    ·exact .inl h
    ·exact .inr (List.mem_of_mem_tail h)
  ·rcases List.mem_cons.1 h with h | h
   ·exact .inl h
   ·exact scat_mem h
theorem pHeadC_len {n : Nat} {b r : List UInt8} {th : List Nat} (h : pHeadC n b = .ok th r) : th.length = n := by
 unfold pHeadC at h
 split at h
 ·cases h
 ·split at h
  ·cases h
  ·split at h
   ·split at h
    ·cases h
    ·split at h
     ·cases h
     ·rename_i c r0 h1 h2 h3 h4
      simp only [PR.ok.injEq] at h
      rw [← h.1]
      have h5 : (unpackC (r0.take ((n + 7) / 8)) n).2 = 0 := by omega
      unfold unpackC at h5 ⊢
      split at h5
      ·simp at h5
      ·rename_i h6
       rw [if_neg h6]
       split at h5
       ·rename_i h7; rw [if_pos h7]; simp
       ·simp at h5
   ·simp only [PR.ok.injEq] at h
    rw [← h.1]; simp
theorem readC_good {k n : Nat} (hk : 1 ≤ k ∧ k ≤ 3) {b : List UInt8} (h : (readC k n b).2 = 0) : Good k (readC k n b).1 ∧ (readC k n b).1.length = n := by
 unfold readC at h ⊢
 cases hp : pHeadC n b with
 | err e =>
  rw [hp] at h
  exfalso
  simp only at h
  subst h
  unfold pHeadC at hp
  split at hp
  ·cases hp
  ·split at hp
   ·cases hp
   ·split at hp
    ·split at hp
     ·cases hp
     ·split at hp
      ·rename_i h4
       simp only [PR.err.injEq] at hp
       exact h4 hp
      ·cases hp
    ·cases hp
 | ok th r =>
  rw [hp] at h
  simp only at h ⊢
  split at h
  ·rename_i h1; exact absurd h h1
  ·rename_i h1
   rw [if_neg h1]
   have g := valuesC_good hk (b := r) (n := th.sum) (by omega)
   refine ⟨fun v hv => ?_, ?_⟩
   ·rcases scat_mem hv with h | h
    ·exact .inl h
    ·exact g v h
   ·simp only
    rw [scat_length,pHeadC_len hp]
def readTop (k : Nat) (b : List UInt8) (n : Int) : List Val × Nat :=
 if ¬ (1 ≤ k ∧ k ≤ 3) then ([],10) else if n < 0 ∨ 256 < n then ([],1)
 else if (readC k n.toNat b).2 ≠ 0 then ([],(readC k n.toNat b).2)
 else if colB k (readC k n.toNat b).1 = b then ((readC k n.toNat b).1,0) else ([],40)
theorem top_back {k : Nat} (hk : 1 ≤ k ∧ k ≤ 3) {l : List Val} (g : Good k l) (hn : l.length ≤ 256) : readTop k (colB k l) l.length = (l,0) := by
 have h := (read_back hk g hn []).1 rfl
 rw [List.append_nil] at h
 unfold readTop
 rw [if_neg (fun c => c hk),if_neg (by omega),Int.toNat_natCast,h]
 simp
end Go.Am.Ab
namespace Go.Am.Ab
open Go.Proofs
set_option maxHeartbeats 4000000
set_option maxRecDepth 4000
theorem write_ok (k : Nat) (hk : 1 ≤ k ∧ k ≤ 3) (l : List Val) (g : Good k l) (hn : l.length ≤ 256) : R 64 [.d (.int .u8 k),.d (.list (vs l))] [] = some ([.arr 0 (colB k l).length,E 0],[.arr 1 (bytes (colB k l)) 0]) := by
 have hc : k = 1 ∨ k = 2 ∨ k = 3 := by omega
 rcases hc with rfl | rfl | rfl
 ·exact write1_yes l hn g.odd g.i64
 ·exact write2_yes l hn g.odd
 ·exact write3_yes l hn g.odd g.long
theorem colB_len {k : Nat} {l : List Val} (hk : 1 ≤ k ∧ k ≤ 3) (g : Good k l) (hn : l.length ≤ 256) : (colB k l).length ≤ 200000 := by
 have hkl := kinds_len l
 have htl := thereL_length l
 have h1 := flagsB_len (l := thereL l) (by omega)
 have h2 := flagsB_len (l := truths l) (by omega)
 have h3 := bestB_len (wholes_is g.i64) (by omega)
 have h4 := wordsB_len (texts_is g.long) (by omega)
 unfold colB headB bodyB
 rw [List.length_append]
 split <;> split <;> (try split) <;> simp only [List.length_cons,List.length_nil] <;> omega
theorem col_read_runs (k : Nat) (hk256 : k < 256) (b : List UInt8) (n : Int) (hn : isI64 n) (hb : b.length < 1000000) :
  R 71 [.d (.int .u8 k),B b,.d (.int .i64 n)] [] = some ([.arr 0 (readTop k b n).1.length,E (readTop k b n).2],[.arr 1 (vs (readTop k b n).1) (readTop k b n).1.length]) := by
 have hr := right_runs k hk256
 unfold readTop
 by_cases hk : 1 ≤ k ∧ k ≤ 3
 case neg =>
  rw [decide_eq_false hk] at hr
  rw [if_pos hk]
  refine run_goal (rs:=[.tmp 6,.tmp 7]) (ts:=[29,25]) Tryz.func71 rfl rfl rfl (by kernel_rfl) (by kernel_rfl) (.inl sp_71) (by simp [Tryz.f71]) ?_
  intro T hT
  simp -dsimp -implicitDefEqProofs (disch:=first|omega|assumption) [startSlots,nI,wI,hr]
  simpa -dsimp -implicitDefEqProofs (disch:=first|omega|assumption) [nI,wI,E] using hT
 rw [decide_eq_true hk] at hr
 rw [if_neg (fun c => c hk)]
 by_cases h1 : n < 0
 ·rw [if_pos (.inl h1)]
  refine run_goal (rs:=[.tmp 6,.tmp 7]) (ts:=[29,25]) Tryz.func71 rfl rfl rfl (by kernel_rfl) (by kernel_rfl) (.inl sp_71) (by simp [Tryz.f71]) ?_
  intro T hT
  simp -dsimp -implicitDefEqProofs (disch:=first|omega|assumption) [startSlots,nI,wI,hr,h1]
  simpa -dsimp -implicitDefEqProofs (disch:=first|omega|assumption) [nI,wI,E] using hT
 by_cases h2 : 256 < n
 ·rw [if_pos (.inr h2)]
  refine run_goal (rs:=[.tmp 6,.tmp 7]) (ts:=[29,25]) Tryz.func71 rfl rfl rfl (by kernel_rfl) (by kernel_rfl) (.inl sp_71) (by simp [Tryz.f71]) ?_
  intro T hT
  simp -dsimp -implicitDefEqProofs (disch:=first|omega|assumption) [startSlots,nI,wI,hr,h1,h2]
  simpa -dsimp -implicitDefEqProofs (disch:=first|omega|assumption) [nI,wI,E] using hT
 rw [if_neg (by omega)]
 obtain ⟨m,rfl⟩ : ∃ m : Nat,n = m := ⟨n.toNat,by omega⟩
 rw [Int.toNat_natCast]
 have h := read_col_runs k m hk b (by omega) hb
 have hg := readC_good (n := m) hk (b := b)
 unfold Is VsR at h
 obtain ⟨v,hv⟩ : ∃ v,v = readC k m b := ⟨_,rfl⟩
 rw [← hv] at h hg ⊢
 by_cases h3 : v.2 ≠ 0
 ·have h3' : ¬ (v.2 : Int) = 0 := by omega
  rw [if_pos h3]
  refine run_goal (rs:=[.tmp 6,.tmp 7]) (ts:=[29,25]) Tryz.func71 rfl rfl rfl (by kernel_rfl) (by kernel_rfl) (.inl sp_71) (by simp [Tryz.f71]) ?_
  intro T hT
  simp -dsimp -implicitDefEqProofs (disch:=first|omega|assumption) [startSlots,nI,wI,hr,h1,h2,h,h3,h3']
  simpa -dsimp -implicitDefEqProofs (disch:=first|omega|assumption) [nI,wI,E] using hT
 rw [if_neg h3]
 have h3' : v.2 = 0 := by omega
 obtain ⟨g,gl⟩ := hg h3'
 rw [h3'] at h
 have hw := write_ok k hk v.1 g (by omega)
 have hcl := colB_len hk g (by omega)
 have heq := equal_runs (colB k v.1) b (by omega)
 by_cases h4 : colB k v.1 = b
 ·rw [if_pos h4]
  rw [decide_eq_true h4] at heq
  refine run_goal (rs:=[.tmp 6,.tmp 7]) (ts:=[29,25]) Tryz.func71 rfl rfl rfl (by kernel_rfl) (by kernel_rfl) (.inl sp_71) (by simp [Tryz.f71]) ?_
  intro T hT
  simp -dsimp -implicitDefEqProofs (disch:=first|omega|assumption) [startSlots,nI,wI,hr,h1,h2,h,hw,heq]
  simpa -dsimp -implicitDefEqProofs (disch:=first|omega|assumption) [nI,wI,E] using hT
 ·rw [if_neg h4]
  rw [decide_eq_false h4] at heq
  refine run_goal (rs:=[.tmp 6,.tmp 7]) (ts:=[29,25]) Tryz.func71 rfl rfl rfl (by kernel_rfl) (by kernel_rfl) (.inl sp_71) (by simp [Tryz.f71]) ?_
  intro T hT
  simp -dsimp -implicitDefEqProofs (disch:=first|omega|assumption) [startSlots,nI,wI,hr,h1,h2,h,hw,heq]
  simpa -dsimp -implicitDefEqProofs (disch:=first|omega|assumption) [nI,wI,E] using hT
end Go.Am.Ab
