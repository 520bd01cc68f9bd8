/- Columns of the document, read. -/
import Derived.Test.YtlgdomajdebbdaaGreatBitsB
import Derived.Test.YtlgdomajdebbdaaGreatRefRead
import Derived.Test.YtlgdomajdebbdaaGreatRColC
import Derived.Test.YtlgdomajdebbdaaGreatRColB
import Derived.Test.YtlgdomajdebbdaaGreatColD
set_option linter.all false
namespace Go.Am.Ab
open Go.Proofs
set_option maxHeartbeats 8000000
set_option maxRecDepth 4000
theorem runpack1_runs (b : List UInt8) (n : Nat) (hn : n ≤ 256) (hb : b.length < 1000000) : R 14 [B b,.d (.int .i64 n),.d (.int .i64 1)] [] = some ([.arr 0 (unpackC b n).1.length,E (unpackC b n).2],[.arr 1 (uc (unpackC b n).1) 0]) := by
 unfold unpackC
 by_cases h1 : b.length ≠ (n + 7) / 8
 ·rw [if_pos h1]
  exact runpack_len b n 1 (by omega) hn (by omega) (by rw [Nat.mul_one]; exact h1)
 ·rw [if_neg h1]
  have h := runpack_all b n 1 hn (by omega) (by rw [Nat.mul_one]; omega)
  rw [Nat.mul_one] at h
  by_cases h2 : num b < 2 ^ n
  ·rw [if_pos h2]
   rw [if_pos h2] at h
   rw [show ((ups 1 (num b) n,0) : List Nat × Nat).1.length = n from ups_length _ _ _]
   exact h
  ·rw [if_neg h2]
   rw [if_neg h2] at h
   exact h
theorem rwrite3_long (k : Nat) (hk0 : k = 3) (l : List Cel) (hkk : ∀ c ∈ l,c.kind = 0 ∨ c.kind = 3) (hn : l.length ≤ 256) (hlo : ∃ c ∈ l,64 < c.s.size) : R 17 [.d (.int .i64 k),.d (.list (ce l))] [] = badW 5 := by
 unfold badW
 have h1' : ¬ (k : Int) < 1 := by omega
 have h2' : ¬ (3 : Int) < k := by omega
 have hl : ∀ c ∈ l,c.kind < 256 := fun c hc => by have := hkk c hc; omega
 have hok : l.any (oddC k) = false := by
  rw [List.any_eq_false]
  intro c hc
  have := hkk c hc
  simp [oddC]
  omega
 refine run_goal (rs := [.tmp 4,.tmp 5]) (ts := [22,3]) Tryz.func17 (c := _) rfl rfl rfl (by kernel_rfl) (by kernel_rfl) (.inl sp_17) (by simp [Tryz.f17]) ?_
 intro T hT
 simp -dsimp -implicitDefEqProofs (disch:=first|omega|assumption) [startSlots,Int.natCast_inj,wrap_i64,h1',h2']
 generalize hz : loopT _ _ _ _ _ _ = z
 revert z
 refine loop_any (σ := Nat) (fun i => [(0,.d (.int .i64 k)),(1,.d (.list (ce l))),(6,.d (.int .i64 i))]) (fun i => []) (fun i => i ≤ l.length) (fun i => l.length - i) 0 ?_ ?_ ?_
 ·exact Nat.zero_le _
 ·simp -dsimp -implicitDefEqProofs (disch:=first|omega|assumption)
 intro T' f hT' i hi ih
 by_cases h1 : i < l.length
 ·have hc := hl l[i] (List.getElem_mem _)
  have hok1 := List.any_eq_false.1 hok _ (List.getElem_mem h1)
  obtain ⟨⟨ck,n,s⟩,hx⟩ : ∃ x,x = l[i] := ⟨_,rfl⟩
  have gx := hx.symm
  rw [← hx] at hc hok1
  simp only at hc
  have hw : IntKind.i64.wrap (ck : Int) = ck := wrap_i64 (by omega) (by omega)
  have zk : ¬ k = 0 := by omega
  by_cases z : ck = 0
  ·subst z
   simp -dsimp -implicitDefEqProofs (disch:=first|omega|assumption) [Int.natCast_inj,wrap_i64,h1,gx,Cel.d]
   exact ih (i + 1) _ _ h1 (by omega) (by simp -dsimp -implicitDefEqProofs (disch:=first|omega|assumption))
  ·have z' : ¬ (ck : Int) = 0 := by omega
   have e : ck = k := by
    simp [oddC,z] at hok1
    exact hok1
   have e' : (ck : Int) = k := by omega
   simp -dsimp -implicitDefEqProofs (disch:=first|omega|assumption) [Int.natCast_inj,wrap_i64,h1,gx,Cel.d,z',z,zk,hw,e',e]
   exact ih (i + 1) _ _ h1 (by omega) (by simp -dsimp -implicitDefEqProofs (disch:=first|omega|assumption))
 obtain rfl : i = l.length := by omega
 subst hT'
 clear ih hi h1
 have h256 : ¬ (256 : Int) < l.length := by omega
 simp -dsimp -implicitDefEqProofs (disch:=first|omega|assumption) [Int.natCast_inj,wrap_i64,h256]
 generalize hz : loopT _ _ _ _ _ _ = z
 revert z
 refine loop_any (σ := Nat) (fun i => [(0,.d (.int .i64 k)),(1,.d (.list (ce l))),(8,.arr 0 i),(9,.arr 1 (preN wrapD l i).length),(10,.arr 2 (preN numD l i).length),(11,.arr 3 (preN strD l i).length),(12,.d (.bool ((l.take i).any fun c => decide (c.kind = 0)))),(13,.d (.int .i64 i))]) (fun i => [.arr 1 (preD bitD l i) 0,.arr 1 (preN wrapD l i) 0,.arr 1 (preN numD l i) 0,.arr 1 (preN strD l i) 0]) (fun i => i ≤ l.length ∧ ∀ j,(hj : j < i) → (hl : j < l.length) → l[j].s.size ≤ 64) (fun i => l.length - i) 0 ?_ ?_ ?_
 ·exact ⟨Nat.zero_le _,fun j hj => by omega⟩
 ·simp -dsimp -implicitDefEqProofs (disch:=first|omega|assumption) [preD_zero,preN_zero]
 intro T2 f2 hT2 i ⟨hi,hsh⟩ ih
 by_cases h1 : i < l.length
 ·have step : l[i].s.size ≤ 64 → ∀ j,(hj : j < i + 1) → (hl : j < l.length) → l[j].s.size ≤ 64 := fun e j hj hl => by
   by_cases c : j = i
   ·subst c; exact e
   ·exact hsh j (by omega) hl
  have hbs := preD_succ (g := bitD) h1
  have hws := preN_succ (g := wrapD) h1
  have hns := preN_succ (g := numD) h1
  have hss := preN_succ (g := strD) h1
  have hln := preD_length (g := bitD) hi
  have l1 := preN_length wrapD l i
  have l2 := preN_length numD l i
  have l3 := preN_length strD l i
  have hany : (l.take (i + 1)).any (fun c => decide (c.kind = 0)) = ((l.take i).any (fun c => decide (c.kind = 0)) || decide (l[i].kind = 0)) := by
   rw [take_snoc h1,List.any_append]; simp
  obtain ⟨⟨ck,n,s⟩,hx⟩ : ∃ x,x = l[i] := ⟨_,rfl⟩
  have gx := hx.symm
  rw [← hx] at hbs hws hns hss hany step
  simp only at step
  by_cases hs' : (64 : Int) < s.size
  ·subst hT2
   simp -dsimp -implicitDefEqProofs (disch:=first|omega|assumption) [Int.natCast_inj,wrap_i64,h1,gx,Cel.d,hs',hln]
   simpa -dsimp -implicitDefEqProofs (disch:=first|omega|assumption) [Int.natCast_inj,wrap_i64,E] using hT
  by_cases z : ck = 0
  ·subst z
   simp only [ne_eq,not_true_eq_false,if_false,List.append_nil,decide_true,Bool.or_true] at hws hns hss hany
   simp -dsimp -implicitDefEqProofs (disch:=first|omega|assumption) [Int.natCast_inj,wrap_i64,h1,gx,Cel.d,hs',hln]
   refine ih (i + 1) _ _ ⟨h1,step (by omega)⟩ (by omega) ?_
   rw [hbs,hws,hns,hss,hany]
   simp -dsimp -implicitDefEqProofs (disch:=first|omega|assumption) [hln,bitD,bit]
  ·have z' : ¬ (ck : Int) = 0 := by omega
   simp only [ne_eq,z,not_false_eq_true,if_true,decide_false,Bool.or_false] at hws hns hss hany
   simp -dsimp -implicitDefEqProofs (disch:=first|omega|assumption) [Int.natCast_inj,wrap_i64,h1,gx,Cel.d,hs',hln,z',z]
   refine ih (i + 1) _ _ ⟨h1,step (by omega)⟩ (by omega) ?_
   rw [hbs,hws,hns,hss,hany]
   simp -dsimp -implicitDefEqProofs (disch:=first|omega|assumption) [hln,bitD,bit,wrapD,numD,strD,z]
 ·exfalso
  obtain ⟨c,hc,e⟩ := hlo
  obtain ⟨j,hj,rfl⟩ := List.mem_iff_getElem.1 hc
  have := hsh j (by omega) hj
  omega
def rvalsM (k m : Nat) (b : List UInt8) : Option (List Cel) :=
 if k = 1 then (if (readI b m).2 ≠ 0 then none else some ((readI b m).1.map fun x => ⟨1,x,noS⟩))
 else if k = 2 then (if (unpackC b m).2 ≠ 0 then none else some ((unpackC b m).1.map fun (x : Nat) => ⟨2,(x : Int),noS⟩))
 else (if (rwordsM m b).2 = false then none else some ((rwordsM m b).1.map fun s => ⟨3,0,s⟩))
def scatC : List Nat → List Cel → List Cel
 | [],_ => []
 | x :: t,own => if x = 0 then Cel.none :: scatC t own else own.headD Cel.none :: scatC t own.tail
theorem scatC_length : ∀ (th : List Nat) (own : List Cel),(scatC th own).length = th.length
 | [],_ => rfl
 | x :: t,own => by
  unfold scatC
  split <;> simp [scatC_length t]
end Go.Am.Ab
namespace Go.Am.Ab
open Go.Proofs
set_option maxHeartbeats 4000000
def RdR (p : List Cel × Bool) : Option (List V × List Obj) := some ([.arr 0 p.1.length,.d (.bool p.2)],[.arr 3 (ce p.1) p.1.length])
theorem rdR_some (p : List Cel × Bool) : RdR p ≠ none := by simp [RdR]
open Classical in
noncomputable def rokM (k : Nat) (out : List Cel) (b : List UInt8) : Bool := decide ((∀ c ∈ out,c.s.size ≤ 64) ∧ colB k (out.map valOf) = b)
noncomputable def rreadM (k n : Nat) (b : List UInt8) : List Cel × Bool :=
 match pHeadC n b with
 | .err _ => ([],false)
 | .ok th r =>
  match rvalsM k th.sum r with
  | none => ([],false)
  | some own => (scatC th own,rokM k (scatC th own) b)
def readC1 (k : Nat) (c : Cel) : Prop := c = Cel.none ∨ (c.kind = k ∧ (k = 1 → isI64 c.n ∧ c.s = noS) ∧ (k = 2 → (c.n = 0 ∨ c.n = 1) ∧ c.s = noS) ∧ (k = 3 → c.n = 0))
theorem readC1_ok {k : Nat} (hk : 1 ≤ k ∧ k ≤ 3) {c : Cel} (h : readC1 k c) (hs : c.s.size ≤ 64) : chk c = 0 ∧ isI64 c.n := by
 rcases h with rfl | ⟨h1,h2,h3,h4⟩
 ·exact ⟨rfl,by unfold isI64; decide⟩
 ·have hc : k = 1 ∨ k = 2 ∨ k = 3 := by omega
  rcases hc with rfl | rfl | rfl
  ·obtain ⟨a,b⟩ := h2 rfl
   refine ⟨?_,a⟩
   unfold chk
   rw [if_neg (by omega),if_neg (by simp [h1,b]),if_neg (by omega)]
  ·obtain ⟨a,b⟩ := h3 rfl
   refine ⟨?_,by unfold isI64; omega⟩
   unfold chk
   rw [if_neg (by omega),if_neg (by simp [h1,b]; omega),if_neg (by omega)]
  ·have a := h4 rfl
   refine ⟨?_,by unfold isI64; omega⟩
   unfold chk
   rw [if_neg (by omega),if_neg (by simp [h1,a]),if_neg (by omega)]
theorem wout (k : Nat) (hk : 1 ≤ k ∧ k ≤ 3) (out : List Cel) (b : List UInt8) (hc : ∀ c ∈ out,readC1 k c) (h3 : k ≠ 3 → ∀ c ∈ out,c.s.size ≤ 64) (hn : out.length ≤ 256) :
  ∃ (w : List UInt8) (e : Nat),w.length ≤ 1000000 ∧ R 17 [.d (.int .i64 k),.d (.list (ce out))] [] = some ([.arr 0 w.length,E e],[.arr 1 (bytes w) 0]) ∧ (decide (e = 0) && decide (w = b)) = rokM k out b := by
 have hodd : out.any (oddC k) = false := by
  rw [List.any_eq_false]
  intro c hcc
  rcases hc c hcc with rfl | ⟨h1,_⟩
  ·simp [oddC,Cel.none]
  ·simp [oddC,h1]
 by_cases hs : ∀ c ∈ out,c.s.size ≤ 64
 ·have hvl : ∀ c ∈ out,chk c = 0 := fun c hcc => (readC1_ok hk (hc c hcc) (hs c hcc)).1
  have hi : ∀ c ∈ out,isI64 c.n := fun c hcc => (readC1_ok hk (hc c hcc) (hs c hcc)).2
  have hcl : (colB k (out.map valOf)).length ≤ 1000000 := by
   have hkl := kinds_len (out.map valOf)
   have htl := thereL_length (out.map valOf)
   simp only [List.length_map] at hkl htl
   have h1 := flagsB_len (l := thereL (out.map valOf)) (by omega)
   have h2 := flagsB_len (l := truths (out.map valOf)) (by omega)
   have h4 := wordsB_len (texts_is (no_long hvl)) (by omega)
   have h5 : k = 1 → (bestB (wholes (out.map valOf))).length ≤ 5121 := fun e => by
    have hkk : ∀ c ∈ out,c.kind = 0 ∨ c.kind = 1 := fun c hcc => by
     rcases hc c hcc with rfl | ⟨h1,_⟩
     ·exact .inl rfl
     ·exact .inr (by omega)
    refine bestB_len (fun n hn => ?_) (by omega)
    rw [← nn_whole hvl hkk] at hn
    obtain ⟨c,hcc,rfl⟩ := List.mem_map.1 hn
    exact hi c (List.mem_filter.1 hcc).1
   unfold colB headB bodyB
   rw [List.length_append]
   split <;> split <;> (try split) <;> simp only [List.length_cons,List.length_nil] <;> omega
  refine ⟨colB k (out.map valOf),0,hcl, ?_, ?_⟩
  ·have hcs : k = 1 ∨ k = 2 ∨ k = 3 := by omega
   rcases hcs with e | e | e
   ·exact rwrite1_yes k e out hvl hi hn hodd
   ·exact rwrite2_yes k e out hvl hi hn hodd
   ·exact rwrite3_yes k e out hvl hn hodd
  ·unfold rokM
   rw [decide_eq_true rfl,Bool.true_and]
   exact decide_eq_decide.2 ⟨fun h => ⟨hs,h⟩,fun h => h.2⟩
 ·have hk3 : k = 3 := Classical.byContradiction fun h => hs (h3 h)
  refine ⟨[],5,by simp, ?_, ?_⟩
  ·refine rwrite3_long k hk3 out (fun c hcc => ?_) hn ?_
   ·rcases hc c hcc with rfl | ⟨h1,_⟩
    ·exact .inl rfl
    ·exact .inr (by omega)
   ·apply Classical.byContradiction
    intro h
    exact hs fun c hcc => Classical.byContradiction fun g => h ⟨c,hcc,by omega⟩
  ·unfold rokM
   rw [decide_eq_false (by omega),Bool.false_and]
   exact (decide_eq_false fun h => hs h.1).symm
theorem scatC_mem {c : Cel} : ∀ {th : List Nat} {own : List Cel},c ∈ scatC th own → c = Cel.none ∨ c ∈ own
 | [],own,h => by simp [scatC] at h
 | x :: t,own,h => by
  unfold scatC at h
  split at h
  ·rcases List.mem_cons.1 h with h | h
   ·exact .inl h
   ·exact scatC_mem h
  ·rcases List.mem_cons.1 h with h | h
   ·cases own with
    | nil => exact .inl h
    | cons y r => exact .inr (by rw [h]; simp)
   ·rcases scatC_mem h with h | h
    ·exact .inl h
    ·exact .inr (List.mem_of_mem_tail h)
theorem unpackC_bits (b : List UInt8) (n : Nat) : ∀ x ∈ (unpackC b n).1,x ≤ 1 := by
 unfold unpackC
 split
 ·simp
 ·split
  ·intro x hx
   simp only [ups,List.mem_map] at hx
   obtain ⟨j,_,rfl⟩ := hx
   omega
  ·simp
theorem unpackC_len (b : List UInt8) (n : Nat) : (unpackC b n).2 = 0 → (unpackC b n).1.length = n := by
 unfold unpackC
 split
 ·simp
 ·split
  ·simp
  ·simp
theorem rTexts_len : ∀ {sz : List Int} {b rest : List UInt8} {l : List ByteArray},rTexts sz b = some (l,rest) → l.length = sz.length
 | [],b,rest,l,h => by simp [rTexts] at h; simp [← h.1]
 | k :: r,b,rest,l,h => by
  unfold rTexts at h
  split at h
  ·simp at h
  ·cases hp : rTexts r (b.drop k.toNat) with
   | none => rw [hp] at h; simp at h
   | some q =>
    obtain ⟨l2,r2⟩ := q
    rw [hp] at h
    simp at h
    rw [← h.1]; simp [rTexts_len hp]
theorem rcutM_len {n : Int} {b rest : List UInt8} {l : List Int} (h : rcutM n b = some (l,rest,0)) : (l.length : Int) = n := by
 unfold rcutM at h
 split at h
 ·cases h
 ·split at h
  ·cases h
  ·simp only [Option.some.injEq,Prod.mk.injEq] at h
   rw [← h.1]
   exact (readI_ok h.2.2).1
theorem rbodyM_len {list : Bool} {n m : Nat} {b : List UInt8} (hm : list = false → m = n) (h : (rbodyM list n m b).2 = true) : (rbodyM list n m b).1.length = n := by
 unfold rbodyM at h ⊢
 cases hp : rcutM (m : Int) b with
 | none => rw [hp] at h; simp at h
 | some q =>
  obtain ⟨sizes,rest,e⟩ := q
  rw [hp] at h
  simp only at h ⊢
  by_cases e0 : e ≠ 0
  ·rw [if_pos e0] at h; simp at h
  rw [if_neg e0] at h ⊢
  have e0' : e = 0 := by omega
  subst e0'
  have hl := rcutM_len hp
  cases hq : rTexts sizes rest with
  | none => rw [hq] at h; simp at h
  | some q =>
   obtain ⟨u,rest2⟩ := q
   rw [hq] at h
   simp only at h ⊢
   have hu := rTexts_len hq
   by_cases hb : list = false
   ·rw [if_pos hb]
    have := hm hb
    simp only; omega
   ·rw [if_neg hb] at h ⊢
    by_cases hk : ∀ k ∈ (readI rest2 n).1,0 ≤ k ∧ k < (u.length : Int)
    ·rw [if_pos hk] at h ⊢
     simp only [decide_eq_true_eq] at h
     have := (readI_ok h).1
     simp only [List.length_map]; omega
    ·rw [if_neg hk] at h; simp at h
theorem rwordsM_len {n : Nat} {b : List UInt8} (h : (rwordsM n b).2 = true) : (rwordsM n b).1.length = n := by
 unfold rwordsM at h ⊢
 cases b with
 | nil => simp at h
 | cons c r =>
  simp only at h ⊢
  by_cases c1 : 1 < c.toNat
  ·rw [if_pos c1] at h; simp at h
  rw [if_neg c1] at h ⊢
  by_cases c2 : c.toNat = 1
  ·rw [if_pos c2] at h ⊢
   by_cases c3 : (get r).2.2 ≠ 0
   ·rw [if_pos c3] at h; simp at h
   rw [if_neg c3] at h ⊢
   by_cases c4 : n < (get r).1
   ·rw [if_pos c4] at h; simp at h
   rw [if_neg c4] at h ⊢
   exact rbodyM_len (by simp) h
  ·rw [if_neg c2] at h ⊢
   exact rbodyM_len (fun _ => rfl) h
theorem rvalsM_good {k m : Nat} (hk : 1 ≤ k ∧ k ≤ 3) {b : List UInt8} {own : List Cel} (h : rvalsM k m b = some own) : own.length = m ∧ (∀ c ∈ own,readC1 k c) ∧ (k ≠ 3 → ∀ c ∈ own,c.s.size ≤ 64) := by
 have hc : k = 1 ∨ k = 2 ∨ k = 3 := by omega
 unfold rvalsM at h
 rcases hc with e | e | e
 ·rw [if_pos e] at h
  split at h
  ·cases h
  ·rename_i h0
   obtain ⟨h1,h2⟩ := readI_ok (b := b) (n := m) (by omega)
   simp only [Option.some.injEq] at h
   subst h
   refine ⟨by simp only [List.length_map]; omega,fun c hc => ?_,fun _ c hc => ?_⟩
   ·obtain ⟨x,hx,rfl⟩ := List.mem_map.1 hc
    exact .inr ⟨e.symm,fun _ => ⟨h2 x hx,rfl⟩,fun g => by omega,fun g => by omega⟩
   ·obtain ⟨x,hx,rfl⟩ := List.mem_map.1 hc
    show (0 : Nat) ≤ 64
    omega
 ·rw [if_neg (by omega),if_pos e] at h
  split at h
  ·cases h
  ·rename_i h0
   have h1 := unpackC_len b m (by omega)
   have h2 := unpackC_bits b m
   simp only [Option.some.injEq] at h
   subst h
   refine ⟨by simp only [List.length_map]; omega,fun c hc => ?_,fun _ c hc => ?_⟩
   ·obtain ⟨x,hx,rfl⟩ := List.mem_map.1 hc
    have := h2 x hx
    exact .inr ⟨e.symm,fun g => by omega,fun _ => ⟨by simp only; omega,rfl⟩,fun g => by omega⟩
   ·obtain ⟨x,hx,rfl⟩ := List.mem_map.1 hc
    show (0 : Nat) ≤ 64
    omega
 ·rw [if_neg (by omega),if_neg (by omega)] at h
  split at h
  ·cases h
  ·rename_i h0
   have h1 := rwordsM_len (n := m) (b := b) (by simpa using h0)
   simp only [Option.some.injEq] at h
   subst h
   refine ⟨by simp only [List.length_map]; omega,fun c hc => ?_,fun g => absurd e g⟩
   obtain ⟨x,hx,rfl⟩ := List.mem_map.1 hc
   exact .inr ⟨e.symm,fun g => by omega,fun g => by omega,fun _ => rfl⟩
theorem scatC_good {k : Nat} {th : List Nat} {own : List Cel} (h : (∀ c ∈ own,readC1 k c) ∧ (k ≠ 3 → ∀ c ∈ own,c.s.size ≤ 64)) : (∀ c ∈ scatC th own,readC1 k c) ∧ (k ≠ 3 → ∀ c ∈ scatC th own,c.s.size ≤ 64) := by
 refine ⟨fun c hc => ?_,fun g c hc => ?_⟩
 ·rcases scatC_mem hc with rfl | h1
  ·exact .inl rfl
  ·exact h.1 c h1
 ·rcases scatC_mem hc with rfl | h1
  ·show (0 : Nat) ≤ 64
   omega
  ·exact h.2 g c h1
theorem str_mk (a b : List UInt8) : ((⟨a.toArray⟩ : ByteArray).toList == (⟨b.toArray⟩ : ByteArray).toList) = decide (a = b) := by
 rw [str_beq]
 refine decide_eq_decide.2 ⟨fun h => ?_,fun h => by rw [h]⟩
 have := congrArg (fun x : ByteArray => x.data.toList) h
 simpa using this
end Go.Am.Ab
namespace Go.Am.Ab
open Go.Proofs
set_option maxHeartbeats 16000000
set_option maxRecDepth 4000
def wholeD (x : Int) : D := .agg [.int .u8 1,.int .i64 x,.str noS]
theorem wholeD_cel (l : List Int) : l.map wholeD = ce (l.map fun x : Int => (⟨1,x,noS⟩ : Cel)) := by simp [wholeD,Cel.d]
@[simp] theorem allSize_wholeD (l : List Int) : allSize 3 (l.map wholeD) = true := allSize_map l fun v => rfl
theorem rread1_runs (k n : Nat) (hk : k = 1) (b : List UInt8) (hn : n ≤ 256) (hb : b.length < 1000000) : Is (RdR (rreadM k n b)) (R 6 [.d (.int .i64 k),B b,.d (.int .i64 n)] []) := by
 have hk1 : ¬ (k : Int) < 1 := by omega
 have hk2 : ¬ (3 : Int) < k := by omega
 have hn1 : ¬ (n : Int) < 0 := by omega
 have hn2 : ¬ (256 : Int) < n := by omega
 have hkk : (k : Int) = 1 := by omega
 unfold rreadM
 by_cases hbe : b = []
 ·subst hbe
  refine run_any (rs := [.tmp 6,.tmp 7]) (ts := [29,4]) Tryz.func6 (c := _) rfl rfl rfl (by kernel_rfl) (by kernel_rfl) (.inl sp_6) (by simp [Tryz.f6]) (not_is (rdR_some _)) ?_
  simp -dsimp -implicitDefEqProofs (disch:=first|omega|assumption) [startSlots,Int.natCast_inj,wrap_i64,hk1,hk2,hn1,hn2]
  simp [Is,RdR,pHeadC]
 obtain ⟨c,r,hbc⟩ : ∃ c r,b = c :: r := by
  cases b with
  | nil => exact absurd rfl hbe
  | cons c r => exact ⟨c,r,rfl⟩
 have hl0 : ¬ (b.length : Int) = 0 := by rw [hbc,List.length_cons]; omega
 have hl1 : 0 < b.length := by rw [hbc,List.length_cons]; omega
 have hg0 : b[0] = c := by simp only [hbc,List.getElem_cons_zero]
 have hd0 : (bytes b).tail = bytes r := by rw [hbc]; rfl
 have hrl : r.length < 1000000 := by rw [hbc,List.length_cons] at hb; omega
 have hrk : r.length + 1 = b.length := by rw [hbc,List.length_cons]
 have hM := mapM_bytes b
 obtain ⟨A,hA⟩ : ∃ A,A = pHeadC n b := ⟨_,rfl⟩
 rw [← hA]
 rw [hbc] at hA
 unfold pHeadC at hA
 simp only at hA
 clear hbc
 by_cases c1 : 1 < c.toNat
 ·have c1' : (1 : Int) < c.toNat := by omega
  rw [if_pos c1] at hA
  subst hA
  refine run_any (rs := [.tmp 6,.tmp 7]) (ts := [29,4]) Tryz.func6 (c := _) rfl rfl rfl (by kernel_rfl) (by kernel_rfl) (.inl sp_6) (by simp [Tryz.f6]) (not_is (rdR_some _)) ?_
  simp -dsimp -implicitDefEqProofs (disch:=first|omega|assumption) [startSlots,Int.natCast_inj,wrap_i64,hk1,hk2,hn1,hn2,hbe,hl0,hl1,hg0,c1,c1']
  simp [Is,RdR]
 rw [if_neg c1] at hA
 have c1' : ¬ (1 : Int) < c.toNat := by omega
 have hrep : ∀ i,uc (List.replicate (i + 1) 1) = uc (List.replicate i 1) ++ [.int .u64 1] := fun i => by simp [List.replicate_succ']
 refine run_any (rs := [.tmp 6,.tmp 7]) (ts := [29,4]) Tryz.func6 (c := _) rfl rfl rfl (by kernel_rfl) (by kernel_rfl) (.inl sp_6) (by simp [Tryz.f6]) (not_is (rdR_some _)) ?_
 simp -dsimp -implicitDefEqProofs (disch:=first|omega|assumption) [startSlots,Int.natCast_inj,wrap_i64,hk1,hk2,hn1,hn2,hbe,hl0,hl1,hg0,c1,c1']
 generalize hT0 : Is _ = T0
 generalize hz : loopT _ _ _ _ _ _ = z
 revert z
 refine loop_any (σ := Nat) (fun i => [(0,.d (.int .i64 k)),(1,B b),(2,.d (.int .i64 n)),(8,.arr 0 i),(9,.d (.int .i64 i))]) (fun i => [.arr 1 (uc (List.replicate i 1)) 0]) (fun i => i ≤ n) (fun i => n - i) 0 ?_ ?_ ?_
 ·exact Nat.zero_le _
 ·simp -dsimp -implicitDefEqProofs (disch:=first|omega|assumption) [B]
 intro T' f hT' i hi ih
 by_cases h1 : i < n
 ·have h1' : (i : Int) < n := by omega
  have hr1 := hrep i
  simp -dsimp -implicitDefEqProofs (disch:=first|omega|assumption) [Int.natCast_inj,wrap_i64,h1,h1']
  refine ih (i + 1) _ _ h1 (by omega) ?_
  rw [hr1]
  simp -dsimp -implicitDefEqProofs (disch:=first|omega|assumption) [B]
 obtain rfl : i = n := by omega
 subst hT'
 clear ih hi h1
 rcases Decidable.em (c.toNat = 1) with c2 | c2
 case' inr =>
  rw [if_neg c2] at hA
  have c2' : ¬ (c.toNat : Int) = 1 := by omega
  subst hA
  simp -dsimp -implicitDefEqProofs (disch:=first|omega|assumption) [Int.natCast_inj,wrap_i64,hl0,hl1,hg0,hd0,hrk,c2,c2']
  generalize hrb : r = rb at hT0 ⊢
  have hrbl : rb.length < 1000000 := by rw [← hrb]; exact hrl
  have hthl : (List.replicate i 1).length = i := List.length_replicate
  have hth : ∀ x ∈ List.replicate i 1,x ≤ 1 := fun x hx => by rw [(List.mem_replicate.1 hx).2]; omega
  generalize hte : List.replicate i 1 = th at *
  have huc : List.replicate i (D.int .u64 1) = uc th := by rw [← hte]; simp
  rw [huc]
  subst hthl
  clear hte hrb huc
 case' inl =>
  rw [if_pos c2] at hA
  have c2' : (c.toNat : Int) = 1 := by omega
  obtain ⟨sz,hsz⟩ : ∃ sz,sz = (i + 7) / 8 := ⟨_,rfl⟩
  have hsz' : ((i : Int) + 7) / 8 = sz := by omega
  rw [← hsz] at hA
  by_cases c3 : r.length < sz
  ·rw [if_pos c3] at hA
   have c3' : (r.length : Int) < sz := by omega
   subst hA
   simp -dsimp -implicitDefEqProofs (disch:=first|omega|assumption) [Int.natCast_inj,wrap_i64,hl0,hl1,hg0,hd0,hrk,c2,c2',hsz',c3,c3']
   rw [← hT0]
   simp [Is,RdR]
  rw [if_neg c3] at hA
  have c3' : ¬ (r.length : Int) < sz := by omega
  have c3b : sz ≤ r.length := by omega
  obtain ⟨bt,hbt⟩ : ∃ bt,bt = r.take sz := ⟨_,rfl⟩
  obtain ⟨rb,hbd⟩ : ∃ rb,rb = r.drop sz := ⟨_,rfl⟩
  have hbt' : List.take sz (bytes r) = bytes bt := by rw [hbt,bytes,bytes,List.map_take]
  have hbd' : List.drop sz (bytes r) = bytes rb := by rw [hbd,bytes,bytes,List.map_drop]
  have hbtl : bt.length < 1000000 := by rw [hbt,List.length_take]; omega
  have hrbl : rb.length < 1000000 := by rw [hbd,List.length_drop]; omega
  rw [← hbt,← hbd] at hA
  have hup := runpack1_runs bt i hn hbtl
  have hth := unpackC_bits bt i
  have hthl0 := unpackC_len bt i
  obtain ⟨th,hte⟩ : ∃ th,th = (unpackC bt i).1 := ⟨_,rfl⟩
  obtain ⟨e,hee⟩ : ∃ e,e = (unpackC bt i).2 := ⟨_,rfl⟩
  rw [← hte,← hee] at hup hthl0 hA
  rw [← hte] at hth
  clear hte hee hbt hbd hsz
  by_cases c4 : e ≠ 0
  ·rw [if_pos c4] at hA
   have c4' : ¬ (e : Int) = 0 := by omega
   subst hA
   simp -dsimp -implicitDefEqProofs (disch:=first|omega|assumption) [Int.natCast_inj,wrap_i64,hl0,hl1,hg0,hd0,hrk,c2,c2',hsz',c3,c3',c3b,hbt',hup,c4,c4']
   rw [← hT0]
   simp [Is,RdR]
  rw [if_neg c4] at hA
  have c4' : e = 0 := by omega
  subst c4'
  have hthl := hthl0 rfl
  subst hthl
  subst hA
  simp -dsimp -implicitDefEqProofs (disch:=first|omega|assumption) [Int.natCast_inj,wrap_i64,hl0,hl1,hg0,hd0,hrk,c2,c2',hsz',c3,c3',c3b,hbt',hup,hbd']
 all_goals
  have hsum := sum_le hth
  generalize hz : loopT _ _ _ _ _ _ = z
  revert z
  refine loop_any (σ := Nat) (fun i => [(0,.d (.int .i64 k)),(1,B b),(2,.d (.int .i64 th.length)),(8,.arr 0 th.length),(10,B rb),(13,.d (.int .i64 ((th.take i).sum : Nat))),(14,.d (.int .i64 i))]) (fun i => [.arr 1 (uc th) 0]) (fun i => i ≤ th.length) (fun i => th.length - i) 0 ?_ ?_ ?_
  ·exact Nat.zero_le _
  ·simp -dsimp -implicitDefEqProofs (disch:=first|omega|assumption) [B]
  intro T' f hT' i hi ih
  by_cases h1 : i < th.length
  ·have hx := hth th[i] (List.getElem_mem _)
   have hs := sum_take h1
   have hsl : (th.take i).sum ≤ i := by
    have := sum_le (l := th.take i) fun x hx => hth x (List.mem_of_mem_take hx)
    have h2 : (th.take i).length ≤ i := by simp; omega
    omega
   obtain ⟨x,hxe⟩ : ∃ x,x = th[i] := ⟨_,rfl⟩
   rw [← hxe] at hx hs
   have gx := hxe.symm
   have hw : IntKind.i64.wrap (x : Int) = x := wrap_i64 (by omega) (by omega)
   simp -dsimp -implicitDefEqProofs (disch:=first|omega|assumption) [Int.natCast_inj,wrap_i64,h1,gx,hw]
   refine ih (i + 1) _ _ h1 (by omega) ?_
   rw [hs]
   simp -dsimp -implicitDefEqProofs (disch:=first|omega|assumption) [B]
  obtain rfl : i = th.length := by omega
  subst hT'
  clear ih hi h1
  rw [List.take_length]
  simp only at hT0
  have hvg : ∀ own,rvalsM k th.sum rb = some own → _ := fun own => rvalsM_good (k := k) (m := th.sum) (by omega) (b := rb) (own := own)
  have hrd := rread_runs rb th.sum hrbl (by unfold isI64; omega)
  rw [show rvalsM k th.sum rb = (if (readI rb th.sum).2 ≠ 0 then none else some ((readI rb th.sum).1.map fun x => (⟨1,x,noS⟩ : Cel))) from by unfold rvalsM; rw [if_pos hk]] at hT0 hvg
  obtain ⟨pl,hpe⟩ : ∃ pl,pl = (readI rb th.sum).1 := ⟨_,rfl⟩
  obtain ⟨e,hee⟩ : ∃ e,e = (readI rb th.sum).2 := ⟨_,rfl⟩
  rw [← hpe,← hee] at hT0 hvg hrd
  clear hpe hee
  by_cases e0 : e ≠ 0
  ·rw [if_pos e0] at hT0
   have e0' : ¬ (e : Int) = 0 := by omega
   simp -dsimp -implicitDefEqProofs (disch:=first|omega|assumption) [Int.natCast_inj,wrap_i64,hkk,hrd,e0,e0']
   rw [← hT0]
   simp [Is,RdR]
  have e0' : e = 0 := by omega
  subst e0'
  rw [if_neg e0] at hT0 hvg
  simp -dsimp -implicitDefEqProofs (disch:=first|omega|assumption) [Int.natCast_inj,wrap_i64,hkk,hrd]
  have hpll : pl.length ≤ 256 := by have := (hvg _ rfl).1; rw [List.length_map] at this; omega
  generalize hz : loopT _ _ _ _ _ _ = z
  revert z
  refine loop_any (σ := Nat) (fun i => [(0,.d (.int .i64 1)),(1,B b),(2,.d (.int .i64 th.length)),(8,.arr 0 th.length),(15,.arr 1 i),(16,.arr 2 pl.length),(18,.d (.int .i64 i))]) (fun i => [.arr 1 (uc th) 0,.arr 3 (preD wholeD pl i) 0,.arr 1 (cs pl) pl.length]) (fun i => i ≤ pl.length) (fun i => pl.length - i) 0 ?_ ?_ ?_
  ·exact Nat.zero_le _
  ·simp -dsimp -implicitDefEqProofs (disch:=first|omega|assumption) [B,preD_zero]
  intro T3 f3 hT3 i hi ih
  by_cases h1 : i < pl.length
  ·have hsu := preD_succ (g := wholeD) h1
   have hln := preD_length (g := wholeD) hi
   obtain ⟨x,hxe⟩ : ∃ x,x = pl[i] := ⟨_,rfl⟩
   have gx := hxe.symm
   rw [← hxe] at hsu
   simp -dsimp -implicitDefEqProofs (disch:=first|omega|assumption) [Int.natCast_inj,wrap_i64,h1,gx,hln]
   refine ih (i + 1) _ _ h1 (by omega) ?_
   rw [hsu]
   simp -dsimp -implicitDefEqProofs (disch:=first|omega|assumption) [hln,B,wholeD]
  obtain rfl : i = pl.length := by omega
  rw [preD_end (Nat.le_refl _),wholeD_cel]
  subst hT3
  clear ih hi h1
  obtain ⟨own,hown⟩ : ∃ own : List Cel,own = pl.map (fun x => (⟨1,x,noS⟩ : Cel)) := ⟨_,rfl⟩
  have hol : own.length = pl.length := by rw [hown,List.length_map]
  rw [← hown] at hT0 hvg ⊢
  simp -dsimp -implicitDefEqProofs (disch:=first|omega|assumption) [Int.natCast_inj,wrap_i64]
  clear hown
  obtain ⟨hol2,hog⟩ := hvg _ rfl
  have hps : pl.length = th.sum := by omega
  simp only at hT0
  obtain ⟨hsg,hsg3⟩ := scatC_good (th := th) hog
  generalize hz : loopT _ _ _ _ _ _ = z
  revert z
  refine loop_any (σ := Nat × List Cel × Nat) (fun x => [(0,.d (.int .i64 1)),(1,B b),(2,.d (.int .i64 th.length)),(8,.arr 0 th.length),(15,.arr 1 own.length),(25,.arr 2 x.2.1.length),(26,.d (.int .i64 x.2.2)),(27,.d (.int .i64 x.1))]) (fun x => [.arr 1 (uc th) 0,.arr 3 (ce own) 0,.arr 3 (ce x.2.1) 0]) (fun x => x.1 ≤ th.length ∧ x.2.1.length = x.1 ∧ x.2.2 + (th.drop x.1).sum = own.length ∧ scatC th own = x.2.1 ++ scatC (th.drop x.1) (own.drop x.2.2)) (fun x => th.length - x.1) (0,[],0) ?_ ?_ ?_
  ·exact ⟨Nat.zero_le _,rfl,by rw [List.drop_zero]; simp only; omega,by rw [List.drop_zero,List.drop_zero]; rfl⟩
  ·simp -dsimp -implicitDefEqProofs (disch:=first|omega|assumption) [B,hol2,hps]
  intro T2 f2 hT2 ⟨i,dn,at0⟩ ⟨hi,hdl,hat,hsc⟩ ih
  simp only at hi hdl hat hsc ih
  by_cases h1 : i < th.length
  ·have hdr : th.drop i = th[i] :: th.drop (i + 1) := List.drop_eq_getElem_cons h1
   have hx := hth th[i] (List.getElem_mem _)
   obtain ⟨x,hxe⟩ : ∃ x,x = th[i] := ⟨_,rfl⟩
   rw [← hxe] at hdr hx
   have gx := hxe.symm
   rw [hdr,List.sum_cons] at hat
   rw [hdr,scatC] at hsc
   by_cases hx0 : x = 0
   ·rw [if_pos hx0] at hsc
    have hx0' : (x : Int) = 0 := by omega
    simp -dsimp -implicitDefEqProofs (disch:=first|omega|assumption) [Int.natCast_inj,wrap_i64,h1,gx,hx0,hx0',hdl]
    refine ih (i + 1,dn ++ [Cel.none],at0) _ _ ⟨h1,by simp [hdl],by simp only; omega, ?_⟩ (by simp only; omega) ?_
    ·rw [hsc]; simp
    ·simp -dsimp -implicitDefEqProofs (disch:=first|omega|assumption) [hdl,Cel.none,Cel.d,B]
   ·rw [if_neg hx0] at hsc
    have hx0' : ¬ (x : Int) = 0 := by omega
    have ha : at0 < own.length := by omega
    have hod : own.drop at0 = own[at0] :: own.drop (at0 + 1) := List.drop_eq_getElem_cons ha
    obtain ⟨⟨ck,cn,cs0⟩,hce⟩ : ∃ c,c = own[at0] := ⟨_,rfl⟩
    have gc := hce.symm
    rw [← hce] at hod
    rw [hod,List.headD_cons,List.tail_cons] at hsc
    simp -dsimp -implicitDefEqProofs (disch:=first|omega|assumption) [Int.natCast_inj,wrap_i64,h1,gx,hx0,hx0',hdl,ha,gc,Cel.d]
    refine ih (i + 1,dn ++ [⟨ck,cn,cs0⟩],at0 + 1) _ _ ⟨h1,by simp [hdl],by simp only; omega, ?_⟩ (by simp only; omega) ?_
    ·rw [hsc]; simp
    ·simp -dsimp -implicitDefEqProofs (disch:=first|omega|assumption) [hdl,Cel.d,B]
  obtain rfl : i = th.length := by omega
  rw [List.drop_length,scatC,List.append_nil] at hsc
  rw [hsc] at hsg hsg3 hT0
  obtain ⟨w,e,hwl,hwr,hwe⟩ := wout k (by omega) dn b hsg hsg3 (by omega)
  have hMw := mapM_bytes w
  rw [hkk] at hwr
  subst hT2
  clear ih hi h1
  by_cases e0 : e = 0
  ·subst e0
   rw [decide_eq_true rfl,Bool.true_and] at hwe
   have hwe2 : (w == b) = rokM k dn b := by rw [← hwe]; by_cases h : w = b <;> simp [h]
   simp -dsimp -implicitDefEqProofs (disch:=first|omega|assumption) [Int.natCast_inj,wrap_i64,hwr,hMw,hM,str_mk,hwe,hdl]
   rw [← hT0]
   simp [Is,RdR,hdl,hwe2]
  ·have e0' : ¬ (e : Int) = 0 := by omega
   rw [decide_eq_false e0,Bool.false_and] at hwe
   simp -dsimp -implicitDefEqProofs (disch:=first|omega|assumption) [Int.natCast_inj,wrap_i64,hwr,e0,e0',hdl]
   rw [← hT0]
   simp [Is,RdR,hdl,← hwe]
end Go.Am.Ab
namespace Go.Am.Ab
open Go.Proofs
set_option maxHeartbeats 16000000
set_option maxRecDepth 4000
def truthD (x : Nat) : D := .agg [.int .u8 2,.int .i64 (x : Int),.str noS]
theorem truthD_cel (l : List Nat) : l.map truthD = ce (l.map fun x : Nat => (⟨2,(x : Int),noS⟩ : Cel)) := by simp [truthD,Cel.d]
@[simp] theorem allSize_truthD (l : List Nat) : allSize 3 (l.map truthD) = true := allSize_map l fun v => rfl
theorem rread2_runs (k n : Nat) (hk : k = 2) (b : List UInt8) (hn : n ≤ 256) (hb : b.length < 1000000) : Is (RdR (rreadM k n b)) (R 6 [.d (.int .i64 k),B b,.d (.int .i64 n)] []) := by
 have hk1 : ¬ (k : Int) < 1 := by omega
 have hk2 : ¬ (3 : Int) < k := by omega
 have hn1 : ¬ (n : Int) < 0 := by omega
 have hn2 : ¬ (256 : Int) < n := by omega
 have hkk : (k : Int) = 2 := by omega
 have hkx : ¬ (k : Int) = 1 := by omega
 unfold rreadM
 by_cases hbe : b = []
 ·subst hbe
  refine run_any (rs := [.tmp 6,.tmp 7]) (ts := [29,4]) Tryz.func6 (c := _) rfl rfl rfl (by kernel_rfl) (by kernel_rfl) (.inl sp_6) (by simp [Tryz.f6]) (not_is (rdR_some _)) ?_
  simp -dsimp -implicitDefEqProofs (disch:=first|omega|assumption) [startSlots,Int.natCast_inj,wrap_i64,hk1,hk2,hn1,hn2]
  simp [Is,RdR,pHeadC]
 obtain ⟨c,r,hbc⟩ : ∃ c r,b = c :: r := by
  cases b with
  | nil => exact absurd rfl hbe
  | cons c r => exact ⟨c,r,rfl⟩
 have hl0 : ¬ (b.length : Int) = 0 := by rw [hbc,List.length_cons]; omega
 have hl1 : 0 < b.length := by rw [hbc,List.length_cons]; omega
 have hg0 : b[0] = c := by simp only [hbc,List.getElem_cons_zero]
 have hd0 : (bytes b).tail = bytes r := by rw [hbc]; rfl
 have hrl : r.length < 1000000 := by rw [hbc,List.length_cons] at hb; omega
 have hrk : r.length + 1 = b.length := by rw [hbc,List.length_cons]
 have hM := mapM_bytes b
 obtain ⟨A,hA⟩ : ∃ A,A = pHeadC n b := ⟨_,rfl⟩
 rw [← hA]
 rw [hbc] at hA
 unfold pHeadC at hA
 simp only at hA
 clear hbc
 by_cases c1 : 1 < c.toNat
 ·have c1' : (1 : Int) < c.toNat := by omega
  rw [if_pos c1] at hA
  subst hA
  refine run_any (rs := [.tmp 6,.tmp 7]) (ts := [29,4]) Tryz.func6 (c := _) rfl rfl rfl (by kernel_rfl) (by kernel_rfl) (.inl sp_6) (by simp [Tryz.f6]) (not_is (rdR_some _)) ?_
  simp -dsimp -implicitDefEqProofs (disch:=first|omega|assumption) [startSlots,Int.natCast_inj,wrap_i64,hk1,hk2,hn1,hn2,hbe,hl0,hl1,hg0,c1,c1']
  simp [Is,RdR]
 rw [if_neg c1] at hA
 have c1' : ¬ (1 : Int) < c.toNat := by omega
 have hrep : ∀ i,uc (List.replicate (i + 1) 1) = uc (List.replicate i 1) ++ [.int .u64 1] := fun i => by simp [List.replicate_succ']
 refine run_any (rs := [.tmp 6,.tmp 7]) (ts := [29,4]) Tryz.func6 (c := _) rfl rfl rfl (by kernel_rfl) (by kernel_rfl) (.inl sp_6) (by simp [Tryz.f6]) (not_is (rdR_some _)) ?_
 simp -dsimp -implicitDefEqProofs (disch:=first|omega|assumption) [startSlots,Int.natCast_inj,wrap_i64,hk1,hk2,hn1,hn2,hbe,hl0,hl1,hg0,c1,c1']
 generalize hT0 : Is _ = T0
 generalize hz : loopT _ _ _ _ _ _ = z
 revert z
 refine loop_any (σ := Nat) (fun i => [(0,.d (.int .i64 k)),(1,B b),(2,.d (.int .i64 n)),(8,.arr 0 i),(9,.d (.int .i64 i))]) (fun i => [.arr 1 (uc (List.replicate i 1)) 0]) (fun i => i ≤ n) (fun i => n - i) 0 ?_ ?_ ?_
 ·exact Nat.zero_le _
 ·simp -dsimp -implicitDefEqProofs (disch:=first|omega|assumption) [B]
 intro T' f hT' i hi ih
 by_cases h1 : i < n
 ·have h1' : (i : Int) < n := by omega
  have hr1 := hrep i
  simp -dsimp -implicitDefEqProofs (disch:=first|omega|assumption) [Int.natCast_inj,wrap_i64,h1,h1']
  refine ih (i + 1) _ _ h1 (by omega) ?_
  rw [hr1]
  simp -dsimp -implicitDefEqProofs (disch:=first|omega|assumption) [B]
 obtain rfl : i = n := by omega
 subst hT'
 clear ih hi h1
 rcases Decidable.em (c.toNat = 1) with c2 | c2
 case' inr =>
  rw [if_neg c2] at hA
  have c2' : ¬ (c.toNat : Int) = 1 := by omega
  subst hA
  simp -dsimp -implicitDefEqProofs (disch:=first|omega|assumption) [Int.natCast_inj,wrap_i64,hl0,hl1,hg0,hd0,hrk,c2,c2']
  generalize hrb : r = rb at hT0 ⊢
  have hrbl : rb.length < 1000000 := by rw [← hrb]; exact hrl
  have hthl : (List.replicate i 1).length = i := List.length_replicate
  have hth : ∀ x ∈ List.replicate i 1,x ≤ 1 := fun x hx => by rw [(List.mem_replicate.1 hx).2]; omega
  generalize hte : List.replicate i 1 = th at *
  have huc : List.replicate i (D.int .u64 1) = uc th := by rw [← hte]; simp
  rw [huc]
  subst hthl
  clear hte hrb huc
 case' inl =>
  rw [if_pos c2] at hA
  have c2' : (c.toNat : Int) = 1 := by omega
  obtain ⟨sz,hsz⟩ : ∃ sz,sz = (i + 7) / 8 := ⟨_,rfl⟩
  have hsz' : ((i : Int) + 7) / 8 = sz := by omega
  rw [← hsz] at hA
  by_cases c3 : r.length < sz
  ·rw [if_pos c3] at hA
   have c3' : (r.length : Int) < sz := by omega
   subst hA
   simp -dsimp -implicitDefEqProofs (disch:=first|omega|assumption) [Int.natCast_inj,wrap_i64,hl0,hl1,hg0,hd0,hrk,c2,c2',hsz',c3,c3']
   rw [← hT0]
   simp [Is,RdR]
  rw [if_neg c3] at hA
  have c3' : ¬ (r.length : Int) < sz := by omega
  have c3b : sz ≤ r.length := by omega
  obtain ⟨bt,hbt⟩ : ∃ bt,bt = r.take sz := ⟨_,rfl⟩
  obtain ⟨rb,hbd⟩ : ∃ rb,rb = r.drop sz := ⟨_,rfl⟩
  have hbt' : List.take sz (bytes r) = bytes bt := by rw [hbt,bytes,bytes,List.map_take]
  have hbd' : List.drop sz (bytes r) = bytes rb := by rw [hbd,bytes,bytes,List.map_drop]
  have hbtl : bt.length < 1000000 := by rw [hbt,List.length_take]; omega
  have hrbl : rb.length < 1000000 := by rw [hbd,List.length_drop]; omega
  rw [← hbt,← hbd] at hA
  have hup := runpack1_runs bt i hn hbtl
  have hth := unpackC_bits bt i
  have hthl0 := unpackC_len bt i
  obtain ⟨th,hte⟩ : ∃ th,th = (unpackC bt i).1 := ⟨_,rfl⟩
  obtain ⟨e,hee⟩ : ∃ e,e = (unpackC bt i).2 := ⟨_,rfl⟩
  rw [← hte,← hee] at hup hthl0 hA
  rw [← hte] at hth
  clear hte hee hbt hbd hsz
  by_cases c4 : e ≠ 0
  ·rw [if_pos c4] at hA
   have c4' : ¬ (e : Int) = 0 := by omega
   subst hA
   simp -dsimp -implicitDefEqProofs (disch:=first|omega|assumption) [Int.natCast_inj,wrap_i64,hl0,hl1,hg0,hd0,hrk,c2,c2',hsz',c3,c3',c3b,hbt',hup,c4,c4']
   rw [← hT0]
   simp [Is,RdR]
  rw [if_neg c4] at hA
  have c4' : e = 0 := by omega
  subst c4'
  have hthl := hthl0 rfl
  subst hthl
  subst hA
  simp -dsimp -implicitDefEqProofs (disch:=first|omega|assumption) [Int.natCast_inj,wrap_i64,hl0,hl1,hg0,hd0,hrk,c2,c2',hsz',c3,c3',c3b,hbt',hup,hbd']
 all_goals
  have hsum := sum_le hth
  generalize hz : loopT _ _ _ _ _ _ = z
  revert z
  refine loop_any (σ := Nat) (fun i => [(0,.d (.int .i64 k)),(1,B b),(2,.d (.int .i64 th.length)),(8,.arr 0 th.length),(10,B rb),(13,.d (.int .i64 ((th.take i).sum : Nat))),(14,.d (.int .i64 i))]) (fun i => [.arr 1 (uc th) 0]) (fun i => i ≤ th.length) (fun i => th.length - i) 0 ?_ ?_ ?_
  ·exact Nat.zero_le _
  ·simp -dsimp -implicitDefEqProofs (disch:=first|omega|assumption) [B]
  intro T' f hT' i hi ih
  by_cases h1 : i < th.length
  ·have hx := hth th[i] (List.getElem_mem _)
   have hs := sum_take h1
   have hsl : (th.take i).sum ≤ i := by
    have := sum_le (l := th.take i) fun x hx => hth x (List.mem_of_mem_take hx)
    have h2 : (th.take i).length ≤ i := by simp; omega
    omega
   obtain ⟨x,hxe⟩ : ∃ x,x = th[i] := ⟨_,rfl⟩
   rw [← hxe] at hx hs
   have gx := hxe.symm
   have hw : IntKind.i64.wrap (x : Int) = x := wrap_i64 (by omega) (by omega)
   simp -dsimp -implicitDefEqProofs (disch:=first|omega|assumption) [Int.natCast_inj,wrap_i64,h1,gx,hw]
   refine ih (i + 1) _ _ h1 (by omega) ?_
   rw [hs]
   simp -dsimp -implicitDefEqProofs (disch:=first|omega|assumption) [B]
  obtain rfl : i = th.length := by omega
  subst hT'
  clear ih hi h1
  rw [List.take_length]
  simp only at hT0
  have hvg : ∀ own,rvalsM k th.sum rb = some own → _ := fun own => rvalsM_good (k := k) (m := th.sum) (by omega) (b := rb) (own := own)
  have hrd := runpack1_runs rb th.sum (by omega) hrbl
  rw [show rvalsM k th.sum rb = (if (unpackC rb th.sum).2 ≠ 0 then none else some ((unpackC rb th.sum).1.map fun (x : Nat) => (⟨2,(x : Int),noS⟩ : Cel))) from by unfold rvalsM; rw [if_neg (by omega),if_pos hk]] at hT0 hvg
  have hbits := unpackC_bits rb th.sum
  obtain ⟨pl,hpe⟩ : ∃ pl,pl = (unpackC rb th.sum).1 := ⟨_,rfl⟩
  obtain ⟨e,hee⟩ : ∃ e,e = (unpackC rb th.sum).2 := ⟨_,rfl⟩
  rw [← hpe,← hee] at hT0 hvg hrd
  rw [← hpe] at hbits
  clear hpe hee
  by_cases e0 : e ≠ 0
  ·rw [if_pos e0] at hT0
   have e0' : ¬ (e : Int) = 0 := by omega
   simp -dsimp -implicitDefEqProofs (disch:=first|omega|assumption) [Int.natCast_inj,wrap_i64,hkx,hkk,hrd,e0,e0']
   rw [← hT0]
   simp [Is,RdR]
  have e0' : e = 0 := by omega
  subst e0'
  rw [if_neg e0] at hT0 hvg
  simp -dsimp -implicitDefEqProofs (disch:=first|omega|assumption) [Int.natCast_inj,wrap_i64,hkx,hkk,hrd]
  have hpll : pl.length ≤ 256 := by have := (hvg _ rfl).1; rw [List.length_map] at this; omega
  generalize hz : loopT _ _ _ _ _ _ = z
  revert z
  refine loop_any (σ := Nat) (fun i => [(0,.d (.int .i64 2)),(1,B b),(2,.d (.int .i64 th.length)),(8,.arr 0 th.length),(15,.arr 1 i),(19,.arr 2 pl.length),(21,.d (.int .i64 i))]) (fun i => [.arr 1 (uc th) 0,.arr 3 (preD truthD pl i) 0,.arr 1 (uc pl) 0]) (fun i => i ≤ pl.length) (fun i => pl.length - i) 0 ?_ ?_ ?_
  ·exact Nat.zero_le _
  ·simp -dsimp -implicitDefEqProofs (disch:=first|omega|assumption) [B,preD_zero]
  intro T3 f3 hT3 i hi ih
  by_cases h1 : i < pl.length
  ·have hsu := preD_succ (g := truthD) h1
   have hln := preD_length (g := truthD) hi
   obtain ⟨x,hxe⟩ : ∃ x,x = pl[i] := ⟨_,rfl⟩
   have gx := hxe.symm
   rw [← hxe] at hsu
   have hxb := hbits pl[i] (List.getElem_mem _)
   rw [← hxe] at hxb
   have hw : IntKind.i64.wrap (x : Int) = x := wrap_i64 (by omega) (by omega)
   simp -dsimp -implicitDefEqProofs (disch:=first|omega|assumption) [Int.natCast_inj,wrap_i64,h1,gx,hln,hw]
   refine ih (i + 1) _ _ h1 (by omega) ?_
   rw [hsu]
   simp -dsimp -implicitDefEqProofs (disch:=first|omega|assumption) [hln,B,truthD]
  obtain rfl : i = pl.length := by omega
  rw [preD_end (Nat.le_refl _),truthD_cel]
  subst hT3
  clear ih hi h1
  obtain ⟨own,hown⟩ : ∃ own : List Cel,own = pl.map (fun (x : Nat) => (⟨2,(x : Int),noS⟩ : Cel)) := ⟨_,rfl⟩
  have hol : own.length = pl.length := by rw [hown,List.length_map]
  rw [← hown] at hT0 hvg ⊢
  simp -dsimp -implicitDefEqProofs (disch:=first|omega|assumption) [Int.natCast_inj,wrap_i64]
  clear hown
  obtain ⟨hol2,hog⟩ := hvg _ rfl
  have hps : pl.length = th.sum := by omega
  simp only at hT0
  obtain ⟨hsg,hsg3⟩ := scatC_good (th := th) hog
  generalize hz : loopT _ _ _ _ _ _ = z
  revert z
  refine loop_any (σ := Nat × List Cel × Nat) (fun x => [(0,.d (.int .i64 2)),(1,B b),(2,.d (.int .i64 th.length)),(8,.arr 0 th.length),(15,.arr 1 own.length),(25,.arr 2 x.2.1.length),(26,.d (.int .i64 x.2.2)),(27,.d (.int .i64 x.1))]) (fun x => [.arr 1 (uc th) 0,.arr 3 (ce own) 0,.arr 3 (ce x.2.1) 0]) (fun x => x.1 ≤ th.length ∧ x.2.1.length = x.1 ∧ x.2.2 + (th.drop x.1).sum = own.length ∧ scatC th own = x.2.1 ++ scatC (th.drop x.1) (own.drop x.2.2)) (fun x => th.length - x.1) (0,[],0) ?_ ?_ ?_
  ·exact ⟨Nat.zero_le _,rfl,by rw [List.drop_zero]; simp only; omega,by rw [List.drop_zero,List.drop_zero]; rfl⟩
  ·simp -dsimp -implicitDefEqProofs (disch:=first|omega|assumption) [B,hol2,hps]
  intro T2 f2 hT2 ⟨i,dn,at0⟩ ⟨hi,hdl,hat,hsc⟩ ih
  simp only at hi hdl hat hsc ih
  by_cases h1 : i < th.length
  ·have hdr : th.drop i = th[i] :: th.drop (i + 1) := List.drop_eq_getElem_cons h1
   have hx := hth th[i] (List.getElem_mem _)
   obtain ⟨x,hxe⟩ : ∃ x,x = th[i] := ⟨_,rfl⟩
   rw [← hxe] at hdr hx
   have gx := hxe.symm
   rw [hdr,List.sum_cons] at hat
   rw [hdr,scatC] at hsc
   by_cases hx0 : x = 0
   ·rw [if_pos hx0] at hsc
    have hx0' : (x : Int) = 0 := by omega
    simp -dsimp -implicitDefEqProofs (disch:=first|omega|assumption) [Int.natCast_inj,wrap_i64,h1,gx,hx0,hx0',hdl]
    refine ih (i + 1,dn ++ [Cel.none],at0) _ _ ⟨h1,by simp [hdl],by simp only; omega, ?_⟩ (by simp only; omega) ?_
    ·rw [hsc]; simp
    ·simp -dsimp -implicitDefEqProofs (disch:=first|omega|assumption) [hdl,Cel.none,Cel.d,B]
   ·rw [if_neg hx0] at hsc
    have hx0' : ¬ (x : Int) = 0 := by omega
    have ha : at0 < own.length := by omega
    have hod : own.drop at0 = own[at0] :: own.drop (at0 + 1) := List.drop_eq_getElem_cons ha
    obtain ⟨⟨ck,cn,cs0⟩,hce⟩ : ∃ c,c = own[at0] := ⟨_,rfl⟩
    have gc := hce.symm
    rw [← hce] at hod
    rw [hod,List.headD_cons,List.tail_cons] at hsc
    simp -dsimp -implicitDefEqProofs (disch:=first|omega|assumption) [Int.natCast_inj,wrap_i64,h1,gx,hx0,hx0',hdl,ha,gc,Cel.d]
    refine ih (i + 1,dn ++ [⟨ck,cn,cs0⟩],at0 + 1) _ _ ⟨h1,by simp [hdl],by simp only; omega, ?_⟩ (by simp only; omega) ?_
    ·rw [hsc]; simp
    ·simp -dsimp -implicitDefEqProofs (disch:=first|omega|assumption) [hdl,Cel.d,B]
  obtain rfl : i = th.length := by omega
  rw [List.drop_length,scatC,List.append_nil] at hsc
  rw [hsc] at hsg hsg3 hT0
  obtain ⟨w,e,hwl,hwr,hwe⟩ := wout k (by omega) dn b hsg hsg3 (by omega)
  have hMw := mapM_bytes w
  rw [hkk] at hwr
  subst hT2
  clear ih hi h1
  by_cases e0 : e = 0
  ·subst e0
   rw [decide_eq_true rfl,Bool.true_and] at hwe
   have hwe2 : (w == b) = rokM k dn b := by rw [← hwe]; by_cases h : w = b <;> simp [h]
   simp -dsimp -implicitDefEqProofs (disch:=first|omega|assumption) [Int.natCast_inj,wrap_i64,hwr,hMw,hM,str_mk,hwe,hdl]
   rw [← hT0]
   simp [Is,RdR,hdl,hwe2]
  ·have e0' : ¬ (e : Int) = 0 := by omega
   rw [decide_eq_false e0,Bool.false_and] at hwe
   simp -dsimp -implicitDefEqProofs (disch:=first|omega|assumption) [Int.natCast_inj,wrap_i64,hwr,e0,e0',hdl]
   rw [← hT0]
   simp [Is,RdR,hdl,← hwe]
end Go.Am.Ab
namespace Go.Am.Ab
open Go.Proofs
set_option maxHeartbeats 16000000
set_option maxRecDepth 4000
def textD (x : ByteArray) : D := .agg [.int .u8 3,.int .i64 0,.str x]
theorem textD_cel (l : List ByteArray) : l.map textD = ce (l.map fun s : ByteArray => (⟨3,0,s⟩ : Cel)) := by simp [textD,Cel.d]
@[simp] theorem allSize_textD (l : List ByteArray) : allSize 3 (l.map textD) = true := allSize_map l fun v => rfl
theorem rread3_runs (k n : Nat) (hk : k = 3) (b : List UInt8) (hn : n ≤ 256) (hb : b.length < 1000000) : Is (RdR (rreadM k n b)) (R 6 [.d (.int .i64 k),B b,.d (.int .i64 n)] []) := by
 have hk1 : ¬ (k : Int) < 1 := by omega
 have hk2 : ¬ (3 : Int) < k := by omega
 have hn1 : ¬ (n : Int) < 0 := by omega
 have hn2 : ¬ (256 : Int) < n := by omega
 have hkk : ¬ (k : Int) = 1 := by omega
 have hkx : ¬ (k : Int) = 2 := by omega
 unfold rreadM
 by_cases hbe : b = []
 ·subst hbe
  refine run_any (rs := [.tmp 6,.tmp 7]) (ts := [29,4]) Tryz.func6 (c := _) rfl rfl rfl (by kernel_rfl) (by kernel_rfl) (.inl sp_6) (by simp [Tryz.f6]) (not_is (rdR_some _)) ?_
  simp -dsimp -implicitDefEqProofs (disch:=first|omega|assumption) [startSlots,Int.natCast_inj,wrap_i64,hk1,hk2,hn1,hn2]
  simp [Is,RdR,pHeadC]
 obtain ⟨c,r,hbc⟩ : ∃ c r,b = c :: r := by
  cases b with
  | nil => exact absurd rfl hbe
  | cons c r => exact ⟨c,r,rfl⟩
 have hl0 : ¬ (b.length : Int) = 0 := by rw [hbc,List.length_cons]; omega
 have hl1 : 0 < b.length := by rw [hbc,List.length_cons]; omega
 have hg0 : b[0] = c := by simp only [hbc,List.getElem_cons_zero]
 have hd0 : (bytes b).tail = bytes r := by rw [hbc]; rfl
 have hrl : r.length < 1000000 := by rw [hbc,List.length_cons] at hb; omega
 have hrk : r.length + 1 = b.length := by rw [hbc,List.length_cons]
 have hM := mapM_bytes b
 obtain ⟨A,hA⟩ : ∃ A,A = pHeadC n b := ⟨_,rfl⟩
 rw [← hA]
 rw [hbc] at hA
 unfold pHeadC at hA
 simp only at hA
 clear hbc
 by_cases c1 : 1 < c.toNat
 ·have c1' : (1 : Int) < c.toNat := by omega
  rw [if_pos c1] at hA
  subst hA
  refine run_any (rs := [.tmp 6,.tmp 7]) (ts := [29,4]) Tryz.func6 (c := _) rfl rfl rfl (by kernel_rfl) (by kernel_rfl) (.inl sp_6) (by simp [Tryz.f6]) (not_is (rdR_some _)) ?_
  simp -dsimp -implicitDefEqProofs (disch:=first|omega|assumption) [startSlots,Int.natCast_inj,wrap_i64,hk1,hk2,hn1,hn2,hbe,hl0,hl1,hg0,c1,c1']
  simp [Is,RdR]
 rw [if_neg c1] at hA
 have c1' : ¬ (1 : Int) < c.toNat := by omega
 have hrep : ∀ i,uc (List.replicate (i + 1) 1) = uc (List.replicate i 1) ++ [.int .u64 1] := fun i => by simp [List.replicate_succ']
 refine run_any (rs := [.tmp 6,.tmp 7]) (ts := [29,4]) Tryz.func6 (c := _) rfl rfl rfl (by kernel_rfl) (by kernel_rfl) (.inl sp_6) (by simp [Tryz.f6]) (not_is (rdR_some _)) ?_
 simp -dsimp -implicitDefEqProofs (disch:=first|omega|assumption) [startSlots,Int.natCast_inj,wrap_i64,hk1,hk2,hn1,hn2,hbe,hl0,hl1,hg0,c1,c1']
 generalize hT0 : Is _ = T0
 generalize hz : loopT _ _ _ _ _ _ = z
 revert z
 refine loop_any (σ := Nat) (fun i => [(0,.d (.int .i64 k)),(1,B b),(2,.d (.int .i64 n)),(8,.arr 0 i),(9,.d (.int .i64 i))]) (fun i => [.arr 1 (uc (List.replicate i 1)) 0]) (fun i => i ≤ n) (fun i => n - i) 0 ?_ ?_ ?_
 ·exact Nat.zero_le _
 ·simp -dsimp -implicitDefEqProofs (disch:=first|omega|assumption) [B]
 intro T' f hT' i hi ih
 by_cases h1 : i < n
 ·have h1' : (i : Int) < n := by omega
  have hr1 := hrep i
  simp -dsimp -implicitDefEqProofs (disch:=first|omega|assumption) [Int.natCast_inj,wrap_i64,h1,h1']
  refine ih (i + 1) _ _ h1 (by omega) ?_
  rw [hr1]
  simp -dsimp -implicitDefEqProofs (disch:=first|omega|assumption) [B]
 obtain rfl : i = n := by omega
 subst hT'
 clear ih hi h1
 rcases Decidable.em (c.toNat = 1) with c2 | c2
 case' inr =>
  rw [if_neg c2] at hA
  have c2' : ¬ (c.toNat : Int) = 1 := by omega
  subst hA
  simp -dsimp -implicitDefEqProofs (disch:=first|omega|assumption) [Int.natCast_inj,wrap_i64,hl0,hl1,hg0,hd0,hrk,c2,c2']
  generalize hrb : r = rb at hT0 ⊢
  have hrbl : rb.length < 1000000 := by rw [← hrb]; exact hrl
  have hthl : (List.replicate i 1).length = i := List.length_replicate
  have hth : ∀ x ∈ List.replicate i 1,x ≤ 1 := fun x hx => by rw [(List.mem_replicate.1 hx).2]; omega
  generalize hte : List.replicate i 1 = th at *
  have huc : List.replicate i (D.int .u64 1) = uc th := by rw [← hte]; simp
  rw [huc]
  subst hthl
  clear hte hrb huc
 case' inl =>
  rw [if_pos c2] at hA
  have c2' : (c.toNat : Int) = 1 := by omega
  obtain ⟨sz,hsz⟩ : ∃ sz,sz = (i + 7) / 8 := ⟨_,rfl⟩
  have hsz' : ((i : Int) + 7) / 8 = sz := by omega
  rw [← hsz] at hA
  by_cases c3 : r.length < sz
  ·rw [if_pos c3] at hA
   have c3' : (r.length : Int) < sz := by omega
   subst hA
   simp -dsimp -implicitDefEqProofs (disch:=first|omega|assumption) [Int.natCast_inj,wrap_i64,hl0,hl1,hg0,hd0,hrk,c2,c2',hsz',c3,c3']
   rw [← hT0]
   simp [Is,RdR]
  rw [if_neg c3] at hA
  have c3' : ¬ (r.length : Int) < sz := by omega
  have c3b : sz ≤ r.length := by omega
  obtain ⟨bt,hbt⟩ : ∃ bt,bt = r.take sz := ⟨_,rfl⟩
  obtain ⟨rb,hbd⟩ : ∃ rb,rb = r.drop sz := ⟨_,rfl⟩
  have hbt' : List.take sz (bytes r) = bytes bt := by rw [hbt,bytes,bytes,List.map_take]
  have hbd' : List.drop sz (bytes r) = bytes rb := by rw [hbd,bytes,bytes,List.map_drop]
  have hbtl : bt.length < 1000000 := by rw [hbt,List.length_take]; omega
  have hrbl : rb.length < 1000000 := by rw [hbd,List.length_drop]; omega
  rw [← hbt,← hbd] at hA
  have hup := runpack1_runs bt i hn hbtl
  have hth := unpackC_bits bt i
  have hthl0 := unpackC_len bt i
  obtain ⟨th,hte⟩ : ∃ th,th = (unpackC bt i).1 := ⟨_,rfl⟩
  obtain ⟨e,hee⟩ : ∃ e,e = (unpackC bt i).2 := ⟨_,rfl⟩
  rw [← hte,← hee] at hup hthl0 hA
  rw [← hte] at hth
  clear hte hee hbt hbd hsz
  by_cases c4 : e ≠ 0
  ·rw [if_pos c4] at hA
   have c4' : ¬ (e : Int) = 0 := by omega
   subst hA
   simp -dsimp -implicitDefEqProofs (disch:=first|omega|assumption) [Int.natCast_inj,wrap_i64,hl0,hl1,hg0,hd0,hrk,c2,c2',hsz',c3,c3',c3b,hbt',hup,c4,c4']
   rw [← hT0]
   simp [Is,RdR]
  rw [if_neg c4] at hA
  have c4' : e = 0 := by omega
  subst c4'
  have hthl := hthl0 rfl
  subst hthl
  subst hA
  simp -dsimp -implicitDefEqProofs (disch:=first|omega|assumption) [Int.natCast_inj,wrap_i64,hl0,hl1,hg0,hd0,hrk,c2,c2',hsz',c3,c3',c3b,hbt',hup,hbd']
 all_goals
  have hsum := sum_le hth
  generalize hz : loopT _ _ _ _ _ _ = z
  revert z
  refine loop_any (σ := Nat) (fun i => [(0,.d (.int .i64 k)),(1,B b),(2,.d (.int .i64 th.length)),(8,.arr 0 th.length),(10,B rb),(13,.d (.int .i64 ((th.take i).sum : Nat))),(14,.d (.int .i64 i))]) (fun i => [.arr 1 (uc th) 0]) (fun i => i ≤ th.length) (fun i => th.length - i) 0 ?_ ?_ ?_
  ·exact Nat.zero_le _
  ·simp -dsimp -implicitDefEqProofs (disch:=first|omega|assumption) [B]
  intro T' f hT' i hi ih
  by_cases h1 : i < th.length
  ·have hx := hth th[i] (List.getElem_mem _)
   have hs := sum_take h1
   have hsl : (th.take i).sum ≤ i := by
    have := sum_le (l := th.take i) fun x hx => hth x (List.mem_of_mem_take hx)
    have h2 : (th.take i).length ≤ i := by simp; omega
    omega
   obtain ⟨x,hxe⟩ : ∃ x,x = th[i] := ⟨_,rfl⟩
   rw [← hxe] at hx hs
   have gx := hxe.symm
   have hw : IntKind.i64.wrap (x : Int) = x := wrap_i64 (by omega) (by omega)
   simp -dsimp -implicitDefEqProofs (disch:=first|omega|assumption) [Int.natCast_inj,wrap_i64,h1,gx,hw]
   refine ih (i + 1) _ _ h1 (by omega) ?_
   rw [hs]
   simp -dsimp -implicitDefEqProofs (disch:=first|omega|assumption) [B]
  obtain rfl : i = th.length := by omega
  subst hT'
  clear ih hi h1
  rw [List.take_length]
  simp only at hT0
  have hvg : ∀ own,rvalsM k th.sum rb = some own → _ := fun own => rvalsM_good (k := k) (m := th.sum) (by omega) (b := rb) (own := own)
  have hrd := rwords_runs rb th.sum (by omega) hrbl
  rw [show rvalsM k th.sum rb = (if (rwordsM th.sum rb).2 = false then none else some ((rwordsM th.sum rb).1.map fun s => (⟨3,0,s⟩ : Cel))) from by unfold rvalsM; rw [if_neg (by omega),if_neg (by omega)]] at hT0 hvg
  unfold Is RwR at hrd
  obtain ⟨pl,hpe⟩ : ∃ pl,pl = (rwordsM th.sum rb).1 := ⟨_,rfl⟩
  obtain ⟨e,hee⟩ : ∃ e,e = (rwordsM th.sum rb).2 := ⟨_,rfl⟩
  rw [← hpe,← hee] at hT0 hvg hrd
  clear hpe hee
  by_cases e0 : e = false
  ·rw [if_pos e0] at hT0
   subst e0
   simp -dsimp -implicitDefEqProofs (disch:=first|omega|assumption) [Int.natCast_inj,wrap_i64,hkk,hkx,hrd]
   rw [← hT0]
   simp [Is,RdR]
  have e0' : e = true := by simpa using e0
  subst e0'
  rw [if_neg e0] at hT0 hvg
  simp -dsimp -implicitDefEqProofs (disch:=first|omega|assumption) [Int.natCast_inj,wrap_i64,hkk,hkx,hrd]
  have hpll : pl.length ≤ 256 := by have := (hvg _ rfl).1; rw [List.length_map] at this; omega
  generalize hz : loopT _ _ _ _ _ _ = z
  revert z
  refine loop_any (σ := Nat) (fun i => [(0,.d (.int .i64 k)),(1,B b),(2,.d (.int .i64 th.length)),(8,.arr 0 th.length),(15,.arr 1 i),(22,.arr 2 pl.length),(24,.d (.int .i64 i))]) (fun i => [.arr 1 (uc th) 0,.arr 3 (preD textD pl i) 0,.arr 1 (pl.map D.str) 0]) (fun i => i ≤ pl.length) (fun i => pl.length - i) 0 ?_ ?_ ?_
  ·exact Nat.zero_le _
  ·simp -dsimp -implicitDefEqProofs (disch:=first|omega|assumption) [B,preD_zero]
  intro T3 f3 hT3 i hi ih
  by_cases h1 : i < pl.length
  ·have hsu := preD_succ (g := textD) h1
   have hln := preD_length (g := textD) hi
   obtain ⟨x,hxe⟩ : ∃ x,x = pl[i] := ⟨_,rfl⟩
   have gx := hxe.symm
   rw [← hxe] at hsu
   simp -dsimp -implicitDefEqProofs (disch:=first|omega|assumption) [Int.natCast_inj,wrap_i64,h1,gx,hln]
   refine ih (i + 1) _ _ h1 (by omega) ?_
   rw [hsu]
   simp -dsimp -implicitDefEqProofs (disch:=first|omega|assumption) [hln,B,textD]
  obtain rfl : i = pl.length := by omega
  rw [preD_end (Nat.le_refl _),textD_cel]
  subst hT3
  clear ih hi h1
  obtain ⟨own,hown⟩ : ∃ own : List Cel,own = pl.map (fun s => (⟨3,0,s⟩ : Cel)) := ⟨_,rfl⟩
  have hol : own.length = pl.length := by rw [hown,List.length_map]
  rw [← hown] at hT0 hvg ⊢
  simp -dsimp -implicitDefEqProofs (disch:=first|omega|assumption) [Int.natCast_inj,wrap_i64]
  clear hown
  obtain ⟨hol2,hog⟩ := hvg _ rfl
  have hps : pl.length = th.sum := by omega
  simp only at hT0
  obtain ⟨hsg,hsg3⟩ := scatC_good (th := th) hog
  generalize hz : loopT _ _ _ _ _ _ = z
  revert z
  refine loop_any (σ := Nat × List Cel × Nat) (fun x => [(0,.d (.int .i64 k)),(1,B b),(2,.d (.int .i64 th.length)),(8,.arr 0 th.length),(15,.arr 1 own.length),(25,.arr 2 x.2.1.length),(26,.d (.int .i64 x.2.2)),(27,.d (.int .i64 x.1))]) (fun x => [.arr 1 (uc th) 0,.arr 3 (ce own) 0,.arr 3 (ce x.2.1) 0]) (fun x => x.1 ≤ th.length ∧ x.2.1.length = x.1 ∧ x.2.2 + (th.drop x.1).sum = own.length ∧ scatC th own = x.2.1 ++ scatC (th.drop x.1) (own.drop x.2.2)) (fun x => th.length - x.1) (0,[],0) ?_ ?_ ?_
  ·exact ⟨Nat.zero_le _,rfl,by rw [List.drop_zero]; simp only; omega,by rw [List.drop_zero,List.drop_zero]; rfl⟩
  ·simp -dsimp -implicitDefEqProofs (disch:=first|omega|assumption) [B,hol2,hps]
  intro T2 f2 hT2 ⟨i,dn,at0⟩ ⟨hi,hdl,hat,hsc⟩ ih
  simp only at hi hdl hat hsc ih
  by_cases h1 : i < th.length
  ·have hdr : th.drop i = th[i] :: th.drop (i + 1) := List.drop_eq_getElem_cons h1
   have hx := hth th[i] (List.getElem_mem _)
   obtain ⟨x,hxe⟩ : ∃ x,x = th[i] := ⟨_,rfl⟩
   rw [← hxe] at hdr hx
   have gx := hxe.symm
   rw [hdr,List.sum_cons] at hat
   rw [hdr,scatC] at hsc
   by_cases hx0 : x = 0
   ·rw [if_pos hx0] at hsc
    have hx0' : (x : Int) = 0 := by omega
    simp -dsimp -implicitDefEqProofs (disch:=first|omega|assumption) [Int.natCast_inj,wrap_i64,h1,gx,hx0,hx0',hdl]
    refine ih (i + 1,dn ++ [Cel.none],at0) _ _ ⟨h1,by simp [hdl],by simp only; omega, ?_⟩ (by simp only; omega) ?_
    ·rw [hsc]; simp
    ·simp -dsimp -implicitDefEqProofs (disch:=first|omega|assumption) [hdl,Cel.none,Cel.d,B]
   ·rw [if_neg hx0] at hsc
    have hx0' : ¬ (x : Int) = 0 := by omega
    have ha : at0 < own.length := by omega
    have hod : own.drop at0 = own[at0] :: own.drop (at0 + 1) := List.drop_eq_getElem_cons ha
    obtain ⟨⟨ck,cn,cs0⟩,hce⟩ : ∃ c,c = own[at0] := ⟨_,rfl⟩
    have gc := hce.symm
    rw [← hce] at hod
    rw [hod,List.headD_cons,List.tail_cons] at hsc
    simp -dsimp -implicitDefEqProofs (disch:=first|omega|assumption) [Int.natCast_inj,wrap_i64,h1,gx,hx0,hx0',hdl,ha,gc,Cel.d]
    refine ih (i + 1,dn ++ [⟨ck,cn,cs0⟩],at0 + 1) _ _ ⟨h1,by simp [hdl],by simp only; omega, ?_⟩ (by simp only; omega) ?_
    ·rw [hsc]; simp
    ·simp -dsimp -implicitDefEqProofs (disch:=first|omega|assumption) [hdl,Cel.d,B]
  obtain rfl : i = th.length := by omega
  rw [List.drop_length,scatC,List.append_nil] at hsc
  rw [hsc] at hsg hsg3 hT0
  obtain ⟨w,e,hwl,hwr,hwe⟩ := wout k (by omega) dn b hsg hsg3 (by omega)
  have hMw := mapM_bytes w
  subst hT2
  clear ih hi h1
  by_cases e0 : e = 0
  ·subst e0
   rw [decide_eq_true rfl,Bool.true_and] at hwe
   have hwe2 : (w == b) = rokM k dn b := by rw [← hwe]; by_cases h : w = b <;> simp [h]
   simp -dsimp -implicitDefEqProofs (disch:=first|omega|assumption) [Int.natCast_inj,wrap_i64,hwr,hMw,hM,str_mk,hwe,hdl]
   rw [← hT0]
   simp [Is,RdR,hdl,hwe2]
  ·have e0' : ¬ (e : Int) = 0 := by omega
   rw [decide_eq_false e0,Bool.false_and] at hwe
   simp -dsimp -implicitDefEqProofs (disch:=first|omega|assumption) [Int.natCast_inj,wrap_i64,hwr,e0,e0',hdl]
   rw [← hT0]
   simp [Is,RdR,hdl,← hwe]
end Go.Am.Ab
