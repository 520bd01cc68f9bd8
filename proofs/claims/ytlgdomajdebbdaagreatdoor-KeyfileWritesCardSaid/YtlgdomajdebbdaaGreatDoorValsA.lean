/- Values in their order. -/
import Derived.Test.YtlgdomajdebbdaaGreatDoorSortA
import Derived.Test.YtlgdomajdebbdaaGreatDoorCellsA
import Derived.Test.YtlgdomajdebbdaaGreatDoorTSortB
import Derived.Test.YtlgdomajdebbdaaGreatDoorRColA
set_option linter.all false
namespace Go.Am.Ab
open Go.Proofs
set_option maxHeartbeats 4000000
def ltV : Val → Val → Bool
 | .whole a,.whole b => decide (a < b)
 | .truth a,.truth b => !a && b
 | .text a,.text b => lsS a b
 | a,b => decide (a.kind < b.kind)
theorem ltV_irrefl (a : Val) : ltV a a = false := by
 cases a with
 | null => rfl
 | whole n => simp [ltV]
 | truth b => cases b <;> rfl
 | text s => exact lsS_irrefl s
theorem ltV_kind {a b : Val} (h : ltV a b = true) : a.kind ≤ b.kind := by
 cases a <;> cases b <;> simp [ltV,Val.kind] at h ⊢
theorem ltV_of_kind {a b : Val} (h : a.kind < b.kind) : ltV a b = true := by
 cases a <;> cases b <;> simp [ltV,Val.kind] at h ⊢
theorem ltV_trans {a b c : Val} (h : ltV a b = true) (g : ltV b c = true) : ltV a c = true := by
 have h1 := ltV_kind h
 have h2 := ltV_kind g
 by_cases e : a.kind < c.kind
 ·exact ltV_of_kind e
 ·cases a <;> cases b <;> cases c <;> simp [Val.kind] at h1 h2 e
  all_goals simp only [ltV] at h g ⊢
  ·exact h
  ·simp only [decide_eq_true_eq] at h g ⊢; omega
  ·rename_i x y z; cases x <;> cases y <;> cases z <;> simp at h g ⊢
  ·exact lsS_trans h g
theorem ltV_total {a b : Val} (h : ltV a b = false) (g : a ≠ b) : ltV b a = true := by
 by_cases e : b.kind < a.kind
 ·exact ltV_of_kind e
 ·by_cases e2 : a.kind < b.kind
  ·rw [ltV_of_kind e2] at h; cases h
  ·cases a <;> cases b <;> simp [Val.kind] at e e2
   all_goals simp only [ltV] at h g ⊢
   ·exact absurd rfl g
   ·simp only [decide_eq_false_iff_not,decide_eq_true_eq,ne_eq,Val.whole.injEq] at h g ⊢; omega
   ·rename_i x y; cases x <;> cases y <;> simp at h g ⊢
   ·exact lsS_total h (fun e => g (by rw [e]))
def insV (x : Val) : List Val → List Val
 | [] => [x]
 | y :: r => if ltV x y = true then x :: y :: r else if x = y then y :: r else y :: insV x r
def uniV (l : List Val) : List Val := l.foldl (fun u x => insV x u) []
def RisesV : List Val → Prop
 | [] => True
 | x :: r => (∀ y ∈ r,ltV x y = true) ∧ RisesV r
theorem insV_mem {x y : Val} : ∀ {l : List Val},y ∈ insV x l ↔ y = x ∨ y ∈ l
 | [] => by simp [insV]
 | z :: r => by
  unfold insV
  split
  ·simp
  ·split
   ·rename_i h; subst h; simp
   ·simp only [List.mem_cons,insV_mem (l := r)]
    constructor
    ·rintro (h | h | h)
     ·exact .inr (.inl h)
     ·exact .inl h
     ·exact .inr (.inr h)
    ·rintro (h | h | h)
     ·exact .inr (.inl h)
     ·exact .inl h
     ·exact .inr (.inr h)
theorem insV_rises {x : Val} : ∀ {l : List Val},RisesV l → RisesV (insV x l)
 | [],_ => ⟨by simp,trivial⟩
 | z :: r,h => by
  unfold insV
  split
  ·rename_i hx
   refine ⟨fun y hy => ?_,h⟩
   rcases List.mem_cons.1 hy with rfl | hy
   ·exact hx
   ·exact ltV_trans hx (h.1 y hy)
  ·split
   ·exact h
   ·rename_i h1 h2
    refine ⟨fun y hy => ?_,insV_rises h.2⟩
    rcases insV_mem.1 hy with rfl | hy
    ·exact ltV_total (by simpa using h1) h2
    ·exact h.1 y hy
theorem foldl_insV {l : List Val} : ∀ {u : List Val},RisesV u → RisesV (l.foldl (fun u x => insV x u) u) ∧ ∀ y,y ∈ l.foldl (fun u x => insV x u) u ↔ y ∈ u ∨ y ∈ l := by
 induction l with
 | nil => intro u h; exact ⟨h,by simp⟩
 | cons x r ih =>
  intro u h
  obtain ⟨h1,h2⟩ := ih (insV_rises (x := x) h)
  refine ⟨h1,fun y => ?_⟩
  rw [List.foldl_cons,h2,insV_mem,List.mem_cons]
  constructor
  ·rintro ((h | h) | h)
   ·exact .inr (.inl h)
   ·exact .inl h
   ·exact .inr (.inr h)
  ·rintro (h | h | h)
   ·exact .inl (.inr h)
   ·exact .inl (.inl h)
   ·exact .inr h
theorem uniV_rises (l : List Val) : RisesV (uniV l) := (foldl_insV (l := l) (u := []) trivial).1
theorem uniV_mem {l : List Val} {y : Val} : y ∈ uniV l ↔ y ∈ l := by
 rw [uniV,(foldl_insV (l := l) (u := []) trivial).2]; simp
theorem risesV_get : ∀ {l : List Val},RisesV l → ∀ i j,(hij : i < j) → (h : j < l.length) → ltV (l[i]'(Nat.lt_trans hij h)) l[j] = true
 | [],_,i,j,_,h => by simp at h
 | x :: r,hr,i,j,hij,hj => by
  obtain ⟨j,rfl⟩ : ∃ k,j = k + 1 := ⟨j - 1,by omega⟩
  cases i with
  | zero => exact hr.1 _ (List.getElem_mem _)
  | succ i => exact risesV_get hr.2 i j (by omega) (by simpa using hj)
structure VMono (wd : Nat → Val) : Prop where
 lt : ∀ a b,ltV (wd a) (wd b) = decide (a < b)
 inj : ∀ a b,wd a = wd b → a = b
def lastT : Val → ByteArray
 | .text s => s
 | _ => noS
def vdOf (u : List Val) (i : Nat) : Val := if h : i < u.length then u[i] else .text (noughts (lastT (u.getLastD .null)) (i - u.length + 1))
theorem lastT_less (v : Val) {k : Nat} (h : 0 < k) : ltV v (.text (noughts (lastT v) k)) = true := by
 cases v with
 | text s =>
  have := noughts_less s (i := 0) (j := k) h
  rw [noughts_zero] at this
  exact this
 | _ => exact ltV_of_kind (by simp [Val.kind])
theorem vdOf_less {u : List Val} (hu : RisesV u) {i j : Nat} (h : i < j) : ltV (vdOf u i) (vdOf u j) = true := by
 unfold vdOf
 by_cases hj : j < u.length
 ·rw [dif_pos hj,dif_pos (show i < u.length by omega)]
  exact risesV_get hu i j h hj
 ·rw [dif_neg hj]
  by_cases hi : i < u.length
  ·rw [dif_pos hi]
   have hlast : u.getLastD .null = u[u.length - 1]'(by omega) := by
    rw [List.getLastD_eq_getLast?,List.getLast?_eq_getElem?,List.getElem?_eq_getElem (by omega)]; rfl
   have h2 := lastT_less (u.getLastD .null) (k := j - u.length + 1) (by omega)
   by_cases e : i = u.length - 1
   ·subst e
    rw [← hlast]; exact h2
   ·refine ltV_trans ?_ h2
    rw [hlast]
    exact risesV_get hu i _ (by omega) (by omega)
  ·rw [dif_neg hi]
   exact noughts_less _ (by omega)
theorem vmono_of {wd : Nat → Val} (h : ∀ i j,i < j → ltV (wd i) (wd j) = true) : VMono wd := by
 have lt : ∀ a b,ltV (wd a) (wd b) = decide (a < b) := by
  intro a b
  by_cases c : a < b
  ·rw [decide_eq_true c]; exact h a b c
  ·rw [decide_eq_false c]
   by_cases e : a = b
   ·subst e; exact ltV_irrefl _
   ·have g := h b a (by omega)
    cases k : ltV (wd a) (wd b) with
    | false => rfl
    | true =>
     have := ltV_trans g k
     rw [ltV_irrefl] at this
     cases this
 refine ⟨lt,fun a b e => ?_⟩
 have h1 := lt a b
 have h2 := lt b a
 rw [e,ltV_irrefl] at h1
 rw [e,ltV_irrefl] at h2
 have := of_decide_eq_false h1.symm
 have := of_decide_eq_false h2.symm
 omega
theorem VMono.eq_iff {wd : Nat → Val} (h : VMono wd) {a b : Nat} : wd a = wd b ↔ a = b := ⟨fun e => h.inj a b e,fun e => by rw [e]⟩
theorem insV_map {wd : Nat → Val} (h : VMono wd) (x : Nat) : ∀ l : List Nat,insV (wd x) (l.map wd) = (Str.ins x l).map wd
 | [] => rfl
 | y :: r => by
  have h1 : ltV (wd x) (wd y) = decide (x < y) := h.lt x y
  simp only [List.map_cons,insV,Str.ins,h1,decide_eq_true_eq,h.eq_iff]
  split
  ·rfl
  ·split
   ·rfl
   ·rw [List.map_cons,insV_map h x r]
theorem uniV_map {wd : Nat → Val} (h : VMono wd) (l : List Nat) : uniV (l.map wd) = (Str.uniq l).map wd := by
 have key : ∀ (l u : List Nat),(l.map wd).foldl (fun u x => insV x u) (u.map wd) = (l.foldl (fun u x => Str.ins x u) u).map wd := by
  intro l
  induction l with
  | nil => intro u; rfl
  | cons x r ih =>
   intro u
   rw [List.map_cons,List.foldl_cons,List.foldl_cons,insV_map h]
   exact ih _
 exact key l []
def ixV (u : List Val) (s : Val) : Nat := u.findIdx fun t => decide (t = s)
theorem ixV_lt {u : List Val} {s : Val} (h : s ∈ u) : ixV u s < u.length := List.findIdx_lt_length_of_exists ⟨s,h,by simp⟩
theorem ixV_get {u : List Val} {s : Val} (h : ixV u s < u.length) : u[ixV u s] = s := by
 have := List.findIdx_getElem (p := fun t => decide (t = s)) (xs := u) (w := h)
 exact of_decide_eq_true this
theorem ranksV (l : List Val) : ∃ (wd : Nat → Val) (r : List Nat),VMono wd ∧ r.map wd = l := by
 refine ⟨vdOf (uniV l),l.map (ixV (uniV l)),vmono_of fun i j h => vdOf_less (uniV_rises l) h, ?_⟩
 rw [List.map_map]
 conv => rhs; rw [← List.map_id l]
 apply List.map_congr_left
 intro s hs
 have hm := ixV_lt (uniV_mem.2 hs)
 simp only [Function.comp,vdOf,dif_pos hm,id]
 exact ixV_get hm
end Go.Am.Ab
namespace Go.Am.Ab
open Go.Proofs
set_option maxHeartbeats 4000000
set_option maxRecDepth 4000
theorem nanK_runs (a : Int) : R 172 [.d (.int .u8 a)] [] = some ([.d (.bool false)],[]) := by
 refine run_goal (rs:=[.tmp 2]) (ts:=[4]) Tryz.func172 rfl rfl rfl (by kernel_rfl) (by kernel_rfl) (.inl sp_172) (by simp [Tryz.f172]) ?_
 intro T hT
 simp -dsimp -implicitDefEqProofs (disch:=first|omega|assumption) [startSlots,nI,wI]
 simpa -dsimp -implicitDefEqProofs (disch:=first|omega|assumption) [nI,wI] using hT
theorem nanT_runs (a : Int) : R 174 [.d (.int .u8 a)] [] = some ([.d (.bool false)],[]) := by
 refine run_goal (rs:=[.tmp 2]) (ts:=[4]) Tryz.func174 rfl rfl rfl (by kernel_rfl) (by kernel_rfl) (.inl sp_174) (by simp [Tryz.f174]) ?_
 intro T hT
 simp -dsimp -implicitDefEqProofs (disch:=first|omega|assumption) [startSlots,nI,wI]
 simpa -dsimp -implicitDefEqProofs (disch:=first|omega|assumption) [nI,wI] using hT
theorem nanI_runs (a : Int) : R 173 [.d (.int .i64 a)] [] = some ([.d (.bool false)],[]) := by
 refine run_goal (rs:=[.tmp 2]) (ts:=[4]) Tryz.func173 rfl rfl rfl (by kernel_rfl) (by kernel_rfl) (.inl sp_173) (by simp [Tryz.f173]) ?_
 intro T hT
 simp -dsimp -implicitDefEqProofs (disch:=first|omega|assumption) [startSlots,nI,wI]
 simpa -dsimp -implicitDefEqProofs (disch:=first|omega|assumption) [nI,wI] using hT
theorem nanS_runs (a : ByteArray) : R 175 [.d (.str a)] [] = some ([.d (.bool false)],[]) := by
 refine run_goal (rs:=[.tmp 2]) (ts:=[4]) Tryz.func175 rfl rfl rfl (by kernel_rfl) (by kernel_rfl) (.inl sp_175) (by simp [Tryz.f175]) ?_
 intro T hT
 simp -dsimp -implicitDefEqProofs (disch:=first|omega|assumption) [startSlots,nI,wI]
 simpa -dsimp -implicitDefEqProofs (disch:=first|omega|assumption) [nI,wI] using hT
def sgI (a b : Int) : Int := if a < b then -1 else if b < a then 1 else 0
theorem cmpK_runs (a b : Int) : R 116 [.d (.int .u8 a),.d (.int .u8 b)] [] = some ([.d (.int .i64 (sgI a b))],[]) := by
 unfold sgI
 by_cases h1 : a < b
 ·rw [if_pos h1]
  refine run_goal (rs:=[.tmp 4]) (ts:=[3]) Tryz.func116 rfl rfl rfl (by kernel_rfl) (by kernel_rfl) (.inl sp_116) (by simp [Tryz.f116]) ?_
  intro T hT
  simp -dsimp -implicitDefEqProofs (disch:=first|omega|assumption) [startSlots,nI,wI,nanK_runs,h1]
  simpa -dsimp -implicitDefEqProofs (disch:=first|omega|assumption) [nI,wI] using hT
 ·rw [if_neg h1]
  by_cases h2 : b < a
  ·rw [if_pos h2]
   refine run_goal (rs:=[.tmp 4]) (ts:=[3]) Tryz.func116 rfl rfl rfl (by kernel_rfl) (by kernel_rfl) (.inl sp_116) (by simp [Tryz.f116]) ?_
   intro T hT
   simp -dsimp -implicitDefEqProofs (disch:=first|omega|assumption) [startSlots,nI,wI,nanK_runs,h1,h2]
   simpa -dsimp -implicitDefEqProofs (disch:=first|omega|assumption) [nI,wI] using hT
  ·rw [if_neg h2]
   refine run_goal (rs:=[.tmp 4]) (ts:=[3]) Tryz.func116 rfl rfl rfl (by kernel_rfl) (by kernel_rfl) (.inl sp_116) (by simp [Tryz.f116]) ?_
   intro T hT
   simp -dsimp -implicitDefEqProofs (disch:=first|omega|assumption) [startSlots,nI,wI,nanK_runs,h1,h2]
   simpa -dsimp -implicitDefEqProofs (disch:=first|omega|assumption) [nI,wI] using hT
theorem cmpT_runs (a b : Int) : R 118 [.d (.int .u8 a),.d (.int .u8 b)] [] = some ([.d (.int .i64 (sgI a b))],[]) := by
 unfold sgI
 by_cases h1 : a < b
 ·rw [if_pos h1]
  refine run_goal (rs:=[.tmp 4]) (ts:=[3]) Tryz.func118 rfl rfl rfl (by kernel_rfl) (by kernel_rfl) (.inl sp_118) (by simp [Tryz.f118]) ?_
  intro T hT
  simp -dsimp -implicitDefEqProofs (disch:=first|omega|assumption) [startSlots,nI,wI,nanT_runs,h1]
  simpa -dsimp -implicitDefEqProofs (disch:=first|omega|assumption) [nI,wI] using hT
 ·rw [if_neg h1]
  by_cases h2 : b < a
  ·rw [if_pos h2]
   refine run_goal (rs:=[.tmp 4]) (ts:=[3]) Tryz.func118 rfl rfl rfl (by kernel_rfl) (by kernel_rfl) (.inl sp_118) (by simp [Tryz.f118]) ?_
   intro T hT
   simp -dsimp -implicitDefEqProofs (disch:=first|omega|assumption) [startSlots,nI,wI,nanT_runs,h1,h2]
   simpa -dsimp -implicitDefEqProofs (disch:=first|omega|assumption) [nI,wI] using hT
  ·rw [if_neg h2]
   refine run_goal (rs:=[.tmp 4]) (ts:=[3]) Tryz.func118 rfl rfl rfl (by kernel_rfl) (by kernel_rfl) (.inl sp_118) (by simp [Tryz.f118]) ?_
   intro T hT
   simp -dsimp -implicitDefEqProofs (disch:=first|omega|assumption) [startSlots,nI,wI,nanT_runs,h1,h2]
   simpa -dsimp -implicitDefEqProofs (disch:=first|omega|assumption) [nI,wI] using hT
theorem cmpI_runs (a b : Int) : R 117 [.d (.int .i64 a),.d (.int .i64 b)] [] = some ([.d (.int .i64 (sgI a b))],[]) := by
 unfold sgI
 by_cases h1 : a < b
 ·rw [if_pos h1]
  refine run_goal (rs:=[.tmp 4]) (ts:=[3]) Tryz.func117 rfl rfl rfl (by kernel_rfl) (by kernel_rfl) (.inl sp_117) (by simp [Tryz.f117]) ?_
  intro T hT
  simp -dsimp -implicitDefEqProofs (disch:=first|omega|assumption) [startSlots,nI,wI,nanI_runs,h1]
  simpa -dsimp -implicitDefEqProofs (disch:=first|omega|assumption) [nI,wI] using hT
 ·rw [if_neg h1]
  by_cases h2 : b < a
  ·rw [if_pos h2]
   refine run_goal (rs:=[.tmp 4]) (ts:=[3]) Tryz.func117 rfl rfl rfl (by kernel_rfl) (by kernel_rfl) (.inl sp_117) (by simp [Tryz.f117]) ?_
   intro T hT
   simp -dsimp -implicitDefEqProofs (disch:=first|omega|assumption) [startSlots,nI,wI,nanI_runs,h1,h2]
   simpa -dsimp -implicitDefEqProofs (disch:=first|omega|assumption) [nI,wI] using hT
  ·rw [if_neg h2]
   refine run_goal (rs:=[.tmp 4]) (ts:=[3]) Tryz.func117 rfl rfl rfl (by kernel_rfl) (by kernel_rfl) (.inl sp_117) (by simp [Tryz.f117]) ?_
   intro T hT
   simp -dsimp -implicitDefEqProofs (disch:=first|omega|assumption) [startSlots,nI,wI,nanI_runs,h1,h2]
   simpa -dsimp -implicitDefEqProofs (disch:=first|omega|assumption) [nI,wI] using hT
def sgS (a b : ByteArray) : Int := if lsS a b = true then -1 else if a = b then 0 else 1
theorem cmpS_runs (a b : ByteArray) : R 120 [.d (.str a),.d (.str b)] [] = some ([.d (.int .i64 (sgS a b))],[]) := by
 unfold sgS
 cases h1 : lsS a b with
 | true =>
  have h1' : Op.bytesLess a.toList b.toList = true := h1
  rw [if_pos rfl]
  refine run_goal (rs:=[.tmp 4]) (ts:=[3]) Tryz.func120 rfl rfl rfl (by kernel_rfl) (by kernel_rfl) (.inl sp_120) (by simp [Tryz.f120]) ?_
  intro T hT
  simp -dsimp -implicitDefEqProofs (disch:=first|omega|assumption) [startSlots,nI,wI,nanS_runs,h1']
  simpa -dsimp -implicitDefEqProofs (disch:=first|omega|assumption) [nI,wI] using hT
 | false =>
  have h1' : Op.bytesLess a.toList b.toList = false := h1
  rw [if_neg (by simp)]
  by_cases h2 : a = b
  ·rw [if_pos h2]
   subst h2
   refine run_goal (rs:=[.tmp 4]) (ts:=[3]) Tryz.func120 rfl rfl rfl (by kernel_rfl) (by kernel_rfl) (.inl sp_120) (by simp [Tryz.f120]) ?_
   intro T hT
   simp -dsimp -implicitDefEqProofs (disch:=first|omega|assumption) [startSlots,nI,wI,nanS_runs,h1',str_beq]
   simpa -dsimp -implicitDefEqProofs (disch:=first|omega|assumption) [nI,wI] using hT
  ·rw [if_neg h2]
   refine run_goal (rs:=[.tmp 4]) (ts:=[3]) Tryz.func120 rfl rfl rfl (by kernel_rfl) (by kernel_rfl) (.inl sp_120) (by simp [Tryz.f120]) ?_
   intro T hT
   simp -dsimp -implicitDefEqProofs (disch:=first|omega|assumption) [startSlots,nI,wI,nanS_runs,h1',str_beq,h2]
   simpa -dsimp -implicitDefEqProofs (disch:=first|omega|assumption) [nI,wI] using hT
def threeB (b : Bool) : Int := if b then 2 else 0
theorem is_runs (b : Bool) : R 119 [.d (.bool b)] [] = some ([.d (.int .u8 (threeB b))],[]) := by
 cases b
 all_goals
  refine run_goal (rs:=[.tmp 2]) (ts:=[155]) Tryz.func119 rfl rfl rfl (by kernel_rfl) (by kernel_rfl) (.inl sp_119) (by simp [Tryz.f119]) ?_
  intro T hT
  simp -dsimp -implicitDefEqProofs (disch:=first|omega|assumption) [startSlots,nI,wI]
  simpa -dsimp -implicitDefEqProofs (disch:=first|omega|assumption) [nI,wI,threeB] using hT
def cmpV (a b : Val) : Int := if ltV a b = true then -1 else if ltV b a = true then 1 else 0
theorem kind_ne {a b : Val} (h : a.kind ≠ b.kind) : cmpV a b = sgI a.kind b.kind := by
 unfold cmpV sgI
 by_cases h1 : a.kind < b.kind
 ·rw [ltV_of_kind h1,if_pos rfl,if_pos (by omega)]
 ·have h2 : b.kind < a.kind := by omega
  have h3 : ltV a b = false := by
   cases e : ltV a b with
   | false => rfl
   | true => have := ltV_kind e; omega
  rw [h3,ltV_of_kind h2,if_neg (by simp),if_pos rfl,if_neg (by omega),if_pos (by omega)]
theorem compare_runs (a b : Val) : R 61 [.d a.d,.d b.d] [] = some ([.d (.int .i64 (cmpV a b))],[]) := by
 have ka := kindOf_runs a
 have kb := kindOf_runs b
 by_cases hk : a.kind = b.kind
 ·cases a <;> cases b <;> simp [Val.kind] at hk
  ·simp only [Val.d,Val.kind] at ka ⊢
   refine run_goal (rs:=[.tmp 4]) (ts:=[3]) Tryz.func61 rfl rfl rfl (by kernel_rfl) (by kernel_rfl) (.inl sp_61) (by simp [Tryz.f61]) ?_
   intro T hT
   simp -dsimp -implicitDefEqProofs (disch:=first|omega|assumption) [startSlots,nI,wI,ka]
   simpa -dsimp -implicitDefEqProofs (disch:=first|omega|assumption) [nI,wI,cmpV,ltV,Val.kind] using hT
  ·rename_i x y
   have e : cmpV (.whole x) (.whole y) = sgI x y := by simp [cmpV,ltV,sgI]
   simp only [Val.d,Val.kind] at ka kb ⊢
   rw [e]
   refine run_goal (rs:=[.tmp 4]) (ts:=[3]) Tryz.func61 rfl rfl rfl (by kernel_rfl) (by kernel_rfl) (.inl sp_61) (by simp [Tryz.f61]) ?_
   intro T hT
   simp -dsimp -implicitDefEqProofs (disch:=first|omega|assumption) [startSlots,nI,wI,ka,kb,cmpI_runs]
   simpa -dsimp -implicitDefEqProofs (disch:=first|omega|assumption) [nI,wI] using hT
  ·rename_i x y
   have e : cmpV (.truth x) (.truth y) = sgI (threeB x) (threeB y) := by cases x <;> cases y <;> rfl
   simp only [Val.d,Val.kind] at ka kb ⊢
   rw [e]
   refine run_goal (rs:=[.tmp 4]) (ts:=[3]) Tryz.func61 rfl rfl rfl (by kernel_rfl) (by kernel_rfl) (.inl sp_61) (by simp [Tryz.f61]) ?_
   intro T hT
   simp -dsimp -implicitDefEqProofs (disch:=first|omega|assumption) [startSlots,nI,wI,ka,kb,cmpT_runs,is_runs]
   simpa -dsimp -implicitDefEqProofs (disch:=first|omega|assumption) [nI,wI] using hT
  ·rename_i x y
   have e : cmpV (.text x) (.text y) = sgS x y := by
    have e1 : ltV (.text x) (.text y) = lsS x y := rfl
    have e2 : ltV (.text y) (.text x) = lsS y x := rfl
    unfold cmpV sgS
    rw [e1,e2]
    by_cases h1 : lsS x y = true
    ·rw [if_pos h1,if_pos h1]
    ·rw [if_neg h1,if_neg h1]
     by_cases h2 : x = y
     ·subst h2
      rw [if_neg h1,if_pos rfl]
     ·rw [if_neg h2,if_pos (lsS_total (by simpa using h1) h2)]
   simp only [Val.d,Val.kind] at ka kb ⊢
   rw [e]
   refine run_goal (rs:=[.tmp 4]) (ts:=[3]) Tryz.func61 rfl rfl rfl (by kernel_rfl) (by kernel_rfl) (.inl sp_61) (by simp [Tryz.f61]) ?_
   intro T hT
   simp -dsimp -implicitDefEqProofs (disch:=first|omega|assumption) [startSlots,nI,wI,ka,kb,cmpS_runs]
   simpa -dsimp -implicitDefEqProofs (disch:=first|omega|assumption) [nI,wI] using hT
 ·have hk' : ¬ (a.kind : Int) = b.kind := by omega
  rw [kind_ne hk]
  generalize a.d = x at *
  generalize b.d = y at *
  refine run_goal (rs:=[.tmp 4]) (ts:=[3]) Tryz.func61 rfl rfl rfl (by kernel_rfl) (by kernel_rfl) (.inl sp_61) (by simp [Tryz.f61]) ?_
  intro T hT
  simp -dsimp -implicitDefEqProofs (disch:=first|omega|assumption) [startSlots,nI,wI,ka,kb,hk,hk',cmpK_runs]
  simpa -dsimp -implicitDefEqProofs (disch:=first|omega|assumption) [nI,wI] using hT
theorem cmpV_zero {a b : Val} : cmpV a b = 0 ↔ a = b := by
 unfold cmpV
 constructor
 ·intro h
  split at h
  ·omega
  ·rename_i h1
   split at h
   ·omega
   ·rename_i h2
    exact Classical.byContradiction fun e => h2 (ltV_total (by simpa using h1) e)
 ·rintro rfl
  rw [ltV_irrefl,if_neg (by simp),if_neg (by simp)]
theorem vsame_runs (a b : Val) : R 63 [.d a.d,.d b.d] [] = some ([.d (.bool (decide (a = b)))],[]) := by
 have h := compare_runs a b
 have e : decide (a = b) = decide (cmpV a b = 0) := decide_eq_decide.2 cmpV_zero.symm
 rw [e]
 generalize a.d = x at *
 generalize b.d = y at *
 refine run_goal (rs:=[.tmp 4]) (ts:=[4]) Tryz.func63 rfl rfl rfl (by kernel_rfl) (by kernel_rfl) (.inl sp_63) (by simp [Tryz.f63]) ?_
 intro T hT
 simp -dsimp -implicitDefEqProofs (disch:=first|omega|assumption) [startSlots,nI,wI,h]
 simpa -dsimp -implicitDefEqProofs (disch:=first|omega|assumption) [nI,wI] using hT
theorem npot2_runs (n : Nat) (hn : n ≤ 1024) : R 210 [.d (.int .i64 n)] [] = some ([.d (.int .u64 ((2 ^ blen n : Nat) : Int))],[]) := by
 have h := len_runs n (by omega)
 have hb : blen n ≤ 11 := (blen_le (by omega)).2 (by omega)
 have hw : IntKind.u64.wrap (n : Int) = n := wrap_u64 (by omega) (by omega)
 obtain ⟨k,hk⟩ : ∃ k,k = blen n := ⟨_,rfl⟩
 rw [← hk] at h hb ⊢
 have hm : min k 64 = k := by omega
 obtain ⟨p,hp⟩ : ∃ p,p = 2 ^ k := ⟨_,rfl⟩
 have hp2 : p ≤ 2048 := by rw [hp]; exact (Nat.pow_le_pow_right (by decide) hb : 2 ^ k ≤ 2 ^ 11)
 have hpi : (2 : Int) ^ k = p := by rw [hp,Int.natCast_pow]; rfl
 have hpw : IntKind.u64.wrap (p : Int) = p := wrap_u64 (by omega) (by omega)
 rw [← hp]
 refine run_goal (rs:=[.tmp 2]) (ts:=[76]) Tryz.func210 rfl rfl rfl (by kernel_rfl) (by kernel_rfl) (.inl sp_210) (by simp [Tryz.f210]) ?_
 intro T hT
 simp -dsimp -implicitDefEqProofs (disch:=first|omega|assumption) [startSlots,nI,wI,h,hw,hm,hpi,hpw]
 simpa -dsimp -implicitDefEqProofs (disch:=first|omega|assumption) [nI,wI] using hT
end Go.Am.Ab
namespace Go.Am.Ab.Str.Vs
open Go.Proofs
abbrev ws (wd : Nat → Val) (l : List Nat) : List D := l.map fun n => (wd n).d
theorem ws_set {wd : Nat → Val} (l : List Nat) (i : Nat) (v : Nat) : (l.map fun n => (wd n).d).set i (wd v).d = (l.set i v).map fun n => (wd n).d := by rw [List.map_set]
@[simp] theorem allSize_ws (wd : Nat → Val) (l : List Nat) : allSize 1 (l.map fun n => (wd n).d) = true := allSize_map l fun n => by cases wd n <;> rfl
@[simp] theorem allSize_repN : ∀ n,allSize 1 (List.replicate n D.nilI) = true
 | 0 => rfl
 | n + 1 => by simp [List.replicate_succ,allSize_repN n]
def sg (a b : Nat) : Int := if a < b then -1 else if b < a then 1 else 0
theorem sg_lt (a b : Nat) : (sg a b < 0) = (a < b) := by
 unfold sg
 by_cases h : a < b
 ·simp [h]
 ·by_cases h2 : b < a <;> simp [h,h2]
theorem cmp_runs {wd : Nat → Val} (hwd : VMono wd) (a b : Nat) : R 61 [.d (wd a).d,.d (wd b).d] [] = some ([.d (.int .i64 (sg a b))],[]) := by
 rw [compare_runs]
 unfold cmpV sg
 rw [hwd.lt,hwd.lt]
 simp
theorem same_runs {wd : Nat → Val} (hwd : VMono wd) (a b : Nat) : R 63 [.d (wd a).d,.d (wd b).d] [] = some ([.d (.bool (decide (a = b)))],[]) := by
 rw [vsame_runs,decide_eq_decide.2 hwd.eq_iff]
end Go.Am.Ab.Str.Vs
namespace Go.Am.Ab
open Go.Proofs
set_option maxHeartbeats 4000000
set_option maxRecDepth 4000
def ltC (a b : Cel) : Bool := if a.kind ≠ b.kind then decide (a.kind < b.kind) else decide (a.n < b.n) || (decide (a.n = b.n) && lsS a.s b.s)
theorem ltC_same {k : Nat} {x y : Int} {s t : ByteArray} : ltC ⟨k,x,s⟩ ⟨k,y,t⟩ = (decide (x < y) || (decide (x = y) && lsS s t)) := by
 unfold ltC
 rw [if_neg (by simp)]
theorem ltC_cell (a b : Val) : ltC (cellOf a) (cellOf b) = ltV a b := by
 have e : lsS noS noS = false := lsS_irrefl _
 cases a with
 | null => cases b <;> first | rfl | exact ltC_same.trans (by rw [e]; rfl)
 | whole x =>
  cases b with
  | whole y =>
   refine ltC_same.trans ?_
   rw [e,Bool.and_false,Bool.or_false]; rfl
  | _ => rfl
 | truth x =>
  cases b with
  | truth y =>
   refine ltC_same.trans ?_
   rw [e,Bool.and_false,Bool.or_false]
   cases x <;> cases y <;> rfl
  | _ => rfl
 | text x =>
  cases b with
  | text y =>
   refine ltC_same.trans ?_
   rw [decide_eq_false (by omega),decide_eq_true rfl,Bool.false_or,Bool.true_and]; rfl
  | _ => rfl
theorem rless_runs (a b : Cel) : R 106 [.d a.d,.d b.d] [] = some ([.d (.bool (ltC a b))],[]) := by
 obtain ⟨k,n,s⟩ := a
 obtain ⟨k',n',s'⟩ := b
 simp only [Cel.d]
 by_cases hk : k = k'
 ·subst hk
  have e : ltC ⟨k,n,s⟩ ⟨k,n',s'⟩ = (decide (n < n') || (decide (n = n') && lsS s s')) := by simp [ltC]
  rw [e]
  have hl : Op.bytesLess s.toList s'.toList = lsS s s' := rfl
  by_cases h1 : n < n'
  ·have h2 : ¬ n = n' := by omega
   refine run_goal (rs:=[.tmp 4]) (ts:=[4]) Tryz.func106 rfl rfl rfl (by kernel_rfl) (by kernel_rfl) (.inl sp_106) (by simp [Tryz.f106]) ?_
   intro T hT
   simp -dsimp -implicitDefEqProofs (disch:=first|omega|assumption) [startSlots,nI,wI,h1,h2]
   simpa -dsimp -implicitDefEqProofs (disch:=first|omega|assumption) [nI,wI,h1] using hT
  ·by_cases h2 : n = n'
   ·subst h2
    refine run_goal (rs:=[.tmp 4]) (ts:=[4]) Tryz.func106 rfl rfl rfl (by kernel_rfl) (by kernel_rfl) (.inl sp_106) (by simp [Tryz.f106]) ?_
    intro T hT
    simp -dsimp -implicitDefEqProofs (disch:=first|omega|assumption) [startSlots,nI,wI,hl]
    simpa -dsimp -implicitDefEqProofs (disch:=first|omega|assumption) [nI,wI] using hT
   ·refine run_goal (rs:=[.tmp 4]) (ts:=[4]) Tryz.func106 rfl rfl rfl (by kernel_rfl) (by kernel_rfl) (.inl sp_106) (by simp [Tryz.f106]) ?_
    intro T hT
    simp -dsimp -implicitDefEqProofs (disch:=first|omega|assumption) [startSlots,nI,wI,h1,h2]
    simpa -dsimp -implicitDefEqProofs (disch:=first|omega|assumption) [nI,wI,h1,h2] using hT
 ·have hk' : ¬ (k : Int) = k' := by omega
  have e : ltC ⟨k,n,s⟩ ⟨k',n',s'⟩ = decide (k < k') := by simp [ltC,hk]
  rw [e]
  by_cases h1 : k < k'
  ·have h1' : (k : Int) < k' := by omega
   refine run_goal (rs:=[.tmp 4]) (ts:=[4]) Tryz.func106 rfl rfl rfl (by kernel_rfl) (by kernel_rfl) (.inl sp_106) (by simp [Tryz.f106]) ?_
   intro T hT
   simp -dsimp -implicitDefEqProofs (disch:=first|omega|assumption) [startSlots,nI,wI,hk,hk',h1,h1']
   simpa -dsimp -implicitDefEqProofs (disch:=first|omega|assumption) [nI,wI,h1] using hT
  ·have h1' : ¬ (k : Int) < k' := by omega
   refine run_goal (rs:=[.tmp 4]) (ts:=[4]) Tryz.func106 rfl rfl rfl (by kernel_rfl) (by kernel_rfl) (.inl sp_106) (by simp [Tryz.f106]) ?_
   intro T hT
   simp -dsimp -implicitDefEqProofs (disch:=first|omega|assumption) [startSlots,nI,wI,hk,hk',h1,h1']
   simpa -dsimp -implicitDefEqProofs (disch:=first|omega|assumption) [nI,wI,h1] using hT
def cmpC (a b : Cel) : Int := if ltC a b = true then -1 else if ltC b a = true then 1 else 0
theorem rcompare_runs (a b : Cel) : R 74 [.d a.d,.d b.d] [] = some ([.d (.int .i64 (cmpC a b))],[]) := by
 have h1 := rless_runs a b
 have h2 := rless_runs b a
 unfold cmpC
 generalize ltC a b = x at *
 generalize ltC b a = y at *
 simp only [Cel.d] at h1 h2 ⊢
 cases x <;> cases y
 all_goals
  refine run_goal (rs:=[.tmp 4]) (ts:=[3]) Tryz.func74 rfl rfl rfl (by kernel_rfl) (by kernel_rfl) (.inl sp_74) (by simp [Tryz.f74]) ?_
  intro T hT
  simp -dsimp -implicitDefEqProofs (disch:=first|omega|assumption) [startSlots,nI,wI,h1,h2]
  simpa -dsimp -implicitDefEqProofs (disch:=first|omega|assumption) [nI,wI] using hT
theorem rhas_runs (l : List Cel) (c : Cel) (hn : l.length ≤ 1000000) : R 30 [.d (.list (ce l)),.d c.d] [] = some ([.d (.bool (decide (c ∈ l)))],[]) := by
 obtain ⟨k,n,s⟩ := c
 have hd : (⟨k,n,s⟩ : Cel).d = .agg [.int .u8 k,.int .i64 n,.str s] := rfl
 rw [hd]
 refine run_goal (rs:=[.tmp 4]) (ts:=[4]) Tryz.func30 rfl rfl rfl (by kernel_rfl) (by kernel_rfl) (.inl sp_30) (by simp [Tryz.f30]) ?_
 intro T hT
 simp -dsimp -implicitDefEqProofs (disch:=first|omega|assumption) [startSlots,nI,wI]
 generalize hz : loopT _ _ _ _ _ _ = z
 revert z
 refine loop_any (σ:=Nat) (fun i => [(0,.d (.list (ce l))),(3,.ptr 0 0),(5,.d (.int .i64 i))]) (fun i => [.box [.d (.int .u8 k),.d (.int .i64 n),.d (.str s)]]) (fun i => i ≤ l.length ∧ (⟨k,n,s⟩ : Cel) ∉ l.take i) (fun i => l.length - i) 0 ?_ ?_ ?_
 ·exact ⟨Nat.zero_le _,by simp⟩
 ·simp -dsimp -implicitDefEqProofs (disch:=first|omega|assumption)
 intro T' f hT' i ⟨hi,hno⟩ ih
 by_cases h1 : i < l.length
 ·obtain ⟨⟨k',n',s'⟩,hx⟩ : ∃ x,x = l[i] := ⟨_,rfl⟩
  have gx := hx.symm
  by_cases he : (⟨k',n',s'⟩ : Cel) = ⟨k,n,s⟩
  ·have hm : (⟨k,n,s⟩ : Cel) ∈ l := by rw [← he,hx]; exact List.getElem_mem _
   rw [decide_eq_true hm] at hT
   simp only [Cel.mk.injEq] at he
   obtain ⟨rfl,rfl,rfl⟩ := he
   subst hT'
   simp -dsimp -implicitDefEqProofs (disch:=first|omega|assumption) [nI,wI,h1,gx,Cel.d,str_beq]
   simpa -dsimp -implicitDefEqProofs (disch:=first|omega|assumption) [nI,wI] using hT
  ·have h4 : (decide (k' = k) && (decide (n' = n) && decide (s' = s))) = false := by
    by_cases c1 : k' = k <;> by_cases c2 : n' = n <;> by_cases c3 : s' = s <;> simp [c1,c2,c3]
    exact he (by rw [c1,c2,c3])
   simp -dsimp -implicitDefEqProofs (disch:=first|omega|assumption) [nI,wI,h1,gx,Cel.d,str_beq,h4]
   refine ih (i + 1) _ _ ⟨h1, ?_⟩ (by omega) (by simp -dsimp -implicitDefEqProofs (disch:=first|omega|assumption))
   rw [take_snoc h1,gx]
   simp only [List.mem_append,List.mem_singleton,not_or]
   exact ⟨hno,fun e => he e.symm⟩
 ·obtain rfl : i = l.length := by omega
  rw [List.take_length] at hno
  rw [decide_eq_false hno] at hT
  subst hT'
  simp -dsimp -implicitDefEqProofs (disch:=first|omega|assumption) [nI,wI,h1]
  simpa -dsimp -implicitDefEqProofs (disch:=first|omega|assumption) [nI,wI] using hT
def insC (x : Cel) : List Cel → List Cel
 | [] => [x]
 | y :: r => if ltC x y = true then x :: y :: r else y :: insC x r
def addC (u : List Cel) (x : Cel) : List Cel := if x ∈ u then u else insC x u
def uniC (l : List Cel) : List Cel := l.foldl addC []
theorem insV_in {v : Val} : ∀ {u : List Val},RisesV u → v ∈ u → insV v u = u
 | [],_,h => by cases h
 | y :: r,hr,h => by
  unfold insV
  rcases List.mem_cons.1 h with rfl | h
  ·rw [ltV_irrefl,if_neg (by simp),if_pos rfl]
  ·have h1 := hr.1 v h
   have h2 : ltV v y = false := by
    cases e : ltV v y with
    | false => rfl
    | true =>
     have := ltV_trans h1 e
     rw [ltV_irrefl] at this
     cases this
   have h3 : ¬ v = y := by
    rintro rfl
    rw [ltV_irrefl] at h1
    cases h1
   rw [h2,if_neg (by simp),if_neg h3,insV_in hr.2 h]
theorem cellOf_inj {a b : Val} (h : cellOf a = cellOf b) : a = b := by
 cases a <;> cases b <;> simp [cellOf,Cel.none] at h ⊢
 ·exact h
 ·rename_i x y
  cases x <;> cases y <;> simp at h ⊢
 ·exact h
theorem insC_map (v : Val) : ∀ {u : List Val},v ∉ u → insC (cellOf v) (u.map cellOf) = (insV v u).map cellOf
 | [],_ => rfl
 | y :: r,h => by
  simp only [List.mem_cons,not_or] at h
  simp only [List.map_cons,insC,insV,ltC_cell]
  by_cases h1 : ltV v y = true
  ·rw [if_pos h1,if_pos h1]; rfl
  ·rw [if_neg h1,if_neg h1,if_neg h.1,List.map_cons,insC_map v h.2]
theorem uniC_map (l : List Val) : uniC (l.map cellOf) = (uniV l).map cellOf := by
 have key : ∀ (l u : List Val),RisesV u → (l.map cellOf).foldl addC (u.map cellOf) = (l.foldl (fun u x => insV x u) u).map cellOf := by
  intro l
  induction l with
  | nil => intro u _; rfl
  | cons x r ih =>
   intro u hu
   rw [List.map_cons,List.foldl_cons,List.foldl_cons,← ih _ (insV_rises hu)]
   congr 1
   unfold addC
   by_cases h : x ∈ u
   ·rw [if_pos (List.mem_map.2 ⟨x,h,rfl⟩),insV_in hu h]
   ·rw [if_neg,insC_map x h]
    intro g
    obtain ⟨y,hy,e⟩ := List.mem_map.1 g
    rw [cellOf_inj e] at hy
    exact h hy
 exact key l [] trivial
theorem insC_length (x : Cel) : ∀ u : List Cel,(insC x u).length = u.length + 1
 | [] => rfl
 | y :: r => by
  unfold insC
  split
  ·simp
  ·simp [insC_length x r]
theorem addC_length (u : List Cel) (x : Cel) : (addC u x).length ≤ u.length + 1 := by
 unfold addC
 split
 ·omega
 ·rw [insC_length]; omega
theorem foldC_length : ∀ (l u : List Cel),(l.foldl addC u).length ≤ u.length + l.length
 | [],u => by simp
 | x :: r,u => by
  have := foldC_length r (addC u x)
  have := addC_length u x
  rw [List.foldl_cons,List.length_cons]; omega
theorem uniC_length (l : List Cel) : (uniC l).length ≤ l.length := by
 have := foldC_length l []
 simpa [uniC] using this
def SortR (u : List Cel) (r : Option (List V × List Obj)) : Prop := ∃ w,r = some ([.arr 0 u.length],[.arr 3 (ce u) w])
theorem not_sortR {u : List Cel} : ¬ SortR u none := fun ⟨_,h⟩ => by cases h
theorem rsort_any (l : List Cel) (hn : l.length ≤ 1000000) : SortR (uniC l) (R 24 [.d (.list (ce l))] []) := by
 refine run_any (rs:=[.tmp 2]) (ts:=[22]) Tryz.func24 rfl rfl rfl (by kernel_rfl) (by kernel_rfl) (.inl sp_24) (by simp [Tryz.f24]) not_sortR ?_
 simp -dsimp -implicitDefEqProofs (disch:=first|omega|assumption) [startSlots,nI,wI]
 generalize hT0 : SortR (uniC l) = T0
 generalize hz : loopT _ _ _ _ _ _ = z
 revert z
 refine loop_any (σ:=Nat × List Cel × Nat) (fun x => [(0,.d (.list (ce l))),(3,.arr 0 x.2.1.length),(4,.d (.int .i64 x.1))]) (fun x => [.arr 3 (ce x.2.1) x.2.2]) (fun x => x.1 ≤ l.length ∧ x.2.1.length ≤ x.1 ∧ x.2.1 = (l.take x.1).foldl addC []) (fun x => l.length - x.1) (0,[],0) ?_ ?_ ?_
 ·exact ⟨Nat.zero_le _,Nat.zero_le _,rfl⟩
 ·simp -dsimp -implicitDefEqProofs (disch:=first|omega|assumption)
 intro T' f hT' ⟨i,u,w⟩ ⟨hi,hul,hu⟩ ih
 simp only at hi hul hu ih
 by_cases h1 : i < l.length
 ·have hstep : (l.take (i + 1)).foldl addC [] = addC u l[i] := by rw [take_snoc h1,List.foldl_append,← hu]; rfl
  obtain ⟨c,hc⟩ : ∃ c,c = l[i] := ⟨_,rfl⟩
  have gx := hc.symm
  rw [← hc] at hstep
  have hh := rhas_runs u c (by omega)
  have hcmp := fun b => rcompare_runs c b
  obtain ⟨k,n,s⟩ := c
  by_cases hm : (⟨k,n,s⟩ : Cel) ∈ u
  ·rw [decide_eq_true hm] at hh
   rw [show addC u ⟨k,n,s⟩ = u from if_pos hm] at hstep
   simp only [Cel.d] at hh
   simp -dsimp -implicitDefEqProofs (disch:=first|omega|assumption) [nI,wI,h1,gx,Cel.d,hh]
   refine ih (i + 1,u,u.length) _ _ ⟨h1,by simp only; omega,hstep.symm⟩ (by simp only; omega) (by simp -dsimp -implicitDefEqProofs (disch:=first|omega|assumption))
  ·rw [decide_eq_false hm] at hh
   rw [show addC u ⟨k,n,s⟩ = insC ⟨k,n,s⟩ u from if_neg hm] at hstep
   simp only [Cel.d] at hh hcmp
   simp -dsimp -implicitDefEqProofs (disch:=first|omega|assumption) [nI,wI,h1,gx,Cel.d,hh]
   generalize hz : loopT _ _ _ _ _ _ = z
   revert z
   refine loop_any (σ:=Nat × List Cel × Bool) (fun x => [(0,.d (.list (ce l))),(3,.arr 0 u.length),(4,.d (.int .i64 i)),(5,.arr 1 x.2.1.length),(6,.d (.bool x.2.2)),(7,.d (.int .i64 x.1))]) (fun x => [.arr 3 (ce u) u.length,.arr 3 (ce x.2.1) 0]) (fun x => x.1 ≤ u.length ∧ x.2.1.length ≤ x.1 + x.2.2.toNat ∧ insC ⟨k,n,s⟩ u = x.2.1 ++ (if x.2.2 = true then u.drop x.1 else insC ⟨k,n,s⟩ (u.drop x.1))) (fun x => u.length - x.1) (0,[],false) ?_ ?_ ?_
   ·exact ⟨Nat.zero_le _,by simp,by simp⟩
   ·simp -dsimp -implicitDefEqProofs (disch:=first|omega|assumption)
   intro T2 f2 hT2 ⟨j,nx,dn⟩ ⟨hj,hnl,hin⟩ ih2
   simp only at hj hnl hin ih2
   by_cases h2 : j < u.length
   ·have hdr : u.drop j = u[j] :: u.drop (j + 1) := List.drop_eq_getElem_cons h2
    obtain ⟨d,hd⟩ : ∃ d,d = u[j] := ⟨_,rfl⟩
    have gd := hd.symm
    rw [← hd] at hdr
    have hcd := hcmp d
    obtain ⟨k',n',s'⟩ := d
    simp only [Cel.d] at hcd
    cases dn with
    | true =>
     simp only [Bool.toNat_true] at hnl
     rw [if_pos rfl,hdr] at hin
     simp -dsimp -implicitDefEqProofs (disch:=first|omega|assumption) [nI,wI,h1,h2,gx,gd,Cel.d]
     refine ih2 (j + 1,nx ++ [⟨k',n',s'⟩],true) _ _ ⟨h2,by simp only [List.length_append,List.length_cons,List.length_nil,Bool.toNat_true,Bool.toNat_false]; omega,by rw [hin]; simp⟩ (by simp only; omega) (by simp -dsimp -implicitDefEqProofs (disch:=first|omega|assumption) [Cel.d])
    | false =>
     simp only [Bool.toNat_false] at hnl
     rw [if_neg (by simp),hdr,insC] at hin
     by_cases hlt : ltC ⟨k,n,s⟩ ⟨k',n',s'⟩ = true
     ·rw [if_pos hlt] at hin
      have e : cmpC ⟨k,n,s⟩ ⟨k',n',s'⟩ = -1 := by unfold cmpC; rw [if_pos hlt]
      rw [e] at hcd
      simp -dsimp -implicitDefEqProofs (disch:=first|omega|assumption) [nI,wI,h1,h2,gx,gd,Cel.d,hcd]
      refine ih2 (j + 1,nx ++ [⟨k,n,s⟩,⟨k',n',s'⟩],true) _ _ ⟨h2,by simp only [List.length_append,List.length_cons,List.length_nil,Bool.toNat_true,Bool.toNat_false]; omega,by rw [hin]; simp⟩ (by simp only; omega) (by simp -dsimp -implicitDefEqProofs (disch:=first|omega|assumption) [Cel.d])
     ·rw [if_neg hlt] at hin
      have e : ¬ cmpC ⟨k,n,s⟩ ⟨k',n',s'⟩ < 0 := by unfold cmpC; rw [if_neg hlt]; split <;> omega
      obtain ⟨z,hz⟩ : ∃ z,z = cmpC ⟨k,n,s⟩ ⟨k',n',s'⟩ := ⟨_,rfl⟩
      rw [← hz] at hcd e
      simp -dsimp -implicitDefEqProofs (disch:=first|omega|assumption) [nI,wI,h1,h2,gx,gd,Cel.d,hcd,e]
      refine ih2 (j + 1,nx ++ [⟨k',n',s'⟩],false) _ _ ⟨h2,by simp only [List.length_append,List.length_cons,List.length_nil,Bool.toNat_true,Bool.toNat_false]; omega,by rw [hin]; simp⟩ (by simp only; omega) (by simp -dsimp -implicitDefEqProofs (disch:=first|omega|assumption) [Cel.d])
   ·obtain rfl : j = u.length := by omega
    rw [List.drop_length] at hin
    subst hT2
    cases dn with
    | true =>
     rw [if_pos rfl,List.append_nil] at hin
     simp -dsimp -implicitDefEqProofs (disch:=first|omega|assumption) [nI,wI]
     refine ih (i + 1,nx,0) _ _ ⟨h1, ?_,by simp only; rw [hstep,hin]⟩ (by simp only; omega) (by simp -dsimp -implicitDefEqProofs (disch:=first|omega|assumption))
     have := insC_length ⟨k,n,s⟩ u
     rw [hin] at this
     simp only; omega
    | false =>
     simp only [Bool.toNat_false] at hnl
     rw [if_neg (by simp),insC] at hin
     simp -dsimp -implicitDefEqProofs (disch:=first|omega|assumption) [nI,wI,h1,gx,Cel.d]
     refine ih (i + 1,nx ++ [⟨k,n,s⟩],0) _ _ ⟨h1, ?_,by simp only; rw [hstep,hin]⟩ (by simp only; omega) ?_
     ·have := insC_length ⟨k,n,s⟩ u
      rw [hin] at this
      simp only; omega
     ·simp -dsimp -implicitDefEqProofs (disch:=first|omega|assumption) [Cel.d]
 ·obtain rfl : i = l.length := by omega
  rw [List.take_length] at hu
  subst hT'
  simp -dsimp -implicitDefEqProofs (disch:=first|omega|assumption) [nI,wI]
  rw [← hT0]
  exact ⟨w,by rw [← show u = uniC l from hu]⟩
end Go.Am.Ab
