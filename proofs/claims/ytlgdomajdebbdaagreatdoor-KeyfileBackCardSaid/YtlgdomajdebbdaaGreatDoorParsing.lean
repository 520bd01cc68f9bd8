/- What bytes of a list are read as: plain law. -/
import Derived.Test.YtlgdomajdebbdaaGreatDoorRefInts
set_option linter.all false
namespace Go.Am.Ab
open Go.Proofs
set_option maxHeartbeats 4000000
inductive PR (α : Type) where
 | err (e : Nat)
 | ok (a : α) (r : List UInt8)
def PR.map {α β : Type} (f : α → β) : PR α → PR β
 | .err e => .err e
 | .ok a r => .ok (f a) r
@[simp] theorem PR.map_err {α β : Type} (f : α → β) (e : Nat) : (PR.err e : PR α).map f = .err e := rfl
@[simp] theorem PR.map_ok {α β : Type} (f : α → β) (a : α) (r : List UInt8) : (PR.ok a r).map f = .ok (f a) r := rfl
theorem PR.map_map {α β γ : Type} (f : α → β) (g : β → γ) (p : PR α) : (p.map f).map g = p.map (fun a => g (f a)) := by cases p <;> rfl
theorem PR.map_id {α : Type} {f : α → α} (h : ∀ a,f a = a) (p : PR α) : p.map f = p := by
 cases p with
 | err e => rfl
 | ok a r => simp [h]
def pNum (b : List UInt8) : PR Nat := if (get b).2.2 = 0 then .ok (get b).1 (b.drop (get b).2.1) else .err (get b).2.2
def pInt (b : List UInt8) : PR Int := if (get b).2.2 = 0 then .ok (zag (get b).1) (b.drop (get b).2.1) else .err (get b).2.2
def pSeq (dl : Bool) : Nat → Int → List UInt8 → PR (List Int)
 | 0,_,b => .ok [] b
 | k + 1,a,b =>
  match pInt b with
  | .err e => .err e
  | .ok x r => (pSeq dl k (if dl then IntKind.i64.wrap (x + a) else x) r).map ((if dl then IntKind.i64.wrap (x + a) else x) :: ·)
def pRuns : Nat → Nat → List UInt8 → PR (List Int)
 | _,0,b => .ok [] b
 | 0,_,_ => .err 40
 | f + 1,m + 1,b =>
  match pInt b with
  | .err e => .err e
  | .ok x r =>
   match pNum r with
   | .err e => .err e
   | .ok k r2 => if k = 0 ∨ m + 1 < k then .err 40 else (pRuns f (m + 1 - k) r2).map (List.replicate k x ++ ·)
def pRise : Nat → Int → List UInt8 → PR (List Int)
 | 0,_,b => .ok [] b
 | k + 1,a,b =>
  match pNum b with
  | .err e => .err e
  | .ok d r => if d = 0 ∨ 9223372036854775807 < a + d then .err 40 else (pRise k (a + d) r).map ((a + d) :: ·)
def pPacked (n w : Nat) (b : List UInt8) : PR (List Nat) :=
 if b.length < (n * w + 7) / 8 then .err 30 else if (n * w + 7) / 8 < b.length then .err 32 else if num b < 2 ^ (n * w) then .ok (ups w (num b) n) [] else .err 40
def pHead (many : Nat) (b : List UInt8) : PR (List Int) :=
 if many = 0 then .ok [] b else
 match pInt b with
 | .err e => .err e
 | .ok x r => (pRise (many - 1) x r).map (x :: ·)
def pTail (n many : Nat) (u : List Int) (b : List UInt8) : PR (List Int) :=
 if n = 0 then .ok [] b else
 match pPacked n (blen (many - 1)) b with
 | .err e => .err e
 | .ok p r => if ∀ q ∈ p,q < many then .ok (p.map (at' u)) r else .err 40
def pDict (n : Nat) (b : List UInt8) : PR (List Int) :=
 match pNum b with
 | .err e => .err e
 | .ok many r =>
  if n < many ∨ many = 0 ∧ 0 < n then .err 40 else
  match pHead many r with
  | .err e => .err e
  | .ok u r2 => pTail n many u r2
def pLeast (n : Nat) (b : List UInt8) : PR (List Int) :=
 if n = 0 then .ok [] b else
 match pInt b with
 | .err e => .err e
 | .ok x r =>
  match pNum r with
  | .err e => .err e
  | .ok w r2 =>
   if 64 < w then .err 40 else
   (pPacked n w r2).map (fun p => p.map fun (q : Nat) => IntKind.i64.wrap (x + q))
def pList (c n : Nat) (b : List UInt8) : PR (List Int) := match c with
 | 0 => pSeq false n 0 b
 | 1 => pSeq true n 0 b
 | 2 => pRuns n n b
 | 3 => pDict n b
 | _ => pLeast n b
def pEnd (c n : Nat) (b : List UInt8) : List Int × Nat :=
 match pList c n b with
 | .err e => ([],e)
 | .ok l r => if r ≠ [] then ([],32) else if encB c l = b then (l,0) else ([],40)
def readI (b : List UInt8) (n : Int) : List Int × Nat :=
 if n < 0 ∨ 256 < n then ([],1) else
 match b with
 | [] => ([],30)
 | c :: r => if 4 < c.toNat then ([],50) else pEnd c.toNat n.toNat r
theorem getFrom_used : ∀ (b : List UInt8) (i n : Nat),(getFrom i n b).2.1 ≤ i + b.length
 | [],_,_ => by simp [getFrom]
 | c :: r,i,n => by
  have := getFrom_used r (i + 1) (n + (c.toNat % 128) * 2 ^ (7 * i))
  rw [getFrom]
  simp only [List.length_cons]
  split
  ·simp
  ·split
   ·split
    ·simp
    ·simp only; omega
   ·omega
theorem get_used (b : List UInt8) : (get b).2.1 ≤ b.length := by
 have := getFrom_used b 0 0
 unfold get; omega
theorem getFrom_err : ∀ (b : List UInt8) (i n : Nat),(getFrom i n b).2.2 = 0 ∨ (getFrom i n b) = (0,0,30) ∨ (getFrom i n b) = (0,0,31)
 | [],_,_ => by simp [getFrom]
 | c :: r,i,n => by
  have := getFrom_err r (i + 1) (n + (c.toNat % 128) * 2 ^ (7 * i))
  rw [getFrom]
  split
  ·simp
  ·split
   ·split
    ·simp
    ·simp
   ·exact this
theorem get_err (b : List UInt8) : (get b).2.2 = 0 ∨ get b = (0,0,30) ∨ get b = (0,0,31) := getFrom_err b 0 0
theorem zag_is {n : Nat} (h : n < 18446744073709551616) : isI64 (zag n) := by
 unfold isI64 zag
 split <;> omega
theorem pInt_is {b r : List UInt8} {x : Int} (h : pInt b = .ok x r) : isI64 x := by
 unfold pInt at h
 split at h
 ·cases h; exact zag_is (get_lt b)
 ·cases h
end Go.Am.Ab
namespace Go.Am.Ab
set_option maxHeartbeats 4000000
theorem getFrom_put (n : Nat) : ∀ (i acc : Nat) (t : List UInt8),n * 2 ^ (7 * i) < 18446744073709551616 → (0 < i → 0 < n) → i ≤ 9 → getFrom i acc (put n ++ t) = (acc + n * 2 ^ (7 * i),i + (put n).length,0) := by
 induction n using Nat.strongRecOn with
 | _ n ih =>
 intro i acc t hb h0 hi
 by_cases h : n < 128
 ·rw [put_lt h,List.cons_append,List.nil_append,getFrom,u8n_toNat (by omega)]
  have h9 : ¬ (i = 9 ∧ 1 < n) := by
   rintro ⟨rfl,h1⟩
   have : 2 * 2 ^ (7 * 9) ≤ n * 2 ^ (7 * 9) := Nat.mul_le_mul_right _ h1
   simp at this; omega
  rw [if_neg h9,if_pos h,if_neg (by omega)]
  simp
 ·rw [put_ge (by omega),List.cons_append,getFrom,u8n_toNat (by omega)]
  have h9 : i ≠ 9 := by
   rintro rfl
   have : 128 * 2 ^ (7 * 9) ≤ n * 2 ^ (7 * 9) := Nat.mul_le_mul_right _ (by omega)
   simp at this; omega
  rw [if_neg (by omega),if_neg (by omega)]
  have hp : 2 ^ (7 * (i + 1)) = 128 * 2 ^ (7 * i) := by rw [Nat.mul_add,Nat.pow_add,Nat.mul_comm]
  obtain ⟨P,hP⟩ : ∃ P,P = 2 ^ (7 * i) := ⟨_,rfl⟩
  have hd : n * P = n / 128 * (128 * P) + n % 128 * P := by
   have := Nat.div_add_mod n 128
   calc n * P = (128 * (n / 128) + n % 128) * P := by rw [this]
    _ = _ := by rw [Nat.add_mul,Nat.mul_comm 128,Nat.mul_assoc]
  rw [ih (n / 128) (by omega) (i + 1) _ t (by rw [hp,← hP]; rw [← hP] at hb; omega) (fun _ => by omega) (by omega)]
  rw [hp,← hP,hd]
  simp only [List.length_cons,Prod.mk.injEq]
  refine ⟨?_, ?_,trivial⟩
  ·rw [show (n % 128 + 128) % 128 = n % 128 by omega]; omega
  ·omega
theorem get_put {n : Nat} (h : n < 18446744073709551616) (t : List UInt8) : get (put n ++ t) = (n,(put n).length,0) := by
 unfold get
 rw [getFrom_put n 0 0 t (by simpa using h) (fun h => by omega) (by omega)]
 simp
theorem pNum_put {n : Nat} (h : n < 18446744073709551616) (t : List UInt8) : pNum (put n ++ t) = .ok n t := by
 unfold pNum
 rw [get_put h]; simp
theorem zag_zig {x : Int} : zag (zig x) = x := by
 unfold zag zig
 split <;> split <;> omega
theorem pInt_put {x : Int} (h : isI64 x) (t : List UInt8) : pInt (putInt x ++ t) = .ok x t := by
 unfold pInt putInt
 rw [get_put (zig_lt h.1 h.2)]
 simp [zag_zig]
theorem pSeq_plain : ∀ (l : List Int) (a : Int) (t : List UInt8),(∀ n ∈ l,isI64 n) → pSeq false l.length a (plainB l ++ t) = .ok l t
 | [],_,t,_ => rfl
 | x :: r,a,t,h => by
  rw [plainB_cons,List.append_assoc,List.length_cons,pSeq,pInt_put (h x (by simp))]
  simp only [Bool.false_eq_true,if_false]
  rw [pSeq_plain r _ t fun n hn => h n (by simp [hn])]; rfl
theorem wrap_back {n a : Int} (h : isI64 n) : IntKind.i64.wrap (IntKind.i64.wrap (n - a) + a) = n := by
 unfold isI64 at h
 rw [wrap_mod_i64,wrap_mod_i64]
 split <;> split <;> omega
theorem pSeq_delta : ∀ (l : List Int) (a : Int) (t : List UInt8),(∀ n ∈ l,isI64 n) → pSeq true l.length a (plainB (deltas a l) ++ t) = .ok l t
 | [],_,t,_ => rfl
 | x :: r,a,t,h => by
  rw [deltas,plainB_cons,List.append_assoc,List.length_cons,pSeq,pInt_put (wrap_is _)]
  simp only [if_true]
  rw [wrap_back (h x (by simp)),pSeq_delta r _ t fun n hn => h n (by simp [hn])]; rfl
theorem cnt_take (x : Int) : ∀ l : List Int,l = List.replicate (cnt x l) x ++ l.drop (cnt x l)
 | [] => by simp [cnt]
 | y :: r => by
  by_cases h : y = x
  ·subst h
   rw [cnt,if_pos rfl,List.replicate_succ,List.drop_succ_cons,List.cons_append,← cnt_take y r]
  ·rw [cnt,if_neg h]; simp
theorem pRuns_runs (m : Nat) : ∀ (f : Nat) (l : List Int) (t : List UInt8),l.length = m → m ≤ f → m ≤ 1000000 → (∀ n ∈ l,isI64 n) → pRuns f m (runsB l ++ t) = .ok l t := by
 induction m using Nat.strongRecOn with
 | _ m ih =>
 intro f l t hl hf hm h
 cases l with
 | nil =>
  simp only [List.length_nil] at hl
  subst hl
  cases f <;> rfl
 | cons x r =>
  obtain ⟨m,rfl⟩ : ∃ k,m = k + 1 := ⟨m - 1,by simp at hl; omega⟩
  obtain ⟨f,rfl⟩ : ∃ k,f = k + 1 := ⟨f - 1,by omega⟩
  have hc := cnt_le x (x :: r)
  have hc1 : 1 ≤ cnt x (x :: r) := by simp [cnt]
  have ht := cnt_take x (x :: r)
  rw [runsB_cons rfl,List.append_assoc,List.append_assoc]
  obtain ⟨k,hk⟩ : ∃ k,k = cnt x (x :: r) := ⟨_,rfl⟩
  rw [← hk] at hc hc1 ht ⊢
  rw [pRuns,pInt_put (h x (by simp))]
  simp only
  rw [pNum_put (by omega)]
  simp only
  rw [if_neg (by omega),ih (m + 1 - k) (by omega) f _ t (by rw [List.length_drop,hl]) (by omega) (by omega) fun n hn => h n (List.mem_of_mem_drop hn)]
  rw [PR.map_ok,← ht]
end Go.Am.Ab
namespace Go.Am.Ab
set_option maxHeartbeats 4000000
theorem ups_cons (w N i : Nat) : ups w N (i + 1) = N % 2 ^ w :: ups w (N / 2 ^ w) i := by
 unfold ups
 rw [List.range_succ_eq_map,List.map_cons,List.map_map]
 congr 1
 ·simp
 ·apply List.map_congr_left
  intro j _
  simp only [Function.comp]
  rw [Nat.div_div_eq_div_mul,← Nat.pow_add,show (j + 1) * w = w + j * w by rw [Nat.add_mul,Nat.one_mul,Nat.add_comm]]
theorem ups_pack (w : Nat) : ∀ p : List Nat,(∀ n ∈ p,n < 2 ^ w) → ups w (packN w p) p.length = p
 | [],_ => rfl
 | n :: r,h => by
  have hn := h n (by simp)
  rw [List.length_cons,ups_cons,packN]
  have hp : 0 < 2 ^ w := Nat.two_pow_pos w
  have e1 : (n + 2 ^ w * packN w r) % 2 ^ w = n := by rw [Nat.add_mul_mod_self_left,Nat.mod_eq_of_lt hn]
  have e2 : (n + 2 ^ w * packN w r) / 2 ^ w = packN w r := by rw [Nat.add_mul_div_left _ _ hp,Nat.div_eq_of_lt hn,Nat.zero_add]
  rw [e1,e2,ups_pack w r fun m hm => h m (by simp [hm])]
theorem packed_length (w : Nat) (p : List Nat) : (packed w p).length = (p.length * w + 7) / 8 := by
 unfold packed; rw [le_length]
theorem pPacked_packed {w : Nat} {p : List Nat} (h : ∀ n ∈ p,n < 2 ^ w) : pPacked p.length w (packed w p) = .ok p [] := by
 have hl := packed_length w p
 have hlt := packN_lt w p h
 unfold pPacked
 rw [if_neg (by omega),if_neg (by omega)]
 have hn : num (packed w p) = packN w p := by
  unfold packed
  refine num_le _ _ (Nat.lt_of_lt_of_le hlt (Nat.pow_le_pow_right (by decide) ?_))
  omega
 rw [hn,if_pos hlt,ups_pack w p h]
theorem pPacked_more {w : Nat} {p : List Nat} {t : List UInt8} (ht : t ≠ []) : pPacked p.length w (packed w p ++ t) = .err 32 := by
 have hl := packed_length w p
 have := List.length_pos_iff.2 ht
 unfold pPacked
 rw [List.length_append,if_neg (by omega),if_pos (by omega)]
theorem pRise_gaps : ∀ (l : List Int) (a : Int) (t : List UInt8),isI64 a → (∀ n ∈ l,isI64 n) → (∀ n ∈ l,a < n) → Rises l → pRise l.length a (gaps a l ++ t) = .ok l t
 | [],_,t,_,_,_,_ => rfl
 | x :: r,a,t,ha,h,hlt,hr => by
  have hx := h x (by simp)
  have h1 := hlt x (by simp)
  unfold isI64 at ha hx
  obtain ⟨d,hd⟩ : ∃ d : Nat,(d : Int) = x - a := ⟨(x - a).toNat,by omega⟩
  have hdd : (x - a).toNat = d := by omega
  rw [gaps,hdd,List.append_assoc,List.length_cons,pRise,pNum_put (by omega)]
  simp only
  rw [if_neg (by omega),show a + (d : Int) = x by omega,pRise_gaps r x t (h x (by simp)) (fun n hn => h n (by simp [hn])) hr.1 hr.2]
  rfl
theorem pHead_rise {u : List Int} (t : List UInt8) (h : ∀ n ∈ u,isI64 n) (hr : Rises u) : pHead u.length (riseB u ++ t) = .ok u t := by
 unfold pHead
 cases u with
 | nil => rfl
 | cons x r =>
  rw [List.length_cons,if_neg (by omega),riseB,List.append_assoc,pInt_put (h x (by simp))]
  simp only
  rw [Nat.add_sub_cancel,pRise_gaps r x t (h x (by simp)) (fun n hn => h n (by simp [hn])) hr.1 hr.2]
  rfl
theorem width_le_iff {l : List Nat} {m : Nat} (hl : ∀ n ∈ l,n < 18446744073709551616) : width l ≤ m ↔ ∀ n ∈ l,n < 2 ^ m := by
 constructor
 ·intro h; exact width_lt hl h
 ·intro h
  have key : ∀ (l : List Nat) (a : Nat),a ≤ m → (∀ n ∈ l,n < 18446744073709551616) → (∀ n ∈ l,n < 2 ^ m) → l.foldl (fun w n => max w (blen n)) a ≤ m := by
   intro l
   induction l with
   | nil => intro a ha _ _; exact ha
   | cons x r ih =>
    intro a ha h1 h2
    rw [List.foldl_cons]
    refine ih _ ?_ (fun n hn => h1 n (by simp [hn])) (fun n hn => h2 n (by simp [hn]))
    have := (blen_le (m := m) (h1 x (by simp))).2 (h2 x (by simp))
    omega
  exact key l 0 (Nat.zero_le _) hl h
theorem idx_at {u : List Int} {i : Nat} (hr : Rises u) (hi : i < u.length) : idx u (at' u i) = i := by
 have hm : at' u i ∈ u := by rw [← get_at hi]; exact List.getElem_mem _
 have h1 := at_idx hm
 have h2 := idx_lt hm
 have hur := rises_iff.1 hr
 by_cases c : idx u (at' u i) < i
 ·have := hur _ i c hi; omega
 ·by_cases c2 : i < idx u (at' u i)
  ·have := hur i _ c2 h2; omega
  ·omega
theorem places_width {l : List Int} (h0 : l ≠ []) (hn : l.length ≤ 256) : width (places (uniq l) l) = blen ((uniq l).length - 1) := by
 have hpm := places_lt hn
 have h1 := uniq_length_le l
 have hu := uniq_ne h0
 have hmem : (uniq l).length - 1 ∈ places (uniq l) l := by
  unfold places
  rw [List.mem_map]
  refine ⟨at' (uniq l) ((uniq l).length - 1),uniq_mem.1 (by rw [← get_at (by omega : (uniq l).length - 1 < (uniq l).length)]; exact List.getElem_mem _),idx_at (uniq_rises l) (by omega)⟩
 have hle : ∀ q ∈ places (uniq l) l,q ≤ (uniq l).length - 1 := by
  intro q hq
  unfold places at hq
  rw [List.mem_map] at hq
  obtain ⟨x,hx,rfl⟩ := hq
  have := idx_lt (uniq_mem.2 hx)
  omega
 apply Nat.le_antisymm
 ·rw [width_le_iff hpm]
  intro q hq
  have := (blen_le (m := blen ((uniq l).length - 1)) (by omega : (uniq l).length - 1 < 18446744073709551616)).1 (Nat.le_refl _)
  have := hle q hq
  omega
 ·rw [blen_le (by omega)]
  exact width_lt hpm (Nat.le_refl _) _ hmem
theorem packed_nil (w : Nat) : packed w [] = [] := by
 have := packed_length w []
 simpa using this
theorem pDict_dict {l : List Int} (t : List UInt8) (h : ∀ n ∈ l,isI64 n) (hn : l.length ≤ 256) (ht : t = [] ∨ l = []) : pDict l.length (dictB l ++ t) = .ok l t := by
 have h1 := uniq_length_le l
 unfold pDict dictB
 rw [List.append_assoc,pNum_put (by omega)]
 simp only
 rw [List.append_assoc,pHead_rise _ (fun n hm => h n (uniq_mem.1 hm)) (uniq_rises l)]
 by_cases h0 : l = []
 ·subst h0
  rw [if_neg (by simp [uniq])]
  simp only [List.length_nil,pTail,if_true]
  rw [show places (uniq []) [] = [] from rfl,packed_nil]; rfl
 ·have hu := uniq_ne h0
  have hl : l.length ≠ 0 := by simpa using h0
  have hpl : (places (uniq l) l).length = l.length := by simp [places]
  have htn : t = [] := by
   rcases ht with h | h
   ·exact h
   ·exact absurd h h0
  rw [if_neg (by omega)]
  simp only [pTail,if_neg hl]
  rw [← places_width h0 hn,htn,List.append_nil,← hpl,pPacked_packed (width_lt (places_lt hn) (Nat.le_refl _))]
  simp only
  rw [if_pos]
  ·congr 1
   unfold places
   rw [List.map_map]
   conv => rhs; rw [← List.map_id l]
   apply List.map_congr_left
   intro x hx
   exact at_idx (uniq_mem.2 hx)
  ·intro q hq
   unfold places at hq
   rw [List.mem_map] at hq
   obtain ⟨x,hx,rfl⟩ := hq
   exact idx_lt (uniq_mem.2 hx)
theorem pDict_more {l : List Int} {t : List UInt8} (h : ∀ n ∈ l,isI64 n) (hn : l.length ≤ 256) (ht : t ≠ []) (h0 : l ≠ []) : pDict l.length (dictB l ++ t) = .err 32 := by
 have h1 := uniq_length_le l
 have hu := uniq_ne h0
 have hl : l.length ≠ 0 := by simpa using h0
 have hpl : (places (uniq l) l).length = l.length := by simp [places]
 unfold pDict dictB
 rw [List.append_assoc,pNum_put (by omega)]
 simp only
 rw [List.append_assoc,pHead_rise _ (fun n hm => h n (uniq_mem.1 hm)) (uniq_rises l),if_neg (by omega)]
 simp only [pTail,if_neg hl]
 rw [← places_width h0 hn,← hpl,pPacked_more ht]
theorem pLeast_packed {l : List Int} (t : List UInt8) (h : ∀ n ∈ l,isI64 n) (hn : l.length ≤ 256) (ht : t = [] ∨ l = []) : pLeast l.length (packedB l ++ t) = .ok l t := by
 unfold pLeast packedB
 by_cases h0 : l = []
 ·subst h0; rfl
 ·have hl : l.length ≠ 0 := by simpa using h0
  have htn : t = [] := by
   rcases ht with h | h
   ·exact h
   ·exact absurd h h0
  have hm := h _ (minL_mem h0)
  have hml : (mores l).length = l.length := by simp [mores]
  have hw := width_le64 (mores_lt h)
  rw [if_neg hl,if_neg h0,htn,List.append_nil,pInt_put hm]
  simp only
  rw [pNum_put (by omega)]
  simp only
  rw [if_neg (by omega),← hml,pPacked_packed (width_lt (mores_lt h) (Nat.le_refl _)),PR.map_ok]
  congr 1
  unfold mores
  rw [List.map_map]
  conv => rhs; rw [← List.map_id l]
  apply List.map_congr_left
  intro x hx
  have h1 := minL_le x hx
  have h2 := h x hx
  unfold isI64 at h2
  simp only [Function.comp,id]
  rw [show minL l + (((x - minL l).toNat : Nat) : Int) = x by omega,wI (by omega) (by omega)]
theorem pLeast_more {l : List Int} {t : List UInt8} (h : ∀ n ∈ l,isI64 n) (ht : t ≠ []) (h0 : l ≠ []) : pLeast l.length (packedB l ++ t) = .err 32 := by
 have hl : l.length ≠ 0 := by simpa using h0
 have hm := h _ (minL_mem h0)
 have hml : (mores l).length = l.length := by simp [mores]
 have hw := width_le64 (mores_lt h)
 unfold pLeast packedB
 rw [if_neg hl,if_neg h0,List.append_assoc,pInt_put hm]
 simp only
 rw [List.append_assoc,pNum_put (by omega)]
 simp only
 rw [if_neg (by omega),← hml,pPacked_more ht]; rfl
end Go.Am.Ab
namespace Go.Am.Ab
set_option maxHeartbeats 4000000
theorem pList_enc {c : Nat} {l : List Int} (t : List UInt8) (hc : c < 5) (h : ∀ n ∈ l,isI64 n) (hn : l.length ≤ 256) (ht : c ≤ 2 ∨ t = [] ∨ l = []) : pList c l.length (encB c l ++ t) = .ok l t := by
 have hcc : c = 0 ∨ c = 1 ∨ c = 2 ∨ c = 3 ∨ c = 4 := by omega
 rcases hcc with rfl | rfl | rfl | rfl | rfl
 ·exact pSeq_plain l 0 t h
 ·exact pSeq_delta l 0 t h
 ·exact pRuns_runs l.length l.length l t rfl (Nat.le_refl _) (by omega) h
 ·exact pDict_dict t h hn (by rcases ht with h | h; omega; exact h)
 ·exact pLeast_packed t h hn (by rcases ht with h | h; omega; exact h)
theorem pList_more {c : Nat} {l : List Int} {t : List UInt8} (hc : c < 5) (hc2 : 2 < c) (h : ∀ n ∈ l,isI64 n) (hn : l.length ≤ 256) (ht : t ≠ []) (h0 : l ≠ []) : pList c l.length (encB c l ++ t) = .err 32 := by
 have hcc : c = 3 ∨ c = 4 := by omega
 rcases hcc with rfl | rfl
 ·exact pDict_more h hn ht h0
 ·exact pLeast_more h ht h0
theorem readI_cons {c : Nat} (hc : c < 5) (r : List UInt8) (n : Nat) (hn : n ≤ 256) : readI (u8n c :: r) n = pEnd c n r := by
 unfold readI
 rw [if_neg (by omega)]
 simp only
 rw [u8n_toNat (by omega),if_neg (by omega),Int.toNat_natCast]
theorem readI_back {c : Nat} {l : List Int} (hc : c < 5) (h : ∀ n ∈ l,isI64 n) (hn : l.length ≤ 256) : readI (u8n c :: encB c l) l.length = (l,0) := by
 rw [readI_cons hc _ _ hn]
 unfold pEnd
 have := pList_enc [] hc h hn (.inr (.inl rfl))
 rw [List.append_nil] at this
 rw [this]; simp
theorem readI_more {c : Nat} {l : List Int} {t : List UInt8} (hc : c < 5) (h : ∀ n ∈ l,isI64 n) (hn : l.length ≤ 256) (ht : t ≠ []) : readI (u8n c :: (encB c l ++ t)) l.length = ([],32) := by
 rw [readI_cons hc _ _ hn]
 unfold pEnd
 by_cases h2 : c ≤ 2 ∨ l = []
 ·rw [pList_enc t hc h hn (by rcases h2 with h | h; exact .inl h; exact .inr (.inr h))]
  simp [ht]
 ·rw [pList_more hc (by omega) h hn ht (fun e => h2 (.inr e))]
theorem bestTo_form (l : List Int) : ∀ k,0 < k → k ≤ 5 → (∃ c,c < 5 ∧ bestTo l k = u8n c :: encB c l) ∧ ∀ c,c < k → (bestTo l k).length ≤ (encB c l).length + 1
 | 0,h,_ => by omega
 | k + 1,_,h5 => by
  by_cases h0 : k = 0
  ·subst h0
   refine ⟨⟨0,by omega,by rw [bestTo,if_pos (.inl rfl)]⟩,fun c hc => ?_⟩
   rw [bestTo,if_pos (.inl rfl),show c = 0 by omega]; simp
  ·obtain ⟨⟨c,h1,h2⟩,h3⟩ := bestTo_form l k (by omega) (by omega)
   rw [bestTo]
   split
   ·rename_i h4
    refine ⟨⟨k,by omega,rfl⟩,fun c' hc' => ?_⟩
    rcases h4 with h4 | h4
    ·omega
    ·by_cases e : c' = k
     ·subst e; simp
     ·have := h3 c' (by omega)
      simp only [List.length_cons]; omega
   ·rename_i h4
    refine ⟨⟨c,h1,h2⟩,fun c' hc' => ?_⟩
    by_cases e : c' = k
    ·subst e; omega
    ·exact h3 c' (by omega)
theorem best_form (l : List Int) : (∃ c,c < 5 ∧ bestB l = u8n c :: encB c l) ∧ ∀ c,c < 5 → (bestB l).length ≤ (encB c l).length + 1 := bestTo_form l 5 (by omega) (Nat.le_refl _)
theorem readI_best {l : List Int} (h : ∀ n ∈ l,isI64 n) (hn : l.length ≤ 256) : readI (bestB l) l.length = (l,0) := by
 obtain ⟨⟨c,hc,e⟩,_⟩ := best_form l
 rw [e]; exact readI_back hc h hn
theorem PR.map_inv {α β : Type} {f : α → β} {p : PR α} {b : β} {r : List UInt8} (h : p.map f = .ok b r) : ∃ a,p = .ok a r ∧ f a = b := by
 cases p with
 | err e => cases h
 | ok a r' => cases h; exact ⟨a,rfl,rfl⟩
theorem pSeq_is : ∀ (k : Nat) (dl : Bool) (a : Int) (b r : List UInt8) (l : List Int),pSeq dl k a b = .ok l r → l.length = k ∧ ∀ n ∈ l,isI64 n
 | 0,dl,a,b,r,l,h => by cases h; simp
 | k + 1,dl,a,b,r,l,h => by
  rw [pSeq] at h
  split at h
  ·cases h
  ·rename_i x r2 hx
   obtain ⟨l2,h2,rfl⟩ := PR.map_inv h
   obtain ⟨h3,h4⟩ := pSeq_is k dl _ _ _ _ h2
   refine ⟨by simp [h3],fun n hn => ?_⟩
   rcases List.mem_cons.1 hn with rfl | hn
   ·cases dl with
    | true => exact wrap_is _
    | false => exact pInt_is hx
   ·exact h4 n hn
theorem pRuns_is : ∀ (f m : Nat) (b r : List UInt8) (l : List Int),m ≤ f → pRuns f m b = .ok l r → l.length = m ∧ ∀ n ∈ l,isI64 n
 | f,0,b,r,l,_,h => by cases f <;> (cases h; simp)
 | 0,m + 1,b,r,l,hf,h => by omega
 | f + 1,m + 1,b,r,l,hf,h => by
  rw [pRuns] at h
  split at h
  ·cases h
  ·rename_i x r2 hx
   split at h
   ·cases h
   ·rename_i k r3 hk
    split at h
    ·cases h
    ·rename_i hkm
     obtain ⟨l2,h2,rfl⟩ := PR.map_inv h
     obtain ⟨h3,h4⟩ := pRuns_is f (m + 1 - k) _ _ _ (by omega) h2
     refine ⟨by simp [h3]; omega,fun n hn => ?_⟩
     rcases List.mem_append.1 hn with hn | hn
     ·rw [(List.mem_replicate.1 hn).2]; exact pInt_is hx
     ·exact h4 n hn
theorem pRise_is : ∀ (k : Nat) (a : Int) (b r : List UInt8) (l : List Int),isI64 a → pRise k a b = .ok l r → l.length = k ∧ ∀ n ∈ l,isI64 n
 | 0,a,b,r,l,_,h => by cases h; simp
 | k + 1,a,b,r,l,ha,h => by
  rw [pRise] at h
  split at h
  ·cases h
  ·rename_i d r2 hd
   split at h
   ·cases h
   ·rename_i hc
    obtain ⟨l2,h2,rfl⟩ := PR.map_inv h
    have had : isI64 (a + d) := by unfold isI64 at ha ⊢; omega
    obtain ⟨h3,h4⟩ := pRise_is k _ _ _ _ had h2
    refine ⟨by simp [h3],fun n hn => ?_⟩
    rcases List.mem_cons.1 hn with rfl | hn
    ·exact had
    ·exact h4 n hn
theorem pHead_is {many : Nat} {b r : List UInt8} {l : List Int} (h : pHead many b = .ok l r) : l.length = many ∧ ∀ n ∈ l,isI64 n := by
 unfold pHead at h
 split at h
 ·cases h; simp_all
 ·rename_i h0
  split at h
  ·cases h
  ·rename_i x r2 hx
   obtain ⟨l2,h2,rfl⟩ := PR.map_inv h
   obtain ⟨h3,h4⟩ := pRise_is _ _ _ _ _ (pInt_is hx) h2
   refine ⟨by simp [h3]; omega,fun n hn => ?_⟩
   rcases List.mem_cons.1 hn with rfl | hn
   ·exact pInt_is hx
   ·exact h4 n hn
theorem pPacked_is {n w : Nat} {b r : List UInt8} {p : List Nat} (h : pPacked n w b = .ok p r) : r = [] ∧ p.length = n := by
 unfold pPacked at h
 split at h
 ·cases h
 ·split at h
  ·cases h
  ·split at h
   ·cases h; simp
   ·cases h
theorem pDict_is {n : Nat} {b r : List UInt8} {l : List Int} (h : pDict n b = .ok l r) : l.length = n ∧ ∀ n ∈ l,isI64 n := by
 unfold pDict at h
 split at h
 ·cases h
 ·rename_i many r1 hm
  split at h
  ·cases h
  ·rename_i hc
   split at h
   ·cases h
   ·rename_i u r2 hu
    obtain ⟨u1,u2⟩ := pHead_is hu
    unfold pTail at h
    split at h
    ·cases h; simp_all
    ·split at h
     ·cases h
     ·rename_i p r3 hp
      split at h
      ·rename_i hq
       cases h
       refine ⟨by simp [(pPacked_is hp).2],fun x hx => ?_⟩
       rw [List.mem_map] at hx
       obtain ⟨q,hq1,rfl⟩ := hx
       have := hq q hq1
       rw [← get_at (by omega : q < u.length)]
       exact u2 _ (List.getElem_mem _)
      ·cases h
theorem pLeast_is {n : Nat} {b r : List UInt8} {l : List Int} (h : pLeast n b = .ok l r) : l.length = n ∧ ∀ n ∈ l,isI64 n := by
 unfold pLeast at h
 split at h
 ·cases h; simp_all
 ·split at h
  ·cases h
  ·split at h
   ·cases h
   ·split at h
    ·cases h
    ·obtain ⟨p,h2,rfl⟩ := PR.map_inv h
     refine ⟨by simp [(pPacked_is h2).2],fun x hx => ?_⟩
     rw [List.mem_map] at hx
     obtain ⟨q,_,rfl⟩ := hx
     exact wrap_is _
theorem pList_is {c n : Nat} {b r : List UInt8} {l : List Int} (h : pList c n b = .ok l r) : l.length = n ∧ ∀ n ∈ l,isI64 n := by
 unfold pList at h
 split at h
 ·exact pSeq_is _ _ _ _ _ _ h
 ·exact pSeq_is _ _ _ _ _ _ h
 ·exact pRuns_is _ _ _ _ _ (Nat.le_refl _) h
 ·exact pDict_is h
 ·exact pLeast_is h
theorem pNum_err {b : List UInt8} {e : Nat} (h : pNum b = .err e) : e ≠ 0 := by
 unfold pNum at h
 split at h
 ·cases h
 ·cases h; assumption
theorem pInt_err {b : List UInt8} {e : Nat} (h : pInt b = .err e) : e ≠ 0 := by
 unfold pInt at h
 split at h
 ·cases h
 ·cases h; assumption
theorem PR.map_err_inv {α β : Type} {f : α → β} {p : PR α} {e : Nat} (h : p.map f = .err e) : p = .err e := by
 cases p with
 | err e => cases h; rfl
 | ok a r' => cases h
theorem pSeq_err : ∀ (k : Nat) (dl : Bool) (a : Int) (b : List UInt8) (e : Nat),pSeq dl k a b = .err e → e ≠ 0
 | 0,dl,a,b,e,h => by cases h
 | k + 1,dl,a,b,e,h => by
  rw [pSeq] at h
  split at h
  ·rename_i h1; cases h; exact pInt_err h1
  ·exact pSeq_err k dl _ _ _ (PR.map_err_inv h)
theorem pRuns_err : ∀ (f m : Nat) (b : List UInt8) (e : Nat),pRuns f m b = .err e → e ≠ 0
 | f,0,b,e,h => by cases f <;> cases h
 | 0,m + 1,b,e,h => by cases h; decide
 | f + 1,m + 1,b,e,h => by
  rw [pRuns] at h
  split at h
  ·rename_i h1; cases h; exact pInt_err h1
  ·split at h
   ·rename_i h1; cases h; exact pNum_err h1
   ·split at h
    ·cases h; decide
    ·exact pRuns_err f _ _ _ (PR.map_err_inv h)
theorem pRise_err : ∀ (k : Nat) (a : Int) (b : List UInt8) (e : Nat),pRise k a b = .err e → e ≠ 0
 | 0,a,b,e,h => by cases h
 | k + 1,a,b,e,h => by
  rw [pRise] at h
  split at h
  ·rename_i h1; cases h; exact pNum_err h1
  ·split at h
   ·cases h; decide
   ·exact pRise_err k _ _ _ (PR.map_err_inv h)
theorem pPacked_err {n w : Nat} {b : List UInt8} {e : Nat} (h : pPacked n w b = .err e) : e ≠ 0 := by
 unfold pPacked at h
 split at h
 ·cases h; decide
 ·split at h
  ·cases h; decide
  ·split at h
   ·cases h
   ·cases h; decide
theorem pHead_err {many : Nat} {b : List UInt8} {e : Nat} (h : pHead many b = .err e) : e ≠ 0 := by
 unfold pHead at h
 split at h
 ·cases h
 ·split at h
  ·rename_i h1; cases h; exact pInt_err h1
  ·exact pRise_err _ _ _ _ (PR.map_err_inv h)
theorem pTail_err {n many : Nat} {u : List Int} {b : List UInt8} {e : Nat} (h : pTail n many u b = .err e) : e ≠ 0 := by
 unfold pTail at h
 split at h
 ·cases h
 ·split at h
  ·rename_i h1; cases h; exact pPacked_err h1
  ·split at h
   ·cases h
   ·cases h; decide
theorem pDict_err {n : Nat} {b : List UInt8} {e : Nat} (h : pDict n b = .err e) : e ≠ 0 := by
 unfold pDict at h
 split at h
 ·rename_i h1; cases h; exact pNum_err h1
 ·split at h
  ·cases h; decide
  ·split at h
   ·rename_i h1; cases h; exact pHead_err h1
   ·exact pTail_err h
theorem pLeast_err {n : Nat} {b : List UInt8} {e : Nat} (h : pLeast n b = .err e) : e ≠ 0 := by
 unfold pLeast at h
 split at h
 ·cases h
 ·split at h
  ·rename_i h1; cases h; exact pInt_err h1
  ·split at h
   ·rename_i h1; cases h; exact pNum_err h1
   ·split at h
    ·cases h; decide
    ·exact pPacked_err (PR.map_err_inv h)
theorem pList_err {c n : Nat} {b : List UInt8} {e : Nat} (h : pList c n b = .err e) : e ≠ 0 := by
 unfold pList at h
 split at h
 ·exact pSeq_err _ _ _ _ _ h
 ·exact pSeq_err _ _ _ _ _ h
 ·exact pRuns_err _ _ _ _ h
 ·exact pDict_err h
 ·exact pLeast_err h
end Go.Am.Ab
