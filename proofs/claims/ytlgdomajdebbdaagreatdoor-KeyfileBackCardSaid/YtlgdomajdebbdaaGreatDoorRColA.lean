/- Columns of the document, their parts. -/
import Derived.Test.YtlgdomajdebbdaaGreatDoorBitsA
import Derived.Test.YtlgdomajdebbdaaGreatDoorVars
import Derived.Test.YtlgdomajdebbdaaGreatDoorRefInts
import Derived.Test.YtlgdomajdebbdaaGreatDoorColA
import Derived.Test.YtlgdomajdebbdaaGreatDoorColB
set_option linter.all false
namespace Go.Am.Ab.Str
open Go.Proofs
set_option maxHeartbeats 4000000
set_option maxRecDepth 4000
theorem ins_length (x : Nat) : ∀ l : List Nat,(ins x l).length ≤ l.length + 1
 | [] => by simp [ins]
 | y :: r => by
  unfold ins
  have := ins_length x r
  split
  ·simp
  ·split
   ·simp
   ·simp only [List.length_cons]; omega
theorem uniq_length_le (l : List Nat) : (uniq l).length ≤ l.length := by
 have key : ∀ (l u : List Nat),(l.foldl (fun u x => ins x u) u).length ≤ u.length + l.length := by
  intro l
  induction l with
  | nil => intro u; simp
  | cons x r ih =>
   intro u
   have h1 := ih (ins x u)
   have h2 := ins_length x u
   simp only [List.foldl_cons,List.length_cons]; omega
 have := key l []
 simpa [uniq] using this
end Go.Am.Ab.Str
namespace Go.Am.Ab
open Go.Proofs
end Go.Am.Ab
namespace Go.Am.Ab
open Go.Proofs
set_option maxHeartbeats 4000000
theorem fix_eq {c : Cel} (h : chk c = 0) : fix c = c := by rw [fix,if_pos h]
theorem val_whole {c : Cel} (h : chk c = 0) (hk : c.kind = 1) : valOf c = .whole c.n := by
 unfold valOf; rw [fix_eq h,if_pos hk]
theorem val_truth {c : Cel} (h : chk c = 0) (hk : c.kind = 2) : valOf c = .truth (decide (c.n = 1)) := by
 unfold valOf; rw [fix_eq h,if_neg (by omega),if_pos hk]
theorem val_text {c : Cel} (h : chk c = 0) (hk : c.kind = 3) : valOf c = .text c.s := by
 unfold valOf; rw [fix_eq h,if_neg (by omega),if_neg (by omega),if_pos hk]
theorem val_none {c : Cel} (h : chk c = 0) (hk : c.kind = 0) : valOf c = .null := by
 unfold valOf; rw [fix_eq h,if_neg (by omega),if_neg (by omega),if_neg (by omega)]
theorem val_kind {c : Cel} (h : chk c = 0) : (valOf c).kind = c.kind := by
 have hk := (chk_kind h).1
 have h4 : c.kind = 0 ∨ c.kind = 1 ∨ c.kind = 2 ∨ c.kind = 3 := by omega
 rcases h4 with e | e | e | e
 ·rw [val_none h e,e]; rfl
 ·rw [val_whole h e,e]; rfl
 ·rw [val_truth h e,e]; rfl
 ·rw [val_text h e,e]; rfl
end Go.Am.Ab
