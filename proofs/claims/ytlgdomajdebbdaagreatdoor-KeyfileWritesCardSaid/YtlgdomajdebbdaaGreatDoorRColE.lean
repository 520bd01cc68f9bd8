/- The statement on what bytes are read. -/
import Derived.Test.YtlgdomajdebbdaaGreatDoorRColD
import Derived.Test.YtlgdomajdebbdaaGreatDoorColE
set_option linter.all false
namespace Go.Am.Ab
open Go.Proofs
set_option maxHeartbeats 4000000
theorem val_cell {k : Nat} {v : Val} (g : goodV k v) : valOf (cellOf v) = v ∧ (cellOf v).s.size ≤ 64 := by
 rcases g with rfl | ⟨_,_,h⟩
 ·exact ⟨rfl,by decide⟩
 ·cases v with
  | null => exact ⟨rfl,by decide⟩
  | whole n => exact ⟨rfl,Nat.zero_le 64⟩
  | truth b => cases b <;> exact ⟨rfl,by decide⟩
  | text s =>
   have hs := h s rfl
   refine ⟨?_,hs⟩
   have hc : chk ⟨3,0,s⟩ = 0 := by
    unfold chk
    rw [if_neg (by simp),if_neg (by simp),if_neg (by simp only; omega)]
   exact val_text hc rfl
end Go.Am.Ab
namespace Go.Am.Ab
open Go.Proofs
set_option maxHeartbeats 8000000
set_option maxRecDepth 4000
end Go.Am.Ab
