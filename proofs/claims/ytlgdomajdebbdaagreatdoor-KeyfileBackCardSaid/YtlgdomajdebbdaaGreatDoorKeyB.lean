/- Files of keys of the document. -/
import Derived.Test.YtlgdomajdebbdaaGreatDoorKeyA
import Derived.Test.YtlgdomajdebbdaaGreatDoorRColE
import Derived.Test.YtlgdomajdebbdaaGreatDoorWLaw1
set_option linter.all false
namespace Go.Am.Ab
open Go.Proofs
set_option maxHeartbeats 8000000
set_option maxRecDepth 4000
end Go.Am.Ab
namespace Go.Am.Ab
open Go.Proofs
set_option maxHeartbeats 8000000
set_option maxRecDepth 4000
theorem uniV_all {k : Nat} {X : List Val} : kAll k X = true ↔ (k = 1 ∨ k = 3) ∧ ∀ v ∈ X,v.kind = k := by
 unfold kAll
 rw [Bool.and_eq_true,decide_eq_true_eq,List.all_eq_true]
 simp only [decide_eq_true_eq]
end Go.Am.Ab
namespace Go.Am.Ab
open Go.Proofs
set_option maxHeartbeats 8000000
set_option maxRecDepth 4000
end Go.Am.Ab
