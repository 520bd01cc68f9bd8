/- The statements on encoding lists. -/
import Derived.Test.YtekemfffaedmhaaGreatParsing
set_option linter.all false
namespace Go.Am.Ab
open Go.Proofs
set_option maxHeartbeats 4000000

theorem ex_delta : encB 1 [5, 6, 4] = [10, 2, 3] := by
  simp [encB, deltaB, deltas, plainB, putInt, zig, put_lt, wrap_i64, u8n]
theorem ex_uniq : uniq [9, 2, 9] = [2, 9] := by decide
theorem ex_dict : encB 3 [9, 2, 9] = [2, 4, 7, 5] := by
  have hp : places [2, 9] [9, 2, 9] = [1, 0, 1] := by decide
  have hw : width [1, 0, 1] = 1 := by decide
  simp [encB, dictB, ex_uniq, hp, hw, riseB, gaps, putInt, zig, put_lt, u8n, packed, packN, le]
theorem ex_packed : encB 4 [8, 9, 8] = [16, 1, 2] := by
  have hm : minL [8, 9, 8] = 8 := by decide
  have hp : mores [8, 9, 8] = [0, 1, 0] := by decide
  have hw : width [0, 1, 0] = 1 := by decide
  simp [encB, packedB, hm, hp, hw, putInt, zig, put_lt, u8n, packed, packN, le]
theorem ex_best : bestB [7, 7, 7] = [2, 14, 3] := by
  have h0 : encB 0 [7, 7, 7] = [14, 14, 14] := by simp [encB, plainB, putInt, zig, put_lt, u8n]
  have h1 : encB 1 [7, 7, 7] = [14, 0, 0] := by simp [encB, deltaB, deltas, plainB, putInt, zig, put_lt, wrap_i64, u8n]
  have h2 : encB 2 [7, 7, 7] = [14, 3] := by simp [encB, runsB, runsF, cnt, putInt, zig, put_lt, u8n]
  have h3 : encB 3 [7, 7, 7] = [1, 14] := by
    have hu : uniq [7, 7, 7] = [7] := by decide
    have hp : places [7] [7, 7, 7] = [0, 0, 0] := by decide
    have hw : width [0, 0, 0] = 0 := by decide
    simp [encB, dictB, hu, hp, hw, riseB, gaps, putInt, zig, put_lt, u8n, packed, packN, le]
  have h4 : encB 4 [7, 7, 7] = [14, 0] := by
    have hm : minL [7, 7, 7] = 7 := by decide
    have hp : mores [7, 7, 7] = [0, 0, 0] := by decide
    have hw : width [0, 0, 0] = 0 := by decide
    simp [encB, packedB, hm, hp, hw, putInt, zig, put_lt, u8n, packed, packN, le]
  simp [bestB, bestTo, h0, h1, h2, h3, h4, u8n]
end Go.Am.Ab
