/- Lines of numbers. -/
import Derived.Test.YtldceipbpilipaaGreatDoorLinA
set_option linter.all false
namespace Go.Am.Ab
open Go.Proofs
set_option maxHeartbeats 2000000
set_option maxRecDepth 4000
def cellV (k n:Int) (s:List UInt8):V:= .d (.agg [.int .u8 k,.int .i64 n,.str ⟨s.toArray⟩])
theorem cutp_runs {c:UInt8} {r:List UInt8} (hc:c≠39) (hl:r.length<1000000):R 178 [S (c::r),S [39]] []=some ([S (c::r),.d (.bool false)],[]):=by
 have h1:R 277 [S (c::r),S [39]] []=some ([S (c::r),.d (.bool false)],[]):=by
  have hp:R 278 [S (c::r),S [39]] []=some ([.d (.bool false)],[]):=by
   have g1:(1:Int)≤(r.length:Int)+1:=by omega
   have ex:(⟨(c::r).toArray⟩:ByteArray).extract 0 1=⟨[c].toArray⟩:=by
    apply ByteArray.ext
    simp
   have e1:([c] == ([39]:List UInt8))=false:=beq_false_of_ne (fun e=>by cases e;exact hc rfl)
   refine run_goal (rs:=[.tmp 4]) (ts:=[4]) Tryz.func278 rfl rfl rfl (by kernel_rfl) (by kernel_rfl) (.inl sp_278) (by simp[Tryz.f278]) ?_
   intro T hT
   simp -dsimp -implicitDefEqProofs (disch:=first|omega|assumption) [startSlots,nI,wI,g1,ex,e1]
   simpa -dsimp -implicitDefEqProofs (disch:=first|omega|assumption) [nI,wI]using hT
  refine run_goal (rs:=[.tmp 4,.tmp 5]) (ts:=[9,4]) Tryz.func277 rfl rfl rfl (by kernel_rfl) (by kernel_rfl) (.inl sp_277) (by simp[Tryz.f277]) ?_
  intro T hT
  simp -dsimp -implicitDefEqProofs (disch:=first|omega|assumption) [startSlots,nI,wI,hp]
  simpa -dsimp -implicitDefEqProofs (disch:=first|omega|assumption) [nI,wI]using hT
 refine run_goal (rs:=[.tmp 4,.tmp 5]) (ts:=[9,4]) Tryz.func178 rfl rfl rfl (by kernel_rfl) (by kernel_rfl) (.inl sp_178) (by simp[Tryz.f178]) ?_
 intro T hT
 simp -dsimp -implicitDefEqProofs (disch:=first|omega|assumption) [startSlots,nI,wI,h1]
 simpa -dsimp -implicitDefEqProofs (disch:=first|omega|assumption) [nI,wI]using hT
end Go.Am.Ab
