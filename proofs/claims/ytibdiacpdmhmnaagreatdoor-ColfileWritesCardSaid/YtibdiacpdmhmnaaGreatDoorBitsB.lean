/- The unpacking of numbers. -/
import Derived.Test.YtibdiacpdmhmnaaGreatDoorBitsA
set_option linter.all false
namespace Go.Am.Ab
open Go.Proofs
set_option maxHeartbeats 4000000
def ups (w N i:Nat):List Nat:=(List.range i).map λj=>N / 2 ^ (j*w) % 2 ^ w
@[simp] def zum (w N i:Nat):(ups w N i).length=i:=by simp[ups]
def cells (w N n i v:Nat):List D:=(ups w N i++v::List.replicate (n - i - 1) 0).map λ(n:Nat)=>D.int .u64 (n:Int)
def cells_length (w N n i v:Nat) (h:i<n):(cells w N n i v).length=n:=by simp[cells];omega
def zbH (w N n i:Nat):List D:=(ups w N i++List.replicate (n - i) 0).map λ(n:Nat)=>D.int .u64 (n:Int)
end Go.Am.Ab
namespace Go.Am.Ab
open Go.Proofs
set_option maxHeartbeats 4000000
def half (Y j:Nat):2*(Y / 2 ^ (j+1))+Y / 2 ^ j % 2=Y / 2 ^ j:=by
 rw[Nat.pow_succ,<- Nat.div_div_eq_div_mul];omega
end Go.Am.Ab
