/- What bytes of a list are read as: plain law. -/
import Derived.Test.YtibdiacpdmhmnaaGreatDoorRefInts
set_option linter.all false
namespace Go.Am.Ab
open Go.Proofs
set_option maxHeartbeats 4000000
inductive PR (α:Type) where
 |err (e:Nat)
 |ok (a:α) (r:List UInt8)
def PR.map {α β:Type} (f:α->β):PR α->PR β
 |.err e=> .err e
 |.ok a r=> .ok (f a) r
@[simp] def PR.map_err {α β:Type} (f:α->β) (e:Nat):(PR.err e:PR α).map f= .err e:=rfl
@[simp] def PR.map_ok {α β:Type} (f:α->β) (a:α) (r:List UInt8):(PR.ok a r).map f= .ok (f a) r:=rfl
def PR.map_map {α β γ:Type} (f:α->β) (g:β->γ) (p:PR α):(p.map f).map g=p.map (λa=>g (f a)):=by cases p <;> rfl
def PR.map_id {α:Type} {f:α->α} (h: ∀a,f a=a) (p:PR α):p.map f=p:=by
 cases p with
 |err e=>rfl
 |ok a r=>simp[h]
end Go.Am.Ab
namespace Go.Am.Ab
set_option maxHeartbeats 4000000
end Go.Am.Ab
namespace Go.Am.Ab
set_option maxHeartbeats 4000000
end Go.Am.Ab
namespace Go.Am.Ab
set_option maxHeartbeats 4000000
end Go.Am.Ab
