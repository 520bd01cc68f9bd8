/- Statements on columns. -/
import Derived.Test.YtibdiacpdmhmnaaGreatDoorColD
import Derived.Test.YtibdiacpdmhmnaaGreatDoorILaw1
set_option linter.all false
namespace Go.Am.Ab
open Go.Proofs
set_option maxHeartbeats 4000000
set_option maxRecDepth 4000
end Go.Am.Ab
namespace Go.Am.Ab
open Go.Proofs
set_option maxHeartbeats 4000000
set_option maxRecDepth 4000
def zm2 {c:Cel} (h:chk c=0):fix c=c:=by rw[fix,yag h]
def zky {c:Cel} (h:chk c=0):cellOf (zaA c)=c:=by
 obtain⟨h1,h2,h3,h4,h5⟩:=zbv h;unfold zaA;rw[zm2 h];obtain⟨k,n,s⟩:=c;simp only at h1 h2 h3 h4 h5 ⊢;have hk:k=0\/k=1\/k=2\/k=3:=by omega
 rcases hk with rfl | rfl | rfl | rfl
 ·rw[h2 (by decide),h3 (by decide) (by decide)];rfl
 ·rw[h2 (by decide)];rfl
 ·rw[h2 (by decide)]
  rcases h4 rfl with rfl | rfl <;> rfl
 ·have:chk ⟨3,n,s⟩=0:=h
  have hn:n=0:=h3 (by decide) (by decide)
  rw[hn];rfl
end Go.Am.Ab
