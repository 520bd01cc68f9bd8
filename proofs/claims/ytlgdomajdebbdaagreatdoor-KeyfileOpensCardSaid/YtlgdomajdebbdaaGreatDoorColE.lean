/- Statements on columns. -/
import Derived.Test.YtlgdomajdebbdaaGreatDoorColD
import Derived.Test.YtlgdomajdebbdaaGreatDoorILaw1
set_option linter.all false
namespace Go.Am.Ab
open Go.Proofs
set_option maxHeartbeats 4000000
set_option maxRecDepth 4000
def zsT (n:Int):byteOf? (.int .u8 n)=some (UInt8.ofNat n.toNat):=rfl
end Go.Am.Ab
namespace Go.Am.Ab
open Go.Proofs
set_option maxHeartbeats 4000000
set_option maxRecDepth 4000
def zpz {c:Cel} (h:chk c=0):fix c=c:=by rw[fix,if_pos h]
def zqS {k:Nat} (hk:1<=k/\k<=3) {c:Cel} (h:chk c=0) (hi:zah c.n) (hc:c=Cel.none\/c.kind=k):zur k (zaq c):=by
 rcases hc with rfl | hc
 ·exact .inl rfl
 ·obtain⟨h1,h2,h3,h4,h5⟩:=zb3 h
  unfold zaq;rw[zpz h];right;split
  ·exact⟨by simp only[Val.kind];omega,λn e=>(by cases e;exact hi),λs e=>by cases e⟩
  ·split
   ·exact⟨by simp only[Val.kind];omega,λn e=>(by cases e),λs e=>by cases e⟩
   ·rw[if_pos (by omega)]
    exact⟨by simp only[Val.kind];omega,λn e=>(by cases e),λs e=>by cases e;exact h5⟩
def zsU {c:Cel} (h:chk c=0):zar (zaq c)=c:=by
 obtain⟨h1,h2,h3,h4,h5⟩:=zb3 h;unfold zaq;rw[zpz h];obtain⟨k,n,s⟩:=c;simp only at h1 h2 h3 h4 h5 ⊢;have hk:k=0\/k=1\/k=2\/k=3:=by omega
 rcases hk with rfl | rfl | rfl | rfl
 ·rw[h2 (by decide),h3 (by decide) (by decide)];rfl
 ·rw[h2 (by decide)];rfl
 ·rw[h2 (by decide)]
  rcases h4 rfl with rfl | rfl <;> rfl
 ·have:chk ⟨3,n,s⟩=0:=h
  have hn:n=0:=h3 (by decide) (by decide)
  rw[hn];rfl
end Go.Am.Ab
