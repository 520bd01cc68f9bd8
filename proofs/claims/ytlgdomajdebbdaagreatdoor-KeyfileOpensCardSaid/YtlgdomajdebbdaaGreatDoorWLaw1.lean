/- The statement that the bytes of any values are the document's. -/
import Derived.Test.YtlgdomajdebbdaaGreatDoorRColB
import Derived.Test.YtlgdomajdebbdaaGreatDoorColE
set_option linter.all false
namespace Go.Am.Ab
open Go.Proofs
set_option maxHeartbeats 8000000
set_option maxRecDepth 4000
def zq0 (k:Nat) (hk:1<=k/\k<=3) (X:List Val) (hn:X.length<=4611686018427387903) (h:X.any (zeB k)=true):R 64 [.d (.int .u8 k),.d (.list (vs X))] []=zdA 10:=by
 have hc:k=1\/k=2\/k=3:=by omega
 rcases hc with rfl | rfl | rfl
 ·exact zqu X hn h
 ·exact zqw X hn h
 ·exact zqy X hn h
def zow (k:Nat) (hk:1<=k/\k<=3) (X:List Val) (hn:X.length<=4611686018427387903) (hm:256<X.length) (h:X.any (zeB k)=false):R 64 [.d (.int .u8 k),.d (.list (vs X))] []=zdA 5:=by
 have hc:k=1\/k=2\/k=3:=by omega
 rcases hc with rfl | rfl | rfl
 ·exact znZ X hn hm h
 ·exact zn0 X hn hm h
 ·exact zn1 X hn hm h
def zsV {k:Nat} {l:List Cel} (hvl: ∀c∈l,chk c=0) (hi: ∀c∈l,zah c.n) (hok:l.any (zg4 k)=false):zfs k (l.map zaq):=by
 intro v hv;obtain⟨c,hc,rfl⟩:=List.mem_map.1 hv;have h:=hvl c hc;have ho:=List.any_eq_false.1 hok c hc;obtain⟨h1,h2,h3,h4,h5⟩:=zb3 h
 by_cases z:c.kind=0
 ·exact .inl (zfk h z)
 ·have e:c.kind=k:=by simpa[zg4,z]using ho
  right;refine⟨by rw[zfl h];exact e,λn en=> ?_,λs es=> ?_⟩
  ·have hk:c.kind=1:=by rw[<- zfl h,en];rfl
   rw[zi6 h hk]at en;cases en;exact hi c hc
  ·have hk:c.kind=3:=by rw[<- zfl h,es];rfl
   rw[zgo h hk]at es;cases es;exact h5
def zq1 (k:Nat) (hk:k<256) (l:List Cel) (hvl: ∀c∈l,chk c=0) (hi: ∀c∈l,zah c.n) (hn:l.length<=600):
 ∃ (b:List UInt8) (e:Nat),b.length<=1000000/\R 64 [.d (.int .u8 k),.d (.list (vs (l.map zaq)))] []=some ([.arr 0 b.length,E e],[.arr 1 (bytes b) 0])/\R 67 [.d (.int .i64 k),.d (.list (ce l))] []=some ([.arr 0 b.length,E e],[.arr 1 (bytes b) 0]):=by
 have hl: ∀c∈l,c.kind<256:=λc hc=>by have:=(zb3 (hvl c hc)).1;omega
 by_cases h1:1<=k/\k<=3
 case neg=>exact⟨[],10,by simp,zuj k hk h1 _,zoj k hk h1 l⟩
 cases h2:l.any (zg4 k) with
 |true=>exact⟨[],10,by simp,zq0 k h1 _ (by simp;omega) (by rw[zsm hvl];exact h2),zqP k h1 l hl (by omega) h2⟩
 |false=>
  by_cases h3:256<l.length
  ·exact⟨[],5,by simp,zow k h1 _ (by simp;omega) (by simpa using h3) (by rw[zsm hvl];exact h2),zok k h1 l hl (by omega) h3 h2⟩
  ·have g:=zsV hvl hi h2
   have hcl:=zgu h1 g (by simp;omega)
   refine⟨zdb k (l.map zaq),0,by omega,zgt k h1 _ g (by simp;omega), ?_⟩
   have hc:k=1\/k=2\/k=3:=by omega
   rcases hc with e | e | e
   ·exact zjs k e l hvl hi (by omega) h2
   ·exact zjt k e l hvl hi (by omega) h2
   ·exact zju k e l hvl (by omega) h2
end Go.Am.Ab
