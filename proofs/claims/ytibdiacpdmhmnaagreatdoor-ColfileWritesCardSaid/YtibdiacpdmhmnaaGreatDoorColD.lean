/- Columns, read. -/
import Derived.Test.YtibdiacpdmhmnaaGreatDoorParsing
import Derived.Test.YtibdiacpdmhmnaaGreatDoorColB
import Derived.Test.YtibdiacpdmhmnaaGreatDoorColC
set_option linter.all false
namespace Go.Am.Ab
open Go.Proofs
set_option maxHeartbeats 4000000
set_option maxRecDepth 4000
def zjs (p:Option (D × List Am.Obj)) (t:Nat) (s:Slots) (h:List Am.Obj) (r:List (Nat × Nat)):Slots × List Am.Obj:=
 match p with
 |some (x,h0)=>let (s1,h1):=zac s h0 r;((t,.d x)::s1,h1)
 |none=>zac s h r
@[simp] def zso (x:D) (h0 h:List Am.Obj) (t:Nat) (s:Slots) (r:List (Nat × Nat)):zjs (some (x,h0)) t s h r=zc5 (zac s h0 r) (λp=>((t,.d x)::p.1,p.2)) ⟨⟩:=rfl
@[simp] def zrE {s:Slots} {h:List Am.Obj} {sz:Nat} {r:List (Nat × Nat)}:zac s h ((1000015,sz)::r)=zjs (zbO h (zas s 15)) 15 s h r:=by
 have key: ∀t,zac s h ((t+1000000,sz)::r)=zjs (zbO h (zas s t)) t s h r:=by
  intro t
  conv=>lhs;unfold zac
  rw[if_neg (by omega),Nat.add_sub_cancel]
  unfold zjs;cases zbO h (zas s t) <;> rfl
 exact key 15
@[simp] def zkQ (x:Int): ∀n,zap 1 (List.replicate n (D.int .u64 x))=true
 |0=>rfl
 |n+1=>by simp[List.replicate_succ,zkQ x n]
@[simp] def zus (l:List Int):zap 1 (l.map λn=>D.int .u64 n)=true:=zaK l λ_=>rfl
@[simp] def ztq (l:List Nat):zap 1 (l.map λ(n:Nat)=>D.int .u64 (n:Int))=true:=zaK l λ_=>rfl
end Go.Am.Ab
namespace Go.Am.Ab
open Go.Proofs
set_option maxHeartbeats 4000000
end Go.Am.Ab
namespace Go.Am.Ab
open Go.Proofs
set_option maxHeartbeats 4000000
def zrF (k:Nat) (v:Val):Prop:=v= .null\/(v.kind=k/\(∀n,v= .whole n->zat n)/\ ∀s,v= .text s->s.size<=64)
def zkR (k:Nat) (l:List Val):Prop:= ∀v∈l,zrF k v
def zkR.odd {k:Nat} {l:List Val} (g:zkR k l):l.any (zqq k)=false:=by
 rw[List.any_eq_false];intro v hv;rcases g v hv with h | ⟨h,_⟩ <;> simp[zqq,h]
def zkR.long {k:Nat} {l:List Val} (g:zkR k l):l.any zhz=false:=by
 rw[List.any_eq_false];intro v hv;rcases g v hv with h | ⟨_,_,h⟩
 ·simp[zhz,h]
 ·cases v with
  |text s=>have:=h s rfl;simp[zhz];omega
  |_=>simp[zhz]
def zkR.i64 {k:Nat} {l:List Val} (g:zkR k l): ∀n,Val.whole n∈l->zat n:=by
 intro n hn;rcases g _ hn with h | ⟨_,h,_⟩
 ·cases h
 ·exact h n rfl
def zkR.tail {k:Nat} {v:Val} {l:List Val} (g:zkR k (v::l)):zkR k l:=λx hx=>g x (by simp[hx])
def own (l:List Val):List Val:=l.filter λv=>decide (v≠ .null)
end Go.Am.Ab
namespace Go.Am.Ab
open Go.Proofs
set_option maxHeartbeats 4000000
set_option maxRecDepth 4000
def zrG (k:Nat) (hk:1<=k/\k<=3) (l:List Val) (g:zkR k l) (hn:l.length<=256):R 45 [.d (.int .u8 k),.d (.list (vs l))] []=some ([.arr 0 (zeH k l).length,E 0],[.arr 1 (bytes (zeH k l)) 0]):=by
 have hc:k=1\/k=2\/k=3:=by omega
 rcases hc with rfl | rfl | rfl
 ·exact zn9 l hn g.odd g.i64
 ·exact zoa l hn g.odd
 ·exact zob l hn g.odd g.long
def zjt {k:Nat} {l:List Val} (hk:1<=k/\k<=3) (g:zkR k l) (hn:l.length<=256):(zeH k l).length<=200000:=by
 have hkl:=zcQ l;have htl:=zaF l;have h1:=zbn (l:=zav l) (by omega)
 have h2:=zbn (l:=zb6 l) (by omega)
 have h3:=zcv (zhD g.i64) (by omega)
 have h4:=ziO (zgA g.long) (by omega)
 unfold zeH zdj zwT;rw[List.length_append];split <;> split <;> (try split) <;> simp only[List.length_cons,List.length_nil] <;> omega
end Go.Am.Ab
