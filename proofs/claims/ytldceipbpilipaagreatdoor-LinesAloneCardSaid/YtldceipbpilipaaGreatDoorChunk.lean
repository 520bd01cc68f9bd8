/- What slices.Chunk tells: a function that yields piece after piece. -/
import Derived.RangeFuncBox
import Derived.RangeFuncLeaves
import Derived.Shelf.Abstract
import Derived.WalkKit
import Derived.OwnWalkIn
import Derived.TacticsInMore
import Derived.LoopNIn
import Derived.LoopIn
import Derived.RegionIn
import Derived.Test.YtldceipbpilipaaGreatDoorBase
set_option linter.all false
namespace Go.Proofs
open Go.RowKit Go.Shelf
attribute [local go_sem] Oper.semAt_some
set_option maxRecDepth 100000 in
set_option maxHeartbeats 2000000 in
theorem chunk_stops {l b1 b2 n m len cap:Nat} {ad:Option Addr} {J:Nat→World→Prop} {Jx:World→Prop} {W:World} (hn:0<n) (hn1:n≤65536) (hlen:len≤65536) (hm1:len≤m*n) (hm2:m*n<len+n) (hcap:len≤cap)
 (had:0<len→ ∃b off,ad=some ⟨b,off,none⟩)
 (hcell: ∀i W,J i W→W.cell? ⟨b1,0,none⟩=some (.slice ad len cap)∧W.cell? ⟨b2,0,none⟩=some (.int .i64 n)) (hdraw: ∀i W k,J i W→J i { W with drawn:=k })
 (hY: ∀i W1,i<m→J i W1→YieldAt Fence.wide 7 Tryz.prog l #[Am.chunkVal ad n len i] W1 fun e W'=>(e= .returned (.bool true)∧J (i+1) W')∨(e= .returned (.bool false)∧Jx W')) (h0:J 0 W):
 CallsIn Fence.wide 8 Tryz.prog 329 #[.func (.yield l) #[] #[],.pointer (some ⟨b1,0,none⟩),.pointer (some ⟨b2,0,none⟩)] W fun e W'=>(∃v,e= .returned v)∧(J m W'∨Jx W'):=by
 refine callsIn_of_wp Tryz.func329 rfl trivial ?_ rfl
 simp only[Tryz.ntmps329,List.size_toArray,List.length_cons,List.length_nil,Nat.reduceAdd,Nat.reduceSub,Array.replicate_succ,Array.replicate_zero,List.push_toArray,List.append_toArray,List.nil_append,List.cons_append]
 gi_wp2
 gi_loopw [4] (fun i wr=> ∃k:Nat,k≤m∧i= .int .i64 (k*n:Nat)∧J k wr) (fun i _=>len+n - (intOf i).toNat)
 case atStart=>exact⟨0,Nat.zero_le _,by simp,h0⟩
 case round=>
  obtain⟨k,hk,rfl,hJs⟩:=hrel
  obtain⟨c1,c2⟩:=hcell k wr hJs
  by_cases hlt:k<m
  ·have hq1:=Nat.mul_le_mul_right n hlt
   rw[Nat.succ_mul]at hq1
   obtain⟨q,hq⟩: ∃q,q=k*n:=⟨_,rfl⟩
   rw[← hq]at hq1 ⊢
   have hql:q<len:=by omega
   obtain⟨b,off,rfl⟩:=had (by omega)
   obtain⟨fn,tmps,assign,body,hy,hR⟩:=hY k wr.drew hlt (hdraw k wr (wr.drawn+1) hJs)
   have fin: ∀e W',(e=Ending.returned (.bool true)∧J (k+1) W')∨(e=Ending.returned (.bool false)∧Jx W')→(e= .returned (.bool true)∧W'.cell? ⟨b2,0,none⟩=some (.int .i64 n)∧J (k+1) W')∨(e= .returned (.bool false)∧Jx W'):=fun e W' h=>by
    rcases h with ⟨h1,h2⟩ | h
    ·exact .inl ⟨h1,(hcell _ _ h2).2,h2⟩
    ·exact .inr h
   have hR':=hR.mono fin
   clear hR fin
   by_cases c:n≤len - q
   ·have e1:Am.chunkVal (some ⟨b,off,none⟩) n len k= .slice (some ⟨b,off+k*n,none⟩) n n:=by
     show Value.slice _ _ _=_
     rw[show min n (len - k*n)=n by omega]
    rw[e1]at hy
    gi_wp2
    gi_region
    gi_wp2
    refine hR'.mono ?_
    rintro e W3 (⟨rfl,c3,hJ3⟩ | ⟨rfl,hJx3⟩)
    ·gi_wp2
     go_roundw
     case rel=>exact⟨k+1,hlt,by rw[Nat.succ_mul];simp,hJ3⟩
     case measure=>simp[intOf];omega
    ·gi_wp2
     refine bodyPost_ret (results_none rfl _ _ _) rfl ?_
     exact⟨⟨_,rfl⟩,.inr hJx3⟩
   ·have e1:Am.chunkVal (some ⟨b,off,none⟩) n len k= .slice (some ⟨b,off+k*n,none⟩) (len - k*n) (len - k*n):=by
     show Value.slice _ _ _=_
     rw[show min n (len - k*n)=len - k*n by omega]
    rw[e1]at hy
    gi_wp2
    gi_region
    gi_wp2
    refine hR'.mono ?_
    rintro e W3 (⟨rfl,c3,hJ3⟩ | ⟨rfl,hJx3⟩)
    ·gi_wp2
     go_roundw
     case rel=>exact⟨k+1,hlt,by rw[Nat.succ_mul];simp,hJ3⟩
     case measure=>simp[intOf];omega
    ·gi_wp2
     refine bodyPost_ret (results_none rfl _ _ _) rfl ?_
     exact⟨⟨_,rfl⟩,.inr hJx3⟩
  ·obtain rfl:k=m:=by omega
   gi_wp2
   go_end0
   exact⟨⟨_,rfl⟩,.inl hJs⟩
end Go.Proofs
namespace Go.Am.Ab
open Go.Proofs
theorem G_chunks: ∀g,chunks G g=true→ChunkOk Tryz.prog g:=fun g h=>by
 obtain rfl:=chunks_are h
 exact⟨fun args w=>run_callFunc (P:=Tryz.prog) Tryz.func329 (by kernel_rfl) (by kernel_rfl) args,
  fun l b1 b2 n m len cap ad J Jx W h1 h2 h3 h4 h5 h6 h7 h8 h9 h10 h11=>chunk_stops h1 h2 h3 h4 h5 h6 h7 h8 h9 h10 h11⟩
end Go.Am.Ab
