/- The keys of maps. -/
import Derived.Shelf.SlIter.Sorted
import Derived.Maps.RangeRun
import Derived.Test.YtldceipbpilipaaGreatDoorMachE
import Derived.Test.YtldceipbpilipaaGreatDoorBase
set_option linter.all false
namespace Go.Am
open Go.Proofs Go.RowKit Go.Shelf
attribute [local go_sem] Oper.semAt_some
structure KeysLay (P:Program) (ρ:Ren):Prop where
 mixed:P.follows .mixedOrders=true
 f10:Bears P (ρ.f 10) (SlBodyZ.n10 ρ)
 t0:P.underlying (ρ.t 0)=some (TypeDesc.tuple #[])
 a0: ∀w,(isAgg (ρ.t 0)).run P w= .ok false w
 z0: ∀w,(Go.sizeOf (ρ.t 0)).run P w= .ok 1 w
 v0: ∀w,(zeroValue (ρ.t 0)).run P w= .ok (Value.tuple #[]) w
 t4:P.underlying (ρ.t 4)=some (TypeDesc.bool)
 a4: ∀w,(isAgg (ρ.t 4)).run P w= .ok false w
 z4: ∀w,(Go.sizeOf (ρ.t 4)).run P w= .ok 1 w
 v4: ∀w,(zeroValue (ρ.t 4)).run P w= .ok (Value.bool false) w
 t23:P.underlying (ρ.t 23)=some (TypeDesc.map (ρ.t 26) (ρ.t 3))
 a23: ∀w,(isAgg (ρ.t 23)).run P w= .ok false w
 z23: ∀w,(Go.sizeOf (ρ.t 23)).run P w= .ok 1 w
 v23: ∀w,(zeroValue (ρ.t 23)).run P w= .ok (Value.map none) w
 v26: ∃z, ∀w,(zeroValue (ρ.t 26)).run P w= .ok z w
 t33:P.underlying (ρ.t 33)=some (TypeDesc.func #[ρ.t 26] #[ρ.t 4] false)
 a33: ∀w,(isAgg (ρ.t 33)).run P w= .ok false w
 z33: ∀w,(Go.sizeOf (ρ.t 33)).run P w= .ok 1 w
 v33: ∀w,(zeroValue (ρ.t 33)).run P w= .ok (Value.nilFunc) w
def NoneLeft (en:Array MapEntry) (seen:Array Nat):Prop:=(leftOf en seen).size=0
def Told (en:Array MapEntry) (seen:Array Nat) (e:MapEntry) (w:World) (r b ck:Nat) (w2:World):Prop:=e∈(leftOf en seen).toList∧ ∃w1,(w1=w∨w1=w.drew)∧w2=ChangeMaps.setBlock w1 r (.mapIter (some b) ck (seen.push e.born) ck)
def seenOf (bs pre:List Nat):Array Nat:=(pre.map fun i=>bs.getD i 0).toArray
section
variable {P:Program} {F:Fence} {n:Nat} {ops:Array Oper} {rest:List Oper} {o:Oper} {a:Act} {Q:Exit→Act→World→Prop}
theorem wpListIn_rangeK (w:World) (hg:o.guard=none) (m:Operand) (t:TypeId) (hop:o.op= .range t m) (k e:TypeId) (ht:P.underlying t=some (.map k e)) (b ck:Nat) (en:Array MapEntry) (hb:w.heap[b]? =some (.map en ck)) (hm:a.eval m= .map (some b))
 (h:wpListIn F n P ops Q rest (a.put o.dst (.pointer (some ⟨w.heap.size,0,none⟩))) (w.alloc (.mapIter (some b) ck #[] ck))):wpListIn F n P ops Q (o::rest) a w:=by
 refine wpListIn_plain hg fun K' hK'=> ?_
 unfold Oper.wpIn
 refine⟨by simp[Oper.about,hop], ?_⟩
 rw[Oper.semAt_plain F _ _ (by rw[hop];intro c hc';cases hc')]
 simp[execOp,hop,hm,run_range_map w t k e b en ck ht hb,Result.andThen]
 exact hK' _ _ h
theorem wpListIn_nextK (w:World) (hg:o.guard=none) (it:Operand) (hop:o.op= .next it false) (r b ck:Nat) (seen:Array Nat) (en:Array MapEntry) (hit:a.eval it= .pointer (some ⟨r,0,none⟩)) (hr:w.heap[r]? =some (.mapIter (some b) ck seen ck)) (hb:w.heap[b]? =some (.map en ck)) (hold: ∀x∈en.toList,x.born<ck) (hnd:(en.toList.map (·.born)).Nodup)
 (hDone:NoneLeft en seen→wpListIn F n P ops Q rest (a.put o.dst (.tuple #[.bool false])) w)
 (hMore: ∀ (e:MapEntry) (w2:World),Told en seen e w r b ck w2→(Instr.entry (.pointer (some ⟨r,0,none⟩))).run P w2= .ok (.tuple #[e.key,e.val]) w2→wpListIn F n P ops Q rest (a.put o.dst (.tuple #[.bool true,e.key,e.val])) w2):wpListIn F n P ops Q (o::rest) a w:=by
 refine wpListIn_plain hg fun K' hK'=> ?_
 unfold Oper.wpIn
 refine⟨by simp[Oper.about,hop], ?_⟩
 rw[Oper.semAt_plain F _ _ (by rw[hop];intro c hc';cases hc')]
 rcases run_next_at (P:=P) w o.type r b ck ck seen en ck hr hb hold (Nat.le_refl _) with ⟨h0,hrun⟩ | ⟨e,he,w1,hal,hrun⟩
 ·simp[execOp,hop,hit,hrun,Result.andThen]
  exact hK' _ _ (hDone h0)
 ·simp[execOp,hop,hit,hrun,Result.andThen]
  obtain⟨hem,-⟩:=mem_left he
  have hr1:w1.heap[r]? =some (.mapIter (some b) ck seen ck):=by rcases hal with rfl | rfl <;> exact hr
  have hb1:w1.heap[b]? =some (.map en ck):=by rcases hal with rfl | rfl <;> exact hb
  have hne:b≠r:=fun e=>by rw[e,hr]at hb;cases hb
  have hset:=MapKept.heap_set (o':= .mapIter (some b) ck (seen.push e.born) ck) hr1
  exact hK' _ _ (hMore e _ ⟨he,w1,hal,rfl⟩ (run_entry_at _ r b ck seen en ck e hset.1 ((hset.2 b hne).trans hb1) hem hnd))
end
theorem iter_steps {J:List Nat→World→Prop} {B r b ck e:Nat} {seen:Array Nat} {pre:List Nat} {w w1:World} (hs: ∀pre W1 W2,J pre W1→IterStep B W1 W2→J pre W2) (hj:J pre w) (hB:B≤r) (hr:w.heap[r]? =some (.mapIter (some b) ck seen ck)) (hal:w1=w∨w1=w.drew):
 J pre (ChangeMaps.setBlock w1 r (.mapIter (some b) ck (seen.push e) ck)):=by
 have h1:J pre w1∧w1.heap[r]? =some (.mapIter (some b) ck seen ck):=by
  rcases hal with rfl | rfl
  ·exact⟨hj,hr⟩
  ·exact⟨hs _ _ _ hj (.inl ⟨⟨rfl,rfl,rfl,Nat.le_refl _,fun _ _=>rfl⟩,Nat.le_trans hB (Nat.le_of_lt (Array.getElem?_eq_some_iff.1 hr).1)⟩),hr⟩
 exact hs _ _ _ h1.1 (.inr ⟨r,_,_,_,_,some b,ck,seen.push e,ck,hB,h1.2,rfl⟩)
def leftK (n r:Nat) (w:World):Nat:=match w.heap[r]? with | some (.mapIter _ _ seen _)=>n - seen.size | _=>0
theorem seen_idx {bs:List Nat} {pre:List Nat} {i:Nat} (hnd:bs.Nodup) (hpl: ∀j∈pre,j<bs.length) (hi:i<bs.length) (hs:(seenOf bs pre).contains bs[i]=true):i∈pre:=by
 simp only[seenOf,List.contains_toArray,List.contains_eq_mem,decide_eq_true_eq,List.mem_map]at hs
 obtain⟨j,hj,e⟩:=hs
 have hjl:=hpl j hj
 rw[List.getD_eq_getElem?_getD,List.getElem?_eq_getElem hjl]at e
 have:j=i:=(List.getElem_inj hnd).1 (show bs[j]=bs[i] from e)
 exact this ▸ hj
set_option maxRecDepth 100000 in
set_option maxHeartbeats 2000000 in
theorem keys_ok {P:Program} {ρ:Ren} (L:KeysLay P ρ):KeysOk P true (ρ.f 10):=by
 refine⟨L.f10.enters rfl,fun l Bm b ck bs J W hnd hck hm hcell hstep hY h0=> ?_⟩
 have mixed:=L.mixed;have t0:=L.t0;have a0:=L.a0;have z0:=L.z0;have v0:=L.v0;have t4:=L.t4;have a4:=L.a4;have z4:=L.z4;have v4:=L.v4;have t23:=L.t23;have a23:=L.a23;have z23:=L.z23;have v23:=L.v23;have t33:=L.t33;have a33:=L.a33;have z33:=L.z33;have v33:=L.v33
 obtain⟨z26,v26⟩:=L.v26
 have u0:=run_underlying L.t0;have u4:=run_underlying L.t4;have u23:=run_underlying L.t23;have u33:=run_underlying L.t33
 obtain⟨_,_,FG⟩:=L.f10
 obtain⟨en0,hen0,hbs0,-⟩:=hcell [] W h0
 have hY': ∀pre i en e W1,J pre W1→i∉pre→W1.heap[b]? =some (.map en ck)→en[i]? =some e→YieldAt Fence.wide 7 P l #[e.key] W1 fun e W'=>e= .returned (.bool true)∧J (pre++[i]) W'∧KeepsIters W1 W':=hY
 show CallsIn Fence.wide 8 P (ρ.f 10) _ W _
 clear hY
 refine callsIn_of_wp FG rfl trivial ?_ rfl
 simp only[SlBodyZ.n10_ntmps ρ,List.size_toArray,List.length_cons,List.length_nil,Nat.reduceAdd,Nat.reduceSub,Array.replicate_succ,Array.replicate_zero,List.push_toArray,List.append_toArray,List.nil_append,List.cons_append]
 gi_wp2_with (first
  |(gi_at_range;refine wpListIn_rangeK _ rfl _ (ρ.t 23) rfl (ρ.t 26) (ρ.t 3) L.t23 b ck en0 hen0 rfl ?_)
  |gi_in)
 try go_frame
 gi_loopw [3] (fun _ wr=> ∃pre:List Nat,J pre wr∧pre.Nodup∧(∀i:Nat,i∈pre→i<bs.length)∧wr.heap[W.heap.size]? =some (.mapIter (some b) ck (seenOf bs pre) ck))
  (fun _ wr=>leftK bs.length W.heap.size wr)
 case atStart=>
  exact⟨[],hstep _ _ _ h0 (.inl ⟨(Below.refl _ _).alloc (Nat.le_refl _) _,Nat.le_refl _⟩),.nil,(fun i hi=>by cases hi),World.alloc_heap_new W _⟩
 case round=>
  obtain⟨pre,hJs,hpn,hpl,hrit⟩:=hrel
  obtain⟨en,hen,hbs,-⟩:=hcell pre wr hJs
  have hold: ∀x∈en.toList,x.born<ck:=fun x hx=>hck _ (by rw[← hbs];exact List.mem_map_of_mem hx)
  gi_wp2_with (first
   |(gi_at_next;refine wpListIn_nextK _ rfl _ rfl W.heap.size b ck _ en rfl hrit hen hold (by rw[hbs];exact hnd) ?_ ?_)
   |gi_in)
  ·intro hl0
   gi_wp2
   go_end0
   refine⟨⟨_,rfl⟩,pre, ?_,hJs⟩
   refine (List.perm_ext_iff_of_nodup hpn List.nodup_range).2 fun i=>⟨fun hi=>List.mem_range.2 (hpl i hi),fun hi=> ?_⟩
   have hi:=List.mem_range.1 hi
   have hlen:en.size=bs.length:=by rw[← hbs];simp
   have hs:=all_seen en _ hl0 en[i] (by simp)
   exact seen_idx hnd hpl (hlen ▸ hi) (by have e:en[i].born=bs[i]:=(by simp[← hbs]);rw[← e];exact hs)
  ·rintro e w2 ⟨he,w1,hal,hw2⟩ hentry
   obtain⟨hem,hes⟩:=mem_left he
   obtain⟨i,hil,hie⟩:=List.getElem_of_mem hem
   have hlen:en.toList.length=bs.length:=by rw[← hbs];simp
   have hib:bs[i]'(by omega)=e.born:=by subst hie;simp[← hbs]
   have hni:i∉pre:=fun hi=>by
    have:(seenOf bs pre).contains e.born=true:=by
     simp only[seenOf,List.contains_toArray,List.contains_eq_mem,decide_eq_true_eq,List.mem_map]
     exact⟨i,hi,by rw[List.getD_eq_getElem?_getD,List.getElem?_eq_getElem (by omega),hib];rfl⟩
    rw[this]at hes;cases hes
   have hJ2:=iter_steps (e:=e.born) hstep hJs (Nat.le_refl _) hrit hal
   have hr1:w1.heap[W.heap.size]? =some (.mapIter (some b) ck (seenOf bs pre) ck):=by rcases hal with rfl | rfl <;> exact hrit
   have hb1:w1.heap[b]? =some (.map en ck):=by rcases hal with rfl | rfl <;> exact hen
   have hne:b≠W.heap.size:=fun e=>by rw[e,hrit]at hen;cases hen
   have hset:w2.heap[W.heap.size]? =some (.mapIter (some b) ck ((seenOf bs pre).push e.born) ck)∧ ∀r',r'≠W.heap.size→w2.heap[r']? =w1.heap[r']? :=by rw[hw2];exact MapKept.heap_set (o':= .mapIter (some b) ck ((seenOf bs pre).push e.born) ck) hr1
   rw[← hw2]at hJ2
   have hb2:w2.heap[b]? =some (.map en ck):=(hset.2 b hne).trans hb1
   have hei:en[i]? =some e:=by rw[← hie];simp
   obtain⟨fn,tmps,assign,body,hy,hR⟩:=hY' pre i en e w2 hJ2 hni hb2 hei
   clear hw2
   gi_wp2
   refine hR.mono ?_
   rintro e' W3 ⟨rfl,hJ3,hk3⟩
   gi_wp2
   have hr3:=hk3 _ _ _ _ _ hset.1
   go_roundw
   case rel=>
    refine⟨pre++[i],hJ3, ?_,fun j hj=> ?_, ?_⟩
    ·rw[List.nodup_append]
     exact⟨hpn,by simp,fun a ha b hb=>by simp only[List.mem_singleton]at hb;subst hb;exact fun e=>hni (e ▸ ha)⟩
    ·rcases List.mem_append.1 hj with hj | hj
     ·exact hpl _ hj
     ·simp only[List.mem_singleton]at hj;subst hj;omega
    ·rw[hr3]
     have:bs.getD i 0=e.born:=by rw[List.getD_eq_getElem?_getD,List.getElem?_eq_getElem (by omega),hib];rfl
     simp only[seenOf,List.map_append,List.map_cons,List.map_nil,this,List.push_toArray]
   case measure=>
    have hpl2:=left_pos hpn hpl hni (show i<bs.length by omega)
    simp only[leftK,hr3,hrit,seenOf]
    simp
    omega
theorem keys_gives {P:Program} {g:FuncId} (hk:KeysOk P true g) {Bm b ck:Nat} {en:Array MapEntry} {zs:List (List UInt8)} {w:World} (hm:w.cell? ⟨Bm,0,none⟩=some (.map (some b))) (hb:w.heap[b]? =some (.map en ck)) (hnd:(en.toList.map (·.born)).Nodup) (hck: ∀e∈en.toList,e.born<ck)
 (hkey:en.toList.map (·.key)=zs.map encT):SeqGives Fence.wide 8 P g #[.pointer (some ⟨Bm,0,none⟩)] encStr (fun ss=>ss.Perm zs) zs.length w:=by
 intro l J W hW hJ hY h0
 have hlen:en.toList.length=zs.length:=by have:=congrArg List.length hkey;simpa using this
 have hmW:W.cell? ⟨Bm,0,none⟩=some (.map (some b)):=(World.cell?_of_block (a:=⟨Bm,0,none⟩) (hW.block Bm (World.block_lt_of_cell? w ⟨Bm,0,none⟩ hm))).trans hm
 have hbW:W.heap[b]? =some (.map en ck):=(hW.block b (Array.getElem?_eq_some_iff.1 hb).1).trans hb
 have key: ∀i e,en[i]? =some e→i<zs.length∧e.key=encStr (zs.getD i []):=fun i e he=>by
  have he':en.toList[i]? =some e:=by simpa using he
  have hi:i<zs.length:=by rw[← hlen];exact lt_of_getElem? he'
  have:(en.toList.map (·.key))[i]? =some e.key:=by rw[List.getElem?_map,he'];rfl
  rw[hkey,List.getElem?_map,List.getElem?_eq_getElem hi]at this
  refine⟨hi, ?_⟩
  rw[List.getD_eq_getElem?_getD,List.getElem?_eq_getElem hi]
  exact (Option.some.inj this).symm
 have:=hk.2 l Bm b ck (en.toList.map (·.born)) (fun pre W1=>J (pre.map fun i=>zs.getD i []) W1∧W1.heap[b]? =some (.map en ck)∧pre.Nodup∧ ∀i:Nat,i∈pre→i<zs.length) W hnd (fun x hx=>by
  obtain⟨e,he,rfl⟩:=List.mem_map.1 hx
  exact hck e he) hmW (fun pre W1 hj=>⟨en,hj.2.1,rfl,fun e he=>by
  have:e.key∈zs.map encT:=by rw[← hkey];exact List.mem_map_of_mem he
  obtain⟨z,_,hz⟩:=List.mem_map.1 this
  exact⟨_,hz.symm⟩⟩) (fun pre W1 W2 hj hs=> ?_) (fun pre i en' e W1 hj hni hen hei=> ?_) ⟨h0,hbW,.nil,fun i hi=>by cases hi⟩
 ·refine (show CallsIn Fence.wide 8 P g _ W _ from this).mono ?_
  rintro e W' ⟨hv,pre,hp,hj,-⟩
  refine⟨hv,_, ?_,hj⟩
  have h1:=hp.map fun i=>zs.getD i []
  refine h1.trans (List.Perm.of_eq ?_)
  apply List.ext_getElem?
  intro j
  rw[List.getElem?_map,List.length_map,hlen]
  by_cases hj:j<zs.length
  ·rw[List.getElem?_range hj,Option.map_some,List.getD_eq_getElem?_getD,List.getElem?_eq_getElem hj];rfl
  ·rw[List.getElem?_eq_none (by simp;omega),List.getElem?_eq_none (by omega)];rfl
 ·obtain⟨j1,j2,j3,j4⟩:=hj
  refine⟨?_,hs.other j2 (fun _ _ _ _ e=>by cases e),j3,j4⟩
  rcases hs with ⟨hb,hB⟩ | ⟨r,m,s,se,la,m',s',se',la',hB,hr,rfl⟩
  ·exact hJ _ _ _ none j1 ⟨hb.os,hb.tape,hb.output,hb.size,fun k hk _=>hb.block k hk⟩ fun r e=>by cases e
  ·exact hJ _ _ _ (some r) j1 ⟨rfl,rfl,rfl,by simp,fun k _ hk=>World.putObj_heap_other fun e=>hk (by rw[e])⟩ fun r' e=>by cases e;exact⟨hB,_,hr,rfl⟩
 ·obtain⟨j1,j2,j3,j4⟩:=hj
  rw[j2]at hen
  cases hen
  obtain⟨hi,he⟩:=key i e hei
  have hpl:=left_pos j3 j4 hni hi
  rw[he]
  refine (show YieldAt Fence.wide 7 P l _ W1 _ from ?_)
  obtain⟨fn,tmps,assign,body,hy,hR⟩:=hY _ (zs.getD i []) W1 j1 (by simpa using hpl)
  refine⟨fn,tmps,assign,body,hy,hR.mono ?_⟩
  rintro e' W' ⟨rfl,hJ',hkw⟩
  refine⟨rfl,⟨by simpa using hJ',hkw.same _ _ j2 rfl, ?_,fun j hj=> ?_⟩,fun r m s se la hr=>hkw.same _ _ hr rfl⟩
  ·rw[List.nodup_append]
   exact⟨j3,by simp,fun a ha b hb=>by simp only[List.mem_singleton]at hb;subst hb;exact fun e=>hni (e ▸ ha)⟩
  ·rcases List.mem_append.1 hj with hj | hj
   ·exact j4 _ hj
   ·simp only[List.mem_singleton]at hj;subst hj;exact hi
theorem sorted_is {P : Program} {ρ : Ren} {g : FuncId} (hk : KeysOk P true g) (L : SlLaysZ.n6 P ρ) (hs : Sorter P (ρ.f 9) encT leS) (e9 : ∀ args w, (callFunc (ρ.f 9) args).run P w = .ok (.enter (ρ.f 9) args) w) (hname : ∃ fn, P.funcs[ρ.f 6]? = some fn ∧ (fn.name == "runtime.NumGoroutine") = false ∧ fn.body.isNone = false) : SortedIs P (ρ.f 6) g := by
 refine⟨hname,fun Bm b ck en zs w hm hb hnd hck hkey hl=> ?_⟩
 have h:=AnyZ.sorted_in L Fence.wide 11 trivial trivial trivial trivial rfl (by omega) ⟨fun blk off cap ss W h1 h2 h3=>(callsIn_wide (n:=10)).2 (hs.some blk off cap ss W h1 h2 h3),fun p cap W=>(callsIn_wide (n:=10)).2 (hs.none p cap W)⟩ e9 g #[.pointer (some ⟨Bm,0,none⟩)] trivial hk.1
  (fun ss=>ss.Perm zs) zs.length (by have:maxLen=9223372036854775807:=rfl;omega) (by omega) w (keys_gives hk hm hb hnd hck hkey)
 refine ((callsIn_wide (n:=11)).1 h).mono ?_
 rintro e w' ⟨v,ss,rfl,hp,hrow,-,hbel⟩
 refine⟨v,ρ.t 26,rfl,hbel, ?_⟩
 have e1:ss.mergeSort (fun x y=>decide (x≤y))=zs.mergeSort leS:=Go.mergeSort_of_perm hp
 rw[e1,hp.length_eq]at hrow
 exact hrow
end Go.Am
namespace Go.Am
open Go.Proofs Go.RowKit Go.Shelf
attribute [local go_sem] Oper.semAt_some
set_option maxRecDepth 100000 in
set_option maxHeartbeats 4000000 in
theorem keysC_stops {l Bm b ck:Nat} {bs:List Nat} {J:List Nat→World→Prop} {W:World} (hnd:bs.Nodup) (hck: ∀x∈bs,x<ck) (hm:W.cell? ⟨Bm,0,none⟩=some (.map (some b)))
 (hcell: ∀pre W,J pre W→ ∃en,W.heap[b]? =some (.map en ck)∧en.toList.map (·.born)=bs∧ ∀e∈en.toList,KeyVal false e.key)
 (hstep: ∀pre W1 W2,J pre W1→IterStep W.heap.size W1 W2→J pre W2)
 (hY': ∀pre i en e W1,J pre W1→i∉pre→W1.heap[b]? =some (.map en ck)→en[i]? =some e→YieldAt Fence.wide 7 Tryz.prog l #[e.key] W1 fun e W'=>e= .returned (.bool true)∧J (pre++[i]) W'∧KeepsIters W1 W') (h0:J [] W):
 CallsIn Fence.wide 8 Tryz.prog 242 #[.func (.yield l) #[] #[],.pointer (some ⟨Bm,0,none⟩)] W fun e W'=>(∃v,e= .returned v)∧ ∃pre,pre.Perm (List.range bs.length)∧J pre W':=by
 obtain⟨en0,hen0,hbs0,-⟩:=hcell [] W h0
 refine callsIn_of_wp Tryz.func242 rfl trivial ?_ rfl
 simp only[Tryz.ntmps242,List.size_toArray,List.length_cons,List.length_nil,Nat.reduceAdd,Nat.reduceSub,Array.replicate_succ,Array.replicate_zero,List.push_toArray,List.append_toArray,List.nil_append,List.cons_append]
 gi_wp2_with (first
  |(gi_at_range;refine wpListIn_rangeK _ rfl _ 86 rfl 29 159 Tryz.underlying86 b ck en0 hen0 rfl ?_)
  |gi_in)
 try go_frame
 gi_loopw [3] (fun _ wr=> ∃pre:List Nat,J pre wr∧pre.Nodup∧(∀i:Nat,i∈pre→i<bs.length)∧wr.heap[W.heap.size]? =some (.mapIter (some b) ck (seenOf bs pre) ck))
  (fun _ wr=>leftK bs.length W.heap.size wr)
 case atStart=>
  exact⟨[],hstep _ _ _ h0 (.inl ⟨(Below.refl _ _).alloc (Nat.le_refl _) _,Nat.le_refl _⟩),.nil,(fun i hi=>by cases hi),World.alloc_heap_new W _⟩
 case round=>
  obtain⟨pre,hJs,hpn,hpl,hrit⟩:=hrel
  obtain⟨en,hen,hbs,hkv⟩:=hcell pre wr hJs
  have hold: ∀x∈en.toList,x.born<ck:=fun x hx=>hck _ (by rw[← hbs];exact List.mem_map_of_mem hx)
  gi_wp2_with (first
   |(gi_at_next;refine wpListIn_nextK _ rfl _ rfl W.heap.size b ck _ en rfl hrit hen hold (by rw[hbs];exact hnd) ?_ ?_)
   |gi_in)
  ·intro hl0
   gi_wp2
   go_end0
   refine⟨⟨_,rfl⟩,pre, ?_,hJs⟩
   refine (List.perm_ext_iff_of_nodup hpn List.nodup_range).2 fun i=>⟨fun hi=>List.mem_range.2 (hpl i hi),fun hi=> ?_⟩
   have hi:=List.mem_range.1 hi
   have hlen:en.size=bs.length:=by rw[← hbs];simp
   have hs:=all_seen en _ hl0 en[i] (by simp)
   exact seen_idx hnd hpl (hlen ▸ hi) (by have e:en[i].born=bs[i]:=(by simp[← hbs]);rw[← e];exact hs)
  ·rintro e w2 ⟨he,w1,hal,hw2⟩ hentry
   obtain⟨hem,hes⟩:=mem_left he
   obtain⟨i,hil,hie⟩:=List.getElem_of_mem hem
   have hlen:en.toList.length=bs.length:=by rw[← hbs];simp
   have hib:bs[i]'(by omega)=e.born:=by subst hie;simp[← hbs]
   have hni:i∉pre:=fun hi=>by
    have:(seenOf bs pre).contains e.born=true:=by
     simp only[seenOf,List.contains_toArray,List.contains_eq_mem,decide_eq_true_eq,List.mem_map]
     exact⟨i,hi,by rw[List.getD_eq_getElem?_getD,List.getElem?_eq_getElem (by omega),hib];rfl⟩
    rw[this]at hes;cases hes
   have hJ2:=iter_steps (e:=e.born) hstep hJs (Nat.le_refl _) hrit hal
   have hr1:w1.heap[W.heap.size]? =some (.mapIter (some b) ck (seenOf bs pre) ck):=by rcases hal with rfl | rfl <;> exact hrit
   have hb1:w1.heap[b]? =some (.map en ck):=by rcases hal with rfl | rfl <;> exact hen
   have hne:b≠W.heap.size:=fun e=>by rw[e,hrit]at hen;cases hen
   have hset:w2.heap[W.heap.size]? =some (.mapIter (some b) ck ((seenOf bs pre).push e.born) ck)∧ ∀r',r'≠W.heap.size→w2.heap[r']? =w1.heap[r']? :=by rw[hw2];exact MapKept.heap_set (o':= .mapIter (some b) ck ((seenOf bs pre).push e.born) ck) hr1
   rw[← hw2]at hJ2
   have hb2:w2.heap[b]? =some (.map en ck):=(hset.2 b hne).trans hb1
   have hei:en[i]? =some e:=by rw[← hie];simp
   have hsz2:W.heap.size<w2.heap.size:=(Array.getElem?_eq_some_iff.1 hset.1).1
   clear hw2
   obtain⟨a0,a1,a2,hka,o0,o1,o2⟩:=hkv e hem
   rw[hka]at hentry ⊢
   have st0: ∀ (w:World) (ad:Addr),(store ad a0).run Tryz.prog w=stored Tryz.prog w ad a0 .plain:=fun w ad=>run_store _ _ _ _ _ o0
   have st1: ∀ (w:World) (ad:Addr),(store ad a1).run Tryz.prog w=stored Tryz.prog w ad a1 .plain:=fun w ad=>run_store _ _ _ _ _ o1
   have st2: ∀ (w:World) (ad:Addr),(store ad a2).run Tryz.prog w=stored Tryz.prog w ad a2 .plain:=fun w ad=>run_store _ _ _ _ _ o2
   have hJ3:=hstep _ _ _ hJ2 (.inl ⟨(Below.refl w2.heap.size w2).alloc (Nat.le_refl _) (.cells #[a0,a1,a2] 29),Nat.le_of_lt hsz2⟩)
   have hr3':(w2.alloc (.cells #[a0,a1,a2] 29)).heap[W.heap.size]? =some (.mapIter (some b) ck ((seenOf bs pre).push e.born) ck):=(Below.heap_alloc w2 _ _ hsz2).trans hset.1
   have hb3:(w2.alloc (.cells #[a0,a1,a2] 29)).heap[b]? =some (.map en ck):=(Below.heap_alloc w2 _ _ (Array.getElem?_eq_some_iff.1 hb2).1).trans hb2
   obtain⟨fn,tmps,assign,body,hy,hR⟩:=hY' pre i en e _ hJ3 hni hb3 hei
   rw[hka]at hy
   gi_wp2
   refine hR.mono ?_
   rintro e' W3 ⟨rfl,hJ4,hk3⟩
   gi_wp2
   have hr3:=hk3 _ _ _ _ _ hr3'
   go_roundw
   case rel=>
    refine⟨pre++[i],hJ4, ?_,fun j hj=> ?_, ?_⟩
    ·rw[List.nodup_append]
     exact⟨hpn,by simp,fun a ha b hb=>by simp only[List.mem_singleton]at hb;subst hb;exact fun e=>hni (e ▸ ha)⟩
    ·rcases List.mem_append.1 hj with hj | hj
     ·exact hpl _ hj
     ·simp only[List.mem_singleton]at hj;subst hj;omega
    ·rw[hr3]
     have:bs.getD i 0=e.born:=by rw[List.getD_eq_getElem?_getD,List.getElem?_eq_getElem (by omega),hib];rfl
     simp only[seenOf,List.map_append,List.map_cons,List.map_nil,this,List.push_toArray]
   case measure=>
    have hpl2:=left_pos hpn hpl hni (show i<bs.length by omega)
    simp only[leftK,hr3,hrit,seenOf]
    simp
    omega
end Go.Am
