/- The abstract machine: what a row says, and the fixpoint of all functions. -/
import Derived.ProofKit
import Derived.OpenShut
import Derived.Carry
import Derived.Test.YtldceipbpilipaaGreatDoorMachA
import Derived.Test.YtldceipbpilipaaGreatDoorMachE
set_option linter.all false
namespace Go.Am
def tiles (P:Program):Nat→List Field→Option Nat
 |n,[]=>some n
 |n,f::fs=>if f.offset=n then tiles P (n+P.cellsOf f.type) fs else none
def goodTy (P:Program) (q:TypeId→Bool) (t:TypeId):Bool:=
 match P.underlying t with
 |some (.int _) | some .bool | some .string=>true
 |some (.slice e)=>decide (0<P.cellsOf e) && q e
 |some (.struct fs)=>(tiles P 0 fs.toList == some (P.cellsOf t)) && fs.toList.all fun f=>q f.type
 |_=>false
def plainTy (P:Program):Nat→TypeId→Bool
 |0,_=>false
 |n+1,t=>goodTy P (plainTy P n) t
def Steps (P:Program) (Q:Nat→TypeId→Bool):Prop:= ∀m t,Q (m+1) t=true→goodTy P (Q m) t=true
theorem steps_plain (P:Program):Steps P (plainTy P):=fun _ _ h=>h
inductive All2 {α β:Type} (R:α→β→Prop):List α→List β→Prop
 |nil:All2 R [] []
 |cons {a:α} {b:β} {as:List α} {bs:List β}:R a b→All2 R as bs→All2 R (a::as) (b::bs)
def HasTy (P:Program):Nat→TypeId→D→Prop
 |0,_,_=>False
 |n+1,t,x=>
  match P.underlying t with
  |some (.int k)=> ∃i,x= .int k i∧(Lit.int k i).wf=true
  |some .bool=> ∃b,x= .bool b
  |some .string=> ∃s,x= .str s∧s.size≤maxLen
  |some (.slice e)=> ∃xs,x= .list xs∧xs.length≤maxLen∧ ∀y∈xs,HasTy P n e y
  |some (.struct fs)=> ∃ys:List D,x= .agg (ys.flatMap D.cells)∧All2 (fun f y=>HasTy P n f.type y) fs.toList ys
  |_=>False
def NoMut:Nat→Nat→Prop:=fun _ _=>False
def CellsR (w:World) (cs:List Value) (ds:List D):Prop:=
 cs.length=ds.length∧ ∀ (j:Nat) (c:D),ds[j]? =some c→ ∃v,cs[j]? =some v∧Rep NoMut w v c∧c.isCell=true
section
variable {H:Type} {enc:TypeId × Value→H} {P:Program} {w:World} {Q:Nat→TypeId→Bool}
theorem CellsR.one {v:Value} {c:D} (hr:Rep NoMut w v c) (hc:c.isCell=true):CellsR w [v] c.cells:=by
 rw[D.cells_one hc]
 refine⟨rfl,fun j c' hj=> ?_⟩
 cases j with
 |zero=>simp only[List.getElem?_cons_zero,Option.some.injEq]at hj;subst hj;exact⟨v,rfl,hr,hc⟩
 |succ j=>simp at hj
theorem CellsR.append {cs:List Value} {k:Nat} {a b:List D} (ha:CellsR w (cs.take k) a) (hb:CellsR w (cs.drop k) b):CellsR w cs (a++b):=by
 obtain⟨a1,a2⟩:=ha
 obtain⟨b1,b2⟩:=hb
 rw[List.length_take]at a1
 rw[List.length_drop]at b1
 refine⟨by rw[List.length_append];omega,fun j c hj=> ?_⟩
 rcases Nat.lt_or_ge j a.length with hl | hl
 ·rw[List.getElem?_append_left hl]at hj
  obtain⟨v,h1,h2⟩:=a2 j c hj
  rw[List.getElem?_take]at h1
  split at h1
  ·exact⟨v,h1,h2⟩
  ·cases h1
 ·rw[List.getElem?_append_right hl]at hj
  obtain⟨v,h1,h2⟩:=b2 _ c hj
  rw[List.getElem?_drop]at h1
  have hlt:=lt_of_getElem? hj
  have e:k+(j - a.length)=j:=by omega
  rw[e]at h1
  exact⟨v,h1,h2⟩
theorem fields_read {m fuel:Nat} {cs:List Value} (ih: ∀t cs d ps,Q m t=true→DataW.trod enc P w 0 (fun _=>true) true fuel t cs=some (d,ps)→ ∃x,HasTy P m t x∧CellsR w cs x.cells):
 ∀ (fs:List Field) (n:Nat) (xs:List (DataW H × List MemPlace)),tiles P n fs=some cs.length→n≤cs.length→(∀f∈fs,Q m f.type=true)→
  (fs.mapM fun f=>DataW.trod enc P w 0 (fun _=>true) true fuel f.type ((cs.drop f.offset).take (P.cellsOf f.type)))=some xs→
  ∃ys:List D,All2 (fun f y=>HasTy P m f.type y) fs ys∧CellsR w (cs.drop n) (ys.flatMap D.cells)
 |[],n,xs,ht,hn,hp,hx=>by
  simp only[tiles,Option.some.injEq]at ht
  subst ht
  exact⟨[],.nil,by simp,fun j c hj=>by simp at hj⟩
 |f::fs,n,xs,ht,hn,hp,hx=>by
  simp only[tiles]at ht
  split at ht
  ·rename_i ho
   simp only[List.mapM_cons,Option.bind_eq_bind,Option.bind_eq_some_iff,Option.pure_def,Option.some.injEq]at hx
   obtain⟨⟨d,ps⟩,hd,xs',hxs,rfl⟩:=hx
   obtain⟨y,hy,hc⟩:=ih _ _ _ _ (hp f (List.mem_cons_self ..)) hd
   have hle:n+P.cellsOf f.type≤cs.length:=by
    have: ∀ (fs:List Field) (n m:Nat),tiles P n fs=some m→n≤m:=by
     intro fs
     induction fs with
     |nil=>intro n m h;simp only[tiles,Option.some.injEq]at h;omega
     |cons g gs ih=>intro n m h;simp only[tiles]at h;split at h
                    ·have:=ih _ _ h;omega
                    ·cases h
    exact this _ _ _ ht
   obtain⟨ys,h1,h2⟩:=fields_read ih fs (n+P.cellsOf f.type) xs' ht hle (fun g hg=>hp g (List.mem_cons_of_mem _ hg)) hxs
   refine⟨y::ys,.cons hy h1, ?_⟩
   rw[List.flatMap_cons]
   refine CellsR.append (k:=P.cellsOf f.type) (by rw[← ho];exact hc) ?_
   rw[List.drop_drop]
   exact h2
  ·cases ht
theorem elems_read {m fuel:Nat} {e:TypeId} {b off:Nat} (hm:Q m e=true) (ih: ∀t cs d ps,Q m t=true→DataW.trod enc P w 0 (fun _=>true) true fuel t cs=some (d,ps)→ ∃x,HasTy P m t x∧CellsR w cs x.cells):
 ∀n:Nat,(∀i,i<n→ ∃x,(w.cells? 0 ((⟨b,off,none⟩:Addr).add (i*P.cellsOf e)) (P.cellsOf e)).bind (DataW.trod enc P w 0 (fun _=>true) true fuel e)=some x)→
  ∃xs:List D,xs.length=n∧(∀x∈xs,x.cells.length=P.cellsOf e)∧(∀x∈xs,HasTy P m e x)∧(flat xs).length=n*P.cellsOf e∧
   ∀ (j:Nat) (c:D),(flat xs)[j]? =some c→ ∃v,w.cell? ⟨b,off+j,none⟩=some v∧Rep NoMut w v c∧c.isCell=true
 |0,_=>⟨[],rfl,by simp,by simp,by simp[flat],fun j c hj=>by simp[flat]at hj⟩
 |n+1,hx=>by
  obtain⟨xs,h1,h2,h3,h4,h5⟩:=elems_read hm ih n fun i hi=>hx i (by omega)
  obtain⟨⟨d,ps⟩,hd⟩:=hx n (by omega)
  simp only[Option.bind_eq_some_iff]at hd
  obtain⟨cs,hcs,hd⟩:=hd
  obtain⟨x,hx1,hx2,hx3⟩:=ih _ _ _ _ hm hd
  simp only[World.cells?,Nat.zero_le,if_true]at hcs
  obtain⟨l1,l2⟩:=mapM_get hcs
  rw[List.length_range]at l1
  have hlen:x.cells.length=P.cellsOf e:=by rw[← hx2,l1]
  have hfl:flat (xs++[x])=flat xs++x.cells:=by simp[flat]
  refine⟨xs++[x],by simp[h1],fun y hy=> ?_,fun y hy=> ?_, ?_,fun j c hj=> ?_⟩
  ·rcases List.mem_append.1 hy with h | h
   ·exact h2 y h
   ·rw[List.mem_singleton.1 h];exact hlen
  ·rcases List.mem_append.1 hy with h | h
   ·exact h3 y h
   ·rw[List.mem_singleton.1 h];exact hx1
  ·rw[hfl,List.length_append,h4,hlen,Nat.add_mul,Nat.one_mul]
  ·rw[hfl]at hj
   rcases Nat.lt_or_ge j (flat xs).length with hl | hl
   ·rw[List.getElem?_append_left hl]at hj
    exact h5 j c hj
   ·rw[List.getElem?_append_right hl]at hj
    obtain⟨v,g1,g2,g3⟩:=hx3 _ c hj
    obtain⟨i,g4,g5⟩:=l2 _ v g1
    have hi:i=j - (flat xs).length:=by
     have hlt:=lt_of_getElem? g4
     rw[List.length_range]at hlt
     rw[List.getElem?_range hlt,Option.some.injEq]at g4
     exact g4.symm
    refine⟨v, ?_,g2,g3⟩
    rw[← g5]
    congr 1
    rw[hi,h4]
    unfold Addr.add
    split <;> split <;> simp <;> omega
theorem reads (hQ:Steps P Q): ∀ (fuel m:Nat) (t:TypeId) (cs:List Value) (d:DataW H) (ps:List MemPlace),(fuel≤m∨ ∀t,Q 0 t=false)→Q m t=true→DataW.trod enc P w 0 (fun _=>true) true fuel t cs=some (d,ps)→
 ∃x,HasTy P m t x∧CellsR w cs x.cells:=by
 intro fuel
 induction fuel with
 |zero=>intro m t cs d ps _ _ h;simp[DataW.trod]at h
 |succ fuel ih=>
  intro m t cs d ps h0 hm h
  cases m with
  |zero=>
   rcases h0 with h0 | h0
   ·omega
   ·rw[h0]at hm;cases hm
  |succ m=>
   have ih': ∀t cs d ps,Q m t=true→DataW.trod enc P w 0 (fun _=>true) true fuel t cs=some (d,ps)→ ∃x,HasTy P m t x∧CellsR w cs x.cells:=fun t cs d ps=>ih m t cs d ps (h0.imp Nat.le_of_succ_le_succ id)
   replace hm:=hQ m t hm
   unfold goodTy at hm
   simp only[HasTy]
   unfold DataW.trod at h
   split at h
   case h_1 b e=>rw[e];exact⟨.bool b,⟨b,rfl⟩,CellsR.one (.bool b) rfl⟩
   case h_2 k k' n e=>
    rw[e]
    split at h
    ·rename_i hk
     obtain⟨rfl,hw⟩:=hk
     exact⟨.int _ n,⟨n,rfl,hw⟩,CellsR.one (.int _ n) rfl⟩
    ·cases h
   case h_4 s e=>
    rw[e]
    split at h
    ·rename_i hs
     exact⟨.str s,⟨s,rfl,hs⟩,CellsR.one (.str s) rfl⟩
    ·cases h
   case h_7 e0 e=>rw[e];exact⟨.list [],⟨[],rfl,Nat.zero_le _,fun _ h=>by cases h⟩,CellsR.one (.nil none 0 fun _=>rfl) rfl⟩
   case h_8 e a len cap he=>
    rw[he]at hm ⊢
    simp only[Bool.and_eq_true,decide_eq_true_eq]at hm
    simp only at h
    split at h
    ·rename_i hc
     simp only[Option.bind_eq_some_iff]at h
     obtain⟨els,hels,-⟩:=h
     obtain⟨r1,r2⟩:=mapM_get hels
     obtain⟨_,r3⟩:=mapM_get' hels
     rw[List.length_range]at r1
     rcases Nat.eq_zero_or_pos len with h0 | h0
     ·subst h0
      exact⟨.list [],⟨[],rfl,Nat.zero_le _,fun _ h=>by cases h⟩,CellsR.one (.nil _ _ fun e=>by cases e) rfl⟩
     ·have hspot:a.spot=none:=by
       obtain⟨x0,_,hx0⟩:=r3 0 0 (by rw[List.getElem?_range h0])
       simp only[Option.bind_eq_some_iff]at hx0
       obtain⟨cs0,hcs0,-⟩:=hx0
       simp only[World.cells?,Nat.zero_le,if_true]at hcs0
       obtain⟨_,q⟩:=mapM_get' hcs0
       obtain⟨v0,_,hv0⟩:=q 0 0 (by rw[List.getElem?_range hm.1])
       simpa[Addr.add]using World.cell?_spot hv0
      obtain⟨b,off,sp⟩:=a
      simp only at hspot
      subst hspot
      obtain⟨xs,h1,h2,h3,h4,h5⟩:=elems_read hm.2 ih' (b:=b) (off:=off) len fun i hi=>by
       obtain⟨x,_,hx⟩:=r3 i i (by rw[List.getElem?_range hi])
       exact⟨x,hx⟩
      refine⟨.list xs,⟨xs,rfl,by omega,h3⟩,CellsR.one ?_ rfl⟩
      refine .list b off len cap (P.cellsOf e) xs (fun j=>(w.cell? ⟨b,off+j,none⟩).getD undef) h1.symm hc.2.1 h2 (fun j c hj=> ?_) fun j c hj=> ?_
      ·obtain⟨v,g1,g2,g3⟩:=h5 j c hj
       exact⟨by rw[g1];rfl,fun h=>h,g3⟩
      ·obtain⟨v,g1,g2,g3⟩:=h5 j c hj
       rw[g1];exact g2
    ·cases h
   case h_9 cs' fs he=>
    rw[he]at hm ⊢
    simp only[Bool.and_eq_true,beq_iff_eq,List.all_eq_true]at hm
    split at h
    ·rename_i hlen
     simp only[Option.map_eq_some_iff]at h
     obtain⟨xs,hxs,-⟩:=h
     obtain⟨ys,h1,h2⟩:=fields_read ih' fs.toList 0 xs (by rw[hlen];exact hm.1) (Nat.zero_le _) hm.2 hxs
     exact⟨.agg (ys.flatMap D.cells),⟨ys,rfl,h1⟩,h2⟩
    ·cases h
   all_goals
    rename_i e
    first
     |(rw[e]at hm;cases hm)
     |(exfalso;simp_all)
theorem arg_reads {m:Nat} {t:TypeId} {v:Value} {d:DataW H} {ps:List MemPlace} (hm:plainTy P m t=true) (hd:DataW.Trod enc P w 0 (fun _=>true) true t v d ps):
 ∃x,HasTy P m t x∧CellsR w v.cells.toList x.cells:=by
 obtain⟨fuel,h⟩:=hd
 exact reads (steps_plain P) fuel m t _ d ps (.inr fun _=>rfl) hm h
end
end Go.Am
namespace Go.Am
open Go.RowKit Go.ChangeShapes Go.WideShapes
section
variable {H:Type} {enc:TypeId × Value→H} {P:Program} {w:World}
theorem cells_rep {m b0:Nat} {t:TypeId} {v:Value} {q:TypeId→Bool} (hm:goodTy P q t=true) (hok:Value.okWide P w .any b0 t v) {x:D} (hx:HasTy P (m+1) t x) (hcr:CellsR w v.cells.toList x.cells):Rep NoMut w v x:=by
 obtain⟨hl,hc⟩:=hcr
 have one: ∀ {v:Value} {x:D},v.cells= #[v]→x.isCell=true→CellsR w v.cells.toList x.cells→Rep NoMut w v x:=fun hv hx hc=>by
  rw[hv,D.cells_one hx]at hc
  obtain⟨v',h1,h2,_⟩:=hc.2 0 _ rfl
  simp only[List.getElem?_cons_zero,Option.some.injEq]at h1
  subst h1
  exact h2
 unfold goodTy at hm
 simp only[HasTy]at hx
 split at hm
 ·rename_i k he
  obtain⟨n,rfl⟩:=okWide_int he hok
  rw[he]at hx
  obtain⟨i,rfl,_⟩:=hx
  exact one rfl rfl ⟨hl,hc⟩
 ·rename_i he
  obtain⟨n,rfl⟩:=okWide_bool he hok
  rw[he]at hx
  obtain⟨i,rfl⟩:=hx
  exact one rfl rfl ⟨hl,hc⟩
 ·rename_i he
  obtain⟨n,rfl⟩:=okWide_string he hok
  rw[he]at hx
  obtain⟨i,rfl,_⟩:=hx
  exact one rfl rfl ⟨hl,hc⟩
 ·rename_i e he
  obtain⟨a,l,c,rfl⟩:=okWide_slice he hok
  rw[he]at hx
  obtain⟨i,rfl,_⟩:=hx
  exact one rfl rfl ⟨hl,hc⟩
 ·rename_i fs he
  obtain⟨cs,rfl,_⟩:=okWide_struct he hok
  rw[he]at hx
  obtain⟨ys,rfl,_⟩:=hx
  have hcs: ∀ (j:Nat) (c:D),(ys.flatMap D.cells)[j]? =some c→ ∃v,cs[j]? =some v∧Rep NoMut w v c∧c.isCell=true:=fun j c hj=>by
   simpa[Value.cells,D.cells]using hc j c hj
  refine .agg cs _ (fun j=>cs.getD j undef) (by simpa[Value.cells,D.cells]using hl) (fun j c hj=> ?_) fun j c hj=> ?_
  ·obtain⟨v,h1,h2,h3⟩:=hcs j c hj
   exact⟨by rw[h1,Array.getD_eq_getD_getElem?,h1];rfl,h3⟩
  ·obtain⟨v,h1,h2,h3⟩:=hcs j c hj
   rw[Array.getD_eq_getD_getElem?,h1];exact h2
 ·cases hm
def ArgIs (enc:TypeId × Value→H) (P:Program) (w:World) (b0:Nat) (T:TypeId→D→Prop) (t:TypeId):Prop:= ∀v d ps,Value.okWide P w .any b0 t v→DataW.Trod enc P w 0 (fun _=>true) true t v d ps→ ∃x,T t x∧Rep NoMut w v x
theorem arg_rep {m b0:Nat} {t:TypeId} (hm:plainTy P m t=true):ArgIs enc P w b0 (HasTy P m) t:=fun v d ps hok hd=>by
 obtain⟨x,hx,hc⟩:=arg_reads hm hd
 cases m with
 |zero=>simp[plainTy]at hm
 |succ m=>exact⟨x,hx,cells_rep hm hok hx hc⟩
def paramOk (P:Program) (m:Nat) (t:TypeId):Bool:=plainTy P m t && P.readableRec t && decide (t<P.types.size)
theorem args_rep {b0:Nat} {T:TypeId→D→Prop}: ∀ (ts:List TypeId) (vs:List Value) (ds:List (DataW H)) (ps:List MemPlace),(∀t∈ts,ArgIs enc P w b0 T t)→(∀ (j:Nat) t v,ts[j]? =some t→vs[j]? =some v→Value.okWide P w .any b0 t v)→
 DataW.TrodAll enc P w 0 (fun _=>true) true ts vs ds ps→ ∃xs:List D,All2 T ts xs∧All2 (Rep NoMut w) vs xs
 |[],vs,ds,ps,_,_,h=>by
  obtain⟨rfl,_,_⟩:=trodAll_nil h
  exact⟨[],.nil,.nil⟩
 |t::ts,vs,ds,ps,hp,hok,h=>by
  obtain⟨v,vs',d,ds',p,q,rfl,rfl,rfl,hd,hr⟩:=trodAll_cons h
  obtain⟨x,h1,h2⟩:=hp t (List.mem_cons_self ..) _ _ _ (hok 0 t v rfl rfl) hd
  obtain⟨xs,h3,h4⟩:=args_rep ts vs' ds' q (fun t ht=>hp t (List.mem_cons_of_mem _ ht)) (fun j t v h1 h2=>hok (j+1) t v (by simpa using h1) (by simpa using h2)) hr
  exact⟨x::xs,.cons h1 h3,.cons h2 h4⟩
theorem args_stay (hl:laidOutB P=true) {W':World} (hb:Below w.heap.size w W'): ∀ (ts:List TypeId) (vs:List Value) (ds:List (DataW H)) (ps:List MemPlace),(∀t∈ts,P.readableRec t=true∧t<P.types.size)→
 DataW.TrodAll enc P w 0 (fun _=>true) true ts vs ds ps→(∀x∈ps,x.block<w.heap.size)→DataW.TrodAll enc P W' 0 (fun b=>decide (b<w.heap.size)) true ts vs ds ps
 |[],vs,ds,ps,_,h,_=>by
  obtain⟨rfl,rfl,rfl⟩:=trodAll_nil h
  exact h
 |t::ts,vs,ds,ps,hp,h,hlt=>by
  obtain⟨v,vs',d,ds',p,q,rfl,rfl,rfl,hd,hr⟩:=trodAll_cons h
  obtain⟨k1,k2⟩:=hp t (List.mem_cons_self ..)
  exact trodAll_cons_mk (Below.trod hl k1 k2 hd hb fun x hx=>hlt x (List.mem_append_left _ hx))
   (args_stay hl hb ts vs' ds' q (fun t ht=>hp t (List.mem_cons_of_mem _ ht)) hr fun x hx=>hlt x (List.mem_append_right _ hx))
theorem All2.length {α β:Type} {R:α→β→Prop}: ∀ {as:List α} {bs:List β},All2 R as bs→as.length=bs.length
 |_,_,.nil=>rfl
 |_,_,.cons _ h=>by simp[h.length]
theorem All2.get {α β:Type} {R:α→β→Prop}: ∀ {as:List α} {bs:List β},All2 R as bs→ ∀ (j:Nat) (b:β),bs[j]? =some b→ ∃a,as[j]? =some a∧R a b
 |_,_,.nil,j,b,hj=>by simp at hj
 |_,_,.cons h hs,0,b,hj=>by simp only[List.getElem?_cons_zero,Option.some.injEq]at hj;subst hj;exact⟨_,rfl,h⟩
 |_,_,.cons _ hs,j+1,b,hj=>by simpa using hs.get j b (by simpa using hj)
theorem law_calls {run:Run} {f:FuncId} {G:Nat→Option (List D)} (hrun:RunOk P G run) {xs:List D} {h':List Obj} (hx:run f (xs.map .d) []=some ([.d (.bool true)],h')) {vs:List Value} (hv:All2 (Rep NoMut w) vs xs)
 (hg:GRel NoMut G [] [] w):Calls P f vs.toArray w fun e w'=>e= .returned (.bool true)∧Below w.heap.size w w':=by
 have hmut: ∀b j,Mut NoMut [] [] b j→NoMut b j:=by
  rintro b j (h | ⟨id,c,o,h,_⟩)
  ·exact h
  ·simp at h
 have H:HRel NoMut [] [] w:=⟨rfl,fun id o ho=>by simp at ho,fun b j h=>h.elim,fun _ _ _ _ h=>by simp at h,fun _ _ _ _ _ h=>by simp at h⟩
 have ha:ArgRel NoMut [] [] w vs (xs.map .d):=⟨by simp[hv.length],fun j A hj=>by
  simp only[List.getElem?_map,Option.map_eq_some_iff]at hj
  obtain⟨x,hj,rfl⟩:=hj
  obtain⟨v,h1,h2⟩:=hv.get j x hj
  exact⟨v,h1,h2.mono fun b j v hm hc=>⟨hc,fun h=>hm (hmut b j h)⟩⟩⟩
 refine (hrun f _ _ _ _ hx NoMut [] w vs H hg ha).mono ?_
 rintro e w' ⟨ρ',rv,rfl,st,us,l1,l2,rfl⟩
 obtain⟨u,h1,h2⟩:=l2 0 _ rfl
 have:us=[u]:=by
  match us,l1,h1 with
  |[u'],_,h1=>simpa using h1
 subst this
 refine⟨?_,st.fr.os,st.fr.tape,st.fr.output,st.fr.size,fun k hk=>(st.fr.block k hk fun id c=>by simp).1⟩
 have h3:Rep (Mut NoMut ρ' h') w' u (.bool true):=h2
 cases h3
 rfl
theorem law_contractT {run:Run} {f:FuncId} {fn:Func} {s:ChangeSpec} {tb:TypeId} {T:TypeId→D→Prop} {G:Nat→Option (List D)} {W:World} {base:Nat} {args:Array Value} {ds gs:List (DataW H)} {before:List MemPlace}
 (hl:laidOutB P=true) (hT: ∀t∈fn.params.toList,ArgIs enc P W base T t) (hp:fn.params.toList.all (fun t=>P.readableRec t && decide (t<P.types.size))=true) (hvars:s.vars=[]) (hres:fn.resultTypes= #[tb]) (htb:P.underlying tb=some .bool)
 (hspec: ∀ds:List (DataW H),ds.length=fn.params.size→s.fn H ds= { results:=[.lit (.bool true)],args:=ds,vars:=[] })
 (hrun:RunOk P G run) (hx: ∀xs:List D,All2 T fn.params.toList xs→ ∃h',run f (xs.map .d) []=some ([.d (.bool true)],h')) (hg:GRel NoMut G [] [] W)
 (hval: ∀ (j:Nat) t v,fn.params[j]? =some t→args[j]? =some v→Value.okWide P W .any base t v)
 (hW:DataW.Whole enc P fn.params.toList s.vars false W args.toList ds gs before):
 Calls P f args W fun e W'=> ∃v,e= .returned v∧s.post enc P fn false true false false W args v W':=by
 have hW':=hW
 have hlt: ∀x∈before,x.block<W.heap.size:=fun x hx=>hW'.lt x hx
 obtain⟨p,q,hA,hV,rfl,_,_⟩:=hW
 rw[hvars]at hV
 obtain⟨rfl,rfl⟩:gs=[]∧q=[]:=by
  cases gs with
  |nil=>exact⟨rfl,hV⟩
  |cons g gs=>simp[DataW.TrodVars]at hV
 simp only[List.all_eq_true,Bool.and_eq_true,decide_eq_true_eq]at hp
 obtain⟨xs,h1,h2⟩:=args_rep fn.params.toList args.toList ds p hT (fun j t v h1 h2=>hval j t v (by simpa using h1) (by simpa using h2)) hA
 obtain⟨h',hr⟩:=hx xs h1
 have hlen:ds.length=fn.params.size:=by
  have: ∀ (ts:List TypeId) (vs:List Value) (ds:List (DataW H)) (ps:List MemPlace),DataW.TrodAll enc P W 0 (fun _=>true) true ts vs ds ps→ds.length=ts.length:=by
   intro ts
   induction ts with
   |nil=>intro vs ds ps h;obtain⟨_,rfl,_⟩:=trodAll_nil h;rfl
   |cons t ts ih=>
    intro vs ds ps h
    obtain⟨v,vs',d,ds',p,q,rfl,rfl,rfl,hd,hr⟩:=trodAll_cons h
    simp[ih _ _ _ hr]
  simpa using this _ _ _ _ hA
 have:=law_calls hrun hr h2 hg
 rw[Array.toArray_toList]at this
 refine this.mono ?_
 rintro e W' ⟨rfl,hb⟩
 have hs:=hspec ds hlen
 have hds:ds++([]:List (DataW H))=ds:=List.append_nil ds
 refine⟨_,rfl,ds,[],p++[],[],p,[],hW', ?_, ?_, ?_,hb.frame _,fun h=>by cases h⟩
 ·rw[hds,hs,hres]
  exact trodAll_cons_mk (shut_bool htb true) rfl
 ·rw[hds,hs]
  exact args_stay hl hb _ _ _ _ (fun t ht=>hp t ht) hA fun x hx=>hlt x (List.mem_append_left _ hx)
 ·rw[hds,hs,hvars]
  rfl
theorem law_contract {run:Run} {f:FuncId} {fn:Func} {s:ChangeSpec} {m:Nat} {tb:TypeId} {G:Nat→Option (List D)} {W:World} {base:Nat} {args:Array Value} {ds gs:List (DataW H)} {before:List MemPlace}
 (hl:laidOutB P=true) (hp:fn.params.toList.all (paramOk P m)=true) (hvars:s.vars=[]) (hres:fn.resultTypes= #[tb]) (htb:P.underlying tb=some .bool)
 (hspec: ∀ds:List (DataW H),ds.length=fn.params.size→s.fn H ds= { results:=[.lit (.bool true)],args:=ds,vars:=[] })
 (hrun:RunOk P G run) (hx: ∀xs:List D,All2 (HasTy P m) fn.params.toList xs→ ∃h',run f (xs.map .d) []=some ([.d (.bool true)],h')) (hg:GRel NoMut G [] [] W)
 (hval: ∀ (j:Nat) t v,fn.params[j]? =some t→args[j]? =some v→Value.okWide P W .any base t v)
 (hW:DataW.Whole enc P fn.params.toList s.vars false W args.toList ds gs before):
 Calls P f args W fun e W'=> ∃v,e= .returned v∧s.post enc P fn false true false false W args v W':=by
 have h: ∀t∈fn.params.toList,paramOk P m t=true:=List.all_eq_true.1 hp
 simp only[paramOk,Bool.and_eq_true]at h
 exact law_contractT hl (fun t ht=>arg_rep (h t ht).1.1) (by rw[List.all_eq_true];intro t ht;rw[Bool.and_eq_true];exact⟨(h t ht).1.2,(h t ht).2⟩) hvars hres htb hspec hrun hx hg hval hW
end
end Go.Am
namespace Go.Am
def Ev {α:Type} (A:Nat→Option α) (x:Option α):Prop:= ∀r,x=some r→ ∃n, ∀m,n≤m→A m=some r
theorem Ev.const {α:Type} (x:Option α):Ev (fun _=>x) x:=fun _ hr=>⟨0,fun _ _=>hr⟩
theorem Ev.obind {α β:Type} {A:Nat→Option α} {x:Option α} {B:Nat→α→Option β} {b:α→Option β} (ha:Ev A x) (hb: ∀a,Ev (fun m=>B m a) (b a)):
 Ev (fun m=>Am.obind (A m) (B m)) (Am.obind x b):=fun r hr=>by
 cases x with
 |none=>cases hr
 |some a=>
  obtain⟨n1,h1⟩:=ha a rfl
  obtain⟨n2,h2⟩:=hb a r hr
  exact⟨max n1 n2,fun m hm=>by simp only[h1 m (by omega)];exact h2 m (by omega)⟩
theorem Ev.onNormal {A:Nat→Res} {x:Res} {B:Nat→Slots→List Obj→Res} {b:Slots→List Obj→Res} (ha:Ev A x) (hb: ∀s h,Ev (fun m=>B m s h) (b s h)):
 Ev (fun m=>Am.onNormal (A m) (B m)) (Am.onNormal x b):=fun r hr=>by
 cases x with
 |none=>cases hr
 |some a=>
  obtain⟨o,s,h⟩:=a
  obtain⟨n1,h1⟩:=ha _ rfl
  cases o with
  |normal=>
   obtain⟨n2,h2⟩:=hb s h r hr
   exact⟨max n1 n2,fun m hm=>by simp only[h1 m (by omega),Am.onNormal];exact h2 m (by omega)⟩
  |exit i=>exact⟨n1,fun m hm=>by simp only[h1 m hm];exact hr⟩
  |ret=>exact⟨n1,fun m hm=>by simp only[h1 m hm];exact hr⟩
theorem Ev.leave {A:Nat→Res} {x:Res} (id:Nat) (ha:Ev A x):Ev (fun m=>Am.leave id (A m)) (Am.leave id x):=fun r hr=>by
 cases x with
 |none=>cases hr
 |some a=>
  obtain⟨n1,h1⟩:=ha _ rfl
  exact⟨n1,fun m hm=>by simp only[h1 m hm];exact hr⟩
theorem Ev.branch {A B:Nat→Res} {x y:Res} (c:V) (ha:Ev A x) (hb:Ev B y):Ev (fun m=>Am.branch c (A m) (B m)) (Am.branch c x y):=by
 unfold Am.branch
 split
 ·rename_i t
  cases t with
  |true=>exact ha
  |false=>exact hb
 ·exact Ev.const none
theorem Ev.iter {A:Nat→Slots→List Obj→Res} {x:Slots→List Obj→Res} (ha: ∀s h,Ev (fun m=>A m s h) (x s h)): ∀ (k:Nat) (s:Slots) (h:List Obj),Ev (fun m=>Am.iter (A m) k s h) (Am.iter x k s h)
 |0,_,_=>Ev.const none
 |k+1,s,h=>by
  simp only[Am.iter]
  exact Ev.onNormal (ha s h) fun s h=>Ev.iter ha k s h
theorem Ev.loops {A:Nat→Slots→List Obj→Res} {x:Slots→List Obj→Res} (ha: ∀s h,Ev (fun m=>A m s h) (x s h)) (s:Slots) (h:List Obj):Ev (fun m=>Am.loops (A m) s h) (Am.loops x s h):=fun r hr=>by
 obtain⟨k,hk⟩:=loops_some.1 hr
 obtain⟨n,hn⟩:=Ev.iter ha k s h r hk
 exact⟨n,fun m hm=>loops_some.2 ⟨k,hn m hm⟩⟩
def EvRun (R:Nat→Run) (R':Run):Prop:= ∀f args h,Ev (fun m=>R m f args h) (R' f args h)
section
variable {P:Program} {G:Nat→Option (List D)} {K:Keeps} {S:Hints} {R:Nat→Run} {R':Run}
theorem Ev.callWith (hR:EvRun R R') (rf:Bool) (f:FuncId) (args:List V) (h:List Obj):Ev (fun m=>Am.callWith rf (R m) f args h) (Am.callWith rf R' f args h):=by
 unfold Am.callWith
 cases argVs rf h args with
 |none=>exact Ev.const none
 |some p=>
  obtain⟨as,h1⟩:=p
  simp only
  cases as.mapM (V.ren (place (reach h1 (addIds [] (as.flatMap V.ids))))) with
  |none=>exact Ev.const none
  |some as2=>
   cases takeObjs h1 (place (reach h1 (addIds [] (as.flatMap V.ids)))) (reach h1 (addIds [] (as.flatMap V.ids))) with
   |none=>exact Ev.const none
   |some hin=>
    simp only
    intro r hr
    cases hx:R' f as2 hin with
    |none=>rw[hx]at hr;cases hr
    |some q=>
     rw[hx]at hr
     obtain⟨n,hn⟩:=hR f as2 hin q hx
     exact⟨n,fun m hm=>by simp only[hn m hm];exact hr⟩
theorem Ev.callThaw (hR:EvRun R R') (f:FuncId) (args:List V) (h:List Obj):Ev (fun m=>Am.callThaw (R m) f args h) (Am.callThaw R' f args h):=by
 unfold Am.callThaw
 cases argVs false h args with
 |none=>exact Ev.const none
 |some p=>
  obtain⟨as,h1⟩:=p
  simp only
  intro r hr
  cases hx:R' f as [] with
  |none=>rw[hx]at hr;cases hr
  |some q=>
   rw[hx]at hr
   obtain⟨n,hn⟩:=hR f as [] q hx
   exact⟨n,fun m hm=>by simp only[hn m hm];exact hr⟩
theorem Ev.calleeV (hR:EvRun R R') (s:Slots) (h:List Obj) (f:V) (args:List V):Ev (fun m=>Am.calleeV G s h (R m) f args) (Am.calleeV G s h R' f args):=by
 unfold Am.calleeV
 split
 ·split
  ·split
   ·intro r hr
    rename_i g _ _
    cases hx:Am.callWith (byRef G g) R' g args h with
    |none=>rw[hx]at hr;simp[guardKeep]at hr
    |some q=>
     obtain⟨n,hn⟩:=Ev.callWith hR (byRef G g) g args h q hx
     refine⟨n,fun m hm=> ?_⟩
     have e1:Am.callWith (byRef G g) (R m) g args h=some q:=hn m hm
     show guardKeep h (Am.callWith (byRef G g) (R m) g args h)=some r
     rw[e1,← hx];exact hr
   split
   ·intro r hr
    rename_i g _ _ _
    cases hx:Am.callWith (byRef G g) R' g args h with
    |none=>rw[hx]at hr;cases hr
    |some q=>
     obtain⟨n,hn⟩:=Ev.callWith hR (byRef G g) g args h q hx
     refine⟨n,fun m hm=> ?_⟩
     have e1:Am.callWith (byRef G g) (R m) g args h=some q:=hn m hm
     show coolOut h (Am.callWith (byRef G g) (R m) g args h)=some r
     rw[e1,← hx];exact hr
   split
   ·intro r hr
    rename_i g _ _ _ _
    cases hx:Am.callWith (byRef G g) R' g args h with
    |none=>rw[hx]at hr;cases hr
    |some q=>
     obtain⟨n,hn⟩:=Ev.callWith hR (byRef G g) g args h q hx
     refine⟨n,fun m hm=> ?_⟩
     have e1:Am.callWith (byRef G g) (R m) g args h=some q:=hn m hm
     show chillOut (Am.callWith (byRef G g) (R m) g args h)=some r
     rw[e1,← hx];exact hr
   ·exact Ev.callThaw hR _ _ _
  ·exact Ev.callWith hR _ _ _ _
 ·exact Ev.callWith hR _ _ _ _
 ·exact Ev.const none
theorem Ev.opV (hR:EvRun R R') (s:Slots) (h:List Obj) (o:Oper):Ev (fun m=>Am.opV P G (R m) s h o) (Am.opV P G R' s h o):=by
 unfold Am.opV
 cases o.op with
 |call c=>
  simp only
  cases c.callee with
  |builtin b=>cases b <;> exact Ev.const _
  |invoke _ _=>exact Ev.const _
  |value f=>exact Ev.calleeV hR _ _ _ _
 |makeMap _ rv=>cases rv <;> exact Ev.const _
 |makeFunc fn first cap=>cases fn <;> exact Ev.const _
 |next it b=>cases b <;> exact Ev.const _
 |_=>exact Ev.const _
theorem Ev.blindV (hR:EvRun R R') (hv:List Obj) (s:Slots) (h:List Obj) (o:Oper):Ev (fun m=>withH h (Am.blindV P G (R m) hv s o)) (withH h (Am.blindV P G R' hv s o)):=by
 have key:Ev (fun m=>Am.blindV P G (R m) hv s o) (Am.blindV P G R' hv s o):=by
  unfold Am.blindV
  cases o.op with
  |call c=>
   simp only
   cases c.callee with
   |value f=>
    simp only
    cases ev G s f with
    |d x=>
     cases x with
     |fn g=>
      simp only
      split
      ·exact Ev.const _
      ·unfold callData
       split
       ·exact Ev.obind (hR _ _ _) fun _=>Ev.const _
       ·exact Ev.const _
     |_=>exact Ev.const _
    |_=>exact Ev.const _
   |builtin b=>
    generalize List.map (ev G s) c.args.toList=l
    generalize c.argTypes.toList=t
    cases b <;> cases t <;> cases l <;> exact Ev.const _
   |invoke r m=>
    generalize List.map (ev G s) c.args.toList=l
    generalize c.argTypes.toList=t
    cases t <;> cases l <;> exact Ev.const _
  |_=>exact Ev.const _
 intro r hr
 cases hx:Am.blindV P G R' hv s o with
 |none=>rw[hx]at hr;cases hr
 |some x=>
  rw[hx]at hr
  obtain⟨n,hn⟩:=key x hx
  exact⟨n,fun m hm=>by simp only[hn m hm];exact hr⟩
theorem Ev.hintV (hR:EvRun R R') (hv:List Obj) (s:Slots) (h:List Obj) (o:Oper):Ev (fun m=>withH h (Am.hintV P G (R m) hv s o)) (withH h (Am.hintV P G R' hv s o)):=by
 unfold Am.hintV
 split
 ·exact Ev.const _
 split
 ·have key:Ev (fun m=>Am.isleV P G (R m) s o) (Am.isleV P G R' s o):=by
   unfold Am.isleV
   exact Ev.obind (Ev.opV hR _ _ _) fun _=>Ev.const _
  intro r hr
  cases hx:Am.isleV P G R' s o with
  |none=>rw[hx]at hr;cases hr
  |some x=>
   rw[hx]at hr
   obtain⟨n,hn⟩:=key x hx
   exact⟨n,fun m hm=>by simp only[hn m hm];exact hr⟩
 ·exact Ev.blindV hR hv s h o
theorem Ev.opsV (hR:EvRun R R') (all:List Oper) (hint:List Nat) (hv:List Obj): ∀ (ops:List Oper) (i:Nat) (s:Slots) (h:List Obj),Ev (fun m=>Am.opsV P G (R m) all hint hv i ops s h) (Am.opsV P G R' all hint hv i ops s h)
 |[],_,_,_=>Ev.const _
 |o::ops,i,s,h=>by
  simp only[Am.opsV]
  refine Ev.obind (Ev.const _) fun w=> ?_
  cases w with
  |false=>exact Ev.opsV hR all hint hv ops _ _ _
  |true=>
   simp only[if_true]
   refine Ev.obind ?_ fun p=>Ev.opsV hR all hint hv ops _ _ _
   cases hint.contains i with
   |true=>exact Ev.hintV hR hv s h o
   |false=>
    simp only[Bool.false_eq_true,if_false]
    split
    ·exact Ev.opV hR s h o
    ·intro r hr
     have hs:=seenG_some (v:=r.1) (h':=r.2) hr
     obtain⟨n,hn⟩:=Ev.opV hR s h o _ hs.1
     exact⟨n,fun m hm=>by
      have e:=hn m hm
      simp only at e ⊢
      rw[e]
      simp only[seenG,if_pos hs.2]⟩
theorem Ev.rangeV {A:Nat→List D→Slots→List Obj→Res} {x:List D→Slots→List Obj→Res} (ha: ∀z s h,Ev (fun m=>A m z s h) (x z s h)) (k:Nat) (keep:List (Nat × Nat)):
 ∀ (l:List (List D)) (s:Slots) (h:List Obj),Ev (fun m=>Am.rangeV (A m) k keep l s h) (Am.rangeV x k keep l s h)
 |[],s,h=>Ev.const _
 |z::l,s,h=>by
  intro r hr
  simp only[Am.rangeV]at hr ⊢
  cases hx:x z s h with
  |none=>rw[hx]at hr;cases hr
  |some q=>
   obtain⟨o,s1,h1⟩:=q
   rw[hx]at hr
   obtain⟨n1,e1⟩:=ha z s h _ hx
   cases o with
   |normal=>
    obtain⟨n2,e2⟩:=Ev.obind (Ev.const (norm k keep s h1)) (fun (p:Slots × List Obj)=>Ev.rangeV ha k keep l p.1 p.2) r hr
    exact⟨max n1 n2,fun m hm=>by simp only[e1 m (by omega)];exact e2 m (by omega)⟩
   |exit i=>exact⟨n1,fun m hm=>by simp only[e1 m hm];exact hr⟩
   |ret=>exact⟨n1,fun m hm=>by simp only[e1 m hm];exact hr⟩
def EvLoop (I:(Slots→List Obj→Res)→Slots→List Obj→Res):Prop:= ∀ {A:Nat→Slots→List Obj→Res} {x:Slots→List Obj→Res},(∀s h,Ev (fun m=>A m s h) (x s h))→ ∀s h,Ev (fun m=>Am.loops (A m) s h) (I x s h)
theorem EvLoop.loops:EvLoop Am.loops:=fun ha s h=>Ev.loops ha s h
theorem EvLoop.iter (k:Nat):EvLoop (fun x=>Am.iter x k):=fun ha s h r hr=>by
 obtain⟨n,hn⟩:=Ev.iter ha k s h r hr
 exact⟨n,fun m hm=>loops_some.2 ⟨k,hn m hm⟩⟩
variable {I:(Slots→List Obj→Res)→Slots→List Obj→Res}
theorem Ev.codeV (hI:EvLoop I) (hR:EvRun R R') (F:FuncId): ∀ (c:Code) (k b:Nat) (s:Slots) (h:List Obj),Ev (fun m=>Am.codeV P G K S (R m) Am.loops F k b c s h) (Am.codeV P G K S R' I F k b c s h):=by
 intro c
 induction c with
 |skip=>intro k b s h;exact Ev.const _
 |region id ops draw=>
  intro k b s h
  simp only[Am.codeV,regionV]
  exact Ev.obind (Ev.const _) fun _=>Ev.obind (Ev.opsV hR _ _ _ _ _ _ _) fun _=>Ev.const _
 |seq x y ihx ihy=>intro k b s h;simp only[Am.codeV];exact Ev.onNormal (ihx k b s h) fun s h=>ihy k b s h
 |cond c x y ihx ihy=>intro k b s h;simp only[Am.codeV];exact Ev.branch _ (ihx k b s h) (ihy k b s h)
 |block id c ih=>intro k b s h;simp only[Am.codeV];exact Ev.leave id (ih k id s h)
 |loop c ih=>
  intro k b s h
  simp only[Am.codeV]
  split
  ·exact hI (fun s h=>Ev.obind (Ev.const _) fun (p:Slots × List Obj)=>ih k b p.1 p.2) s h
  ·exact hI (fun s h=>ih k b s h) s h
 |rangeFunc f ps x y ihx ihy=>
  intro k b s h
  simp only[Am.codeV]
  cases K F b with
  |none=>exact Ev.const _
  |some keep=>
   cases ps.toList with
   |nil=>exact Ev.const _
   |cons p l=>
    cases l with
    |cons _ _=>exact Ev.const _
    |nil=>
     refine Ev.obind (Ev.const _) fun it=> ?_
     cases loose k keep s h it.1 && loose k keep s h it.2.1 with
     |false=>exact Ev.const _
     |true=>
      refine Ev.obind (Ev.const _) fun q=>Ev.rangeV (fun z s h=> ?_) _ _ _ _ _
      intro r hr
      cases hx:Am.codeV P G K S R' I F h.length b x ((p,.d (.list z))::s) h with
      |none=>rw[hx]at hr;cases hr
      |some q=>
       obtain⟨o,s1,h1⟩:=q
       rw[hx]at hr
       obtain⟨n1,e1⟩:=ihx h.length b _ _ _ hx
       cases o with
       |normal=>
        obtain⟨n2,e2⟩:=ihy h.length b s1 h1 r hr
        exact⟨max n1 n2,fun m hm=>by simp only[e1 m (by omega)];exact e2 m (by omega)⟩
       |exit i=>cases hr
       |ret=>cases hr
 |_=>intro k b s h;simp only[Am.codeV];exact Ev.const _
theorem Ev.bodyV (hI:EvLoop I) (hR:EvRun R R') (f:FuncId) (args:List V) (h:List Obj):Ev (fun m=>Am.bodyV P G K S (R m) Am.loops f args h) (Am.bodyV P G K S R' I f args h):=by
 unfold Am.bodyV
 cases P.funcs[f]? with
 |none=>exact Ev.const _
 |some fn=>
  simp only
  cases fn.body with
  |none=>exact Ev.const _
  |some c=>
   simp only
   split
   ·intro r hr
    cases hx:Am.codeV P G K S R' I f h.length 0 c (startSlots 0 args) h with
    |none=>rw[hx]at hr;cases hr
    |some q=>
     rw[hx]at hr
     obtain⟨n,hn⟩:=Ev.codeV hI hR f c h.length 0 _ _ q hx
     exact⟨n,fun m hm=>by
     have:=hn m hm
     simp only at this
     simp only[this]
     exact hr⟩
   ·exact Ev.const _
theorem Ev.gather {α β:Type} {A:Nat→α→Option (List β)} {f:α→Option (List β)}: ∀ {l:List α},(∀x,Ev (fun m=>A m x) (f x))→Ev (fun m=>Am.gather l (A m)) (Am.gather l f)
 |[],_=>Ev.const _
 |z::zs,h=>fun r hr=>by
  simp only[Am.gather]at hr
  split at hr
  ·rename_i a b h1 h2
   obtain⟨n1,k1⟩:=h z a h1
   obtain⟨n2,k2⟩:=Ev.gather (l:=zs) h b h2
   refine⟨max n1 n2,fun m hm=> ?_⟩
   simp only[Am.gather]
   have e1:=k1 m (by omega)
   have e2:=k2 m (by omega)
   simp only at e1 e2
   rw[e1,e2]
   exact hr
  ·cases hr
theorem Ev.map1 {α β:Type} {A:Nat→Option α} {x:Option α} (f:α→β) (h:Ev A x):Ev (fun m=>(A m).map f) (x.map f):=fun r hr=>by
 rw[Option.map_eq_some_iff]at hr
 obtain⟨a,ha,rfl⟩:=hr
 obtain⟨n,hn⟩:=h a ha
 refine⟨n,fun m hm=> ?_⟩
 have:A m=some a:=hn m hm
 show (A m).map f=_
 rw[this]
 rfl
theorem Ev.obind1 {α β:Type} {A:Nat→Option α} {x:Option α} {B:Nat→α→Option β} {f:α→Option β} (h:Ev A x) (hf: ∀a,Ev (fun m=>B m a) (f a)):Ev (fun m=>Am.obind (A m) (B m)) (Am.obind x f):=fun r hr=>by
 cases hx:x with
 |none=>rw[hx]at hr;cases hr
 |some a=>
  rw[hx]at hr
  obtain⟨n1,k1⟩:=h a hx
  obtain⟨n2,k2⟩:=hf a r hr
  refine⟨max n1 n2,fun m hm=> ?_⟩
  have e1:A m=some a:=k1 m (by omega)
  have e2:B m a=some r:=k2 m (by omega)
  simp only[e1,Am.obind,e2]
theorem Ev.rangeK {R1:Nat→D→Slots→List Obj→Res} {round:D→Slots→List Obj→Res} (h: ∀x s h,Ev (fun m=>R1 m x s h) (round x s h)) (k:Nat) (keep:List (Nat × Nat)) (m0:Nat) (ks:List D) (bs:List Nat) (ck:Nat): ∀ (n:Nat) (l:List Nat) (s:Slots) (hh:List Obj),
 Ev (fun m=>Am.rangeK (R1 m) k keep m0 ks bs ck n l s hh) (Am.rangeK round k keep m0 ks bs ck n l s hh)
 |0,_,_,_=>Ev.const _
 |n+1,l,s,hh=>by
  simp only[Am.rangeK]
  refine Ev.gather fun i=> ?_
  cases ks[i]? with
  |none=>exact Ev.const _
  |some x=>
   intro r hr
   simp only at hr
   cases hx:round x s hh with
   |none=>rw[hx]at hr;cases hr
   |some q=>
    rw[hx]at hr
    obtain⟨n1,k1⟩:=h x s hh q hx
    obtain⟨o,s1,h1⟩:=q
    cases o with
    |exit _=>cases hr
    |ret=>cases hr
    |normal=>
     simp only at hr
     cases hnm:norm k keep s h1 with
     |none=>rw[hnm]at hr;cases hr
     |some p=>
      rw[hnm]at hr
      simp only[Am.obind]at hr
      split at hr
      ·rename_i hsm
       obtain⟨n2,k2⟩:=Ev.rangeK h k keep m0 ks bs ck n _ _ _ r hr
       refine⟨max n1 n2,fun m hm=> ?_⟩
       have e1:R1 m x s hh=_:=k1 m (by omega)
       have e2:=k2 m (by omega)
       simp only at e2
       simp only[e1,hnm,Am.obind,hsm,if_true,e2]
      ·cases hr
theorem Ev.codeL (hI:EvLoop I) (hR:EvRun R R') (F:FuncId): ∀ (c:Code) (k b:Nat) (s:Slots) (h:List Obj),Ev (fun m=>Am.codeL P G K S (R m) Am.loops F k b c s h) (Am.codeL P G K S R' I F k b c s h):=by
 intro c
 induction c with
 |seq x y ihx ihy=>
  intro k b s h
  simp only[Am.codeL]
  refine Ev.obind1 (ihx k b s h) fun l=>Ev.gather fun r=> ?_
  obtain⟨o,s1,h1⟩:=r
  cases o with
  |normal=>exact ihy k b s1 h1
  |exit _=>exact Ev.const _
  |ret=>exact Ev.const _
 |block id c ih=>intro k b s h;simp only[Am.codeL];exact Ev.map1 _ (ih k id s h)
 |rangeFunc f ps x y ihx ihy=>
  intro k b s h
  simp only[Am.codeL]
  cases keysV G h (ev G s f) with
  |none=>exact Ev.map1 _ (Ev.codeV hI hR F _ k b s h)
  |some q=>
   obtain⟨i,m0,ks,bs,ck⟩:=q
   simp only
   split
   ·split
    ·refine Ev.obind1 (Ev.const _) fun q=> ?_
     split
     ·refine Ev.map1 _ (Ev.rangeK (fun x1 s h=> ?_) _ _ _ _ _ _ _ _ _ _)
      intro r hr
      cases hx:Am.codeV P G K S R' I F h.length b x ((_,.d x1)::s) h with
      |none=>rw[hx]at hr;cases hr
      |some q2=>
       rw[hx]at hr
       obtain⟨n1,k1⟩:=Ev.codeV hI hR F x h.length b _ _ q2 hx
       obtain⟨o,s1,h1⟩:=q2
       cases o with
       |exit _=>cases hr
       |ret=>cases hr
       |normal=>
        simp only at hr
        obtain⟨n2,k2⟩:=Ev.codeV hI hR F y h.length b _ _ r hr
        refine⟨max n1 n2,fun m hm=> ?_⟩
        have e1:=k1 m (by omega)
        have e2:=k2 m (by omega)
        simp only at e1 e2
        simp only[e1,e2]
     ·exact Ev.const _
    ·exact Ev.const _
   ·exact Ev.const _
 |_=>intro k b s h;exact Ev.map1 _ (Ev.codeV hI hR F _ k b s h)
theorem Ev.bodyK (hI:EvLoop I) (hR:EvRun R R') (f:FuncId) (args:List V) (h:List Obj):Ev (fun m=>Am.bodyK P G K S (R m) Am.loops f args h) (Am.bodyK P G K S R' I f args h):=by
 unfold Am.bodyK
 cases P.funcs[f]? with
 |none=>exact Ev.const _
 |some fn=>
  simp only
  cases fn.body with
  |none=>exact Ev.const _
  |some c=>
   simp only
   split
   ·intro r hr
    cases hx:Am.codeL P G K S R' I f h.length 0 c (startSlots 0 args) h with
    |none=>rw[hx]at hr;cases hr
    |some q=>
     rw[hx]at hr
     obtain⟨n,hn⟩:=Ev.codeL hI hR f c h.length 0 _ _ q hx
     exact⟨n,fun m hm=>by
     have:=hn m hm
     simp only at this
     simp only[this]
     exact hr⟩
   ·exact Ev.const _
theorem Ev.joinV {A B:Nat→Option (List V × List Obj)} {x y:Option (List V × List Obj)} (ha:Ev A x) (hb:Ev B y):Ev (fun m=>Am.joinV (A m) (B m)) (Am.joinV x y):=fun r hr=>by
 obtain⟨h1,h2⟩:=joinV_some hr
 obtain⟨n1,k1⟩:=ha r h1
 obtain⟨n2,k2⟩:=hb r h2
 refine⟨max n1 n2,fun m hm=> ?_⟩
 simp only[k1 m (by omega),k2 m (by omega),Am.joinV,if_true]
theorem Ev.bodyS (hI:EvLoop I) (hR:EvRun R R') (f:FuncId) (args:List V) (h:List Obj):Ev (fun m=>Am.bodyS P G K S (R m) Am.loops f args h) (Am.bodyS P G K S R' I f args h):=by
 unfold Am.bodyS
 split
 ·split
  ·exact Ev.bodyK hI hR _ _ _
  ·split <;> exact Ev.const _
 split
 ·exact Ev.joinV (Ev.bodyV hI hR _ _ _) (Ev.bodyV hI hR _ _ _)
 ·exact Ev.bodyV hI hR _ _ _
variable (P G K S)
noncomputable def runN:Nat→Run
 |0=>fun _ _ _=>none
 |n+1=>Am.bodyS P G K S (runN n) Am.loops
open Classical in
noncomputable def Runs:Run:=fun f args h=>if e: ∃n r, ∀m,n≤m→runN P G K S m f args h=some r then some (Classical.choose (Classical.choose_spec e)) else none
variable {P G K S}
theorem Runs_some {f:FuncId} {args:List V} {h:List Obj} {r:List V × List Obj}:Runs P G K S f args h=some r↔ ∃n, ∀m,n≤m→runN P G K S m f args h=some r:=by
 unfold Runs
 constructor
 ·intro hr
  split at hr
  ·rename_i e
   simp only[Option.some.injEq]at hr
   subst hr
   exact⟨_,Classical.choose_spec (Classical.choose_spec e)⟩
  ·cases hr
 ·rintro ⟨n,hn⟩
  have e: ∃n r, ∀m,n≤m→runN P G K S m f args h=some r:=⟨n,r,hn⟩
  rw[dif_pos e]
  have h2:=Classical.choose_spec (Classical.choose_spec e)
  have h3:=hn (max n (Classical.choose e)) (by omega)
  have h4:=h2 (max n (Classical.choose e)) (by omega)
  rw[h3]at h4
  simpa using h4.symm
theorem Runs_ev:EvRun (runN P G K S) (Runs P G K S):=fun _ _ _ _ hr=>Runs_some.1 hr
theorem Runs_ofS {f:FuncId} {args:List V} {h:List Obj} {r:List V × List Obj} (hr:bodyS P G K S (Runs P G K S) loops f args h=some r):Runs P G K S f args h=some r:=by
 obtain⟨n,hn⟩:=Ev.bodyS EvLoop.loops Runs_ev f args h r hr
 refine Runs_some.2 ⟨n+1,fun m hm=> ?_⟩
 obtain⟨k,rfl⟩: ∃k,m=k+1:=⟨m - 1,by omega⟩
 exact hn k (by omega)
theorem splits_sorts {f:FuncId} (hs:splits G f=false):sorts G f=0:=by
 unfold sorts
 rw[hs];rfl
theorem Runs_of {f:FuncId} {args:List V} {h:List Obj} {r:List V × List Obj} (hs:splits G f=false∨sorts G f=0∧ ∀rest,args≠ .d (.list [])::rest) (hr:bodyV P G K S (Runs P G K S) loops f args h=some r):Runs P G K S f args h=some r:=by
 refine Runs_ofS ?_
 unfold bodyS
 rw[if_neg (by
  rcases hs with hs | hs
  ·simp[splits_sorts hs]
  ·simp[hs.1])]
 split
 ·rename_i e
  rcases hs with hs | hs
  ·rw[hs]at e;cases e
  ·exact absurd rfl (hs.2 _)
 ·exact hr
theorem Runs_sort {f:FuncId} {args:List V} {h:List Obj} {r:List V × List Obj} (k:Nat) (hk:k<99) (hs:sorts G f=k+1) (hr:sortV (k+1) args h=some r):Runs P G K S f args h=some r:=by
 refine Runs_ofS ?_
 unfold bodyS
 rw[hs,if_pos (by simp),if_neg (by omega),if_neg (by omega)]
 exact hr
theorem Runs_split {f:FuncId} {rest:List V} {h:List Obj} {r:List V × List Obj} (hs:splits G f=true) (h0:sorts G f=0) (h1:bodyV P G K S (Runs P G K S) loops f (.nilS::rest) h=some r) (h2:bodyV P G K S (Runs P G K S) loops f (.emp::rest) h=some r):
 Runs P G K S f (.d (.list [])::rest) h=some r:=by
 refine Runs_ofS ?_
 unfold bodyS
 simp only[hs,h0,h1,h2,joinV,if_true,ne_eq,not_true_eq_false,if_false]
abbrev Known:=FuncId × List V × List Obj × (List V × List Obj)
def lookT:List Known→FuncId→List V→List Obj→Option (List V × List Obj)
 |[],_,_,_=>none
 |e::T,f,a,h=>if e.1=f∧e.2.1=a∧e.2.2.1=h then some e.2.2.2 else lookT T f a h
def evalM (P:Program) (G:Nat→Option (List D)) (K:Keeps) (S:Hints) (T:List Known) (k:Nat):Nat→Run
 |0=>lookT T
 |n+1=>fun f a h=>
  match lookT T f a h with
  |some r=>some r
  |none=>Am.bodyS P G K S (evalM P G K S T k n) (fun x=>Am.iter x k) f a h
variable (P G K S) in
def Tbl (T:List Known):Prop:= ∀e∈T,Runs P G K S e.1 e.2.1 e.2.2.1=some e.2.2.2
theorem t0:Tbl P G K S []:=fun e he=>by cases he
theorem t1 {f:FuncId} {a:List V} {h:List Obj} {r:List V × List Obj} {T:List Known} (hr:Runs P G K S f a h=some r) (t:Tbl P G K S T):Tbl P G K S ((f,a,h,r)::T):=fun e he=>by
 rcases List.mem_cons.1 he with rfl | he
 ·exact hr
 ·exact t e he
theorem lookT_runs: ∀ {T:List Known} {f:FuncId} {a:List V} {h:List Obj} {r:List V × List Obj},Tbl P G K S T→lookT T f a h=some r→Runs P G K S f a h=some r
 |[],_,_,_,_,_,hr=>by cases hr
 |e::T,f,a,h,r,t,hr=>by
  unfold lookT at hr
  split at hr
  ·rename_i he
   obtain⟨rfl,rfl,rfl⟩:=he
   simp only[Option.some.injEq]at hr;subst hr
   exact t e (List.mem_cons_self ..)
  ·exact lookT_runs (fun e he=>t e (List.mem_cons_of_mem _ he)) hr
theorem evalM_runs {T:List Known} (t:Tbl P G K S T) (k:Nat): ∀ (n:Nat) {f:FuncId} {args:List V} {h:List Obj} {r:List V × List Obj},evalM P G K S T k n f args h=some r→Runs P G K S f args h=some r
 |0,_,_,_,_,hr=>lookT_runs t hr
 |n+1,f,args,h,r,hr=>by
  unfold evalM at hr
  split at hr
  ·rename_i hl
   simp only[Option.some.injEq]at hr;subst hr
   exact lookT_runs t hl
  ·have e:EvRun (fun _=>Runs P G K S) (evalM P G K S T k n):=fun _ _ _ r hr=>⟨0,fun _ _=>evalM_runs t k n hr⟩
   obtain⟨m,hm⟩:=Ev.bodyS (EvLoop.iter k) e f args h r hr
   exact Runs_ofS (hm m (Nat.le_refl _))
theorem runN_ok (hm:P.follows .mixedOrders=true) (hso: ∀g,SortOk P G g) (hit: ∀g,chunks G g=true→ChunkOk P g): ∀n,RunOk P G (runN P G K S n)∧RunHas P (runN P G K S n)
 |0=>⟨fun _ _ _ _ _ hr=>by simp[runN]at hr,fun _ _ _ _ hr=>by simp[runN]at hr⟩
 |n+1=>bodyS_ok hso hit hm (runN_ok hm hso hit n).1 (runN_ok hm hso hit n).2 fun _ _ _ _ _ _ hc=>loops_does hc
theorem Runs_ok (hm:P.follows .mixedOrders=true) (hso: ∀g,SortOk P G g) (hit: ∀g,chunks G g=true→ChunkOk P g):RunOk P G (Runs P G K S):=fun f args h rets h' hr=>by
 obtain⟨n,hn⟩:=Runs_some.1 hr
 exact (runN_ok hm hso hit n).1 f args h rets h' (hn n (Nat.le_refl _))
noncomputable def hloop (k:Nat) (keep:List (Nat × Nat)) (b:Slots→List Obj→Res) (s:Slots) (h:List Obj):Res:=loops (fun s h=>obind (norm k keep s h) fun p=>b p.1 p.2) s h
theorem hloop_eq (k:Nat) (keep:List (Nat × Nat)) (b:Slots→List Obj→Res) (s:Slots) (h:List Obj):
 hloop k keep b s h=obind (norm k keep s h) fun p=>onNormal (b p.1 p.2) (hloop k keep b):=by
 show loops _ s h=_
 rw[loops_eq]
 cases norm k keep s h <;> rfl
theorem codeV_loop {run:Run} {F:FuncId} {k b:Nat} {c:Code} {s:Slots} {h:List Obj} {keep:List (Nat × Nat)} (hk:K F b=some keep):
 codeV P G K S run loops F k b (.loop c) s h=hloop k keep (codeV P G K S run loops F k b c) s h:=by
 simp only[codeV,hk]
 rfl
end
end Go.Am
namespace Go.Am
attribute [simp] putV withH calleeV nilCheckV eqV eqCells eqCell window overV copyV clearV extractV pickV
attribute [simp] binE isLit isNilI nilE
attribute [simp] constV constCell binD shiftBin strBin unD convV readConvV
attribute [simp] loadV loadFrom loadFromD storeV indexAddrV fieldAddrV fieldV indexV builtinV lenV foldV min2 max2 natOf? bound? bounds? sliceV
attribute [simp] argVs pureV pure1 pureList addIds back one setAll
attribute [simp] reach close idsAt
attribute [simp] resV solid
attribute [simp] freezeAll V.storable V.cellOk
@[simp] theorem get_nil {α:Type} (i:Nat):([]:List α)[i]? =none:=rfl
@[simp] theorem get_zero {α:Type} (x:α) (l:List α):(x::l)[0]? =some x:=rfl
@[simp] theorem get_succ {α:Type} (x:α) (l:List α) (i:Nat):(x::l)[i+1]? =l[i]? :=rfl
@[simp] theorem argV_arr (rf:Bool) (h:List Obj) (a b:Nat):argV rf h (.arr a b)=bif rf then some (.arr a b,h) else (pureV h (.arr a b)).map fun p=>(.d p.1,p.2):=by cases rf <;> rfl
@[simp] theorem argV_sl (rf:Bool) (h:List Obj) (a b c d:Nat):argV rf h (.sl a b c d)=bif rf then some (.sl a b c d,h) else (pureV h (.sl a b c d)).map fun p=>(.d p.1,p.2):=by cases rf <;> rfl
@[simp] theorem argV_ptr (rf:Bool) (h:List Obj) (a b:Nat):argV rf h (.ptr a b)=some (.ptr a b,h):=rfl
@[simp] theorem argV_mp (rf:Bool) (h:List Obj) (a:Nat):argV rf h (.mp a)=some (.mp a,h):=rfl
@[simp] theorem argV_clo (rf:Bool) (h:List Obj) (f:FuncId) (l:List V):argV rf h (.clo f l)=some (.clo f l,h):=rfl
@[simp] theorem argV_ro (rf:Bool) (h:List Obj) (cs:List D):argV rf h (.ro cs)=some (.ro cs,h):=rfl
@[simp] theorem argV_d (rf:Bool) (h:List Obj) (x:D):argV rf h (.d x)=some (.d x,h):=rfl
@[simp] theorem argV_nilS (rf:Bool) (h:List Obj):argV rf h .nilS=some (.d (.list []),h):=rfl
@[simp] theorem argV_emp (rf:Bool) (h:List Obj):argV rf h .emp=some (.d (.list []),h):=rfl
@[simp] theorem argV_agg (rf:Bool) (h:List Obj) (cs:List V):argV rf h (.agg cs)=(pureList h cs).map fun p=>(.d (.agg p.1),p.2):=by
 show ((pureList h cs).map fun (xs,h)=>(D.agg xs,h)).map _=_
 cases pureList h cs <;> rfl
@[simp] theorem ev_tmp (G:Nat→Option (List D)) (s:Slots) (t:Tmp):ev G s (.tmp t)=sget s t:=rfl
@[simp] theorem ev_const (G:Nat→Option (List D)) (s:Slots) (v:Value):ev G s (.const v)=constV v:=rfl
@[simp] theorem ev_global (G:Nat→Option (List D)) (s:Slots) (g:Nat):ev G s (.global g)=match G g with | some cs=> .ro cs | none=> .dead:=rfl
@[simp] theorem ev_func (G:Nat→Option (List D)) (s:Slots) (f:FuncId):ev G s (.func f)= .d (.fn f):=rfl
@[simp] theorem ren0_d (f:Nat→Option Nat) (x:D):V.ren0 f (.d x)=some (.d x):=rfl
@[simp] theorem ren0_nilS (f:Nat→Option Nat):V.ren0 f (.nilS)=some (.nilS):=rfl
@[simp] theorem ren0_ro (f:Nat→Option Nat) (cs:List D):V.ren0 f (.ro cs)=some (.ro cs):=rfl
@[simp] theorem ren0_dead (f:Nat→Option Nat):V.ren0 f (.dead)=some (.dead):=rfl
@[simp] theorem ren0_emp (f:Nat→Option Nat):V.ren0 f .emp=some .emp:=rfl
@[simp] theorem ren0_sl (f:Nat→Option Nat) (a b c d:Nat):V.ren0 f (.sl a b c d)=(f a).map fun i=> .sl i b c d:=rfl
@[simp] theorem ren0_arr (f:Nat→Option Nat) (a b:Nat):V.ren0 f (.arr a b)=(f a).map fun i=> .arr i b:=rfl
@[simp] theorem ren0_ptr (f:Nat→Option Nat) (a b:Nat):V.ren0 f (.ptr a b)=(f a).map fun i=> .ptr i b:=rfl
@[simp] theorem ren0_eptr (f:Nat→Option Nat) (a b c d:Nat):V.ren0 f (.eptr a b c d)=(f a).map fun i=> .eptr i b c d:=rfl
@[simp] theorem ren0_mp (f:Nat→Option Nat) (a:Nat):V.ren0 f (.mp a)=(f a).map .mp:=rfl
@[simp] theorem ren1_d (f:Nat→Option Nat) (x:D):V.ren1 f (.d x)=some (.d x):=rfl
@[simp] theorem ren1_nilS (f:Nat→Option Nat):V.ren1 f (.nilS)=some (.nilS):=rfl
@[simp] theorem ren1_ro (f:Nat→Option Nat) (cs:List D):V.ren1 f (.ro cs)=some (.ro cs):=rfl
@[simp] theorem ren1_dead (f:Nat→Option Nat):V.ren1 f (.dead)=some (.dead):=rfl
@[simp] theorem ren1_emp (f:Nat→Option Nat):V.ren1 f .emp=some .emp:=rfl
@[simp] theorem ren1_sl (f:Nat→Option Nat) (a b c d:Nat):V.ren1 f (.sl a b c d)=(f a).map fun i=> .sl i b c d:=rfl
@[simp] theorem ren1_arr (f:Nat→Option Nat) (a b:Nat):V.ren1 f (.arr a b)=(f a).map fun i=> .arr i b:=rfl
@[simp] theorem ren1_ptr (f:Nat→Option Nat) (a b:Nat):V.ren1 f (.ptr a b)=(f a).map fun i=> .ptr i b:=rfl
@[simp] theorem ren1_eptr (f:Nat→Option Nat) (a b c d:Nat):V.ren1 f (.eptr a b c d)=(f a).map fun i=> .eptr i b c d:=rfl
@[simp] theorem ren1_mp (f:Nat→Option Nat) (a:Nat):V.ren1 f (.mp a)=(f a).map .mp:=rfl
@[simp] theorem ren1_clo (f:Nat→Option Nat) (g:FuncId) (l:List V):V.ren1 f (.clo g l)=(l.mapM (V.ren0 f)).map (.clo g):=rfl
@[simp] theorem ren2_d (f:Nat→Option Nat) (x:D):V.ren2 f (.d x)=some (.d x):=rfl
@[simp] theorem ren2_nilS (f:Nat→Option Nat):V.ren2 f (.nilS)=some (.nilS):=rfl
@[simp] theorem ren2_ro (f:Nat→Option Nat) (cs:List D):V.ren2 f (.ro cs)=some (.ro cs):=rfl
@[simp] theorem ren2_dead (f:Nat→Option Nat):V.ren2 f (.dead)=some (.dead):=rfl
@[simp] theorem ren2_emp (f:Nat→Option Nat):V.ren2 f .emp=some .emp:=rfl
@[simp] theorem ren2_sl (f:Nat→Option Nat) (a b c d:Nat):V.ren2 f (.sl a b c d)=(f a).map fun i=> .sl i b c d:=rfl
@[simp] theorem ren2_arr (f:Nat→Option Nat) (a b:Nat):V.ren2 f (.arr a b)=(f a).map fun i=> .arr i b:=rfl
@[simp] theorem ren2_ptr (f:Nat→Option Nat) (a b:Nat):V.ren2 f (.ptr a b)=(f a).map fun i=> .ptr i b:=rfl
@[simp] theorem ren2_eptr (f:Nat→Option Nat) (a b c d:Nat):V.ren2 f (.eptr a b c d)=(f a).map fun i=> .eptr i b c d:=rfl
@[simp] theorem ren2_mp (f:Nat→Option Nat) (a:Nat):V.ren2 f (.mp a)=(f a).map .mp:=rfl
@[simp] theorem ren2_clo (f:Nat→Option Nat) (g:FuncId) (l:List V):V.ren2 f (.clo g l)=(l.mapM (V.ren0 f)).map (.clo g):=rfl
@[simp] theorem ren2_agg (f:Nat→Option Nat) (l:List V):V.ren2 f (.agg l)=(l.mapM (V.ren1 f)).map .agg:=rfl
@[simp] theorem ren_d (f:Nat→Option Nat) (x:D):V.ren f (.d x)=some (.d x):=rfl
@[simp] theorem ren_nilS (f:Nat→Option Nat):V.ren f (.nilS)=some (.nilS):=rfl
@[simp] theorem ren_ro (f:Nat→Option Nat) (cs:List D):V.ren f (.ro cs)=some (.ro cs):=rfl
@[simp] theorem ren_dead (f:Nat→Option Nat):V.ren f (.dead)=some (.dead):=rfl
@[simp] theorem ren_emp (f:Nat→Option Nat):V.ren f .emp=some .emp:=rfl
@[simp] theorem ren_sl (f:Nat→Option Nat) (a b c d:Nat):V.ren f (.sl a b c d)=(f a).map fun i=> .sl i b c d:=rfl
@[simp] theorem ren_arr (f:Nat→Option Nat) (a b:Nat):V.ren f (.arr a b)=(f a).map fun i=> .arr i b:=rfl
@[simp] theorem ren_ptr (f:Nat→Option Nat) (a b:Nat):V.ren f (.ptr a b)=(f a).map fun i=> .ptr i b:=rfl
@[simp] theorem ren_eptr (f:Nat→Option Nat) (a b c d:Nat):V.ren f (.eptr a b c d)=(f a).map fun i=> .eptr i b c d:=rfl
@[simp] theorem ren_mp (f:Nat→Option Nat) (a:Nat):V.ren f (.mp a)=(f a).map .mp:=rfl
@[simp] theorem ren_clo (f:Nat→Option Nat) (g:FuncId) (l:List V):V.ren f (.clo g l)=(l.mapM (V.ren0 f)).map (.clo g):=rfl
@[simp] theorem ren_agg (f:Nat→Option Nat) (l:List V):V.ren f (.agg l)=(l.mapM (V.ren1 f)).map .agg:=rfl
@[simp] theorem ren_tup (f:Nat→Option Nat) (l:List V):V.ren f (.tup l)=(l.mapM (V.ren2 f)).map .tup:=rfl
@[simp] theorem ids0_d (x:D):V.ids0 (.d x)=[]:=rfl
@[simp] theorem ids0_nilS:V.ids0 (.nilS)=[]:=rfl
@[simp] theorem ids0_ro (cs:List D):V.ids0 (.ro cs)=[]:=rfl
@[simp] theorem ids0_dead:V.ids0 (.dead)=[]:=rfl
@[simp] theorem ids0_emp:V.ids0 .emp=[]:=rfl
@[simp] theorem ids0_sl (a b c d:Nat):V.ids0 (.sl a b c d)=[a]:=rfl
@[simp] theorem ids0_arr (a b:Nat):V.ids0 (.arr a b)=[a]:=rfl
@[simp] theorem ids0_ptr (a b:Nat):V.ids0 (.ptr a b)=[a]:=rfl
@[simp] theorem ids0_eptr (a b c d:Nat):V.ids0 (.eptr a b c d)=[a]:=rfl
@[simp] theorem ids0_mp (a:Nat):V.ids0 (.mp a)=[a]:=rfl
@[simp] theorem ids1_d (x:D):V.ids1 (.d x)=[]:=rfl
@[simp] theorem ids1_nilS:V.ids1 (.nilS)=[]:=rfl
@[simp] theorem ids1_ro (cs:List D):V.ids1 (.ro cs)=[]:=rfl
@[simp] theorem ids1_dead:V.ids1 (.dead)=[]:=rfl
@[simp] theorem ids1_emp:V.ids1 .emp=[]:=rfl
@[simp] theorem ids1_sl (a b c d:Nat):V.ids1 (.sl a b c d)=[a]:=rfl
@[simp] theorem ids1_arr (a b:Nat):V.ids1 (.arr a b)=[a]:=rfl
@[simp] theorem ids1_ptr (a b:Nat):V.ids1 (.ptr a b)=[a]:=rfl
@[simp] theorem ids1_eptr (a b c d:Nat):V.ids1 (.eptr a b c d)=[a]:=rfl
@[simp] theorem ids1_mp (a:Nat):V.ids1 (.mp a)=[a]:=rfl
@[simp] theorem ids1_clo (g:FuncId) (l:List V):V.ids1 (.clo g l)=l.flatMap V.ids0:=rfl
@[simp] theorem ids2_d (x:D):V.ids2 (.d x)=[]:=rfl
@[simp] theorem ids2_nilS:V.ids2 (.nilS)=[]:=rfl
@[simp] theorem ids2_ro (cs:List D):V.ids2 (.ro cs)=[]:=rfl
@[simp] theorem ids2_dead:V.ids2 (.dead)=[]:=rfl
@[simp] theorem ids2_emp:V.ids2 .emp=[]:=rfl
@[simp] theorem ids2_sl (a b c d:Nat):V.ids2 (.sl a b c d)=[a]:=rfl
@[simp] theorem ids2_arr (a b:Nat):V.ids2 (.arr a b)=[a]:=rfl
@[simp] theorem ids2_ptr (a b:Nat):V.ids2 (.ptr a b)=[a]:=rfl
@[simp] theorem ids2_eptr (a b c d:Nat):V.ids2 (.eptr a b c d)=[a]:=rfl
@[simp] theorem ids2_mp (a:Nat):V.ids2 (.mp a)=[a]:=rfl
@[simp] theorem ids2_clo (g:FuncId) (l:List V):V.ids2 (.clo g l)=l.flatMap V.ids0:=rfl
@[simp] theorem ids2_agg (l:List V):V.ids2 (.agg l)=l.flatMap V.ids1:=rfl
@[simp] theorem ids_d (x:D):V.ids (.d x)=[]:=rfl
@[simp] theorem ids_nilS:V.ids (.nilS)=[]:=rfl
@[simp] theorem ids_ro (cs:List D):V.ids (.ro cs)=[]:=rfl
@[simp] theorem ids_dead:V.ids (.dead)=[]:=rfl
@[simp] theorem ids_emp:V.ids .emp=[]:=rfl
@[simp] theorem ids_sl (a b c d:Nat):V.ids (.sl a b c d)=[a]:=rfl
@[simp] theorem ids_arr (a b:Nat):V.ids (.arr a b)=[a]:=rfl
@[simp] theorem ids_ptr (a b:Nat):V.ids (.ptr a b)=[a]:=rfl
@[simp] theorem ids_eptr (a b c d:Nat):V.ids (.eptr a b c d)=[a]:=rfl
@[simp] theorem ids_mp (a:Nat):V.ids (.mp a)=[a]:=rfl
@[simp] theorem ids_clo (g:FuncId) (l:List V):V.ids (.clo g l)=l.flatMap V.ids0:=rfl
@[simp] theorem ids_agg (l:List V):V.ids (.agg l)=l.flatMap V.ids1:=rfl
@[simp] theorem ids_tup (l:List V):V.ids (.tup l)=l.flatMap V.ids2:=rfl
@[simp] theorem objren_box (f:Nat→Option Nat) (cs:List V):Obj.ren f (.box cs)=(cs.mapM (V.ren1 f)).map .box:=rfl
@[simp] theorem objren_arr (f:Nat→Option Nat) (sz:Nat) (xs:List D) (wm:Nat):Obj.ren f (.arr sz xs wm)=some (.arr sz xs wm):=rfl
@[simp] theorem objren_miter (f:Nat→Option Nat) (m:Nat):Obj.ren f (.miter m)=(f m).map .miter:=rfl
@[simp] theorem objren_siter (f:Nat→Option Nat) (s:ByteArray) (n:Nat):Obj.ren f (.siter s n)=some (.siter s n):=rfl
@[simp] theorem objids_box (cs:List V):Obj.ids (.box cs)=cs.flatMap V.ids1:=rfl
@[simp] theorem objids_arr (sz:Nat) (xs:List D) (wm:Nat):Obj.ids (.arr sz xs wm)=[]:=rfl
@[simp] theorem objren_map (f:Nat→Option Nat) (es:List (D × V)) (bs:List Nat) (ck:Nat):Obj.ren f (.map es bs ck)=some (.map es bs ck):=rfl
@[simp] theorem objids_map (es:List (D × V)) (bs:List Nat) (ck:Nat):Obj.ids (.map es bs ck)=[]:=rfl
@[simp] theorem objids_miter (m:Nat):Obj.ids (.miter m)=[m]:=rfl
@[simp] theorem objids_siter (s:ByteArray) (n:Nat):Obj.ids (.siter s n)=[]:=rfl
@[simp] theorem place_nil (i:Nat):place [] i=none:=rfl
@[simp] theorem place_cons (x:Nat) (xs:List Nat) (i:Nat):place (x::xs) i=bif x == i then some 0 else (place xs i).map (·+1):=by simp only[place,cond_eq_ite,beq_iff_eq]
@[simp] theorem dc_agg (l:List D):(D.agg l).cells=l:=rfl
@[simp] theorem dc_int (k:IntKind) (n:Int):(D.int k n).cells=[.int k n]:=rfl
@[simp] theorem dc_bool (b:Bool):(D.bool b).cells=[.bool b]:=rfl
@[simp] theorem dc_str (s:ByteArray):(D.str s).cells=[.str s]:=rfl
@[simp] theorem dc_list (l:List D):(D.list l).cells=[.list l]:=rfl
@[simp] theorem dc_nilI:D.nilI.cells=[.nilI]:=rfl
@[simp] theorem dc_nilP:D.nilP.cells=[.nilP]:=rfl
@[simp] theorem dc_nilM:D.nilM.cells=[.nilM]:=rfl
@[simp] theorem dc_nilF:D.nilF.cells=[.nilF]:=rfl
@[simp] theorem dc_err:D.err.cells=[.err]:=rfl
@[simp] theorem dc_iface (t:TypeId) (x:D):(D.iface t x).cells=[.iface t x]:=rfl
@[simp] theorem dc_fn (f:FuncId):(D.fn f).cells=[.fn f]:=rfl
@[simp] theorem vc_agg (l:List V):(V.agg l).cells=l:=rfl
@[simp] theorem vc_dagg (l:List D):(V.d (.agg l)).cells=l.map .d:=rfl
@[simp] theorem vc_int (k:IntKind) (n:Int):(V.d (.int k n)).cells=[.d (.int k n)]:=rfl
@[simp] theorem vc_bool (b:Bool):(V.d (.bool b)).cells=[.d (.bool b)]:=rfl
@[simp] theorem vc_str (s:ByteArray):(V.d (.str s)).cells=[.d (.str s)]:=rfl
@[simp] theorem vc_list (l:List D):(V.d (.list l)).cells=[.d (.list l)]:=rfl
@[simp] theorem vc_nilI:(V.d .nilI).cells=[.d .nilI]:=rfl
@[simp] theorem vc_nilM:(V.d .nilM).cells=[.d .nilM]:=rfl
@[simp] theorem vc_nilP:(V.d .nilP).cells=[.d .nilP]:=rfl
@[simp] theorem vc_nilF:(V.d .nilF).cells=[.d .nilF]:=rfl
@[simp] theorem vc_err:(V.d .err).cells=[.d .err]:=rfl
@[simp] theorem vc_iface (t:TypeId) (x:D):(V.d (.iface t x)).cells=[.d (.iface t x)]:=rfl
@[simp] theorem vc_fn (f:FuncId):(V.d (.fn f)).cells=[.d (.fn f)]:=rfl
@[simp] theorem vc_nilS:V.nilS.cells=[.nilS]:=rfl
@[simp] theorem vc_arr (a b:Nat):(V.arr a b).cells=[.arr a b]:=rfl
@[simp] theorem vc_emp:V.emp.cells=[.emp]:=rfl
@[simp] theorem vc_sl (a b c d:Nat):(V.sl a b c d).cells=[.sl a b c d]:=rfl
@[simp] theorem vc_ptr (a b:Nat):(V.ptr a b).cells=[.ptr a b]:=rfl
@[simp] theorem vc_eptr (a b c d:Nat):(V.eptr a b c d).cells=[.eptr a b c d]:=rfl
@[simp] theorem vc_clo (f:FuncId) (l:List V):(V.clo f l).cells=[.clo f l]:=rfl
def guardO {α:Type} (p:Prop) [Decidable p] (x:Option α):Option α:=if p then x else none
@[simp] theorem guardO_true {α:Type} (x:Option α):guardO True x=x:=rfl
@[simp] theorem guardO_false {α:Type} (x:Option α):guardO False x=none:=rfl
@[simp] theorem guardO_pos {α:Type} {p:Prop} [Decidable p] (x:Option α) (h:p):guardO p x=x:=if_pos h
@[congr] theorem guardO_congr {α:Type} {p q:Prop} [Decidable p] [Decidable q] {x:Option α} (h:p=q):guardO p x=guardO q x:=by cases h;unfold guardO;congr
@[simp] theorem ite_guard {α:Type} (p:Prop) [Decidable p] (x:Option α):(if p then x else none)=guardO p x:=rfl
theorem ite_guard_and {α:Type} (p q:Prop) [Decidable p] [Decidable q] (x:Option α):(if p∧q then x else none)=guardO p (guardO q x):=by
 unfold guardO
 by_cases hp:p <;> by_cases hq:q <;> simp[hp,hq]
@[simp] theorem guard_and {α:Type} (p q:Prop) [Decidable p] [Decidable q] (x:Option α):guardO (p∧q) x=guardO p (guardO q x):=ite_guard_and p q x
@[simp] theorem ite_guard_not {α:Type} (p:Prop) [Decidable p] (x:Option α):(if p then none else x)=guardO (¬ p) x:=by
 unfold guardO
 by_cases hp:p <;> simp[hp]
@[simp] theorem intBin_add (k:IntKind) (x y:Int):intBin .add k x y=some (.int k (k.wrap (x+y))):=rfl
@[simp] theorem intBin_sub (k:IntKind) (x y:Int):intBin .sub k x y=some (.int k (k.wrap (x - y))):=rfl
@[simp] theorem intBin_mul (k:IntKind) (x y:Int):intBin .mul k x y=some (.int k (k.wrap (x*y))):=rfl
@[simp] theorem intBin_quo (k:IntKind) (x y:Int):intBin .quo k x y=guardO (¬ y=0) (some (.int k (k.wrap (x.tdiv y)))):=ite_guard_not _ _
@[simp] theorem intBin_rem (k:IntKind) (x y:Int):intBin .rem k x y=guardO (¬ y=0) (some (.int k (x.tmod y))):=ite_guard_not _ _
@[simp] theorem intBin_eql (k:IntKind) (x y:Int):intBin .eql k x y=some (.bool (decide (x=y))):=by simp only[intBin];congr 2
@[simp] theorem intBin_neq (k:IntKind) (x y:Int):intBin .neq k x y=some (.bool (!decide (x=y))):=by simp only[intBin];congr 2
@[simp] theorem intBin_lss (k:IntKind) (x y:Int):intBin .lss k x y=some (.bool (decide (x<y))):=rfl
@[simp] theorem intBin_leq (k:IntKind) (x y:Int):intBin .leq k x y=some (.bool (decide (x≤y))):=rfl
@[simp] theorem intBin_gtr (k:IntKind) (x y:Int):intBin .gtr k x y=some (.bool (decide (y<x))):=rfl
@[simp] theorem intBin_geq (k:IntKind) (x y:Int):intBin .geq k x y=some (.bool (decide (y≤x))):=rfl
@[simp] theorem bytes_of_map (l:List UInt8):(l.map byteD).mapM byteOf?=some l:=by
 induction l with
 |nil=>rfl
 |cons b l ih=>
  simp only[List.map_cons,List.mapM_cons,ih,byteD,byteOf?,Int.toNat_natCast]
  simp
structure Tok {α:Type} (a:α):Type where
section
variable {P:Program} {G:Nat→Option (List D)} {K:Keeps} {S:Hints} {run:Run} {F k b:Nat} {α β:Type}
def seqT (x:Res) (f:Slots→List Obj→Res) (_:Tok f):Res:=onNormal x f
def bindT (x:Option α) (f:α→Option β) (_:Tok f):Option β:=obind x f
def condT (v:V) (f:Bool→Option α) (_:Tok f):Option α:=
 match v with
 |.d (.bool z)=>f z
 |_=>none
noncomputable def codeT (P:Program) (G:Nat→Option (List D)) (K:Keeps) (S:Hints) (run:Run) (F k b:Nat) (c:Code) (_:Tok c) (s:Slots) (h:List Obj):Res:=codeV P G K S run loops F k b c s h
noncomputable def opsT (P:Program) (G:Nat→Option (List D)) (run:Run) (all:List Oper) (hint:List Nat) (hv:List Obj) (i:Nat) (rest:List Oper) (_:Tok (all,rest)) (s:Slots) (h:List Obj):Option (Slots × List Obj):=opsV P G run all hint hv i rest s h
noncomputable def opT (P:Program) (G:Nat→Option (List D)) (run:Run) (hint:List Nat) (hv:List Obj) (i:Nat) (o:Oper) (_:Tok o) (s:Slots) (h:List Obj):Option (V × List Obj):=execI P G run hint hv i s h o
noncomputable def loopT (keep:Option (List (Nat × Nat))) (k:Nat) (f:Slots→List Obj→Res) (_:Tok f) (s:Slots) (h:List Obj):Res:=
 match keep with
 |some l=>hloop k l f s h
 |none=>loops f s h
@[simp] theorem seqT_normal (s:Slots) (h:List Obj) (f:Slots→List Obj→Res) (t:Tok f):seqT (some (.normal,s,h)) f t=f s h:=rfl
@[simp] theorem seqT_exit (i:Nat) (s:Slots) (h:List Obj) (f:Slots→List Obj→Res) (t:Tok f):seqT (some (.exit i,s,h)) f t=some (.exit i,s,h):=rfl
@[simp] theorem seqT_ret (s:Slots) (h:List Obj) (f:Slots→List Obj→Res) (t:Tok f):seqT (some (.ret,s,h)) f t=some (.ret,s,h):=rfl
@[simp] theorem bindT_some (a:α) (f:α→Option β) (t:Tok f):bindT (some a) f t=f a:=rfl
@[simp] theorem bindT_none (f:α→Option β) (t:Tok f):bindT none f t=none:=rfl
@[simp] theorem seqT_none (f:Slots→List Obj→Res) (t:Tok f):seqT none f t=none:=rfl
@[simp] theorem condT_true (f:Bool→Option α) (t:Tok f):condT (.d (.bool true)) f t=f true:=rfl
@[simp] theorem condT_false (f:Bool→Option α) (t:Tok f):condT (.d (.bool false)) f t=f false:=rfl
@[simp] theorem condT_not (c:Bool) (f:Bool→Option α) (t:Tok f):condT (.d (.bool !c)) f t=condT (.d (.bool c)) (fun z=>match z with | true=>f false | false=>f true) ⟨⟩:=by cases c <;> rfl
@[simp] theorem seqT_cond (v:V) (f:Bool→Res) (t:Tok f) (g:Slots→List Obj→Res) (u:Tok g):seqT (condT v f t) g u=condT v (fun z=>seqT (f z) g ⟨⟩) ⟨⟩:=by
 cases v with
 |d x=>cases x <;> rfl
 |_=>rfl
@[simp] theorem bindT_cond (v:V) (f:Bool→Option α) (t:Tok f) (g:α→Option β) (u:Tok g):bindT (condT v f t) g u=condT v (fun z=>bindT (f z) g ⟨⟩) ⟨⟩:=by
 cases v with
 |d x=>cases x <;> rfl
 |_=>rfl
@[simp] theorem leave_cond (id:Nat) (v:V) (f:Bool→Res) (t:Tok f):leave id (condT v f t)=condT v (fun z=>leave id (f z)) ⟨⟩:=by
 cases v with
 |d x=>cases x <;> rfl
 |_=>rfl
theorem cond_any {T:Option α→Prop} {c:Bool} {f:Bool→Option α} {t:Tok f} (h1:c=true→T (f true)) (h0:c=false→T (f false)):T (condT (.d (.bool c)) f t):=by
 cases c
 ·exact h0 rfl
 ·exact h1 rfl
def bind1 (x:α) (f:α→β) (_:Tok f):β:=f x
@[simp] theorem bind1_eq (x:α) (f:α→β) (t:Tok f):bind1 x f t=f x:=rfl
@[simp] theorem sget_nil (t:Nat):sget [] t= .dead:=rfl
@[simp] theorem sget_cons (i:Nat) (v:V) (r:Slots) (t:Nat):sget ((i,v)::r) t=bif i == t then v else sget r t:=by
 simp only[sget,cond_eq_ite,beq_iff_eq]
def keepStep (v:V) (sz t:Nat) (s:Slots) (h:List Obj) (r:List (Nat × Nat)):Slots × List Obj:=
 match v,sz with
 |.nilS,sz+1=>let (s1,h1):=keepSlots s (h++[.arr (sz+1) [] 0]) r;((t,.arr h.length 0)::s1,h1)
 |v,_=>let (s1,h1):=keepSlots s h r;((t,v)::s1,h1)
@[simp] theorem keepSlots_nil (s:Slots) (h:List Obj):keepSlots s h []=([],h):=rfl
@[simp] theorem keepSlots_cons (s:Slots) (h:List Obj) (t sz:Nat) (r:List (Nat × Nat)) (ht:t<1000000):keepSlots s h ((t,sz)::r)=keepStep (sget s t) sz t s h r:=by
 unfold keepSlots
 rw[if_pos ht];rfl
def keepData (p:Option (D × List Obj)) (t:Nat) (s:Slots) (r:List (Nat × Nat)):Slots × List Obj:=
 match p with
 |some (x,h0)=>let (s1,h1):=keepSlots s h0 r;((t,.d x)::s1,h1)
 |none=>([],[])
@[simp] theorem keepData_some (x:D) (h0:List Obj) (t:Nat) (s:Slots) (r:List (Nat × Nat)):keepData (some (x,h0)) t s r=bind1 (keepSlots s h0 r) (fun p=>((t,.d x)::p.1,p.2)) ⟨⟩:=rfl
theorem keepSlots_data {s:Slots} {h:List Obj} {t sz:Nat} {r:List (Nat × Nat)} {p:D × List Obj} (hp:pureV h (sget s t)=some p):keepSlots s h ((t+1000000,sz)::r)=keepData (pureV h (sget s t)) t s r:=by
 unfold keepSlots
 rw[if_neg (by omega),Nat.add_sub_cancel,hp]
 rfl
@[simp] theorem keepSlots_list {s:Slots} {h:List Obj} {t sz:Nat} {r:List (Nat × Nat)} {x:List D} (hp:sget s t= .d (.list x)):keepSlots s h ((t+1000000,sz)::r)=bind1 (keepSlots s h r) (fun p=>((t,.d (.list x))::p.1,p.2)) ⟨⟩:=by
 rw[keepSlots_data (p:=(.list x,h)) (by rw[hp];rfl),hp];rfl
@[simp] theorem keepSlots_own {s:Slots} {h:List Obj} {t sz:Nat} {r:List (Nat × Nat)} {id n:Nat} (hp:sget s t= .arr id n) (hd:(pureV h (.arr id n)).isSome=true):keepSlots s h ((t+1000000,sz)::r)=keepData (pureV h (.arr id n)) t s r:=by
 obtain⟨p,e⟩:=Option.isSome_iff_exists.1 hd
 rw[keepSlots_data (p:=p) (by rw[hp];exact e),hp]
@[simp] theorem keepStep_zero (v:V) (t:Nat) (s:Slots) (h:List Obj) (r:List (Nat × Nat)):keepStep v 0 t s h r=bind1 (keepSlots s h r) (fun p=>((t,v)::p.1,p.2)) ⟨⟩:=by
 cases v <;> rfl
@[simp] theorem keepStep_nilS (sz t:Nat) (s:Slots) (h:List Obj) (r:List (Nat × Nat)):keepStep .nilS (sz+1) t s h r=bind1 (keepSlots s (h++[.arr (sz+1) [] 0]) r) (fun p=>((t,.arr h.length 0)::p.1,p.2)) ⟨⟩:=rfl
@[simp] theorem keepStep_arr (a b sz t:Nat) (s:Slots) (h:List Obj) (r:List (Nat × Nat)):keepStep (.arr a b) (sz+1) t s h r=bind1 (keepSlots s h r) (fun p=>((t,.arr a b)::p.1,p.2)) ⟨⟩:=rfl
@[simp] theorem keepStep_sl (a b c d sz t:Nat) (s:Slots) (h:List Obj) (r:List (Nat × Nat)):keepStep (.sl a b c d) (sz+1) t s h r=bind1 (keepSlots s h r) (fun p=>((t,.sl a b c d)::p.1,p.2)) ⟨⟩:=rfl
@[simp] theorem keepStep_emp (sz t:Nat) (s:Slots) (h:List Obj) (r:List (Nat × Nat)):keepStep .emp (sz+1) t s h r=bind1 (keepSlots s h r) (fun p=>((t,.emp)::p.1,p.2)) ⟨⟩:=rfl
@[simp] theorem keepStep_d (x:D) (sz t:Nat) (s:Slots) (h:List Obj) (r:List (Nat × Nat)):keepStep (.d x) (sz+1) t s h r=bind1 (keepSlots s h r) (fun p=>((t,.d x)::p.1,p.2)) ⟨⟩:=rfl
@[simp] theorem renSlots_nil (f:Nat→Option Nat):renSlots f []=some []:=rfl
@[simp] theorem renSlots_cons (f:Nat→Option Nat) (t:Nat) (v:V) (r:Slots):renSlots f ((t,v)::r)=bindT (V.ren f v) (fun u=>bindT (renSlots f r) (fun l=>some ((t,u)::l)) ⟨⟩) ⟨⟩:=by
 simp only[renSlots,List.mapM_cons,bindT]
 cases V.ren f v with
 |none=>rfl
 |some u=>cases List.mapM (fun (p:Nat × V)=>Option.map (fun v=>(p.1,v)) (V.ren f p.2)) r <;> rfl
def takeObj (h:List Obj) (f:Nat→Option Nat) (i:Nat):Option Obj:=(h[i]?).bind (Obj.ren f)
@[simp] theorem takeObj_zero (o:Obj) (h:List Obj) (f:Nat→Option Nat):takeObj (o::h) f 0=Obj.ren f o:=rfl
@[simp] theorem takeObj_succ (o:Obj) (h:List Obj) (f:Nat→Option Nat) (i:Nat):takeObj (o::h) f (i+1)=takeObj h f i:=rfl
@[simp] theorem takeObjs_nil (h:List Obj) (f:Nat→Option Nat):takeObjs h f []=some []:=rfl
@[simp] theorem takeObjs_cons (h:List Obj) (f:Nat→Option Nat) (i:Nat) (l:List Nat):takeObjs h f (i::l)=bindT (takeObj h f i) (fun o=>bindT (takeObjs h f l) (fun os=>some (o::os)) ⟨⟩) ⟨⟩:=by
 simp only[takeObjs,List.mapM_cons,bindT,takeObj]
 cases (h[i]?).bind (Obj.ren f) with
 |none=>rfl
 |some u=>cases List.mapM (fun i=>(h[i]?).bind (Obj.ren f)) l <;> rfl
@[simp] theorem norm_eq (k:Nat) (keep:List (Nat × Nat)) (s:Slots) (h:List Obj):norm k keep s h=
 bind1 (keepSlots s h keep) (fun p=>bind1 (reach p.2 (addIds (List.range k) (p.1.flatMap fun q=>q.2.ids))) (fun ids=>bindT (renSlots (place ids) p.1) (fun s2=>bindT (takeObjs p.2 (place ids) ids) (fun h2=>some (s2,h2)) ⟨⟩) ⟨⟩) ⟨⟩) ⟨⟩:=by
 simp only[norm,bind1,bindT,obind]
 cases renSlots (place (reach (keepSlots s h keep).2 (addIds (List.range k) ((keepSlots s h keep).1.flatMap fun q=>q.2.ids)))) (keepSlots s h keep).1 with
 |none=>rfl
 |some s2=>cases takeObjs (keepSlots s h keep).2 (place (reach (keepSlots s h keep).2 (addIds (List.range k) ((keepSlots s h keep).1.flatMap fun q=>q.2.ids)))) (reach (keepSlots s h keep).2 (addIds (List.range k) ((keepSlots s h keep).1.flatMap fun q=>q.2.ids))) <;> rfl
@[simp] theorem callWith_eq (rf:Bool) (f:FuncId) (args:List V) (h:List Obj):callWith rf run f args h=
 bindT (argVs rf h args) (fun p=>bind1 (reach p.2 (addIds [] (p.1.flatMap V.ids))) (fun ids=>bindT (p.1.mapM (V.ren (place ids))) (fun as2=>bindT (takeObjs p.2 (place ids) ids) (fun hin=>
  bindT (run f as2 hin) (fun q=>bindT (q.1.mapM (V.ren (back ids p.2.length))) (fun rets2=>bindT (q.2.mapM (Obj.ren (back ids p.2.length))) (fun hout2=>some (one rets2,setAll p.2 ids hout2++hout2.drop ids.length)) ⟨⟩) ⟨⟩) ⟨⟩) ⟨⟩) ⟨⟩) ⟨⟩) ⟨⟩:=by
 simp only[callWith,bind1,bindT]
 cases argVs rf h args with
 |none=>rfl
 |some p=>
  obtain⟨as,h1⟩:=p
  simp only[obind]
  cases as.mapM (V.ren (place (reach h1 (addIds [] (as.flatMap V.ids))))) with
  |none=>rfl
  |some as2=>
   simp only
   cases takeObjs h1 (place (reach h1 (addIds [] (as.flatMap V.ids)))) (reach h1 (addIds [] (as.flatMap V.ids))) with
   |none=>rfl
   |some hin=>
    simp only
    cases run f as2 hin with
    |none=>rfl
    |some q=>
     obtain⟨rets,hout⟩:=q
     simp only
     cases rets.mapM (V.ren (back (reach h1 (addIds [] (as.flatMap V.ids))) h1.length)) with
     |none=>rfl
     |some r2=>cases hout.mapM (Obj.ren (back (reach h1 (addIds [] (as.flatMap V.ids))) h1.length)) <;> rfl
@[simp] theorem callThaw_eq (f:FuncId) (args:List V) (h:List Obj):callThaw run f args h=
 bindT (argVs false h args) (fun p=>bindT (run f p.1 []) (fun q=>bindT (bif args.all argPure && q.1.all V.flat && q.2.all Obj.flat then some () else none) (fun _=>bindT (q.1.mapM (V.ren (back [] h.length))) (fun rets2=>bindT (q.2.mapM (Obj.ren (back [] h.length))) (fun hout2=>some (one rets2,h++hout2)) ⟨⟩) ⟨⟩) ⟨⟩) ⟨⟩) ⟨⟩:=by
 simp only[callThaw,bindT]
 cases argVs false h args with
 |none=>rfl
 |some p=>
  obtain⟨as,h1⟩:=p
  simp only[obind]
  cases run f as [] with
  |none=>rfl
  |some q=>
   obtain⟨rets,hout⟩:=q
   simp only
   cases args.all argPure && rets.all V.flat && hout.all Obj.flat with
   |false=>rfl
   |true=>
    simp only[if_true,cond_true]
    cases rets.mapM (V.ren (back [] h.length)) with
    |none=>rfl
    |some r2=>cases hout.mapM (Obj.ren (back [] h.length)) <;> rfl
@[simp] theorem finish_eq (k:Nat) (ts:List TypeId) (vs:List V) (h:List Obj):finish P k ts vs h=
 bind1 (solid P h vs ts) (fun p=>bind1 (reach p.2 (addIds (List.range k) (p.1.flatMap V.ids))) (fun ids=>bindT (p.1.mapM (V.ren2 (place ids))) (fun ws=>bindT (takeObjs p.2 (place ids) ids) (fun h2=>some (ws,h2)) ⟨⟩) ⟨⟩) ⟨⟩) ⟨⟩:=by
 simp only[finish,bind1,bindT,obind]
 generalize solid P h vs ts=p
 cases p.1.mapM (V.ren2 (place (reach p.2 (addIds (List.range k) (p.1.flatMap V.ids))))) with
 |none=>rfl
 |some s2=>cases takeObjs p.2 (place (reach p.2 (addIds (List.range k) (p.1.flatMap V.ids)))) (reach p.2 (addIds (List.range k) (p.1.flatMap V.ids))) <;> rfl
@[simp ↓] theorem codeT_skip {t} {s:Slots} {h:List Obj}:codeT P G K S run F k b .skip t s h=some (.normal,s,h):=rfl
@[simp ↓] theorem codeT_seq {x y:Code} {t} {s:Slots} {h:List Obj}:codeT P G K S run F k b (.seq x y) t s h=seqT (codeT P G K S run F k b x ⟨⟩ s h) (fun s1 h1=>codeT P G K S run F k b y ⟨⟩ s1 h1) ⟨⟩:=rfl
@[simp ↓] theorem codeT_cond {c:Operand} {x y:Code} {t} {s:Slots} {h:List Obj}:
 codeT P G K S run F k b (.cond c x y) t s h=condT (ev G s c) (fun z=>match z with | true=>codeT P G K S run F k b x ⟨⟩ s h | false=>codeT P G K S run F k b y ⟨⟩ s h) ⟨⟩:=by
 show branch (ev G s c) _ _=_
 cases ev G s c with
 |d z=>
  cases z with
  |bool z=>cases z <;> rfl
  |_=>rfl
 |_=>rfl
@[simp ↓] theorem codeT_block {id:Nat} {c:Code} {t} {s:Slots} {h:List Obj}:codeT P G K S run F k b (.block id c) t s h=leave id (codeT P G K S run F k id c ⟨⟩ s h):=rfl
@[simp ↓] theorem codeT_exit {id:Nat} {t} {s:Slots} {h:List Obj}:codeT P G K S run F k b (.exit id) t s h=some (.exit id,s,h):=rfl
@[simp ↓] theorem codeT_ret {t} {s:Slots} {h:List Obj}:codeT P G K S run F k b .ret t s h=some (.ret,s,h):=rfl
@[simp ↓] theorem codeT_loop {c:Code} {t} {s:Slots} {h:List Obj}:codeT P G K S run F k b (.loop c) t s h=loopT (K F b) k (fun s h=>codeT P G K S run F k b c ⟨⟩ s h) ⟨⟩ s h:=by
 unfold loopT codeT
 cases e:K F b with
 |some keep=>rw[codeV_loop e]
 |none=>simp only[codeV,e]
noncomputable def rangeT (keep:List (Nat × Nat)) (k:Nat) (round:List D→Slots→List Obj→Res) (_:Tok round) (l:List (List D)) (s:Slots) (h:List Obj):Res:=obind (norm k keep s h) fun q=>rangeV round k keep l q.1 q.2
def seqN (x:Res) (f:Slots→List Obj→Res) (_:Tok f):Res:=
 match x with
 |some (.normal,s,h)=>f s h
 |_=>none
def seqR (x:Res) (s:Slots) (f:List Obj→Res) (_:Tok f):Res:=
 match x with
 |some (.normal,_,h)=>f h
 |some (o,_,h)=>some (o,s,h)
 |none=>none
@[simp] theorem seqN_normal (s:Slots) (h:List Obj) (f:Slots→List Obj→Res) (t:Tok f):seqN (some (.normal,s,h)) f t=f s h:=rfl
@[simp] theorem seqR_normal (s s':Slots) (h:List Obj) (f:List Obj→Res) (t:Tok f):seqR (some (.normal,s',h)) s f t=f h:=rfl
@[simp] theorem seqR_exit (i:Nat) (s s':Slots) (h:List Obj) (f:List Obj→Res) (t:Tok f):seqR (some (.exit i,s',h)) s f t=some (.exit i,s,h):=rfl
@[simp] theorem seqR_ret (s s':Slots) (h:List Obj) (f:List Obj→Res) (t:Tok f):seqR (some (.ret,s',h)) s f t=some (.ret,s,h):=rfl
@[simp] theorem seqR_cond (v:V) (f:Bool→Res) (t:Tok f) (s:Slots) (g:List Obj→Res) (u:Tok g):seqR (condT v f t) s g u=condT v (fun z=>seqR (f z) s g ⟨⟩) ⟨⟩:=by
 cases v with
 |d x=>cases x <;> rfl
 |_=>rfl
def iterB (i j:Nat):Option Obj→Option Obj→Option (Nat × Nat × List (List D))
 |some (.box [.d (.list xs)]),some (.box [.d (.int .i64 n)])=>if 0<n∧n≤65536∧xs.length≤65536∧allSize 1 xs then some (i,j,chunkL n.toNat xs.length xs) else none
 |_,_=>none
@[simp] theorem iterV_clo (h:List Obj) (g i j:Nat):iterV G h (.clo g [.ptr i 0,.ptr j 0])=bif chunks G g then iterB i j h[i]? h[j]? else none:=by
 cases e:chunks G g <;> simp only[iterV,e,cond_true,cond_false,if_true,Bool.false_eq_true,if_false]
 rfl
@[simp] theorem iterB_eq (i j:Nat) (xs:List D) (n:Int):iterB i j (some (.box [.d (.list xs)])) (some (.box [.d (.int .i64 n)]))=guardO (0<n∧n≤65536∧xs.length≤65536∧allSize 1 xs=true) (some (i,j,chunkL n.toNat xs.length xs)):=rfl
@[simp] theorem loose_eq (k:Nat) (keep:List (Nat × Nat)) (s:Slots) (h:List Obj) (i:Nat):loose k keep s h i=bind1 (keepSlots s h keep) (fun p=>bind1 (reach p.2 (addIds (List.range k) (p.1.flatMap fun q=>q.2.ids))) (fun ids=> !ids.contains i) ⟨⟩) ⟨⟩:=rfl
@[simp ↓] theorem codeT_range {f:Operand} {p:Tmp} {x y:Code} {t} {s:Slots} {h:List Obj}:codeT P G K S run F k b (.rangeFunc f #[p] x y) t s h=
 bindT (K F b) (fun keep=>bindT (iterV G h (ev G s f)) (fun it=>bindT (bif loose k keep s h it.1 && loose k keep s h it.2.1 then some () else none) (fun _=>
  rangeT keep k (fun z s h=>seqN (codeT P G K S run F h.length b x ⟨⟩ ((p,.d (.list z))::s) h) (fun s1 h1=>codeT P G K S run F h.length b y ⟨⟩ s1 h1) ⟨⟩) ⟨⟩ it.2.2 s h) ⟨⟩) ⟨⟩) ⟨⟩:=by
 unfold codeT rangeT
 simp only[codeV,bindT]
 cases K F b with
 |none=>rfl
 |some keep=>
  simp only[obind]
  cases iterV G h (ev G s f) with
  |none=>rfl
  |some it=>
   simp only
   cases loose k keep s h it.1 && loose k keep s h it.2.1 with
   |false=>rfl
   |true=>rfl
attribute [simp] rangeOpV nextV nextM allD
@[simp] theorem callData_eq (f:FuncId) (args:List V):callData run f args=bif allD args then bindT (run f args []) (fun q=>bif q.2.isEmpty && allD q.1 then some (one q.1) else none) ⟨⟩ else none:=by
 unfold callData bindT
 cases allD args with
 |false=>rfl
 |true=>
  simp only[if_true,cond_true]
  cases run f args [] with
  |none=>rfl
  |some q=>simp only[obind];cases q.2.isEmpty && allD q.1 <;> rfl
@[simp] theorem iterStep_lt {h:List Obj} {id:Nat} {s:ByteArray} {pos:Nat} (e:pos<s.size):iterStep h id s pos=(.tup [.d (.bool true),.d (.int .i64 pos),.d (.int .i32 (Utf8.decode s pos).1)],h.set id (.siter s (pos+(Utf8.decode s pos).2))):=if_pos e
@[simp] theorem iterStep_end {h:List Obj} {id:Nat} {s:ByteArray}:iterStep h id s s.size=(.tup [.d (.bool false)],h):=if_neg (Nat.lt_irrefl _)
attribute [simp] D.flat V.flat Obj.flat flatL
theorem flatL_map {α:Type} (f:α→D) (hf: ∀x,(f x).flat=true): ∀l:List α,flatL (l.map f)=true
 |[]=>rfl
 |x::l=>by
  show ((f x).flat && flatL (l.map f))=true
  rw[hf x,flatL_map f hf l];rfl
@[simp] theorem flatL_bytes (l:List UInt8):flatL (l.map byteD)=true:=flatL_map _ (fun _=>rfl) l
@[simp] theorem flatL_ints {α:Type} (k:IntKind) (f:α→Int) (l:List α):flatL (l.map fun x=>D.int k (f x))=true:=flatL_map _ (fun _=>rfl) l
@[simp] theorem flatL_i64 (l:List Int):flatL (l.map fun n=>D.int .i64 n)=true:=flatL_map _ (fun _=>rfl) l
@[simp] theorem flatL_strs (l:List ByteArray):flatL (l.map D.str)=true:=flatL_map _ (fun _=>rfl) l
@[simp] theorem flatL_append: ∀ (a b:List D),flatL (a++b)=(flatL a && flatL b)
 |[],b=>rfl
 |x::a,b=>by
  show (x.flat && flatL (a++b))=(x.flat && flatL a && flatL b)
  rw[flatL_append a b,Bool.and_assoc]
@[simp ↓] theorem roots_nil {all:List Oper}:roots all []=[]:=rfl
@[simp ↓] theorem roots_slice {all r:List Oper} {dst:Option Tmp} {t:Tmp} {ty y:TypeId} {lo hi mx:Option Operand} {pos:String} {after:Array Edge} {g:Option (Nat × Bool)}:roots all (⟨dst,.slice ty (.tmp t) lo hi mx,y,pos,after,g⟩::r)=rootOf all t::roots all r:=rfl
@[simp ↓] theorem roots_cons {all r:List Oper} {o:Oper}:roots all (o::r)=match o.op with | .slice _ (.tmp t) _ _ _=>rootOf all t::roots all r | _=>roots all r:=rfl
@[simp ↓] theorem rootOf_nil {t:Tmp}:rootOf [] t=t:=rfl
@[simp ↓] theorem rootOf_cons {r:List Oper} {o:Oper} {t:Tmp}:rootOf (o::r) t=match o.op with | .move (.tmp x)=>(if o.dst=some t then x else rootOf r t) | _=>rootOf r t:=rfl
def isLoadAt (ops:List Oper) (i:Nat):Bool:=match ops[i]? with | some o=>(match o.op with | .load .. =>true | .alloc .. =>true | _=>false) | none=>false
@[simp ↓] theorem codeT_region {id:Nat} {ops:List Oper} {draw:Bool} {t} {s:Slots} {h:List Obj}:
 codeT P G K S run F k b (.region id ops.toArray draw) t s h=bindT (some (hasSlice ops && !hasStore ops && !byRef G F)) (fun c=>bindT (match c with | true=>birthH P ops (bif draw then S F id else []) (coolH s (bif draw then S F id else []) (freezeAll h ((roots ops ops).map fun t=>(t,sget s t)))) | false=>birthH P ops (bif draw then S F id else []) (coolH s (bif draw then S F id else []) h)) (fun h=>bindT (opsT P G run ops (bif draw then S F id else []) (bif hintLoads ops (bif draw then S F id else []) then maskD s h (bif draw then S F id else []) (maskV s (bif draw then S F id else []) (view h)) else []) 0 ops ⟨⟩ s h) (fun p=>some (.normal,p.1,p.2)) ⟨⟩) ⟨⟩) ⟨⟩:=by
 unfold codeT
 simp only[codeV,regionV,viewOf,bindT,opsT,cond_eq_ite]
 cases hasSlice ops && !hasStore ops && !byRef G F <;> rfl
@[simp ↓] theorem opsT_nil {all:List Oper} {hint:List Nat} {hv:List Obj} {i:Nat} {t} {s:Slots} {h:List Obj}:opsT P G run all hint hv i [] t s h=some (s,h):=rfl
theorem opsT_cons {all:List Oper} {hint:List Nat} {hv:List Obj} {i:Nat} {o:Oper} {rest:List Oper} {t} {s:Slots} {h:List Obj}:
 opsT P G run all hint hv i (o::rest) t s h=bindT (wantedV all s o.guard) (fun w=>match w with
  |true=>bindT (opT P G run hint hv i o ⟨⟩ s h) (fun p=>opsT P G run all hint hv (i+1) rest ⟨⟩ (putV s o.dst p.1) p.2) ⟨⟩
  |false=>opsT P G run all hint hv (i+1) rest ⟨⟩ (putV s o.dst (.tup [])) h) ⟨⟩:=by
 unfold opsT opT bindT
 simp only[opsV,execI]
 congr 1
 funext w
 cases w <;> rfl
@[simp ↓] theorem opsT_plain {all:List Oper} {hint:List Nat} {hv:List Obj} {i:Nat} {dst:Option Tmp} {op:Op} {ty:TypeId} {pos:String} {after:Array Edge} {rest:List Oper} {t} {s:Slots} {h:List Obj}:
 opsT P G run all hint hv i (⟨dst,op,ty,pos,after,none⟩::rest) t s h=bindT (opT P G run hint hv i ⟨dst,op,ty,pos,after,none⟩ ⟨⟩ s h) (fun p=>opsT P G run all hint hv (i+1) rest ⟨⟩ (putV s dst p.1) p.2) ⟨⟩:=by
 rw[opsT_cons];rfl
def guardT (v:V) (want:Bool) (f:Bool→Option α) (_:Tok f):Option α:=
 match v with
 |.d (.bool c)=>f (c == want)
 |.tup []=>f false
 |_=>none
@[simp] theorem guardT_true (c:Bool) (f:Bool→Option α) (t:Tok f):guardT (.d (.bool c)) true f t=condT (.d (.bool c)) f t:=by cases c <;> rfl
@[simp] theorem guardT_false (c:Bool) (f:Bool→Option α) (t:Tok f):guardT (.d (.bool c)) false f t=condT (.d (.bool c)) (fun z=>match z with | true=>f false | false=>f true) ⟨⟩:=by cases c <;> rfl
@[simp] theorem guardT_tup (want:Bool) (f:Bool→Option α) (t:Tok f):guardT (.tup []) want f t=f false:=rfl
def guardDst (all:List Oper) (j:Nat) (_:Tok all):Option Tmp:=(all[j]?).bind (·.dst)
@[simp ↓] theorem guardDst_zero {o:Oper} {all:List Oper} {t}:guardDst (o::all) 0 t=o.dst:=rfl
@[simp ↓] theorem guardDst_succ {o:Oper} {all:List Oper} {j:Nat} {t}:guardDst (o::all) (j+1) t=guardDst all j ⟨⟩:=rfl
def guardG (s:Slots) (d:Option Tmp):V:=
 match d with
 |none=> .tup []
 |some d=>sget s d
@[simp] theorem guardG_some (s:Slots) (d:Nat):guardG s (some d)=sget s d:=rfl
@[simp] theorem guardG_none (s:Slots):guardG s none= .tup []:=rfl
@[simp ↓] theorem opsT_guard {all:List Oper} {hint:List Nat} {hv:List Obj} {i:Nat} {dst:Option Tmp} {op:Op} {ty:TypeId} {pos:String} {after:Array Edge} {j:Nat} {want:Bool} {rest:List Oper} {t} {s:Slots} {h:List Obj}:
 opsT P G run all hint hv i (⟨dst,op,ty,pos,after,some (j,want)⟩::rest) t s h=guardT (guardG s (guardDst all j ⟨⟩)) want (fun w=>match w with
  |true=>bindT (opT P G run hint hv i ⟨dst,op,ty,pos,after,none⟩ ⟨⟩ s h) (fun p=>opsT P G run all hint hv (i+1) rest ⟨⟩ (putV s dst p.1) p.2) ⟨⟩
  |false=>opsT P G run all hint hv (i+1) rest ⟨⟩ (putV s dst (.tup [])) h) ⟨⟩:=by
 rw[opsT_cons]
 unfold guardG guardDst
 simp only[wantedV]
 have hop: ∀ (o:Oper) (o':Oper),o.op=o'.op→opT P G run hint hv i o ⟨⟩ s h=opT P G run hint hv i o' ⟨⟩ s h:=fun o o' e=>by
  unfold opT execI hintV isAllocO bornV isles isleV opV blindV mild lateStore isLate isStoreO
  rw[e]
 rw[hop ⟨dst,op,ty,pos,after,some (j,want)⟩ ⟨dst,op,ty,pos,after,none⟩ rfl]
 cases (all[j]?).bind (·.dst) with
 |none=>rfl
 |some d=>
  simp only
  cases sget s d with
  |d x=>
   cases x with
   |bool c=>cases c <;> cases want <;> rfl
   |_=>rfl
  |tup l=>cases l <;> rfl
  |_=>rfl
@[simp ↓] theorem opT_eq {hv:List Obj} {i:Nat} {dst:Option Tmp} {op:Op} {ty:TypeId} {pos:String} {after:Array Edge} {t} {s:Slots} {h:List Obj}:
 opT P G run [] hv i ⟨dst,op,ty,pos,after,none⟩ t s h=opV P G run s h ⟨dst,op,ty,pos,after,none⟩:=rfl
@[simp ↓] theorem opT_hint {x:Nat} {l:List Nat} {hv:List Obj} {i:Nat} {dst:Option Tmp} {op:Op} {ty:TypeId} {pos:String} {after:Array Edge} {t} {s:Slots} {h:List Obj}:
 opT P G run (x::l) hv i ⟨dst,op,ty,pos,after,none⟩ t s h=bif (x::l).contains i then withH h (hintV P G run hv s ⟨dst,op,ty,pos,after,none⟩) else bif hv.isEmpty || mild G hv s ⟨dst,op,ty,pos,after,none⟩ || lateStore (x::l) i ⟨dst,op,ty,pos,after,none⟩ then opV P G run s h ⟨dst,op,ty,pos,after,none⟩ else seenG hv (opV P G run s h ⟨dst,op,ty,pos,after,none⟩):=by
 unfold opT execI
 simp only[cond_eq_ite,List.isEmpty_cons,Bool.false_or]
attribute [simp ↓] opV
@[simp] theorem coolV_d (h:List Obj) (x:D):coolV h (.d x)=h:=rfl
@[simp] theorem coolV_nilS (h:List Obj):coolV h .nilS=h:=rfl
@[simp] theorem coolV_emp (h:List Obj):coolV h .emp=h:=rfl
@[simp] theorem coolV_arr (h:List Obj) (a b:Nat):coolV h (.arr a b)=h:=rfl
@[simp] theorem coolV_sl (h:List Obj) (a b c d:Nat):coolV h (.sl a b c d)=h:=rfl
@[simp] theorem coolV_mp (h:List Obj) (id:Nat):coolV h (.mp id)=match h[id]? with | some (.box cs)=>(match pureList h cs with | some (_,h1)=>h1 | none=>h) | _=>h:=rfl
attribute [simp] rowsT cold pureVs chillV
@[simp] theorem chillOut_eq (x:Option (V × List Obj)):chillOut x=bindT x (fun q=>chillV q.2 q.1) ⟨⟩:=by cases x <;> rfl
attribute [simp] view mild masked maskV argPure hintV isles isleV dataS blindV lateStore isLate isStoreO boxesKept guardKeep seenG maskD maskIds coolH isAllocO bornV isAllocAt hintAllocs fixedBox V.fixed
@[simp ↓] theorem birthH_nil {ops:List Oper} {h:List Obj}:birthH P ops [] h=some h:=rfl
attribute [simp] birthH
@[simp ↓] theorem hintLoads_nil {ops:List Oper}:hintLoads ops []=false:=rfl
@[simp ↓] theorem hintLoads_cons {ops:List Oper} {i:Nat} {r:List Nat}:hintLoads ops (i::r)=(isLoadAt ops i || hintLoads ops r):=rfl
@[simp ↓] theorem isLoadAt_zero {o:Oper} {ops:List Oper}:isLoadAt (o::ops) 0=(match o.op with | .load .. =>true | .alloc .. =>true | _=>false):=rfl
@[simp ↓] theorem isLoadAt_succ {o:Oper} {ops:List Oper} {i:Nat}:isLoadAt (o::ops) (i+1)=isLoadAt ops i:=rfl
@[simp ↓] theorem hasSlice_nil:hasSlice []=false:=rfl
@[simp ↓] theorem hasStore_nil:hasStore []=false:=rfl
@[simp ↓] theorem hasSlice_cons {o:Oper} {l:List Oper}:hasSlice (o::l)=((match o.op with | .slice .. =>true | _=>false) || hasSlice l):=rfl
@[simp ↓] theorem hasStore_cons {o:Oper} {l:List Oper}:hasStore (o::l)=((match o.op with | .store .. =>true | _=>false) || hasStore l):=rfl
end
def appElem? (P:Program) (e:TypeId):Option Nat:=
 match P.info? e with
 |some i=>if i.zero.map (·.cells.size)=some i.size∧0<i.size∧i.bytes≤65536 then some i.size else none
 |none=>none
@[simp] theorem appendV_eq (P:Program) (h:List Obj) (ts tx:TypeId) (s x:V):appendV P h ts tx s x=
 (match P.underlying ts with
 |some (.slice e)=>
  match appElem? P e,source? P h tx x with
  |some n,some ys=>
   match s with
   |.nilS=>guardO (ys.length<2147483648) (guardO (allSize n ys=true) (some (.arr h.length ys.length,h++[.arr n ys 0])))
   |.arr id m=>
    match h[id]? with
    |some (.arr sz xs wm)=>guardO (m=xs.length) (guardO (sz=n) (guardO (m+ys.length<2147483648) (guardO (allSize n ys=true) (some (.arr id (m+ys.length),h.set id (.arr sz (xs++ys) wm))))))
    |_=>none
   |_=>none
  |_,_=>none
 |_=>none):=by
 unfold appendV appElem?
 cases P.underlying ts with
 |none=>rfl
 |some d=>
  cases d <;> try rfl
  rename_i e
  simp only
  cases P.info? e with
  |none=>rfl
  |some i=>
   cases source? P h tx x with
   |none=>
    simp only
    split <;> simp_all
   |some ys=>
    simp only
    split
    ·simp only[ite_guard,guard_and];rfl
    ·rfl
def makeElem? (P:Program) (e:TypeId):Option (Nat × D):=
 match P.info? e,zeroD? P e with
 |some i,some z=>if i.bytes≤65536∧0<i.size∧z.cells.length=i.size then some (i.size,z) else none
 |_,_=>none
@[simp] theorem makeSliceV_eq (P:Program) (h:List Obj) (t:TypeId) (k k':IntKind) (n m:Int):makeSliceV P h t (.d (.int k n)) (.d (.int k' m))=
 (match P.underlying t with
 |some (.slice e)=>
  match makeElem? P e with
  |some (sz,z)=>guardO (0≤n) (guardO (n≤m) (guardO (m<2147483648) (some (.arr h.length n.toNat,h++[.arr sz (List.replicate n.toNat z) 0]))))
  |none=>none
 |_=>none):=by
 unfold makeSliceV makeElem?
 cases P.underlying t with
 |none=>rfl
 |some d=>
  cases d <;> try rfl
  rename_i e
  simp only
  cases P.info? e with
  |none=>rfl
  |some i=>
   cases zeroD? P e with
   |none=>rfl
   |some z=>
    simp only
    by_cases a:i.bytes≤65536∧0<i.size∧z.cells.length=i.size
    ·rw[if_pos a]
     obtain⟨a1,a2,a3⟩:=a
     simp only[guardO]
     by_cases b1:0≤n <;> by_cases b2:n≤m <;> by_cases b3:m<2147483648 <;> simp[a1,a2,a3,b1,b2,b3]
    ·rw[if_neg a,if_neg]
     rintro ⟨_,_,_,b1,b2,b3⟩
     exact a ⟨b1,b2,b3⟩
def zeroVs? (P:Program) (t:TypeId):Option (List V):=
 match zero? P t with
 |some z=>if (z.cells.toList.map constCell).all V.cellOk then some (z.cells.toList.map constCell) else none
 |none=>none
def places? (P:Program) (t:TypeId):Option (List (Nat × Nat)):=
 match P.underlying t with
 |some (.struct fs)=>fs.toList.mapM fun f=>(sizeOf? P f.type).map fun s=>(f.offset,s)
 |_=>none
theorem places_get {P:Program}: ∀ {fs:List Field} {pl:List (Nat × Nat)},(fs.mapM fun (f:Field)=>(sizeOf? P f.type).map fun s=>(f.offset,s))=some pl→ ∀i:Nat,(fs[i]?).bind (fun (f:Field)=>(sizeOf? P f.type).map fun s=>(f.offset,s))=pl[i]?
 |[],pl,h,i=>by simp at h;subst h;simp
 |f::fs,pl,h,i=>by
  simp only[List.mapM_cons,Option.bind_eq_bind,Option.bind_eq_some_iff,Option.pure_def,Option.some.injEq]at h
  obtain⟨p,hp,ps,hps,rfl⟩:=h
  cases i with
  |zero=>simpa using hp
  |succ i=>simpa using places_get hps i
theorem buildV_struct {P:Program} {t:TypeId} {parts:List (Nat × V)} {z:List V} {pl:List (Nat × Nat)} (hz:zeroVs? P t=some z) (hp:places? P t=some pl):buildV P t parts=(fillV (fun i=>pl[i]?) z parts).map mkAgg:=by
 unfold zeroVs? at hz
 unfold places? at hp
 unfold buildV
 cases h0:zero? P t with
 |none=>rw[h0]at hz;cases hz
 |some z0=>
  rw[h0]at hz
  simp only at hz
  split at hz
  ·rename_i hc
   simp only[Option.some.injEq]at hz
   subst hz
   split at hp
   ·rename_i fs hfs
    have hall:fs.toList.all (fun f=>(sizeOf? P f.type).isSome)=true:=by
     rw[List.all_eq_true]
     intro f hf
     obtain⟨i,hi⟩:=List.getElem?_of_mem hf
     obtain⟨_,h2⟩:=mapM_get' hp
     obtain⟨b,_,hb⟩:=h2 i f hi
     simp only[Option.map_eq_some_iff]at hb
     obtain⟨s,hs,_⟩:=hb
     rw[hs];rfl
    simp only[hfs,hc,hall,Bool.and_self,if_true]
    have hpl:(fun (i:Nat)=>(fs[i]?).bind fun (f:Field)=>(sizeOf? P f.type).map fun s=>(f.offset,s))=fun i=>pl[i]? :=by
     funext i
     rw[← places_get hp i,Array.getElem?_toList]
    rw[hpl]
   ·cases hp
  ·cases hz
theorem allocV_of {P:Program} {t:TypeId} {h:List Obj} {z:List V} (hz:zeroVs? P t=some z):allocV P h t=some (.ptr h.length 0,h++[.box z]):=by
 unfold zeroVs? at hz
 unfold allocV
 cases h0:zero? P t with
 |none=>rw[h0]at hz;cases hz
 |some z0=>
  rw[h0]at hz
  simp only at hz ⊢
  split at hz
  ·rename_i hc
   simp only[Option.some.injEq]at hz
   subst hz
   rw[if_pos hc]
  ·cases hz
@[simp] theorem buildSliceV_eq (P:Program) (h:List Obj) (t:TypeId) (len:Nat) (parts:List (Nat × V)):buildSliceV P h t len parts=
 (match P.underlying t with
 |some (.slice e)=>
  match sizeOf? P e with
  |some sz=>
   if (zero? P e).isSome=true∧0<sz∧parts.length=len∧len*sz≤65536∧inOrder parts 0 then
    match pureVs h (parts.map (·.2)) with
    |some (xs,h1)=>if allSize sz xs then some (.arr h1.length len,h1++[.arr sz xs 0]) else none
    |none=>none
   else none
  |none=>none
 |_=>none):=by
 unfold buildSliceV
 cases P.underlying t with
 |none=>rfl
 |some d=>
  cases d <;> try rfl
  rename_i e
  simp only
  cases sizeOf? P e with
  |none=>rfl
  |some sz=>
   cases zero? P e with
   |none=>simp
   |some z=>simp;rfl
attribute [simp] fillV putCells mkAgg V.asD? inOrder pureVs
@[simp] theorem allSize_map {α:Type} {f:α→D} {n:Nat} (l:List α) (hf: ∀x,(f x).cells.length=n):allSize n (l.map f)=true:=by
 induction l with
 |nil=>rfl
 |cons x l ih=>simp[allSize,hf,ih]
attribute [simp] allSize source? elems?
@[simp] theorem int_bne (x y:Int):(x != y)= !decide (x=y):=by
 by_cases h:x=y <;> simp[h]
@[simp] theorem int_beq (x y:Int):(x == y)=decide (x=y):=by
 by_cases h:x=y <;> simp[h]
theorem wrap_i64 {x:Int} (h1: -9223372036854775808≤x) (h2:x≤9223372036854775807):IntKind.i64.wrap x=x:=by
 simp[IntKind.wrap,IntKind.signed,IntKind.bits]
 omega
theorem wrap_u64 {x:Int} (h1:0≤x) (h2:x≤18446744073709551615):IntKind.u64.wrap x=x:=by
 simp[IntKind.wrap,IntKind.signed,IntKind.bits]
 omega
theorem wrap_u32 {x:Int} (h1:0≤x) (h2:x≤4294967295):IntKind.u32.wrap x=x:=by
 simp[IntKind.wrap,IntKind.signed,IntKind.bits]
 omega
@[simp] theorem obindOptionBind {α β:Type} (x:Option α) (f:α→Option β):(x >>=f)=x.bind f:=rfl
section
variable {P:Program} {G:Nat→Option (List D)} {K:Keeps} {S:Hints}
def endW (P:Program) (k:Nat) (rs:List ResultVar) (ts:List TypeId) (r:Res):Option (List V × List Obj):=
 match r with
 |some (.normal,s,h) | some (.ret,s,h)=>obind (resV P s h rs) fun vs=>finish P k ts vs h
 |_=>none
@[simp] theorem endW_normal {k:Nat} {rs:List ResultVar} {ts:List TypeId} {s:Slots} {h:List Obj}:endW P k rs ts (some (.normal,s,h))=obind (resV P s h rs) fun vs=>finish P k ts vs h:=rfl
@[simp] theorem endW_cond {k:Nat} {rs:List ResultVar} {ts:List TypeId} (v:V) (f:Bool→Res) (t:Tok f):endW P k rs ts (condT v f t)=condT v (fun z=>endW P k rs ts (f z)) ⟨⟩:=by
 cases v with
 |d x=>cases x <;> rfl
 |_=>rfl
@[simp] theorem endW_ret {k:Nat} {rs:List ResultVar} {ts:List TypeId} {s:Slots} {h:List Obj}:endW P k rs ts (some (.ret,s,h))=obind (resV P s h rs) fun vs=>finish P k ts vs h:=rfl
theorem run_text {f:FuncId} {fn:Func} {c:Code} {rs:List ResultVar} {ts:List TypeId} {args:List V} {h:List Obj} {r:List V × List Obj} (hf:P.funcs[f]? =some fn) (hb:fn.body=some c)
 (hrs : fn.results.toList = rs) (hts : fn.resultTypes.toList = ts) (hok : codeOk P (S f) fn.ntmps c = true) (hn : (fn.name == "runtime.NumGoroutine") = false)
 (hsp:splits G f=false∨sorts G f=0∧ ∀rest,args≠ .d (.list [])::rest) (hl:args.length≤fn.ntmps) (hr:endW P h.length rs ts (codeT P G K S (Runs P G K S) f h.length 0 c ⟨⟩ (startSlots 0 args) h)=some r):Runs P G K S f args h=some r:=by
 refine Runs_of hsp ?_
 unfold bodyV
 simp only[hf,hb,hok,hn,decide_eq_true hl,Bool.and_self,Bool.not_false,if_true]
 unfold endV
 rw[hrs,hts]
 exact hr
theorem run_goal {f:FuncId} {fn:Func} {c:Code} {rs:List ResultVar} {ts:List TypeId} {args:List V} {h:List Obj} {r:List V × List Obj} (hf:P.funcs[f]? =some fn) (hb:fn.body=some c)
 (hrs : fn.results.toList = rs) (hts : fn.resultTypes.toList = ts) (hok : codeOk P (S f) fn.ntmps c = true) (hn : (fn.name == "runtime.NumGoroutine") = false)
 (hsp:splits G f=false∨sorts G f=0∧ ∀rest,args≠ .d (.list [])::rest) (hl:args.length≤fn.ntmps) (hr: ∀T:Option (List V × List Obj)→Prop,T (some r)→T (endW P h.length rs ts (codeT P G K S (Runs P G K S) f h.length 0 c ⟨⟩ (startSlots 0 args) h))):Runs P G K S f args h=some r:=
 run_text hf hb hrs hts hok hn hsp hl (hr (·=some r) rfl)
theorem of_eq {α:Type} {T:α→Prop} {a b:α} (h:T a) (e:b=a):T b:=e ▸ h
theorem run_split {f:FuncId} {fn:Func} {c:Code} {rs:List ResultVar} {ts:List TypeId} {rest:List V} {h:List Obj} {r:List V × List Obj} (hf:P.funcs[f]? =some fn) (hb:fn.body=some c)
 (hrs : fn.results.toList = rs) (hts : fn.resultTypes.toList = ts) (hok : codeOk P (S f) fn.ntmps c = true) (hn : (fn.name == "runtime.NumGoroutine") = false)
 (hsp:splits G f=true∧sorts G f=0) (hl:rest.length+1≤fn.ntmps) (hr: ∀T:Option (List V × List Obj)→Prop,T (some r)→ ∀a,a= .nilS∨a= .emp→T (endW P h.length rs ts (codeT P G K S (Runs P G K S) f h.length 0 c ⟨⟩ (startSlots 0 (a::rest)) h))):Runs P G K S f (.d (.list [])::rest) h=some r:=by
 have key: ∀a,a= .nilS∨a= .emp→bodyV P G K S (Runs P G K S) loops f (a::rest) h=some r:=fun a ha=>by
  unfold bodyV
  simp only[hf,hb,hok,hn,List.length_cons,decide_eq_true hl,Bool.and_self,Bool.not_false,if_true]
  unfold endV
  rw[hrs,hts]
  exact hr (·=some r) rfl a ha
 exact Runs_split hsp.1 hsp.2 (key .nilS (.inl rfl)) (key .emp (.inr rfl))
def Tells (p:Bool→Prop) (r:Option (List V × List Obj)):Prop:= ∃b,r=some ([.d (.bool b)],[])∧p b
@[simp] theorem tells_some {p:Bool→Prop} {b:Bool}:Tells p (some ([.d (.bool b)],[]))↔p b:=by
 constructor
 ·rintro ⟨b',h,hp⟩
  simp only[Option.some.injEq,Prod.mk.injEq,List.cons.injEq,V.d.injEq,D.bool.injEq,and_true]at h
  rw[h];exact hp
 ·exact fun h=>⟨b,rfl,h⟩
theorem loop_any {σ:Type} {T:Res→Prop} {k:Nat} {keep:List (Nat × Nat)} {b:Slots→List Obj→Res} {t:Tok b} {s:Slots} {h:List Obj} (Sl:σ→Slots) (H:σ→List Obj) (I:σ→Prop) (μ:σ→Nat) (x:σ)
 (hi:I x) (hn:norm k keep s h=some (Sl x,H x))
 (step: ∀ (T':Res→Prop) (b':Slots→List Obj→Res),T'=T→ ∀x,I x→(∀y s h,I y→μ y<μ x→norm k keep s h=some (Sl y,H y)→T' (hloop k keep b' s h))→T' (seqT (b (Sl x) (H x)) (hloop k keep b') ⟨⟩)):
 ∀z,loopT (some keep) k b t s h=z→T z:=by
 rintro _ rfl
 show T (hloop k keep b s h)
 have key: ∀n x,μ x≤n→ ∀s h,I x→norm k keep s h=some (Sl x,H x)→T (hloop k keep b s h):=by
  intro n
  induction n with
  |zero=>
   intro x hx s h hi hn
   rw[hloop_eq,hn]
   exact step T b rfl x hi fun y s h _ hlt _=>by omega
  |succ n ih=>
   intro x hx s h hi hn
   rw[hloop_eq,hn]
   exact step T b rfl x hi fun y s h hy hlt hn=>ih y (by omega) s h hy hn
 exact key (μ x) x (Nat.le_refl _) s h hi hn
theorem buildV_array {t:TypeId} {parts:List (Nat × V)} {z:List V} {n:Nat} {e:TypeId} {s:Nat} (hz:zeroVs? P t=some z) (hu:P.underlying t=some (.array n e)) (hs:sizeOf? P e=some s):buildV P t parts=(fillV (fun i=>some (i*s,s)) z parts).map mkAgg:=by
 unfold zeroVs? at hz
 unfold buildV
 cases h0:zero? P t with
 |none=>rw[h0]at hz;cases hz
 |some z0=>
  rw[h0]at hz
  simp only at hz
  split at hz
  ·rename_i hc
   simp only[Option.some.injEq]at hz
   subst hz
   simp only[hu,hs,hc,if_true]
  ·cases hz
@[simp] theorem allSize_i64 (l:List Int):allSize 1 (l.map fun n=>D.int .i64 n)=true:=allSize_map l fun _=>rfl
@[simp] theorem allSize_rep (k:IntKind) (x:Int): ∀n,allSize 1 (List.replicate n (D.int k x))=true
 |0=>rfl
 |n+1=>by simp[List.replicate_succ,allSize_rep k x n]
end
end Go.Am
