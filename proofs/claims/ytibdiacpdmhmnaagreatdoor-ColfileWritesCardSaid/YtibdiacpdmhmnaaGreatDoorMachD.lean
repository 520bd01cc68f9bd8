/- The abstract machine: what a row says, and the fixpoint of all functions. -/
import Derived.ProofKit
import Derived.OpenShut
import Derived.Carry
import Derived.Test.YtibdiacpdmhmnaaGreatDoorMachA
import Derived.Test.YtibdiacpdmhmnaaGreatDoorMachC
set_option linter.all false
namespace Go.Am
def zkh (P:Program):Nat->List Field->Option Nat
 |n,[]=>some n
 |n,f::fs=>if f.offset=n then zkh P (n+P.cellsOf f.type) fs else none
def zbM (P:Program):Nat->TypeId->Bool
 |0,_=>false
 |n+1,t=>
  match P.underlying t with
  |some (.int _) | some .bool | some .string=>true
  |some (.slice e)=>decide (0<P.cellsOf e) && zbM P n e
  |some (.struct fs)=>(zkh P 0 fs.toList == some (P.cellsOf t)) && fs.toList.all λf=>zbM P n f.type
  |_=>false
inductive All2 {α β:Type} (R:α->β->Prop):List α->List β->Prop
 |nil:All2 R [] []
 |cons {a:α} {b:β} {as:List α} {bs:List β}:R a b->All2 R as bs->All2 R (a::as) (b::bs)
def zbu (P:Program):Nat->TypeId->D->Prop
 |0,_,_=>False
 |n+1,t,x=>
  match P.underlying t with
  |some (.int k)=> ∃i,x= .int k i/\(Lit.int k i).wf=true
  |some .bool=> ∃b,x= .bool b
  |some .string=> ∃s,x= .str s/\s.size<=maxLen
  |some (.slice e)=> ∃xs,x= .list xs/\xs.length<=maxLen/\ ∀y∈xs,zbu P n e y
  |some (.struct fs)=> ∃ys:List D,x= .agg (ys.flatMap D.cells)/\All2 (λf y=>zbu P n f.type y) fs.toList ys
  |_=>False
def zeg:Nat->Nat->Prop:=λ_ _=>False
def zb4 (w:World) (cs:List Value) (ds:List D):Prop:=
 cs.length=ds.length/\ ∀ (j:Nat) (c:D),ds[j]? =some c-> ∃v,cs[j]? =some v/\Rep zeg w v c/\c.isCell=true
section
variable {H:Type} {enc:TypeId × Value->H} {P:Program} {w:World}
def zb4.one {v:Value} {c:D} (hr:Rep zeg w v c) (hc:c.isCell=true):zb4 w [v] c.cells:=by
 rw[D.cells_one hc];refine⟨rfl,λj c' hj=> ?_⟩
 cases j with
 |zero=>simp only[List.getElem?_cons_zero,Option.some.injEq]at hj;subst hj;exact⟨v,rfl,hr,hc⟩
 |succ j=>simp at hj
def zb4.append {cs:List Value} {k:Nat} {a b:List D} (ha:zb4 w (cs.take k) a) (hb:zb4 w (cs.drop k) b):zb4 w cs (a++b):=by
 obtain⟨a1,a2⟩:=ha;obtain⟨b1,b2⟩:=hb;rw[List.length_take]at a1;rw[List.length_drop]at b1;refine⟨by rw[List.length_append];omega,λj c hj=> ?_⟩
 rcases Nat.lt_or_ge j a.length with hl | hl
 ·rw[List.getElem?_append_left hl]at hj
  obtain⟨v,h1,h2⟩:=a2 j c hj;rw[List.getElem?_take]at h1;split at h1
  ·exact⟨v,h1,h2⟩
  ·cases h1
 ·rw[List.getElem?_append_right hl]at hj
  obtain⟨v,h1,h2⟩:=b2 _ c hj;rw[List.getElem?_drop]at h1;have hlt:=lt_of_getElem? hj;have e:k+(j - a.length)=j:=by omega
  rw[e]at h1;exact⟨v,h1,h2⟩
def zhd {m fuel:Nat} {cs:List Value} (ih: ∀t cs d ps,zbM P m t=true->DataW.trod enc P w 0 (λ_=>true) true fuel t cs=some (d,ps)-> ∃x,zbu P m t x/\zb4 w cs x.cells):
 ∀ (fs:List Field) (n:Nat) (xs:List (DataW H × List MemPlace)),zkh P n fs=some cs.length->n<=cs.length->(∀f∈fs,zbM P m f.type=true)->
  (fs.mapM λf=>DataW.trod enc P w 0 (λ_=>true) true fuel f.type ((cs.drop f.offset).take (P.cellsOf f.type)))=some xs->
  ∃ys:List D,All2 (λf y=>zbu P m f.type y) fs ys/\zb4 w (cs.drop n) (ys.flatMap D.cells)
 |[],n,xs,ht,hn,hp,hx=>by
  simp only[zkh,Option.some.injEq]at ht;subst ht;exact⟨[],.nil,by simp,λj c hj=>by simp at hj⟩
 |f::fs,n,xs,ht,hn,hp,hx=>by
  simp only[zkh]at ht;split at ht
  ·rename_i ho
   simp only[List.mapM_cons,Option.bind_eq_bind,Option.bind_eq_some_iff,Option.pure_def,Option.some.injEq]at hx;obtain⟨⟨d,ps⟩,hd,xs',hxs,rfl⟩:=hx;obtain⟨y,hy,hc⟩:=ih _ _ _ _ (hp f (List.mem_cons_self ..)) hd;have hle:n+P.cellsOf f.type<=cs.length:=by
    have: ∀ (fs:List Field) (n m:Nat),zkh P n fs=some m->n<=m:=by
     intro fs
     induction fs with
     |nil=>intro n m h;simp only[zkh,Option.some.injEq]at h;omega
     |cons g gs ih=>intro n m h;simp only[zkh]at h;split at h
                    ·have:=ih _ _ h;omega
                    ·cases h
    exact this _ _ _ ht
   obtain⟨ys,h1,h2⟩:=zhd ih fs (n+P.cellsOf f.type) xs' ht hle (λg hg=>hp g (List.mem_cons_of_mem _ hg)) hxs
   refine⟨y::ys,.cons hy h1, ?_⟩;rw[List.flatMap_cons];refine zb4.append (k:=P.cellsOf f.type) (by rw[<- ho];exact hc) ?_
   rw[List.drop_drop];exact h2
  ·cases ht
def ziA {m fuel:Nat} {e:TypeId} {b off:Nat} (hm:zbM P m e=true) (ih: ∀t cs d ps,zbM P m t=true->DataW.trod enc P w 0 (λ_=>true) true fuel t cs=some (d,ps)-> ∃x,zbu P m t x/\zb4 w cs x.cells):
 ∀n:Nat,(∀i,i<n-> ∃x,(w.cells? 0 ((⟨b,off,none⟩:Addr).add (i*P.cellsOf e)) (P.cellsOf e)).bind (DataW.trod enc P w 0 (λ_=>true) true fuel e)=some x)->
  ∃xs:List D,xs.length=n/\(∀x∈xs,x.cells.length=P.cellsOf e)/\(∀x∈xs,zbu P m e x)/\(flat xs).length=n*P.cellsOf e/\
   ∀ (j:Nat) (c:D),(flat xs)[j]? =some c-> ∃v,w.cell? ⟨b,off+j,none⟩=some v/\Rep zeg w v c/\c.isCell=true
 |0,_=>⟨[],rfl,by simp,by simp,by simp[flat],λj c hj=>by simp[flat]at hj⟩
 |n+1,hx=>by
  obtain⟨xs,h1,h2,h3,h4,h5⟩:=ziA hm ih n λi hi=>hx i (by omega)
  obtain⟨⟨d,ps⟩,hd⟩:=hx n (by omega)
  simp only[Option.bind_eq_some_iff]at hd;obtain⟨cs,hcs,hd⟩:=hd;obtain⟨x,hx1,hx2,hx3⟩:=ih _ _ _ _ hm hd;simp only[World.cells?,Nat.zero_le,if_true]at hcs;obtain⟨l1,l2⟩:=zaR hcs;rw[List.length_range]at l1;have hlen:x.cells.length=P.cellsOf e:=by rw[<- hx2,l1]
  have hfl:flat (xs++[x])=flat xs++x.cells:=by simp[flat]
  refine⟨xs++[x],by simp[h1],λy hy=> ?_,λy hy=> ?_, ?_,λj c hj=> ?_⟩
  ·rcases List.mem_append.1 hy with h | h
   ·exact h2 y h
   ·rw[List.mem_singleton.1 h];exact hlen
  ·rcases List.mem_append.1 hy with h | h
   ·exact h3 y h
   ·rw[List.mem_singleton.1 h];exact hx1
  ·rw[hfl,List.length_append,h4,hlen,Nat.add_mul,Nat.one_mul]
  ·rw[hfl]at hj
   rcases Nat.lt_or_ge j (flat xs).length with hl | hl
   ·rw[List.getElem?_append_left hl]at hj
    exact h5 j c hj
   ·rw[List.getElem?_append_right hl]at hj
    obtain⟨v,g1,g2,g3⟩:=hx3 _ c hj;obtain⟨i,g4,g5⟩:=l2 _ v g1;have hi:i=j - (flat xs).length:=by
     have hlt:=lt_of_getElem? g4;rw[List.length_range]at hlt;rw[List.getElem?_range hlt,Option.some.injEq]at g4;exact g4.symm
    refine⟨v, ?_,g2,g3⟩;rw[<- g5];congr 1;rw[hi,h4];unfold Addr.add;split <;> split <;> simp <;> omega
def reads: ∀ (fuel m:Nat) (t:TypeId) (cs:List Value) (d:DataW H) (ps:List MemPlace),zbM P m t=true->DataW.trod enc P w 0 (λ_=>true) true fuel t cs=some (d,ps)->
 ∃x,zbu P m t x/\zb4 w cs x.cells:=by
 intro fuel
 induction fuel with
 |zero=>intro m t cs d ps _ h;simp[DataW.trod]at h
 |succ fuel ih=>
  intro m t cs d ps hm h;cases m with
  |zero=>simp[zbM]at hm
  |succ m=>
   have ih': ∀t cs d ps,zbM P m t=true->DataW.trod enc P w 0 (λ_=>true) true fuel t cs=some (d,ps)-> ∃x,zbu P m t x/\zb4 w cs x.cells:=λt cs d ps=>ih m t cs d ps
   simp only[zbM]at hm;simp only[zbu];unfold DataW.trod at h;split at h
   case h_1 b e=>rw[e];exact⟨.bool b,⟨b,rfl⟩,zb4.one (.bool b) rfl⟩
   case h_2 k k' n e=>
    rw[e];split at h
    ·rename_i hk
     obtain⟨rfl,hw⟩:=hk;exact⟨.int _ n,⟨n,rfl,hw⟩,zb4.one (.int _ n) rfl⟩
    ·cases h
   case h_4 s e=>
    rw[e];split at h
    ·rename_i hs
     exact⟨.str s,⟨s,rfl,hs⟩,zb4.one (.str s) rfl⟩
    ·cases h
   case h_7 e0 e=>rw[e];exact⟨.list [],⟨[],rfl,Nat.zero_le _,λ_ h=>by cases h⟩,zb4.one (.nil none 0 λ_=>rfl) rfl⟩
   case h_8 e a len cap he=>
    rw[he]at hm ⊢;simp only[Bool.and_eq_true,decide_eq_true_eq]at hm;simp only at h;split at h
    ·rename_i hc
     simp only[Option.bind_eq_some_iff]at h;obtain⟨els,hels,-⟩:=h;obtain⟨r1,r2⟩:=zaR hels;obtain⟨_,r3⟩:=zeW hels;rw[List.length_range]at r1;rcases Nat.eq_zero_or_pos len with h0 | h0
     ·subst h0
      exact⟨.list [],⟨[],rfl,Nat.zero_le _,λ_ h=>by cases h⟩,zb4.one (.nil _ _ λe=>by cases e) rfl⟩
     ·have hspot:a.spot=none:=by
       obtain⟨x0,_,hx0⟩:=r3 0 0 (by rw[List.getElem?_range h0])
       simp only[Option.bind_eq_some_iff]at hx0;obtain⟨cs0,hcs0,-⟩:=hx0;simp only[World.cells?,Nat.zero_le,if_true]at hcs0;obtain⟨_,q⟩:=zeW hcs0;obtain⟨v0,_,hv0⟩:=q 0 0 (by rw[List.getElem?_range hm.1])
       simpa[Addr.add]using World.cell?_spot hv0
      obtain⟨b,off,sp⟩:=a;simp only at hspot;subst hspot;obtain⟨xs,h1,h2,h3,h4,h5⟩:=ziA hm.2 ih' (b:=b) (off:=off) len λi hi=>by
       obtain⟨x,_,hx⟩:=r3 i i (by rw[List.getElem?_range hi])
       exact⟨x,hx⟩
      refine⟨.list xs,⟨xs,rfl,by omega,h3⟩,zb4.one ?_ rfl⟩
      refine .list b off len cap (P.cellsOf e) xs (λj=>(w.cell? ⟨b,off+j,none⟩).getD undef) h1.symm hc.2.1 h2 (λj c hj=> ?_) λj c hj=> ?_
      ·obtain⟨v,g1,g2,g3⟩:=h5 j c hj
       exact⟨by rw[g1];rfl,λh=>h,g3⟩
      ·obtain⟨v,g1,g2,g3⟩:=h5 j c hj
       rw[g1];exact g2
    ·cases h
   case h_9 cs' fs he=>
    rw[he]at hm ⊢;simp only[Bool.and_eq_true,beq_iff_eq,List.all_eq_true]at hm;split at h
    ·rename_i hlen
     simp only[Option.map_eq_some_iff]at h;obtain⟨xs,hxs,-⟩:=h;obtain⟨ys,h1,h2⟩:=zhd ih' fs.toList 0 xs (by rw[hlen];exact hm.1) (Nat.zero_le _) hm.2 hxs
     exact⟨.agg (ys.flatMap D.cells),⟨ys,rfl,h1⟩,h2⟩
    ·cases h
   all_goals
    rename_i e
    first
     |(rw[e]at hm;cases hm)
     |(exfalso;simp_all)
def zoT {m:Nat} {t:TypeId} {v:Value} {d:DataW H} {ps:List MemPlace} (hm:zbM P m t=true) (hd:DataW.Trod enc P w 0 (λ_=>true) true t v d ps):
 ∃x,zbu P m t x/\zb4 w v.cells.toList x.cells:=by
 obtain⟨fuel,h⟩:=hd;exact reads fuel m t _ d ps hm h
end
end Go.Am
namespace Go.Am
open Go.RowKit Go.ChangeShapes Go.WideShapes
section
variable {H:Type} {enc:TypeId × Value->H} {P:Program} {w:World}
def zsE {m b0:Nat} {t:TypeId} {v:Value} {d:DataW H} {ps:List MemPlace} (hm:zbM P m t=true) (hok:Value.okWide P w .any b0 t v) (hd:DataW.Trod enc P w 0 (λ_=>true) true t v d ps):
 ∃x,zbu P m t x/\Rep zeg w v x:=by
 obtain⟨x,hx,hl,hc⟩:=zoT hm hd;refine⟨x,hx, ?_⟩;have one: ∀ {v:Value} {x:D},v.cells= #[v]->x.isCell=true->zb4 w v.cells.toList x.cells->Rep zeg w v x:=λhv hx hc=>by
  rw[hv,D.cells_one hx]at hc;obtain⟨v',h1,h2,_⟩:=hc.2 0 _ rfl;simp only[List.getElem?_cons_zero,Option.some.injEq]at h1;subst h1;exact h2
 cases m with
 |zero=>simp[zbM]at hm
 |succ m=>
  simp only[zbM]at hm;simp only[zbu]at hx;split at hm
  ·rename_i k he
   obtain⟨n,rfl⟩:=okWide_int he hok;rw[he]at hx;obtain⟨i,rfl,_⟩:=hx;exact one rfl rfl ⟨hl,hc⟩
  ·rename_i he
   obtain⟨n,rfl⟩:=okWide_bool he hok;rw[he]at hx;obtain⟨i,rfl⟩:=hx;exact one rfl rfl ⟨hl,hc⟩
  ·rename_i he
   obtain⟨n,rfl⟩:=okWide_string he hok;rw[he]at hx;obtain⟨i,rfl,_⟩:=hx;exact one rfl rfl ⟨hl,hc⟩
  ·rename_i e he
   obtain⟨a,l,c,rfl⟩:=okWide_slice he hok;rw[he]at hx;obtain⟨i,rfl,_⟩:=hx;exact one rfl rfl ⟨hl,hc⟩
  ·rename_i fs he
   obtain⟨cs,rfl,_⟩:=okWide_struct he hok;rw[he]at hx;obtain⟨ys,rfl,_⟩:=hx;have hcs: ∀ (j:Nat) (c:D),(ys.flatMap D.cells)[j]? =some c-> ∃v,cs[j]? =some v/\Rep zeg w v c/\c.isCell=true:=λj c hj=>by
    simpa[Value.cells,D.cells]using hc j c hj
   refine .agg cs _ (λj=>cs.getD j undef) (by simpa[Value.cells,D.cells]using hl) (λj c hj=> ?_) λj c hj=> ?_
   ·obtain⟨v,h1,h2,h3⟩:=hcs j c hj
    exact⟨by rw[h1,Array.getD_eq_getD_getElem?,h1];rfl,h3⟩
   ·obtain⟨v,h1,h2,h3⟩:=hcs j c hj
    rw[Array.getD_eq_getD_getElem?,h1];exact h2
  ·cases hm
def zoU (P:Program) (m:Nat) (t:TypeId):Bool:=zbM P m t && P.readableRec t && decide (t<P.types.size)
def zmE {m b0:Nat}: ∀ (ts:List TypeId) (vs:List Value) (ds:List (DataW H)) (ps:List MemPlace),(∀t∈ts,zbM P m t=true)->(∀ (j:Nat) t v,ts[j]? =some t->vs[j]? =some v->Value.okWide P w .any b0 t v)->
 DataW.TrodAll enc P w 0 (λ_=>true) true ts vs ds ps-> ∃xs:List D,All2 (zbu P m) ts xs/\All2 (Rep zeg w) vs xs
 |[],vs,ds,ps,_,_,h=>by
  obtain⟨rfl,_,_⟩:=trodAll_nil h;exact⟨[],.nil,.nil⟩
 |t::ts,vs,ds,ps,hp,hok,h=>by
  obtain⟨v,vs',d,ds',p,q,rfl,rfl,rfl,hd,hr⟩:=trodAll_cons h;obtain⟨x,h1,h2⟩:=zsE (hp t (List.mem_cons_self ..)) (hok 0 t v rfl rfl) hd;obtain⟨xs,h3,h4⟩:=zmE ts vs' ds' q (λt ht=>hp t (List.mem_cons_of_mem _ ht)) (λj t v h1 h2=>hok (j+1) t v (by simpa using h1) (by simpa using h2)) hr
  exact⟨x::xs,.cons h1 h3,.cons h2 h4⟩
def zki (hl:laidOutB P=true) {W':World} (hb:Below w.heap.size w W'): ∀ (ts:List TypeId) (vs:List Value) (ds:List (DataW H)) (ps:List MemPlace),(∀t∈ts,P.readableRec t=true/\t<P.types.size)->
 DataW.TrodAll enc P w 0 (λ_=>true) true ts vs ds ps->(∀x∈ps,x.block<w.heap.size)->DataW.TrodAll enc P W' 0 (λb=>decide (b<w.heap.size)) true ts vs ds ps
 |[],vs,ds,ps,_,h,_=>by
  obtain⟨rfl,rfl,rfl⟩:=trodAll_nil h;exact h
 |t::ts,vs,ds,ps,hp,h,hlt=>by
  obtain⟨v,vs',d,ds',p,q,rfl,rfl,rfl,hd,hr⟩:=trodAll_cons h;obtain⟨k1,k2⟩:=hp t (List.mem_cons_self ..);exact trodAll_cons_mk (Below.trod hl k1 k2 hd hb λx hx=>hlt x (List.mem_append_left _ hx))
   (zki hl hb ts vs' ds' q (λt ht=>hp t (List.mem_cons_of_mem _ ht)) hr λx hx=>hlt x (List.mem_append_right _ hx))
def All2.length {α β:Type} {R:α->β->Prop}: ∀ {as:List α} {bs:List β},All2 R as bs->as.length=bs.length
 |_,_,.nil=>rfl
 |_,_,.cons _ h=>by simp[h.length]
def All2.get {α β:Type} {R:α->β->Prop}: ∀ {as:List α} {bs:List β},All2 R as bs-> ∀ (j:Nat) (b:β),bs[j]? =some b-> ∃a,as[j]? =some a/\R a b
 |_,_,.nil,j,b,hj=>by simp at hj
 |_,_,.cons h hs,0,b,hj=>by simp only[List.getElem?_cons_zero,Option.some.injEq]at hj;subst hj;exact⟨_,rfl,h⟩
 |_,_,.cons _ hs,j+1,b,hj=>by simpa using hs.get j b (by simpa using hj)
def zoV {run:Run} {f:FuncId} {G:Nat->Option (List D)} (hrun:zdv P G run) {xs:List D} {h':List Obj} (hx:run f (xs.map .d) []=some ([.d (.bool true)],h')) {vs:List Value} (hv:All2 (Rep zeg w) vs xs)
 (hg:GRel zeg G [] [] w):Calls P f vs.toArray w λe w'=>e= .returned (.bool true)/\Below w.heap.size w w':=by
 have hmut: ∀b j,Mut zeg [] [] b j->zeg b j:=by
  rintro b j (h | ⟨id,c,o,h,_⟩)
  ·exact h
  ·simp at h
 have H:HRel zeg [] [] w:=⟨rfl,λid o ho=>by simp at ho,λb j h=>h.elim,λ_ _ _ _ h=>by simp at h,λ_ _ _ _ _ h=>by simp at h⟩
 have ha:zcg zeg [] [] w vs (xs.map .d):=⟨by simp[hv.length],λj A hj=>by
  simp only[List.getElem?_map,Option.map_eq_some_iff]at hj;obtain⟨x,hj,rfl⟩:=hj;obtain⟨v,h1,h2⟩:=hv.get j x hj;exact⟨v,h1,h2.mono λb j v hm hc=>⟨hc,λh=>hm (hmut b j h)⟩⟩⟩
 refine (hrun f _ _ _ _ hx zeg [] w vs H hg ha).mono ?_
 rintro e w' ⟨ρ',rv,rfl,st,us,l1,l2,rfl⟩
 obtain⟨u,h1,h2⟩:=l2 0 _ rfl;have:us=[u]:=by
  match us,l1,h1 with
  |[u'],_,h1=>simpa using h1
 subst this;refine⟨?_,st.fr.os,st.fr.tape,st.fr.output,st.fr.size,λk hk=>(st.fr.block k hk λid c=>by simp).1⟩
 have h3:Rep (Mut zeg ρ' h') w' u (.bool true):=h2;cases h3;rfl
def zkj {run:Run} {f:FuncId} {fn:Func} {s:ChangeSpec} {m:Nat} {tb:TypeId} {G:Nat->Option (List D)} {W:World} {base:Nat} {args:Array Value} {ds gs:List (DataW H)} {before:List MemPlace}
 (hl:laidOutB P=true) (hp:fn.params.toList.all (zoU P m)=true) (hvars:s.vars=[]) (hres:fn.resultTypes= #[tb]) (htb:P.underlying tb=some .bool)
 (hspec: ∀ds:List (DataW H),ds.length=fn.params.size->s.fn H ds= { results:=[.lit (.bool true)],args:=ds,vars:=[] })
 (hrun:zdv P G run) (hx: ∀xs:List D,All2 (zbu P m) fn.params.toList xs-> ∃h',run f (xs.map .d) []=some ([.d (.bool true)],h')) (hg:GRel zeg G [] [] W)
 (hval: ∀ (j:Nat) t v,fn.params[j]? =some t->args[j]? =some v->Value.okWide P W .any base t v)
 (hW:DataW.Whole enc P fn.params.toList s.vars false W args.toList ds gs before):
 Calls P f args W λe W'=> ∃v,e= .returned v/\s.post enc P fn false true false false W args v W':=by
 have hW':=hW;have hlt: ∀x∈before,x.block<W.heap.size:=λx hx=>hW'.lt x hx
 obtain⟨p,q,hA,hV,rfl,_,_⟩:=hW;rw[hvars]at hV;obtain⟨rfl,rfl⟩:gs=[]/\q=[]:=by
  cases gs with
  |nil=>exact⟨rfl,hV⟩
  |cons g gs=>simp[DataW.TrodVars]at hV
 simp only[List.all_eq_true,zoU,Bool.and_eq_true,decide_eq_true_eq]at hp;obtain⟨xs,h1,h2⟩:=zmE fn.params.toList args.toList ds p (λt ht=>(hp t ht).1.1) (λj t v h1 h2=>hval j t v (by simpa using h1) (by simpa using h2)) hA
 obtain⟨h',hr⟩:=hx xs h1;have hlen:ds.length=fn.params.size:=by
  have: ∀ (ts:List TypeId) (vs:List Value) (ds:List (DataW H)) (ps:List MemPlace),DataW.TrodAll enc P W 0 (λ_=>true) true ts vs ds ps->ds.length=ts.length:=by
   intro ts
   induction ts with
   |nil=>intro vs ds ps h;obtain⟨_,rfl,_⟩:=trodAll_nil h;rfl
   |cons t ts ih=>
    intro vs ds ps h;obtain⟨v,vs',d,ds',p,q,rfl,rfl,rfl,hd,hr⟩:=trodAll_cons h;simp[ih _ _ _ hr]
  simpa using this _ _ _ _ hA
 have:=zoV hrun hr h2 hg;rw[Array.toArray_toList]at this;refine this.mono ?_
 rintro e W' ⟨rfl,hb⟩
 have hs:=hspec ds hlen;have hds:ds++([]:List (DataW H))=ds:=List.append_nil ds;refine⟨_,rfl,ds,[],p++[],[],p,[],hW', ?_, ?_, ?_,hb.frame _,λh=>by cases h⟩
 ·rw[hds,hs,hres]
  exact trodAll_cons_mk (shut_bool htb true) rfl
 ·rw[hds,hs]
  exact zki hl hb _ _ _ _ (λt ht=>⟨(hp t ht).1.2,(hp t ht).2⟩) hA λx hx=>hlt x (List.mem_append_left _ hx)
 ·rw[hds,hs,hvars]
  rfl
end
end Go.Am
namespace Go.Am
def Ev {α:Type} (A:Nat->Option α) (x:Option α):Prop:= ∀r,x=some r-> ∃n, ∀m,n<=m->A m=some r
def Ev.const {α:Type} (x:Option α):Ev (λ_=>x) x:=λ_ hr=>⟨0,λ_ _=>hr⟩
def Ev.obind {α β:Type} {A:Nat->Option α} {x:Option α} {B:Nat->α->Option β} {b:α->Option β} (ha:Ev A x) (hb: ∀a,Ev (λm=>B m a) (b a)):
 Ev (λm=>Am.obind (A m) (B m)) (Am.obind x b):=λr hr=>by
 cases x with
 |none=>cases hr
 |some a=>
  obtain⟨n1,h1⟩:=ha a rfl;obtain⟨n2,h2⟩:=hb a r hr;exact⟨max n1 n2,λm hm=>by simp only[h1 m (by omega)];exact h2 m (by omega)⟩
def Ev.onNormal {A:Nat->Res} {x:Res} {B:Nat->Slots->List Obj->Res} {b:Slots->List Obj->Res} (ha:Ev A x) (hb: ∀s h,Ev (λm=>B m s h) (b s h)):
 Ev (λm=>Am.onNormal (A m) (B m)) (Am.onNormal x b):=λr hr=>by
 cases x with
 |none=>cases hr
 |some a=>
  obtain⟨o,s,h⟩:=a;obtain⟨n1,h1⟩:=ha _ rfl;cases o with
  |normal=>
   obtain⟨n2,h2⟩:=hb s h r hr;exact⟨max n1 n2,λm hm=>by simp only[h1 m (by omega),Am.onNormal];exact h2 m (by omega)⟩
  |exit i=>exact⟨n1,λm hm=>by simp only[h1 m hm];exact hr⟩
  |ret=>exact⟨n1,λm hm=>by simp only[h1 m hm];exact hr⟩
def Ev.leave {A:Nat->Res} {x:Res} (id:Nat) (ha:Ev A x):Ev (λm=>Am.leave id (A m)) (Am.leave id x):=λr hr=>by
 cases x with
 |none=>cases hr
 |some a=>
  obtain⟨n1,h1⟩:=ha _ rfl;exact⟨n1,λm hm=>by simp only[h1 m hm];exact hr⟩
def Ev.branch {A B:Nat->Res} {x y:Res} (c:V) (ha:Ev A x) (hb:Ev B y):Ev (λm=>Am.branch c (A m) (B m)) (Am.branch c x y):=by
 unfold Am.branch;split
 ·rename_i t
  cases t with
  |true=>exact ha
  |false=>exact hb
 ·exact Ev.const none
def Ev.iter {A:Nat->Slots->List Obj->Res} {x:Slots->List Obj->Res} (ha: ∀s h,Ev (λm=>A m s h) (x s h)): ∀ (k:Nat) (s:Slots) (h:List Obj),Ev (λm=>Am.iter (A m) k s h) (Am.iter x k s h)
 |0,_,_=>Ev.const none
 |k+1,s,h=>by
  simp only[Am.iter];exact Ev.onNormal (ha s h) λs h=>Ev.iter ha k s h
def Ev.loops {A:Nat->Slots->List Obj->Res} {x:Slots->List Obj->Res} (ha: ∀s h,Ev (λm=>A m s h) (x s h)) (s:Slots) (h:List Obj):Ev (λm=>Am.loops (A m) s h) (Am.loops x s h):=λr hr=>by
 obtain⟨k,hk⟩:=zcI.1 hr;obtain⟨n,hn⟩:=Ev.iter ha k s h r hk;exact⟨n,λm hm=>zcI.2 ⟨k,hn m hm⟩⟩
def zhe (R:Nat->Run) (R':Run):Prop:= ∀f args h,Ev (λm=>R m f args h) (R' f args h)
section
variable {P:Program} {G:Nat->Option (List D)} {K:zfu} {S:zft} {R:Nat->Run} {R':Run}
def Ev.callWith (hR:zhe R R') (rf:Bool) (f:FuncId) (args:List V) (h:List Obj):Ev (λm=>Am.callWith rf (R m) f args h) (Am.callWith rf R' f args h):=by
 unfold Am.callWith;cases zcD rf h args with
 |none=>exact Ev.const none
 |some p=>
  obtain⟨as,h1⟩:=p;simp only;cases as.mapM (V.ren (zaI (zbo h1 (zao [] (as.flatMap V.ids))))) with
  |none=>exact Ev.const none
  |some as2=>
   cases zaO h1 (zaI (zbo h1 (zao [] (as.flatMap V.ids)))) (zbo h1 (zao [] (as.flatMap V.ids))) with
   |none=>exact Ev.const none
   |some hin=>
    simp only;intro r hr;cases hx:R' f as2 hin with
    |none=>rw[hx]at hr;cases hr
    |some q=>
     rw[hx]at hr;obtain⟨n,hn⟩:=hR f as2 hin q hx;exact⟨n,λm hm=>by simp only[hn m hm];exact hr⟩
def Ev.callThaw (hR:zhe R R') (f:FuncId) (args:List V) (h:List Obj):Ev (λm=>Am.callThaw (R m) f args h) (Am.callThaw R' f args h):=by
 unfold Am.callThaw;cases zcD false h args with
 |none=>exact Ev.const none
 |some p=>
  obtain⟨as,h1⟩:=p;simp only;intro r hr;cases hx:R' f as [] with
  |none=>rw[hx]at hr;cases hr
  |some q=>
   rw[hx]at hr;obtain⟨n,hn⟩:=hR f as [] q hx;exact⟨n,λm hm=>by simp only[hn m hm];exact hr⟩
def Ev.calleeV (hR:zhe R R') (s:Slots) (h:List Obj) (f:V) (args:List V):Ev (λm=>Am.calleeV G s h (R m) f args) (Am.calleeV G s h R' f args):=by
 unfold Am.calleeV;split
 ·split
  ·split
   ·intro r hr
    rename_i g _ _;cases hx:Am.callWith (zab G g) R' g args h with
    |none=>rw[hx]at hr;simp[zc7]at hr
    |some q=>
     obtain⟨n,hn⟩:=Ev.callWith hR (zab G g) g args h q hx;refine⟨n,λm hm=> ?_⟩
     have e1:Am.callWith (zab G g) (R m) g args h=some q:=hn m hm
     show zc7 h (Am.callWith (zab G g) (R m) g args h)=some r
     rw[e1,<- hx];exact hr
   split
   ·intro r hr
    rename_i g _ _ _;cases hx:Am.callWith (zab G g) R' g args h with
    |none=>rw[hx]at hr;cases hr
    |some q=>
     obtain⟨n,hn⟩:=Ev.callWith hR (zab G g) g args h q hx;refine⟨n,λm hm=> ?_⟩
     have e1:Am.callWith (zab G g) (R m) g args h=some q:=hn m hm
     show zoz h (Am.callWith (zab G g) (R m) g args h)=some r
     rw[e1,<- hx];exact hr
   ·exact Ev.callThaw hR _ _ _
  ·exact Ev.callWith hR _ _ _ _
 ·exact Ev.callWith hR _ _ _ _
 ·exact Ev.const none
def Ev.opV (hR:zhe R R') (s:Slots) (h:List Obj) (o:Oper):Ev (λm=>Am.opV P G (R m) s h o) (Am.opV P G R' s h o):=by
 unfold Am.opV;cases o.op with
 |call c=>
  simp only;cases c.callee with
  |builtin b=>exact Ev.const _
  |invoke _ _=>exact Ev.const _
  |value f=>exact Ev.calleeV hR _ _ _ _
 |makeFunc fn first cap=>cases fn <;> exact Ev.const _
 |next it b=>cases b <;> exact Ev.const _
 |_=>exact Ev.const _
def Ev.blindV (hR:zhe R R') (hv:List Obj) (s:Slots) (h:List Obj) (o:Oper):Ev (λm=>zbW h (Am.blindV P G (R m) hv s o)) (zbW h (Am.blindV P G R' hv s o)):=by
 have key:Ev (λm=>Am.blindV P G (R m) hv s o) (Am.blindV P G R' hv s o):=by
  unfold Am.blindV;cases o.op with
  |call c=>
   simp only;cases c.callee with
   |value f=>
    simp only;cases ev G s f with
    |d x=>
     cases x with
     |fn g=>
      simp only;split
      ·exact Ev.const _
      ·unfold zd5
       split
       ·exact Ev.obind (hR _ _ _) λ_=>Ev.const _
       ·exact Ev.const _
     |_=>exact Ev.const _
    |_=>exact Ev.const _
   |builtin b=>
    generalize List.map (ev G s) c.args.toList=l;generalize c.argTypes.toList=t;cases b <;> cases t <;> cases l <;> exact Ev.const _
   |invoke r m=>
    generalize List.map (ev G s) c.args.toList=l;generalize c.argTypes.toList=t;cases t <;> cases l <;> exact Ev.const _
  |_=>exact Ev.const _
 intro r hr;cases hx:Am.blindV P G R' hv s o with
 |none=>rw[hx]at hr;cases hr
 |some x=>
  rw[hx]at hr;obtain⟨n,hn⟩:=key x hx;exact⟨n,λm hm=>by simp only[hn m hm];exact hr⟩
def Ev.opsV (hR:zhe R R') (all:List Oper) (hint:List Nat) (hv:List Obj): ∀ (ops:List Oper) (i:Nat) (s:Slots) (h:List Obj),Ev (λm=>Am.opsV P G (R m) all hint hv i ops s h) (Am.opsV P G R' all hint hv i ops s h)
 |[],_,_,_=>Ev.const _
 |o::ops,i,s,h=>by
  simp only[Am.opsV];refine Ev.obind (Ev.const _) λw=> ?_
  cases w with
  |false=>exact Ev.opsV hR all hint hv ops _ _ _
  |true=>
   simp only[if_true];refine Ev.obind ?_ λp=>Ev.opsV hR all hint hv ops _ _ _
   cases hint.contains i with
   |true=>exact Ev.blindV hR hv s h o
   |false=>
    simp only[Bool.false_eq_true,if_false];split
    ·exact Ev.opV hR s h o
    ·exact Ev.const _
def Ev.rangeV {A:Nat->List D->Slots->List Obj->Res} {x:List D->Slots->List Obj->Res} (ha: ∀z s h,Ev (λm=>A m z s h) (x z s h)) (k:Nat) (keep:List (Nat × Nat)):
 ∀ (l:List (List D)) (s:Slots) (h:List Obj),Ev (λm=>Am.rangeV (A m) k keep l s h) (Am.rangeV x k keep l s h)
 |[],s,h=>Ev.const _
 |z::l,s,h=>by
  intro r hr;simp only[Am.rangeV]at hr ⊢;cases hx:x z s h with
  |none=>rw[hx]at hr;cases hr
  |some q=>
   obtain⟨o,s1,h1⟩:=q;rw[hx]at hr;obtain⟨n1,e1⟩:=ha z s h _ hx;cases o with
   |normal=>
    obtain⟨n2,e2⟩:=Ev.obind (Ev.const (zf3 k keep s h1)) (λ(p:Slots × List Obj)=>Ev.rangeV ha k keep l p.1 p.2) r hr
    exact⟨max n1 n2,λm hm=>by simp only[e1 m (by omega)];exact e2 m (by omega)⟩
   |exit i=>exact⟨n1,λm hm=>by simp only[e1 m hm];exact hr⟩
   |ret=>exact⟨n1,λm hm=>by simp only[e1 m hm];exact hr⟩
def ze4 (I:(Slots->List Obj->Res)->Slots->List Obj->Res):Prop:= ∀ {A:Nat->Slots->List Obj->Res} {x:Slots->List Obj->Res},(∀s h,Ev (λm=>A m s h) (x s h))-> ∀s h,Ev (λm=>Am.loops (A m) s h) (I x s h)
def ze4.loops:ze4 Am.loops:=λha s h=>Ev.loops ha s h
def ze4.iter (k:Nat):ze4 (λx=>Am.iter x k):=λha s h r hr=>by
 obtain⟨n,hn⟩:=Ev.iter ha k s h r hr;exact⟨n,λm hm=>zcI.2 ⟨k,hn m hm⟩⟩
variable {I:(Slots->List Obj->Res)->Slots->List Obj->Res}
def Ev.codeV (hI:ze4 I) (hR:zhe R R') (F:FuncId): ∀ (c:Code) (k b:Nat) (s:Slots) (h:List Obj),Ev (λm=>Am.codeV P G K S (R m) Am.loops F k b c s h) (Am.codeV P G K S R' I F k b c s h):=by
 intro c
 induction c with
 |skip=>intro k b s h;exact Ev.const _
 |region id ops draw=>
  intro k b s h;simp only[Am.codeV,zgM];exact Ev.obind (Ev.const _) λ_=>Ev.obind (Ev.opsV hR _ _ _ _ _ _ _) λ_=>Ev.const _
 |seq x y ihx ihy=>intro k b s h;simp only[Am.codeV];exact Ev.onNormal (ihx k b s h) λs h=>ihy k b s h
 |cond c x y ihx ihy=>intro k b s h;simp only[Am.codeV];exact Ev.branch _ (ihx k b s h) (ihy k b s h)
 |block id c ih=>intro k b s h;simp only[Am.codeV];exact Ev.leave id (ih k id s h)
 |loop c ih=>
  intro k b s h;simp only[Am.codeV];split
  ·exact hI (λs h=>Ev.obind (Ev.const _) λ(p:Slots × List Obj)=>ih k b p.1 p.2) s h
  ·exact hI (λs h=>ih k b s h) s h
 |rangeFunc f ps x y ihx ihy=>
  intro k b s h;simp only[Am.codeV];cases K F b with
  |none=>exact Ev.const _
  |some keep=>
   cases ps.toList with
   |nil=>exact Ev.const _
   |cons p l=>
    cases l with
    |cons _ _=>exact Ev.const _
    |nil=>
     refine Ev.obind (Ev.const _) λit=> ?_
     cases zeu k keep s h it.1 && zeu k keep s h it.2.1 with
     |false=>exact Ev.const _
     |true=>
      refine Ev.obind (Ev.const _) λq=>Ev.rangeV (λz s h=> ?_) _ _ _ _ _
      intro r hr;cases hx:Am.codeV P G K S R' I F h.length b x ((p,.d (.list z))::s) h with
      |none=>rw[hx]at hr;cases hr
      |some q=>
       obtain⟨o,s1,h1⟩:=q;rw[hx]at hr;obtain⟨n1,e1⟩:=ihx h.length b _ _ _ hx;cases o with
       |normal=>
        obtain⟨n2,e2⟩:=ihy h.length b s1 h1 r hr;exact⟨max n1 n2,λm hm=>by simp only[e1 m (by omega)];exact e2 m (by omega)⟩
       |exit i=>cases hr
       |ret=>cases hr
 |_=>intro k b s h;simp only[Am.codeV];exact Ev.const _
def Ev.bodyV (hI:ze4 I) (hR:zhe R R') (f:FuncId) (args:List V) (h:List Obj):Ev (λm=>Am.bodyV P G K S (R m) Am.loops f args h) (Am.bodyV P G K S R' I f args h):=by
 unfold Am.bodyV;cases P.funcs[f]? with
 |none=>exact Ev.const _
 |some fn=>
  simp only;cases fn.body with
  |none=>exact Ev.const _
  |some c=>
   simp only;split
   ·intro r hr
    cases hx:Am.codeV P G K S R' I f h.length 0 c (zam 0 args) h with
    |none=>rw[hx]at hr;cases hr
    |some q=>
     rw[hx]at hr;obtain⟨n,hn⟩:=Ev.codeV hI hR f c h.length 0 _ _ q hx;exact⟨n,λm hm=>by
     have:=hn m hm;simp only at this;simp only[this];exact hr⟩
   ·exact Ev.const _
def Ev.joinV {A B:Nat->Option (List V × List Obj)} {x y:Option (List V × List Obj)} (ha:Ev A x) (hb:Ev B y):Ev (λm=>Am.joinV (A m) (B m)) (Am.joinV x y):=λr hr=>by
 obtain⟨h1,h2⟩:=ziz hr;obtain⟨n1,k1⟩:=ha r h1;obtain⟨n2,k2⟩:=hb r h2;refine⟨max n1 n2,λm hm=> ?_⟩
 simp only[k1 m (by omega),k2 m (by omega),Am.joinV,if_true]
def Ev.bodyS (hI:ze4 I) (hR:zhe R R') (f:FuncId) (args:List V) (h:List Obj):Ev (λm=>Am.bodyS P G K S (R m) Am.loops f args h) (Am.bodyS P G K S R' I f args h):=by
 unfold Am.bodyS;split
 ·exact Ev.joinV (Ev.bodyV hI hR _ _ _) (Ev.bodyV hI hR _ _ _)
 ·exact Ev.bodyV hI hR _ _ _
variable (P G K S)
noncomputable def zqS:Nat->Run
 |0=>λ_ _ _=>none
 |n+1=>Am.bodyS P G K S (zqS n) Am.loops
open Classical in
noncomputable def zeB:Run:=λf args h=>if e: ∃n r, ∀m,n<=m->zqS P G K S m f args h=some r then some (Classical.choose (Classical.choose_spec e)) else none
variable {P G K S}
def zhf {f:FuncId} {args:List V} {h:List Obj} {r:List V × List Obj}:zeB P G K S f args h=some r↔ ∃n, ∀m,n<=m->zqS P G K S m f args h=some r:=by
 unfold zeB;constructor
 ·intro hr
  split at hr
  ·rename_i e
   simp only[Option.some.injEq]at hr;subst hr;exact⟨_,Classical.choose_spec (Classical.choose_spec e)⟩
  ·cases hr
 ·rintro ⟨n,hn⟩
  have e: ∃n r, ∀m,n<=m->zqS P G K S m f args h=some r:=⟨n,r,hn⟩;rw[dif_pos e];have h2:=Classical.choose_spec (Classical.choose_spec e);have h3:=hn (max n (Classical.choose e)) (by omega)
  have h4:=h2 (max n (Classical.choose e)) (by omega)
  rw[h3]at h4;simpa using h4.symm
def zsF:zhe (zqS P G K S) (zeB P G K S):=λ_ _ _ _ hr=>zhf.1 hr
def zi7 {f:FuncId} {args:List V} {h:List Obj} {r:List V × List Obj} (hr:bodyS P G K S (zeB P G K S) loops f args h=some r):zeB P G K S f args h=some r:=by
 obtain⟨n,hn⟩:=Ev.bodyS ze4.loops zsF f args h r hr;refine zhf.2 ⟨n+1,λm hm=> ?_⟩
 obtain⟨k,rfl⟩: ∃k,m=k+1:=⟨m - 1,by omega⟩
 exact hn k (by omega)
def zsG {f:FuncId} {args:List V} {h:List Obj} {r:List V × List Obj} (hs:splits G f=false\/ ∀zbH,args≠ .d (.list [])::zbH) (hr:bodyV P G K S (zeB P G K S) loops f args h=some r):zeB P G K S f args h=some r:=by
 refine zi7 ?_;unfold bodyS;split
 ·rename_i e
  rcases hs with hs | hs
  ·rw[hs]at e;cases e
  ·exact absurd rfl (hs _)
 ·exact hr
def znM {f:FuncId} {zbH:List V} {h:List Obj} {r:List V × List Obj} (hs:splits G f=true) (h1:bodyV P G K S (zeB P G K S) loops f (.nilS::zbH) h=some r) (h2:bodyV P G K S (zeB P G K S) loops f (.emp::zbH) h=some r):
 zeB P G K S f (.d (.list [])::zbH) h=some r:=by
 refine zi7 ?_;unfold bodyS;simp only[hs,h1,h2,joinV,if_true]
abbrev znN:=FuncId × List V × List Obj × (List V × List Obj)
def zoW:List znN->FuncId->List V->List Obj->Option (List V × List Obj)
 |[],_,_,_=>none
 |e::T,f,a,h=>if e.1=f/\e.2.1=a/\e.2.2.1=h then some e.2.2.2 else zoW T f a h
def zqT (P:Program) (G:Nat->Option (List D)) (K:zfu) (S:zft) (T:List znN) (k:Nat):Nat->Run
 |0=>zoW T
 |n+1=>λf a h=>
  match zoW T f a h with
  |some r=>some r
  |none=>Am.bodyS P G K S (zqT P G K S T k n) (λx=>Am.iter x k) f a h
variable (P G K S) in
def Tbl (T:List znN):Prop:= ∀e∈T,zeB P G K S e.1 e.2.1 e.2.2.1=some e.2.2.2
def t0:Tbl P G K S []:=λe he=>by cases he
def t1 {f:FuncId} {a:List V} {h:List Obj} {r:List V × List Obj} {T:List znN} (hr:zeB P G K S f a h=some r) (t:Tbl P G K S T):Tbl P G K S ((f,a,h,r)::T):=λe he=>by
 rcases List.mem_cons.1 he with rfl | he
 ·exact hr
 ·exact t e he
def zfE: ∀ {T:List znN} {f:FuncId} {a:List V} {h:List Obj} {r:List V × List Obj},Tbl P G K S T->zoW T f a h=some r->zeB P G K S f a h=some r
 |[],_,_,_,_,_,hr=>by cases hr
 |e::T,f,a,h,r,t,hr=>by
  unfold zoW at hr;split at hr
  ·rename_i he
   obtain⟨rfl,rfl,rfl⟩:=he;simp only[Option.some.injEq]at hr;subst hr;exact t e (List.mem_cons_self ..)
  ·exact zfE (λe he=>t e (List.mem_cons_of_mem _ he)) hr
def zah {T:List znN} (t:Tbl P G K S T) (k:Nat): ∀ (n:Nat) {f:FuncId} {args:List V} {h:List Obj} {r:List V × List Obj},zqT P G K S T k n f args h=some r->zeB P G K S f args h=some r
 |0,_,_,_,_,hr=>zfE t hr
 |n+1,f,args,h,r,hr=>by
  unfold zqT at hr;split at hr
  ·rename_i hl
   simp only[Option.some.injEq]at hr;subst hr;exact zfE t hl
  ·have e:zhe (λ_=>zeB P G K S) (zqT P G K S T k n):=λ_ _ _ r hr=>⟨0,λ_ _=>zah t k n hr⟩
   obtain⟨m,hm⟩:=Ev.bodyS (ze4.iter k) e f args h r hr;exact zi7 (hm m (Nat.le_refl _))
def zlA (hm:P.follows .mixedOrders=true) (hit: ∀g,zcW G g=true->zez P g): ∀n,zdv P G (zqS P G K S n)/\zcA P (zqS P G K S n)
 |0=>⟨λ_ _ _ _ _ hr=>by simp[zqS]at hr,λ_ _ _ _ hr=>by simp[zqS]at hr⟩
 |n+1=>zqR hit hm (zlA hm hit n).1 (zlA hm hit n).2 λ_ _ _ _ _ _ hc=>znL hc
def zsH (hm:P.follows .mixedOrders=true) (hit: ∀g,zcW G g=true->zez P g):zdv P G (zeB P G K S):=λf args h rets h' hr=>by
 obtain⟨n,hn⟩:=zhf.1 hr;exact (zlA hm hit n).1 f args h rets h' (hn n (Nat.le_refl _))
noncomputable def zeC (k:Nat) (keep:List (Nat × Nat)) (b:Slots->List Obj->Res) (s:Slots) (h:List Obj):Res:=loops (λs h=>obind (zf3 k keep s h) λp=>b p.1 p.2) s h
def zmF (k:Nat) (keep:List (Nat × Nat)) (b:Slots->List Obj->Res) (s:Slots) (h:List Obj):
 zeC k keep b s h=obind (zf3 k keep s h) λp=>onNormal (b p.1 p.2) (zeC k keep b):=by
 show loops _ s h=_
 rw[zqP];cases zf3 k keep s h <;> rfl
def znO {run:Run} {F:FuncId} {k b:Nat} {c:Code} {s:Slots} {h:List Obj} {keep:List (Nat × Nat)} (hk:K F b=some keep):
 codeV P G K S run loops F k b (.loop c) s h=zeC k keep (codeV P G K S run loops F k b c) s h:=by
 simp only[codeV,hk];rfl
end
end Go.Am
namespace Go.Am
attribute [simp] zet zbW calleeV zc8 eqV zfp zic zjI zk8 zni zid zgu zqv
attribute [simp] zjG zaG zwZ zgs zoy unD zfq zaV
attribute [simp] zfr zcU zcb zjH zb0 zd4 zmr zms zbq zrV zk9 min2 max2 natOf? bound? bounds? zf2
attribute [simp] zcD zbO za9 zbp zao zhS one zbK
attribute [simp] zbo zhV zqt
attribute [simp] znj zgJ
attribute [simp] zcr V.storable V.cellOk
@[simp] def zx0 {α:Type} (i:Nat):([]:List α)[i]? =none:=rfl
@[simp] def zw2 {α:Type} (x:α) (l:List α):(x::l)[0]? =some x:=rfl
@[simp] def zw3 {α:Type} (x:α) (l:List α) (i:Nat):(x::l)[i+1]? =l[i]? :=rfl
@[simp] def zw4 (rf:Bool) (h:List Obj) (a b:Nat):zf4 rf h (.arr a b)=bif rf then some (.arr a b,h) else (zbO h (.arr a b)).map λp=>(.d p.1,p.2):=by cases rf <;> rfl
@[simp] def zx1 (rf:Bool) (h:List Obj) (a b c d:Nat):zf4 rf h (.sl a b c d)=bif rf then some (.sl a b c d,h) else (zbO h (.sl a b c d)).map λp=>(.d p.1,p.2):=by cases rf <;> rfl
@[simp] def zw5 (rf:Bool) (h:List Obj) (a b:Nat):zf4 rf h (.ptr a b)=some (.ptr a b,h):=rfl
@[simp] def zx2 (rf:Bool) (h:List Obj) (a:Nat):zf4 rf h (.mp a)=some (.mp a,h):=rfl
@[simp] def zw6 (rf:Bool) (h:List Obj) (f:FuncId) (l:List V):zf4 rf h (.clo f l)=some (.clo f l,h):=rfl
@[simp] def zx3 (rf:Bool) (h:List Obj) (cs:List D):zf4 rf h (.ro cs)=some (.ro cs,h):=rfl
@[simp] def zz3 (rf:Bool) (h:List Obj) (x:D):zf4 rf h (.d x)=some (.d x,h):=rfl
@[simp] def zuB (rf:Bool) (h:List Obj):zf4 rf h .nilS=some (.d (.list []),h):=rfl
@[simp] def zw7 (rf:Bool) (h:List Obj):zf4 rf h .emp=some (.d (.list []),h):=rfl
@[simp] def zw8 (rf:Bool) (h:List Obj) (cs:List V):zf4 rf h (.agg cs)=(zbp h cs).map λp=>(.d (.agg p.1),p.2):=by
 show ((zbp h cs).map λ(xs,h)=>(D.agg xs,h)).map _=_
 cases zbp h cs <;> rfl
@[simp] def zz4 (G:Nat->Option (List D)) (s:Slots) (t:Tmp):ev G s (.tmp t)=zas s t:=rfl
@[simp] def zw9 (G:Nat->Option (List D)) (s:Slots) (v:Value):ev G s (.const v)=zjG v:=rfl
@[simp] def zuC (G:Nat->Option (List D)) (s:Slots) (g:Nat):ev G s (.global g)=match G g with | some cs=> .ro cs | none=> .dead:=rfl
@[simp] def zx4 (G:Nat->Option (List D)) (s:Slots) (f:FuncId):ev G s (.func f)= .d (.fn f):=rfl
@[simp] def zz5 (f:Nat->Option Nat) (x:D):V.ren0 f (.d x)=some (.d x):=rfl
@[simp] def zuD (f:Nat->Option Nat):V.ren0 f (.nilS)=some (.nilS):=rfl
@[simp] def zx5 (f:Nat->Option Nat) (cs:List D):V.ren0 f (.ro cs)=some (.ro cs):=rfl
@[simp] def zuE (f:Nat->Option Nat):V.ren0 f (.dead)=some (.dead):=rfl
@[simp] def zxa (f:Nat->Option Nat):V.ren0 f .emp=some .emp:=rfl
@[simp] def zx6 (f:Nat->Option Nat) (a b c d:Nat):V.ren0 f (.sl a b c d)=(f a).map λi=> .sl i b c d:=rfl
@[simp] def zxb (f:Nat->Option Nat) (a b:Nat):V.ren0 f (.arr a b)=(f a).map λi=> .arr i b:=rfl
@[simp] def zxc (f:Nat->Option Nat) (a b:Nat):V.ren0 f (.ptr a b)=(f a).map λi=> .ptr i b:=rfl
@[simp] def zuF (f:Nat->Option Nat) (a b c d:Nat):V.ren0 f (.eptr a b c d)=(f a).map λi=> .eptr i b c d:=rfl
@[simp] def zx7 (f:Nat->Option Nat) (a:Nat):V.ren0 f (.mp a)=(f a).map .mp:=rfl
@[simp] def zz6 (f:Nat->Option Nat) (x:D):V.ren1 f (.d x)=some (.d x):=rfl
@[simp] def zuG (f:Nat->Option Nat):V.ren1 f (.nilS)=some (.nilS):=rfl
@[simp] def zx8 (f:Nat->Option Nat) (cs:List D):V.ren1 f (.ro cs)=some (.ro cs):=rfl
@[simp] def zuH (f:Nat->Option Nat):V.ren1 f (.dead)=some (.dead):=rfl
@[simp] def zxd (f:Nat->Option Nat):V.ren1 f .emp=some .emp:=rfl
@[simp] def zx9 (f:Nat->Option Nat) (a b c d:Nat):V.ren1 f (.sl a b c d)=(f a).map λi=> .sl i b c d:=rfl
@[simp] def zxe (f:Nat->Option Nat) (a b:Nat):V.ren1 f (.arr a b)=(f a).map λi=> .arr i b:=rfl
@[simp] def zxf (f:Nat->Option Nat) (a b:Nat):V.ren1 f (.ptr a b)=(f a).map λi=> .ptr i b:=rfl
@[simp] def zuI (f:Nat->Option Nat) (a b c d:Nat):V.ren1 f (.eptr a b c d)=(f a).map λi=> .eptr i b c d:=rfl
@[simp] def zya (f:Nat->Option Nat) (a:Nat):V.ren1 f (.mp a)=(f a).map .mp:=rfl
@[simp] def zxg (f:Nat->Option Nat) (g:FuncId) (l:List V):V.ren1 f (.clo g l)=(l.mapM (V.ren0 f)).map (.clo g):=rfl
@[simp] def zz7 (f:Nat->Option Nat) (x:D):V.ren2 f (.d x)=some (.d x):=rfl
@[simp] def zuJ (f:Nat->Option Nat):V.ren2 f (.nilS)=some (.nilS):=rfl
@[simp] def zyb (f:Nat->Option Nat) (cs:List D):V.ren2 f (.ro cs)=some (.ro cs):=rfl
@[simp] def zuK (f:Nat->Option Nat):V.ren2 f (.dead)=some (.dead):=rfl
@[simp] def zxh (f:Nat->Option Nat):V.ren2 f .emp=some .emp:=rfl
@[simp] def zyc (f:Nat->Option Nat) (a b c d:Nat):V.ren2 f (.sl a b c d)=(f a).map λi=> .sl i b c d:=rfl
@[simp] def zxi (f:Nat->Option Nat) (a b:Nat):V.ren2 f (.arr a b)=(f a).map λi=> .arr i b:=rfl
@[simp] def zxj (f:Nat->Option Nat) (a b:Nat):V.ren2 f (.ptr a b)=(f a).map λi=> .ptr i b:=rfl
@[simp] def zuL (f:Nat->Option Nat) (a b c d:Nat):V.ren2 f (.eptr a b c d)=(f a).map λi=> .eptr i b c d:=rfl
@[simp] def zyd (f:Nat->Option Nat) (a:Nat):V.ren2 f (.mp a)=(f a).map .mp:=rfl
@[simp] def zxk (f:Nat->Option Nat) (g:FuncId) (l:List V):V.ren2 f (.clo g l)=(l.mapM (V.ren0 f)).map (.clo g):=rfl
@[simp] def zxl (f:Nat->Option Nat) (l:List V):V.ren2 f (.agg l)=(l.mapM (V.ren1 f)).map .agg:=rfl
@[simp] def zAS (f:Nat->Option Nat) (x:D):V.ren f (.d x)=some (.d x):=rfl
@[simp] def zxm (f:Nat->Option Nat):V.ren f (.nilS)=some (.nilS):=rfl
@[simp] def zz8 (f:Nat->Option Nat) (cs:List D):V.ren f (.ro cs)=some (.ro cs):=rfl
@[simp] def zxn (f:Nat->Option Nat):V.ren f (.dead)=some (.dead):=rfl
@[simp] def zye (f:Nat->Option Nat):V.ren f .emp=some .emp:=rfl
@[simp] def zz9 (f:Nat->Option Nat) (a b c d:Nat):V.ren f (.sl a b c d)=(f a).map λi=> .sl i b c d:=rfl
@[simp] def zyf (f:Nat->Option Nat) (a b:Nat):V.ren f (.arr a b)=(f a).map λi=> .arr i b:=rfl
@[simp] def zyg (f:Nat->Option Nat) (a b:Nat):V.ren f (.ptr a b)=(f a).map λi=> .ptr i b:=rfl
@[simp] def zxo (f:Nat->Option Nat) (a b c d:Nat):V.ren f (.eptr a b c d)=(f a).map λi=> .eptr i b c d:=rfl
@[simp] def zAa (f:Nat->Option Nat) (a:Nat):V.ren f (.mp a)=(f a).map .mp:=rfl
@[simp] def zyh (f:Nat->Option Nat) (g:FuncId) (l:List V):V.ren f (.clo g l)=(l.mapM (V.ren0 f)).map (.clo g):=rfl
@[simp] def zyi (f:Nat->Option Nat) (l:List V):V.ren f (.agg l)=(l.mapM (V.ren1 f)).map .agg:=rfl
@[simp] def zyj (f:Nat->Option Nat) (l:List V):V.ren f (.tup l)=(l.mapM (V.ren2 f)).map .tup:=rfl
@[simp] def zAb (x:D):V.ids0 (.d x)=[]:=rfl
@[simp] def zuM:V.ids0 (.nilS)=[]:=rfl
@[simp] def zyk (cs:List D):V.ids0 (.ro cs)=[]:=rfl
@[simp] def zuN:V.ids0 (.dead)=[]:=rfl
@[simp] def zxp:V.ids0 .emp=[]:=rfl
@[simp] def zyl (a b c d:Nat):V.ids0 (.sl a b c d)=[a]:=rfl
@[simp] def zxq (a b:Nat):V.ids0 (.arr a b)=[a]:=rfl
@[simp] def zxr (a b:Nat):V.ids0 (.ptr a b)=[a]:=rfl
@[simp] def zuO (a b c d:Nat):V.ids0 (.eptr a b c d)=[a]:=rfl
@[simp] def zym (a:Nat):V.ids0 (.mp a)=[a]:=rfl
@[simp] def zAc (x:D):V.ids1 (.d x)=[]:=rfl
@[simp] def zuP:V.ids1 (.nilS)=[]:=rfl
@[simp] def zyn (cs:List D):V.ids1 (.ro cs)=[]:=rfl
@[simp] def zuQ:V.ids1 (.dead)=[]:=rfl
@[simp] def zxs:V.ids1 .emp=[]:=rfl
@[simp] def zyo (a b c d:Nat):V.ids1 (.sl a b c d)=[a]:=rfl
@[simp] def zxt (a b:Nat):V.ids1 (.arr a b)=[a]:=rfl
@[simp] def zxu (a b:Nat):V.ids1 (.ptr a b)=[a]:=rfl
@[simp] def zuR (a b c d:Nat):V.ids1 (.eptr a b c d)=[a]:=rfl
@[simp] def zyp (a:Nat):V.ids1 (.mp a)=[a]:=rfl
@[simp] def zxv (g:FuncId) (l:List V):V.ids1 (.clo g l)=l.flatMap V.ids0:=rfl
@[simp] def zAd (x:D):V.ids2 (.d x)=[]:=rfl
@[simp] def zuS:V.ids2 (.nilS)=[]:=rfl
@[simp] def zyq (cs:List D):V.ids2 (.ro cs)=[]:=rfl
@[simp] def zuT:V.ids2 (.dead)=[]:=rfl
@[simp] def zxw:V.ids2 .emp=[]:=rfl
@[simp] def zyr (a b c d:Nat):V.ids2 (.sl a b c d)=[a]:=rfl
@[simp] def zxx (a b:Nat):V.ids2 (.arr a b)=[a]:=rfl
@[simp] def zxy (a b:Nat):V.ids2 (.ptr a b)=[a]:=rfl
@[simp] def zuU (a b c d:Nat):V.ids2 (.eptr a b c d)=[a]:=rfl
@[simp] def zys (a:Nat):V.ids2 (.mp a)=[a]:=rfl
@[simp] def zxz (g:FuncId) (l:List V):V.ids2 (.clo g l)=l.flatMap V.ids0:=rfl
@[simp] def zxA (l:List V):V.ids2 (.agg l)=l.flatMap V.ids1:=rfl
@[simp] def zAT (x:D):V.ids (.d x)=[]:=rfl
@[simp] def zxB:V.ids (.nilS)=[]:=rfl
@[simp] def zAe (cs:List D):V.ids (.ro cs)=[]:=rfl
@[simp] def zxC:V.ids (.dead)=[]:=rfl
@[simp] def zyt:V.ids .emp=[]:=rfl
@[simp] def zAf (a b c d:Nat):V.ids (.sl a b c d)=[a]:=rfl
@[simp] def zyu (a b:Nat):V.ids (.arr a b)=[a]:=rfl
@[simp] def zyv (a b:Nat):V.ids (.ptr a b)=[a]:=rfl
@[simp] def zxD (a b c d:Nat):V.ids (.eptr a b c d)=[a]:=rfl
@[simp] def zAg (a:Nat):V.ids (.mp a)=[a]:=rfl
@[simp] def zyw (g:FuncId) (l:List V):V.ids (.clo g l)=l.flatMap V.ids0:=rfl
@[simp] def zyx (l:List V):V.ids (.agg l)=l.flatMap V.ids1:=rfl
@[simp] def zyy (l:List V):V.ids (.tup l)=l.flatMap V.ids2:=rfl
@[simp] def ztI (f:Nat->Option Nat) (cs:List V):Obj.ren f (.box cs)=(cs.mapM (V.ren1 f)).map .box:=rfl
@[simp] def ztJ (f:Nat->Option Nat) (sz:Nat) (xs:List D) (wm:Nat):Obj.ren f (.arr sz xs wm)=some (.arr sz xs wm):=rfl
@[simp] def zrZ (f:Nat->Option Nat) (s:ByteArray) (n:Nat):Obj.ren f (.siter s n)=some (.siter s n):=rfl
@[simp] def ztK (cs:List V):Obj.ids (.box cs)=cs.flatMap V.ids1:=rfl
@[simp] def ztL (sz:Nat) (xs:List D) (wm:Nat):Obj.ids (.arr sz xs wm)=[]:=rfl
@[simp] def zr0 (s:ByteArray) (n:Nat):Obj.ids (.siter s n)=[]:=rfl
@[simp] def zuV (i:Nat):zaI [] i=none:=rfl
@[simp] def ztM (x:Nat) (xs:List Nat) (i:Nat):zaI (x::xs) i=bif x == i then some 0 else (zaI xs i).map (·+1):=by simp only[zaI,cond_eq_ite,beq_iff_eq]
@[simp] def zAh (l:List D):(D.agg l).cells=l:=rfl
@[simp] def zAi (k:IntKind) (n:Int):(D.int k n).cells=[.int k n]:=rfl
@[simp] def zyz (b:Bool):(D.bool b).cells=[.bool b]:=rfl
@[simp] def zAj (s:ByteArray):(D.str s).cells=[.str s]:=rfl
@[simp] def zyA (l:List D):(D.list l).cells=[.list l]:=rfl
@[simp] def zyB:D.nilI.cells=[.nilI]:=rfl
@[simp] def zyC:D.nilP.cells=[.nilP]:=rfl
@[simp] def zyD:D.nilM.cells=[.nilM]:=rfl
@[simp] def zyE:D.nilF.cells=[.nilF]:=rfl
@[simp] def zxE (t:TypeId) (x:D):(D.iface t x).cells=[.iface t x]:=rfl
@[simp] def zAU (f:FuncId):(D.fn f).cells=[.fn f]:=rfl
@[simp] def zAk (l:List V):(V.agg l).cells=l:=rfl
@[simp] def zyF (l:List D):(V.d (.agg l)).cells=l.map .d:=rfl
@[simp] def zAl (k:IntKind) (n:Int):(V.d (.int k n)).cells=[.d (.int k n)]:=rfl
@[simp] def zyG (b:Bool):(V.d (.bool b)).cells=[.d (.bool b)]:=rfl
@[simp] def zAm (s:ByteArray):(V.d (.str s)).cells=[.d (.str s)]:=rfl
@[simp] def zyH (l:List D):(V.d (.list l)).cells=[.d (.list l)]:=rfl
@[simp] def zyI:(V.d .nilI).cells=[.d .nilI]:=rfl
@[simp] def zyJ:(V.d .nilM).cells=[.d .nilM]:=rfl
@[simp] def zyK:(V.d .nilP).cells=[.d .nilP]:=rfl
@[simp] def zyL:(V.d .nilF).cells=[.d .nilF]:=rfl
@[simp] def zxF (t:TypeId) (x:D):(V.d (.iface t x)).cells=[.d (.iface t x)]:=rfl
@[simp] def zAV (f:FuncId):(V.d (.fn f)).cells=[.d (.fn f)]:=rfl
@[simp] def zyM:V.nilS.cells=[.nilS]:=rfl
@[simp] def zAn (a b:Nat):(V.arr a b).cells=[.arr a b]:=rfl
@[simp] def zAo:V.emp.cells=[.emp]:=rfl
@[simp] def zAW (a b c d:Nat):(V.sl a b c d).cells=[.sl a b c d]:=rfl
@[simp] def zAp (a b:Nat):(V.ptr a b).cells=[.ptr a b]:=rfl
@[simp] def zyN (a b c d:Nat):(V.eptr a b c d).cells=[.eptr a b c d]:=rfl
@[simp] def zAq (f:FuncId) (l:List V):(V.clo f l).cells=[.clo f l]:=rfl
def za7 {α:Type} (p:Prop) [Decidable p] (x:Option α):Option α:=if p then x else none
@[simp] def zsI {α:Type} (x:Option α):za7 True x=x:=rfl
@[simp] def zr1 {α:Type} (x:Option α):za7 False x=none:=rfl
@[simp] def ztN {α:Type} {p:Prop} [Decidable p] (x:Option α) (h:p):za7 p x=x:=if_pos h
@[congr] def zr2 {α:Type} {p q:Prop} [Decidable p] [Decidable q] {x:Option α} (h:p=q):za7 p x=za7 q x:=by cases h;unfold za7;congr
@[simp] def zoX {α:Type} (p:Prop) [Decidable p] (x:Option α):(if p then x else none)=za7 p x:=rfl
def zi8 {α:Type} (p q:Prop) [Decidable p] [Decidable q] (x:Option α):(if p/\q then x else none)=za7 p (za7 q x):=by
 unfold za7
 by_cases hp:p <;> by_cases hq:q <;> simp[hp,hq]
@[simp] def zoY {α:Type} (p q:Prop) [Decidable p] [Decidable q] (x:Option α):za7 (p/\q) x=za7 p (za7 q x):=zi8 p q x
@[simp] def ze5 {α:Type} (p:Prop) [Decidable p] (x:Option α):(if p then none else x)=za7 (¬ p) x:=by
 unfold za7
 by_cases hp:p <;> simp[hp]
@[simp] def ztO (k:IntKind) (x y:Int):zbl .add k x y=some (.int k (k.wrap (x+y))):=rfl
@[simp] def ztP (k:IntKind) (x y:Int):zbl .sub k x y=some (.int k (k.wrap (x - y))):=rfl
@[simp] def ztQ (k:IntKind) (x y:Int):zbl .mul k x y=some (.int k (k.wrap (x*y))):=rfl
@[simp] def ztR (k:IntKind) (x y:Int):zbl .quo k x y=za7 (¬ y=0) (some (.int k (k.wrap (x.tdiv y)))):=ze5 _ _
@[simp] def ztS (k:IntKind) (x y:Int):zbl .rem k x y=za7 (¬ y=0) (some (.int k (x.tmod y))):=ze5 _ _
@[simp] def ztT (k:IntKind) (x y:Int):zbl .eql k x y=some (.bool (decide (x=y))):=by simp only[zbl];congr 2
@[simp] def ztU (k:IntKind) (x y:Int):zbl .neq k x y=some (.bool (!decide (x=y))):=by simp only[zbl];congr 2
@[simp] def ztV (k:IntKind) (x y:Int):zbl .lss k x y=some (.bool (decide (x<y))):=rfl
@[simp] def ztW (k:IntKind) (x y:Int):zbl .leq k x y=some (.bool (decide (x<=y))):=rfl
@[simp] def ztX (k:IntKind) (x y:Int):zbl .gtr k x y=some (.bool (decide (y<x))):=rfl
@[simp] def ztY (k:IntKind) (x y:Int):zbl .geq k x y=some (.bool (decide (y<=x))):=rfl
@[simp] def zcX (l:List UInt8):(l.map za2).mapM byteOf?=some l:=by
 induction l with
 |nil=>rfl
 |cons b l ih=>
  simp only[List.map_cons,List.mapM_cons,ih,za2,byteOf?,Int.toNat_natCast];simp
structure Tok {α:Type} (a:α):Type where
section
variable {P:Program} {G:Nat->Option (List D)} {K:zfu} {S:zft} {run:Run} {F k b:Nat} {α β:Type}
def zr3 (x:Res) (f:Slots->List Obj->Res) (_:Tok f):Res:=onNormal x f
def za3 (x:Option α) (f:α->Option β) (_:Tok f):Option β:=obind x f
def zdF (v:V) (f:Bool->Option α) (_:Tok f):Option α:=
 match v with
 |.d (.bool z)=>f z
 |_=>none
noncomputable def zbA (P:Program) (G:Nat->Option (List D)) (K:zfu) (S:zft) (run:Run) (F k b:Nat) (c:Code) (_:Tok c) (s:Slots) (h:List Obj):Res:=codeV P G K S run loops F k b c s h
noncomputable def zou (P:Program) (G:Nat->Option (List D)) (run:Run) (all:List Oper) (hint:List Nat) (hv:List Obj) (i:Nat) (zbH:List Oper) (_:Tok (all,zbH)) (s:Slots) (h:List Obj):Option (Slots × List Obj):=opsV P G run all hint hv i zbH s h
noncomputable def opT (P:Program) (G:Nat->Option (List D)) (run:Run) (hint:List Nat) (hv:List Obj) (i:Nat) (o:Oper) (_:Tok o) (s:Slots) (h:List Obj):Option (V × List Obj):=zc2 P G run hint hv i s h o
noncomputable def zaf (keep:Option (List (Nat × Nat))) (k:Nat) (f:Slots->List Obj->Res) (_:Tok f) (s:Slots) (h:List Obj):Res:=
 match keep with
 |some l=>zeC k l f s h
 |none=>loops f s h
@[simp] def zsJ (s:Slots) (h:List Obj) (f:Slots->List Obj->Res) (t:Tok f):zr3 (some (.normal,s,h)) f t=f s h:=rfl
@[simp] def zuW (i:Nat) (s:Slots) (h:List Obj) (f:Slots->List Obj->Res) (t:Tok f):zr3 (some (.exit i,s,h)) f t=some (.exit i,s,h):=rfl
@[simp] def zxG (s:Slots) (h:List Obj) (f:Slots->List Obj->Res) (t:Tok f):zr3 (some (.ret,s,h)) f t=some (.ret,s,h):=rfl
@[simp] def ztZ (a:α) (f:α->Option β) (t:Tok f):za3 (some a) f t=f a:=rfl
@[simp] def zt0 (f:α->Option β) (t:Tok f):za3 none f t=none:=rfl
@[simp] def zuX (f:Slots->List Obj->Res) (t:Tok f):zr3 none f t=none:=rfl
@[simp] def zt1 (f:Bool->Option α) (t:Tok f):zdF (.d (.bool true)) f t=f true:=rfl
@[simp] def zsK (f:Bool->Option α) (t:Tok f):zdF (.d (.bool false)) f t=f false:=rfl
@[simp] def zuY (c:Bool) (f:Bool->Option α) (t:Tok f):zdF (.d (.bool !c)) f t=zdF (.d (.bool c)) (λz=>match z with | true=>f false | false=>f true) ⟨⟩:=by cases c <;> rfl
@[simp] def zuZ (v:V) (f:Bool->Res) (t:Tok f) (g:Slots->List Obj->Res) (u:Tok g):zr3 (zdF v f t) g u=zdF v (λz=>zr3 (f z) g ⟨⟩) ⟨⟩:=by
 cases v with
 |d x=>cases x <;> rfl
 |_=>rfl
@[simp] def zt2 (v:V) (f:Bool->Option α) (t:Tok f) (g:α->Option β) (u:Tok g):za3 (zdF v f t) g u=zdF v (λz=>za3 (f z) g ⟨⟩) ⟨⟩:=by
 cases v with
 |d x=>cases x <;> rfl
 |_=>rfl
@[simp] def zt3 (id:Nat) (v:V) (f:Bool->Res) (t:Tok f):leave id (zdF v f t)=zdF v (λz=>leave id (f z)) ⟨⟩:=by
 cases v with
 |d x=>cases x <;> rfl
 |_=>rfl
def zqU {T:Option α->Prop} {c:Bool} {f:Bool->Option α} {t:Tok f} (h1:c=true->T (f true)) (h0:c=false->T (f false)):T (zdF (.d (.bool c)) f t):=by
 cases c
 ·exact h0 rfl
 ·exact h1 rfl
def zc5 (x:α) (f:α->β) (_:Tok f):β:=f x
@[simp] def zxH (x:α) (f:α->β) (t:Tok f):zc5 x f t=f x:=rfl
@[simp] def zxI (t:Nat):zas [] t= .dead:=rfl
@[simp] def zu0 (i:Nat) (v:V) (r:Slots) (t:Nat):zas ((i,v)::r) t=bif i == t then v else zas r t:=by
 simp only[zas,cond_eq_ite,beq_iff_eq]
def zdx (v:V) (sz t:Nat) (s:Slots) (h:List Obj) (r:List (Nat × Nat)):Slots × List Obj:=
 match v,sz with
 |.nilS,sz+1=>let (s1,h1):=zac s (h++[.arr (sz+1) [] 0]) r;((t,.arr h.length 0)::s1,h1)
 |v,_=>let (s1,h1):=zac s h r;((t,v)::s1,h1)
@[simp] def zqV (s:Slots) (h:List Obj):zac s h []=([],h):=rfl
@[simp] def zqm (s:Slots) (h:List Obj) (t sz:Nat) (r:List (Nat × Nat)) (ht:t<1000000):zac s h ((t,sz)::r)=zdx (zas s t) sz t s h r:=by
 unfold zac;rw[if_pos ht];rfl
def zi9 (p:Option (D × List Obj)) (t:Nat) (s:Slots) (r:List (Nat × Nat)):Slots × List Obj:=
 match p with
 |some (x,h0)=>let (s1,h1):=zac s h0 r;((t,.d x)::s1,h1)
 |none=>([],[])
@[simp] def zqW (x:D) (h0:List Obj) (t:Nat) (s:Slots) (r:List (Nat × Nat)):zi9 (some (x,h0)) t s r=zc5 (zac s h0 r) (λp=>((t,.d x)::p.1,p.2)) ⟨⟩:=rfl
def zep {s:Slots} {h:List Obj} {t sz:Nat} {r:List (Nat × Nat)} {p:D × List Obj} (hp:zbO h (zas s t)=some p):zac s h ((t+1000000,sz)::r)=zi9 (zbO h (zas s t)) t s r:=by
 unfold zac;rw[if_neg (by omega),Nat.add_sub_cancel,hp]
 rfl
@[simp] def zqn {s:Slots} {h:List Obj} {t sz:Nat} {r:List (Nat × Nat)} {x:List D} (hp:zas s t= .d (.list x)):zac s h ((t+1000000,sz)::r)=zc5 (zac s h r) (λp=>((t,.d (.list x))::p.1,p.2)) ⟨⟩:=by
 rw[zep (p:=(.list x,h)) (by rw[hp];rfl),hp];rfl
@[simp] def zqX {s:Slots} {h:List Obj} {t sz:Nat} {r:List (Nat × Nat)} {id n:Nat} (hp:zas s t= .arr id n) (hd:(zbO h (.arr id n)).isSome=true):zac s h ((t+1000000,sz)::r)=zi9 (zbO h (.arr id n)) t s r:=by
 obtain⟨p,e⟩:=Option.isSome_iff_exists.1 hd;rw[zep (p:=p) (by rw[hp];exact e),hp]
@[simp] def zqY (v:V) (t:Nat) (s:Slots) (h:List Obj) (r:List (Nat × Nat)):zdx v 0 t s h r=zc5 (zac s h r) (λp=>((t,v)::p.1,p.2)) ⟨⟩:=by
 cases v <;> rfl
@[simp] def zqZ (sz t:Nat) (s:Slots) (h:List Obj) (r:List (Nat × Nat)):zdx .nilS (sz+1) t s h r=zc5 (zac s (h++[.arr (sz+1) [] 0]) r) (λp=>((t,.arr h.length 0)::p.1,p.2)) ⟨⟩:=rfl
@[simp] def zr4 (a b sz t:Nat) (s:Slots) (h:List Obj) (r:List (Nat × Nat)):zdx (.arr a b) (sz+1) t s h r=zc5 (zac s h r) (λp=>((t,.arr a b)::p.1,p.2)) ⟨⟩:=rfl
@[simp] def zsL (a b c d sz t:Nat) (s:Slots) (h:List Obj) (r:List (Nat × Nat)):zdx (.sl a b c d) (sz+1) t s h r=zc5 (zac s h r) (λp=>((t,.sl a b c d)::p.1,p.2)) ⟨⟩:=rfl
@[simp] def zr5 (sz t:Nat) (s:Slots) (h:List Obj) (r:List (Nat × Nat)):zdx .emp (sz+1) t s h r=zc5 (zac s h r) (λp=>((t,.emp)::p.1,p.2)) ⟨⟩:=rfl
@[simp] def zt4 (x:D) (sz t:Nat) (s:Slots) (h:List Obj) (r:List (Nat × Nat)):zdx (.d x) (sz+1) t s h r=zc5 (zac s h r) (λp=>((t,.d x)::p.1,p.2)) ⟨⟩:=rfl
@[simp] def zr6 (f:Nat->Option Nat):zcc f []=some []:=rfl
@[simp] def zq0 (f:Nat->Option Nat) (t:Nat) (v:V) (r:Slots):zcc f ((t,v)::r)=za3 (V.ren f v) (λu=>za3 (zcc f r) (λl=>some ((t,u)::l)) ⟨⟩) ⟨⟩:=by
 simp only[zcc,List.mapM_cons,za3];cases V.ren f v with
 |none=>rfl
 |some u=>cases List.mapM (λ(p:Nat × V)=>Option.map (λv=>(p.1,v)) (V.ren f p.2)) r <;> rfl
def zhg (h:List Obj) (f:Nat->Option Nat) (i:Nat):Option Obj:=(h[i]?).bind (Obj.ren f)
@[simp] def zr7 (o:Obj) (h:List Obj) (f:Nat->Option Nat):zhg (o::h) f 0=Obj.ren f o:=rfl
@[simp] def zr8 (o:Obj) (h:List Obj) (f:Nat->Option Nat) (i:Nat):zhg (o::h) f (i+1)=zhg h f i:=rfl
@[simp] def zr9 (h:List Obj) (f:Nat->Option Nat):zaO h f []=some []:=rfl
@[simp] def zq1 (h:List Obj) (f:Nat->Option Nat) (i:Nat) (l:List Nat):zaO h f (i::l)=za3 (zhg h f i) (λo=>za3 (zaO h f l) (λos=>some (o::os)) ⟨⟩) ⟨⟩:=by
 simp only[zaO,List.mapM_cons,za3,zhg];cases (h[i]?).bind (Obj.ren f) with
 |none=>rfl
 |some u=>cases List.mapM (λi=>(h[i]?).bind (Obj.ren f)) l <;> rfl
@[simp] def zyO (k:Nat) (keep:List (Nat × Nat)) (s:Slots) (h:List Obj):zf3 k keep s h=
 zc5 (zac s h keep) (λp=>zc5 (zbo p.2 (zao (List.range k) (p.1.flatMap λq=>q.2.ids))) (λids=>za3 (zcc (zaI ids) p.1) (λs2=>za3 (zaO p.2 (zaI ids) ids) (λh2=>some (s2,h2)) ⟨⟩) ⟨⟩) ⟨⟩) ⟨⟩:=by
 simp only[zf3,zc5,za3,obind];cases zcc (zaI (zbo (zac s h keep).2 (zao (List.range k) ((zac s h keep).1.flatMap λq=>q.2.ids)))) (zac s h keep).1 with
 |none=>rfl
 |some s2=>cases zaO (zac s h keep).2 (zaI (zbo (zac s h keep).2 (zao (List.range k) ((zac s h keep).1.flatMap λq=>q.2.ids)))) (zbo (zac s h keep).2 (zao (List.range k) ((zac s h keep).1.flatMap λq=>q.2.ids))) <;> rfl
@[simp] def zsM (rf:Bool) (f:FuncId) (args:List V) (h:List Obj):callWith rf run f args h=
 za3 (zcD rf h args) (λp=>zc5 (zbo p.2 (zao [] (p.1.flatMap V.ids))) (λids=>za3 (p.1.mapM (V.ren (zaI ids))) (λas2=>za3 (zaO p.2 (zaI ids) ids) (λhin=>
  za3 (run f as2 hin) (λq=>za3 (q.1.mapM (V.ren (zhS ids p.2.length))) (λrets2=>za3 (q.2.mapM (Obj.ren (zhS ids p.2.length))) (λhout2=>some (one rets2,zbK p.2 ids hout2++hout2.drop ids.length)) ⟨⟩) ⟨⟩) ⟨⟩) ⟨⟩) ⟨⟩) ⟨⟩) ⟨⟩:=by
 simp only[callWith,zc5,za3];cases zcD rf h args with
 |none=>rfl
 |some p=>
  obtain⟨as,h1⟩:=p;simp only[obind];cases as.mapM (V.ren (zaI (zbo h1 (zao [] (as.flatMap V.ids))))) with
  |none=>rfl
  |some as2=>
   simp only;cases zaO h1 (zaI (zbo h1 (zao [] (as.flatMap V.ids)))) (zbo h1 (zao [] (as.flatMap V.ids))) with
   |none=>rfl
   |some hin=>
    simp only;cases run f as2 hin with
    |none=>rfl
    |some q=>
     obtain⟨rets,hout⟩:=q;simp only;cases rets.mapM (V.ren (zhS (zbo h1 (zao [] (as.flatMap V.ids))) h1.length)) with
     |none=>rfl
     |some r2=>cases hout.mapM (Obj.ren (zhS (zbo h1 (zao [] (as.flatMap V.ids))) h1.length)) <;> rfl
@[simp] def zsN (f:FuncId) (args:List V) (h:List Obj):callThaw run f args h=
 za3 (zcD false h args) (λp=>za3 (run f p.1 []) (λq=>za3 (bif args.all zbb && q.1.all V.flat && q.2.all Obj.flat then some () else none) (λ_=>za3 (q.1.mapM (V.ren (zhS [] h.length))) (λrets2=>za3 (q.2.mapM (Obj.ren (zhS [] h.length))) (λhout2=>some (one rets2,h++hout2)) ⟨⟩) ⟨⟩) ⟨⟩) ⟨⟩) ⟨⟩:=by
 simp only[callThaw,za3];cases zcD false h args with
 |none=>rfl
 |some p=>
  obtain⟨as,h1⟩:=p;simp only[obind];cases run f as [] with
  |none=>rfl
  |some q=>
   obtain⟨rets,hout⟩:=q;simp only;cases args.all zbb && rets.all V.flat && hout.all Obj.flat with
   |false=>rfl
   |true=>
    simp only[if_true,cond_true];cases rets.mapM (V.ren (zhS [] h.length)) with
    |none=>rfl
    |some r2=>cases hout.mapM (Obj.ren (zhS [] h.length)) <;> rfl
@[simp] def zu1 (k:Nat) (ts:List TypeId) (vs:List V) (h:List Obj):zeM P k ts vs h=
 zc5 (zgJ P h vs ts) (λp=>zc5 (zbo p.2 (zao (List.range k) (p.1.flatMap V.ids))) (λids=>za3 (p.1.mapM (V.ren2 (zaI ids))) (λws=>za3 (zaO p.2 (zaI ids) ids) (λh2=>some (ws,h2)) ⟨⟩) ⟨⟩) ⟨⟩) ⟨⟩:=by
 simp only[zeM,zc5,za3,obind];generalize zgJ P h vs ts=p;cases p.1.mapM (V.ren2 (zaI (zbo p.2 (zao (List.range k) (p.1.flatMap V.ids))))) with
 |none=>rfl
 |some s2=>cases zaO p.2 (zaI (zbo p.2 (zao (List.range k) (p.1.flatMap V.ids)))) (zbo p.2 (zao (List.range k) (p.1.flatMap V.ids))) <;> rfl
@[simp ↓] def zt5 {t} {s:Slots} {h:List Obj}:zbA P G K S run F k b .skip t s h=some (.normal,s,h):=rfl
@[simp ↓] def zu2 {x y:Code} {t} {s:Slots} {h:List Obj}:zbA P G K S run F k b (.seq x y) t s h=zr3 (zbA P G K S run F k b x ⟨⟩ s h) (λs1 h1=>zbA P G K S run F k b y ⟨⟩ s1 h1) ⟨⟩:=rfl
@[simp ↓] def zaN {c:Operand} {x y:Code} {t} {s:Slots} {h:List Obj}:
 zbA P G K S run F k b (.cond c x y) t s h=zdF (ev G s c) (λz=>match z with | true=>zbA P G K S run F k b x ⟨⟩ s h | false=>zbA P G K S run F k b y ⟨⟩ s h) ⟨⟩:=by
 show branch (ev G s c) _ _=_
 cases ev G s c with
 |d z=>
  cases z with
  |bool z=>cases z <;> rfl
  |_=>rfl
 |_=>rfl
@[simp ↓] def zsO {id:Nat} {c:Code} {t} {s:Slots} {h:List Obj}:zbA P G K S run F k b (.block id c) t s h=leave id (zbA P G K S run F k id c ⟨⟩ s h):=rfl
@[simp ↓] def zt6 {id:Nat} {t} {s:Slots} {h:List Obj}:zbA P G K S run F k b (.exit id) t s h=some (.exit id,s,h):=rfl
@[simp ↓] def zu3 {t} {s:Slots} {h:List Obj}:zbA P G K S run F k b .ret t s h=some (.ret,s,h):=rfl
@[simp ↓] def zt7 {c:Code} {t} {s:Slots} {h:List Obj}:zbA P G K S run F k b (.loop c) t s h=zaf (K F b) k (λs h=>zbA P G K S run F k b c ⟨⟩ s h) ⟨⟩ s h:=by
 unfold zaf zbA;cases e:K F b with
 |some keep=>rw[znO e]
 |none=>simp only[codeV,e]
noncomputable def ze6 (keep:List (Nat × Nat)) (k:Nat) (round:List D->Slots->List Obj->Res) (_:Tok round) (l:List (List D)) (s:Slots) (h:List Obj):Res:=obind (zf3 k keep s h) λq=>rangeV round k keep l q.1 q.2
def zAr (x:Res) (f:Slots->List Obj->Res) (_:Tok f):Res:=
 match x with
 |some (.normal,s,h)=>f s h
 |_=>none
def zsP (x:Res) (s:Slots) (f:List Obj->Res) (_:Tok f):Res:=
 match x with
 |some (.normal,_,h)=>f h
 |some (o,_,h)=>some (o,s,h)
 |none=>none
@[simp] def zsQ (s:Slots) (h:List Obj) (f:Slots->List Obj->Res) (t:Tok f):zAr (some (.normal,s,h)) f t=f s h:=rfl
@[simp] def zsR (s s':Slots) (h:List Obj) (f:List Obj->Res) (t:Tok f):zsP (some (.normal,s',h)) s f t=f h:=rfl
@[simp] def zu4 (i:Nat) (s s':Slots) (h:List Obj) (f:List Obj->Res) (t:Tok f):zsP (some (.exit i,s',h)) s f t=some (.exit i,s,h):=rfl
@[simp] def zxJ (s s':Slots) (h:List Obj) (f:List Obj->Res) (t:Tok f):zsP (some (.ret,s',h)) s f t=some (.ret,s,h):=rfl
@[simp] def zu5 (v:V) (f:Bool->Res) (t:Tok f) (s:Slots) (g:List Obj->Res) (u:Tok g):zsP (zdF v f t) s g u=zdF v (λz=>zsP (f z) s g ⟨⟩) ⟨⟩:=by
 cases v with
 |d x=>cases x <;> rfl
 |_=>rfl
def zu6 (i j:Nat):Option Obj->Option Obj->Option (Nat × Nat × List (List D))
 |some (.box [.d (.list xs)]),some (.box [.d (.int .i64 n)])=>if 0<n/\n<=65536/\xs.length<=65536/\zap 1 xs then some (i,j,zcl n.toNat xs.length xs) else none
 |_,_=>none
@[simp] def zu7 (h:List Obj) (g i j:Nat):zhW G h (.clo g [.ptr i 0,.ptr j 0])=bif zcW G g then zu6 i j h[i]? h[j]? else none:=by
 cases e:zcW G g <;> simp only[zhW,e,cond_true,cond_false,if_true,Bool.false_eq_true,if_false];rfl
@[simp] def zxK (i j:Nat) (xs:List D) (n:Int):zu6 i j (some (.box [.d (.list xs)])) (some (.box [.d (.int .i64 n)]))=za7 (0<n/\n<=65536/\xs.length<=65536/\zap 1 xs=true) (some (i,j,zcl n.toNat xs.length xs)):=rfl
@[simp] def zxL (k:Nat) (keep:List (Nat × Nat)) (s:Slots) (h:List Obj) (i:Nat):zeu k keep s h i=zc5 (zac s h keep) (λp=>zc5 (zbo p.2 (zao (List.range k) (p.1.flatMap λq=>q.2.ids))) (λids=> !ids.contains i) ⟨⟩) ⟨⟩:=rfl
@[simp ↓] def zsS {f:Operand} {p:Tmp} {x y:Code} {t} {s:Slots} {h:List Obj}:zbA P G K S run F k b (.rangeFunc f #[p] x y) t s h=
 za3 (K F b) (λkeep=>za3 (zhW G h (ev G s f)) (λit=>za3 (bif zeu k keep s h it.1 && zeu k keep s h it.2.1 then some () else none) (λ_=>
  ze6 keep k (λz s h=>zAr (zbA P G K S run F h.length b x ⟨⟩ ((p,.d (.list z))::s) h) (λs1 h1=>zbA P G K S run F h.length b y ⟨⟩ s1 h1) ⟨⟩) ⟨⟩ it.2.2 s h) ⟨⟩) ⟨⟩) ⟨⟩:=by
 unfold zbA ze6;simp only[codeV,za3];cases K F b with
 |none=>rfl
 |some keep=>
  simp only[obind];cases zhW G h (ev G s f) with
  |none=>rfl
  |some it=>
   simp only;cases zeu k keep s h it.1 && zeu k keep s h it.2.1 with
   |false=>rfl
   |true=>rfl
def zoZ {σ:Type} {T:Res->Prop} {k:Nat} {keep:List (Nat × Nat)} {round:List D->Slots->List Obj->Res} {t:Tok round} {l:List (List D)} {s:Slots} {h:List Obj} (Sl:σ->Slots) (H:σ->List Obj) (I:List (List D)->σ->Prop) (x:σ)
 (hi:I l x) (hn:zf3 k keep s h=some (Sl x,H x))
 (step: ∀ (T':Res->Prop) (g:List (List D)->Slots->List Obj->Res),T'=T-> ∀z l x,I (z::l) x->(∀y h',I l y->zf3 k keep (Sl x) h'=some (Sl y,H y)->T' (g l (Sl x) h'))->T' (zsP (round z (Sl x) (H x)) (Sl x) (λh'=>g l (Sl x) h') ⟨⟩))
 (done: ∀x,I [] x->T (some (.normal,Sl x,H x))): ∀z,ze6 keep k round t l s h=z->T z:=by
 rintro _ rfl
 induction l generalizing x s h with
 |nil=>unfold ze6;rw[hn];exact done x hi
 |cons z l ih=>
  have e:ze6 keep k round t (z::l) s h=zsP (round z (Sl x) (H x)) (Sl x) (λh'=>ze6 keep k round t l (Sl x) h') ⟨⟩:=by
   unfold ze6;rw[hn]
   show rangeV round k keep (z::l) (Sl x) (H x)=_
   simp only[rangeV];cases round z (Sl x) (H x) with
   |none=>rfl
   |some q=>
    obtain⟨o,s1,h1⟩:=q;cases o <;> rfl
  rw[e];exact step T (λl s h=>ze6 keep k round t l s h) rfl z l x hi λy h' hy hn'=>ih y hy hn'
attribute [simp] zeN zlb zqw
@[simp] def zsT (f:FuncId) (args:List V):zd5 run f args=bif zqw args then za3 (run f args []) (λq=>bif q.2.isEmpty && zqw q.1 then some (one q.1) else none) ⟨⟩ else none:=by
 unfold zd5 za3;cases zqw args with
 |false=>rfl
 |true=>
  simp only[if_true,cond_true];cases run f args [] with
  |none=>rfl
  |some q=>simp only[obind];cases q.2.isEmpty && zqw q.1 <;> rfl
@[simp] def zsU {h:List Obj} {id:Nat} {s:ByteArray} {pos:Nat} (e:pos<s.size):zeO h id s pos=(.tup [.d (.bool true),.d (.int .i64 pos),.d (.int .i32 (Utf8.decode s pos).1)],h.set id (.siter s (pos+(Utf8.decode s pos).2))):=if_pos e
@[simp] def zsa {h:List Obj} {id:Nat} {s:ByteArray}:zeO h id s s.size=(.tup [.d (.bool false)],h):=if_neg (Nat.lt_irrefl _)
attribute [simp] D.flat V.flat Obj.flat zdn
def zcO {α:Type} (f:α->D) (hf: ∀x,(f x).flat=true): ∀l:List α,zdn (l.map f)=true
 |[]=>rfl
 |x::l=>by
  show ((f x).flat && zdn (l.map f))=true
  rw[hf x,zcO f hf l];rfl
@[simp] def zsV (l:List UInt8):zdn (l.map za2)=true:=zcO _ (λ_=>rfl) l
@[simp] def zt8 {α:Type} (k:IntKind) (f:α->Int) (l:List α):zdn (l.map λx=>D.int k (f x))=true:=zcO _ (λ_=>rfl) l
@[simp] def zu8 (l:List Int):zdn (l.map λn=>D.int .i64 n)=true:=zcO _ (λ_=>rfl) l
@[simp] def zt9 (l:List ByteArray):zdn (l.map D.str)=true:=zcO _ (λ_=>rfl) l
@[simp] def zkk: ∀ (a b:List D),zdn (a++b)=(zdn a && zdn b)
 |[],b=>rfl
 |x::a,b=>by
  show (x.flat && zdn (a++b))=(x.flat && zdn a && zdn b)
  rw[zkk a b,Bool.and_assoc]
@[simp ↓] def zu9 {all:List Oper}:zgL all []=[]:=rfl
@[simp ↓] def zsW {all r:List Oper} {dst:Option Tmp} {t:Tmp} {ty y:TypeId} {lo hi mx:Option Operand} {pos:String} {after:Array Edge} {g:Option (Nat × Bool)}:zgL all (⟨dst,.slice ty (.tmp t) lo hi mx,y,pos,after,g⟩::r)=zeP all t::zgL all r:=rfl
@[simp ↓] def zua {all r:List Oper} {o:Oper}:zgL all (o::r)=match o.op with | .slice _ (.tmp t) _ _ _=>zeP all t::zgL all r | _=>zgL all r:=rfl
@[simp ↓] def zub {t:Tmp}:zeP [] t=t:=rfl
@[simp ↓] def zsX {r:List Oper} {o:Oper} {t:Tmp}:zeP (o::r) t=match o.op with | .move (.tmp x)=>(if o.dst=some t then x else zeP r t) | _=>zeP r t:=rfl
def zgy (ops:List Oper) (i:Nat):Bool:=match ops[i]? with | some o=>(match o.op with | .load .. =>true | _=>false) | none=>false
@[simp ↓] def zgf {id:Nat} {ops:List Oper} {draw:Bool} {t} {s:Slots} {h:List Obj}:
 zbA P G K S run F k b (.region id ops.toArray draw) t s h=za3 (some (zdo ops && !zdp ops && !zab G F)) (λc=>za3 (match c with | true=>some (zcr h ((zgL ops ops).map λt=>(t,zas s t))) | false=>some h) (λh=>za3 (zou P G run ops (bif draw then S F id else []) (bif zbw ops (bif draw then S F id else []) then zjM s (bif draw then S F id else []) (zmt h) else []) 0 ops ⟨⟩ s h) (λp=>some (.normal,p.1,p.2)) ⟨⟩) ⟨⟩) ⟨⟩:=by
 unfold zbA;simp only[codeV,zgM,zie,za3,zou,cond_eq_ite];cases zdo ops && !zdp ops && !zab G F <;> rfl
@[simp ↓] def zxM {all:List Oper} {hint:List Nat} {hv:List Obj} {i:Nat} {t} {s:Slots} {h:List Obj}:zou P G run all hint hv i [] t s h=some (s,h):=rfl
def zkl {all:List Oper} {hint:List Nat} {hv:List Obj} {i:Nat} {o:Oper} {zbH:List Oper} {t} {s:Slots} {h:List Obj}:
 zou P G run all hint hv i (o::zbH) t s h=za3 (zbd all s o.guard) (λw=>match w with
  |true=>za3 (opT P G run hint hv i o ⟨⟩ s h) (λp=>zou P G run all hint hv (i+1) zbH ⟨⟩ (zet s o.dst p.1) p.2) ⟨⟩
  |false=>zou P G run all hint hv (i+1) zbH ⟨⟩ (zet s o.dst (.tup [])) h) ⟨⟩:=by
 unfold zou opT za3;simp only[opsV,zc2];congr 1;funext w;cases w <;> rfl
@[simp ↓] def zuc {all:List Oper} {hint:List Nat} {hv:List Obj} {i:Nat} {dst:Option Tmp} {op:Op} {ty:TypeId} {pos:String} {after:Array Edge} {zbH:List Oper} {t} {s:Slots} {h:List Obj}:
 zou P G run all hint hv i (⟨dst,op,ty,pos,after,none⟩::zbH) t s h=za3 (opT P G run hint hv i ⟨dst,op,ty,pos,after,none⟩ ⟨⟩ s h) (λp=>zou P G run all hint hv (i+1) zbH ⟨⟩ (zet s dst p.1) p.2) ⟨⟩:=by
 rw[zkl];rfl
def zmG (v:V) (want:Bool) (f:Bool->Option α) (_:Tok f):Option α:=
 match v with
 |.d (.bool c)=>f (c == want)
 |.tup []=>f false
 |_=>none
@[simp] def zsY (c:Bool) (f:Bool->Option α) (t:Tok f):zmG (.d (.bool c)) true f t=zdF (.d (.bool c)) f t:=by cases c <;> rfl
@[simp] def zsb (c:Bool) (f:Bool->Option α) (t:Tok f):zmG (.d (.bool c)) false f t=zdF (.d (.bool c)) (λz=>match z with | true=>f false | false=>f true) ⟨⟩:=by cases c <;> rfl
@[simp] def zud (want:Bool) (f:Bool->Option α) (t:Tok f):zmG (.tup []) want f t=f false:=rfl
def ze7 (all:List Oper) (j:Nat) (_:Tok all):Option Tmp:=(all[j]?).bind (·.dst)
@[simp ↓] def zq2 {o:Oper} {all:List Oper} {t}:ze7 (o::all) 0 t=o.dst:=rfl
@[simp ↓] def zq3 {o:Oper} {all:List Oper} {j:Nat} {t}:ze7 (o::all) (j+1) t=ze7 all j ⟨⟩:=rfl
def zmH (s:Slots) (d:Option Tmp):V:=
 match d with
 |none=> .tup []
 |some d=>zas s d
@[simp] def zsZ (s:Slots) (d:Nat):zmH s (some d)=zas s d:=rfl
@[simp] def zs0 (s:Slots):zmH s none= .tup []:=rfl
@[simp ↓] def zue {all:List Oper} {hint:List Nat} {hv:List Obj} {i:Nat} {dst:Option Tmp} {op:Op} {ty:TypeId} {pos:String} {after:Array Edge} {j:Nat} {want:Bool} {zbH:List Oper} {t} {s:Slots} {h:List Obj}:
 zou P G run all hint hv i (⟨dst,op,ty,pos,after,some (j,want)⟩::zbH) t s h=zmG (zmH s (ze7 all j ⟨⟩)) want (λw=>match w with
  |true=>za3 (opT P G run hint hv i ⟨dst,op,ty,pos,after,none⟩ ⟨⟩ s h) (λp=>zou P G run all hint hv (i+1) zbH ⟨⟩ (zet s dst p.1) p.2) ⟨⟩
  |false=>zou P G run all hint hv (i+1) zbH ⟨⟩ (zet s dst (.tup [])) h) ⟨⟩:=by
 rw[zkl];unfold zmH ze7;simp only[zbd];have hop: ∀ (o:Oper) (o':Oper),o.op=o'.op->opT P G run hint hv i o ⟨⟩ s h=opT P G run hint hv i o' ⟨⟩ s h:=λo o' e=>by
  unfold opT zc2 opV blindV zjE zaW zjL ziW;rw[e]
 rw[hop ⟨dst,op,ty,pos,after,some (j,want)⟩ ⟨dst,op,ty,pos,after,none⟩ rfl];cases (all[j]?).bind (·.dst) with
 |none=>rfl
 |some d=>
  simp only;cases zas s d with
  |d x=>
   cases x with
   |bool c=>cases c <;> cases want <;> rfl
   |_=>rfl
  |tup l=>cases l <;> rfl
  |_=>rfl
@[simp ↓] def zAs {hv:List Obj} {i:Nat} {dst:Option Tmp} {op:Op} {ty:TypeId} {pos:String} {after:Array Edge} {t} {s:Slots} {h:List Obj}:
 opT P G run [] hv i ⟨dst,op,ty,pos,after,none⟩ t s h=opV P G run s h ⟨dst,op,ty,pos,after,none⟩:=rfl
@[simp ↓] def zxN {x:Nat} {l:List Nat} {hv:List Obj} {i:Nat} {dst:Option Tmp} {op:Op} {ty:TypeId} {pos:String} {after:Array Edge} {t} {s:Slots} {h:List Obj}:
 opT P G run (x::l) hv i ⟨dst,op,ty,pos,after,none⟩ t s h=bif (x::l).contains i then zbW h (blindV P G run hv s ⟨dst,op,ty,pos,after,none⟩) else bif hv.isEmpty || zjE G hv s ⟨dst,op,ty,pos,after,none⟩ || zaW (x::l) i ⟨dst,op,ty,pos,after,none⟩ then opV P G run s h ⟨dst,op,ty,pos,after,none⟩ else none:=by
 unfold opT zc2;simp only[cond_eq_ite,List.isEmpty_cons,Bool.false_or]
attribute [simp ↓] opV
@[simp] def zyP (h:List Obj) (x:D):zhU h (.d x)=h:=rfl
@[simp] def zuf (h:List Obj):zhU h .nilS=h:=rfl
@[simp] def zva (h:List Obj):zhU h .emp=h:=rfl
@[simp] def zvb (h:List Obj) (a b:Nat):zhU h (.arr a b)=h:=rfl
@[simp] def zxO (h:List Obj) (a b c d:Nat):zhU h (.sl a b c d)=h:=rfl
@[simp] def zxP (h:List Obj) (id:Nat):zhU h (.mp id)=match h[id]? with | some (.box cs)=>(match zbp h cs with | some (_,h1)=>h1 | none=>h) | _=>h:=rfl
attribute [simp] zuw zsv
attribute [simp] zmt zjE zoA zjM zbb blindV zaW zjL ziW zaC zc7
@[simp ↓] def zq4 {ops:List Oper}:zbw ops []=false:=rfl
@[simp ↓] def zqo {ops:List Oper} {i:Nat} {r:List Nat}:zbw ops (i::r)=(zgy ops i || zbw ops r):=rfl
@[simp ↓] def zq5 {o:Oper} {ops:List Oper}:zgy (o::ops) 0=(match o.op with | .load .. =>true | _=>false):=rfl
@[simp ↓] def zq6 {o:Oper} {ops:List Oper} {i:Nat}:zgy (o::ops) (i+1)=zgy ops i:=rfl
@[simp ↓] def zsc:zdo []=false:=rfl
@[simp ↓] def zsd:zdp []=false:=rfl
@[simp ↓] def zq7 {o:Oper} {l:List Oper}:zdo (o::l)=((match o.op with | .slice .. =>true | _=>false) || zdo l):=rfl
@[simp ↓] def zq8 {o:Oper} {l:List Oper}:zdp (o::l)=((match o.op with | .store .. =>true | _=>false) || zdp l):=rfl
end
def appElem? (P:Program) (e:TypeId):Option Nat:=
 match P.info? e with
 |some i=>if i.zero.map (·.cells.size)=some i.size/\0<i.size/\i.bytes<=65536 then some i.size else none
 |none=>none
@[simp] def zug (P:Program) (h:List Obj) (ts tx:TypeId) (s x:V):zes P h ts tx s x=
 (match P.underlying ts with
 |some (.slice e)=>
  match appElem? P e,source? P h tx x with
  |some n,some ys=>
   match s with
   |.nilS=>za7 (ys.length<2147483648) (za7 (zap n ys=true) (some (.arr h.length ys.length,h++[.arr n ys 0])))
   |.arr id m=>
    match h[id]? with
    |some (.arr sz xs wm)=>za7 (m=xs.length) (za7 (sz=n) (za7 (m+ys.length<2147483648) (za7 (zap n ys=true) (some (.arr id (m+ys.length),h.set id (.arr sz (xs++ys) wm))))))
    |_=>none
   |_=>none
  |_,_=>none
 |_=>none):=by
 unfold zes appElem?;cases P.underlying ts with
 |none=>rfl
 |some d=>
  cases d <;> try rfl
  rename_i e;simp only;cases P.info? e with
  |none=>rfl
  |some i=>
   cases source? P h tx x with
   |none=>
    simp only;split <;> simp_all
   |some ys=>
    simp only;split
    ·simp only[zoX,zoY];rfl
    ·rfl
def makeElem? (P:Program) (e:TypeId):Option (Nat × D):=
 match P.info? e,zeroD? P e with
 |some i,some z=>if i.bytes<=65536/\0<i.size/\z.cells.length=i.size then some (i.size,z) else none
 |_,_=>none
@[simp] def zq9 (P:Program) (h:List Obj) (t:TypeId) (k k':IntKind) (n m:Int):zcH P h t (.d (.int k n)) (.d (.int k' m))=
 (match P.underlying t with
 |some (.slice e)=>
  match makeElem? P e with
  |some (sz,z)=>za7 (0<=n) (za7 (n<=m) (za7 (m<2147483648) (some (.arr h.length n.toNat,h++[.arr sz (List.replicate n.toNat z) 0]))))
  |none=>none
 |_=>none):=by
 unfold zcH makeElem?;cases P.underlying t with
 |none=>rfl
 |some d=>
  cases d <;> try rfl
  rename_i e;simp only;cases P.info? e with
  |none=>rfl
  |some i=>
   cases zeroD? P e with
   |none=>rfl
   |some z=>
    simp only
    by_cases a:i.bytes<=65536/\0<i.size/\z.cells.length=i.size
    ·rw[if_pos a]
     obtain⟨a1,a2,a3⟩:=a;simp only[za7]
     by_cases b1:0<=n <;> by_cases b2:n<=m <;> by_cases b3:m<2147483648 <;> simp[a1,a2,a3,b1,b2,b3]
    ·rw[if_neg a,if_neg]
     rintro ⟨_,_,_,b1,b2,b3⟩
     exact a ⟨b1,b2,b3⟩
def zeroVs? (P:Program) (t:TypeId):Option (List V):=
 match zero? P t with
 |some z=>if (z.cells.toList.map zaG).all V.cellOk then some (z.cells.toList.map zaG) else none
 |none=>none
def places? (P:Program) (t:TypeId):Option (List (Nat × Nat)):=
 match P.underlying t with
 |some (.struct fs)=>fs.toList.mapM λf=>(sizeOf? P f.type).map λs=>(f.offset,s)
 |_=>none
def ziB {P:Program}: ∀ {fs:List Field} {pl:List (Nat × Nat)},(fs.mapM λ(f:Field)=>(sizeOf? P f.type).map λs=>(f.offset,s))=some pl-> ∀i:Nat,(fs[i]?).bind (λ(f:Field)=>(sizeOf? P f.type).map λs=>(f.offset,s))=pl[i]?
 |[],pl,h,i=>by simp at h;subst h;simp
 |f::fs,pl,h,i=>by
  simp only[List.mapM_cons,Option.bind_eq_bind,Option.bind_eq_some_iff,Option.pure_def,Option.some.injEq]at h;obtain⟨p,hp,ps,hps,rfl⟩:=h;cases i with
  |zero=>simpa using hp
  |succ i=>simpa using ziB hps i
def zal {P:Program} {t:TypeId} {parts:List (Nat × V)} {z:List V} {pl:List (Nat × Nat)} (hz:zeroVs? P t=some z) (hp:places? P t=some pl):za6 P t parts=(zb8 (λi=>pl[i]?) z parts).map zb7:=by
 unfold zeroVs? at hz;unfold places? at hp;unfold za6;cases h0:zero? P t with
 |none=>rw[h0]at hz;cases hz
 |some z0=>
  rw[h0]at hz;simp only at hz;split at hz
  ·rename_i hc
   simp only[Option.some.injEq]at hz;subst hz;split at hp
   ·rename_i fs hfs
    have hall:fs.toList.all (λf=>(sizeOf? P f.type).isSome)=true:=by
     rw[List.all_eq_true];intro f hf;obtain⟨i,hi⟩:=List.getElem?_of_mem hf;obtain⟨_,h2⟩:=zeW hp;obtain⟨b,_,hb⟩:=h2 i f hi;simp only[Option.map_eq_some_iff]at hb;obtain⟨s,hs,_⟩:=hb;rw[hs];rfl
    simp only[hfs,hc,hall,Bool.and_self,if_true];have hpl:(λ(i:Nat)=>(fs[i]?).bind λ(f:Field)=>(sizeOf? P f.type).map λs=>(f.offset,s))=λi=>pl[i]? :=by
     funext i;rw[<- ziB hp i,Array.getElem?_toList]
    rw[hpl]
   ·cases hp
  ·cases hz
def zcs {P:Program} {t:TypeId} {h:List Obj} {z:List V} (hz:zeroVs? P t=some z):zcV P h t=some (.ptr h.length 0,h++[.box z]):=by
 unfold zeroVs? at hz;unfold zcV;cases h0:zero? P t with
 |none=>rw[h0]at hz;cases hz
 |some z0=>
  rw[h0]at hz;simp only at hz ⊢;split at hz
  ·rename_i hc
   simp only[Option.some.injEq]at hz;subst hz;rw[if_pos hc]
  ·cases hz
@[simp] def zqp (P:Program) (h:List Obj) (t:TypeId) (len:Nat) (parts:List (Nat × V)):zbV P h t len parts=
 (match P.underlying t with
 |some (.slice e)=>
  match sizeOf? P e with
  |some sz=>
   if (zero? P e).isSome=true/\0<sz/\parts.length=len/\len*sz<=65536/\zfs parts 0 then
    match zeh h (parts.map (·.2)) with
    |some (xs,h1)=>if zap sz xs then some (.arr h1.length len,h1++[.arr sz xs 0]) else none
    |none=>none
   else none
  |none=>none
 |_=>none):=by
 unfold zbV;cases P.underlying t with
 |none=>rfl
 |some d=>
  cases d <;> try rfl
  rename_i e;simp only;cases sizeOf? P e with
  |none=>rfl
  |some sz=>
   cases zero? P e with
   |none=>simp
   |some z=>simp;rfl
attribute [simp] zb8 zau zb7 V.asD? zfs zeh
@[simp] def zaK {α:Type} {f:α->D} {n:Nat} (l:List α) (hf: ∀x,(f x).cells.length=n):zap n (l.map f)=true:=by
 induction l with
 |nil=>rfl
 |cons x l ih=>simp[zap,hf,ih]
attribute [simp] zap source? elems?
@[simp] def zyQ (x y:Int):(x != y)= !decide (x=y):=by
 by_cases h:x=y <;> simp[h]
@[simp] def zyR (x y:Int):(x == y)=decide (x=y):=by
 by_cases h:x=y <;> simp[h]
def zra {x:Int} (h1: -9223372036854775808<=x) (h2:x<=9223372036854775807):IntKind.i64.wrap x=x:=by
 simp[IntKind.wrap,IntKind.signed,IntKind.bits];omega
def zaj {x:Int} (h1:0<=x) (h2:x<=18446744073709551615):IntKind.u64.wrap x=x:=by
 simp[IntKind.wrap,IntKind.signed,IntKind.bits];omega
@[simp] def zo0 {α β:Type} (x:Option α) (f:α->Option β):(x >>=f)=x.bind f:=rfl
section
variable {P:Program} {G:Nat->Option (List D)} {K:zfu} {S:zft}
def zo1 (P:Program) (k:Nat) (rs:List ResultVar) (ts:List TypeId) (r:Res):Option (List V × List Obj):=
 match r with
 |some (.normal,s,h) | some (.ret,s,h)=>obind (znj P s h rs) λvs=>zeM P k ts vs h
 |_=>none
@[simp] def zs1 {k:Nat} {rs:List ResultVar} {ts:List TypeId} {s:Slots} {h:List Obj}:zo1 P k rs ts (some (.normal,s,h))=obind (znj P s h rs) λvs=>zeM P k ts vs h:=rfl
@[simp] def zvc {k:Nat} {rs:List ResultVar} {ts:List TypeId} (v:V) (f:Bool->Res) (t:Tok f):zo1 P k rs ts (zdF v f t)=zdF v (λz=>zo1 P k rs ts (f z)) ⟨⟩:=by
 cases v with
 |d x=>cases x <;> rfl
 |_=>rfl
@[simp] def zxQ {k:Nat} {rs:List ResultVar} {ts:List TypeId} {s:Slots} {h:List Obj}:zo1 P k rs ts (some (.ret,s,h))=obind (znj P s h rs) λvs=>zeM P k ts vs h:=rfl
def zmI {f:FuncId} {fn:Func} {c:Code} {rs:List ResultVar} {ts:List TypeId} {args:List V} {h:List Obj} {r:List V × List Obj} (hf:P.funcs[f]? =some fn) (hb:fn.body=some c)
 (hrs : fn.results.toList = rs) (hts : fn.resultTypes.toList = ts) (hok : codeOk P (S f) fn.ntmps c = true) (hn : (fn.name == "runtime.NumGoroutine") = false)
 (hsp:splits G f=false\/ ∀zbH,args≠ .d (.list [])::zbH) (hl:args.length<=fn.ntmps) (hr:zo1 P h.length rs ts (zbA P G K S (zeB P G K S) f h.length 0 c ⟨⟩ (zam 0 args) h)=some r):zeB P G K S f args h=some r:=by
 refine zsG hsp ?_;unfold bodyV;simp only[hf,hb,hok,hn,decide_eq_true hl,Bool.and_self,Bool.not_false,if_true];unfold zux;rw[hrs,hts];exact hr
def zgz {f:FuncId} {fn:Func} {c:Code} {rs:List ResultVar} {ts:List TypeId} {args:List V} {h:List Obj} {r:List V × List Obj} (hf:P.funcs[f]? =some fn) (hb:fn.body=some c)
 (hrs : fn.results.toList = rs) (hts : fn.resultTypes.toList = ts) (hok : codeOk P (S f) fn.ntmps c = true) (hn : (fn.name == "runtime.NumGoroutine") = false)
 (hsp:splits G f=false\/ ∀zbH,args≠ .d (.list [])::zbH) (hl:args.length<=fn.ntmps) (hr: ∀T:Option (List V × List Obj)->Prop,T (some r)->T (zo1 P h.length rs ts (zbA P G K S (zeB P G K S) f h.length 0 c ⟨⟩ (zam 0 args) h))):zeB P G K S f args h=some r:=
 zmI hf hb hrs hts hok hn hsp hl (hr (·=some r) rfl)
def zhh {f:FuncId} {fn:Func} {c:Code} {rs:List ResultVar} {ts:List TypeId} {zbH:List V} {h:List Obj} {r:List V × List Obj} (hf:P.funcs[f]? =some fn) (hb:fn.body=some c)
 (hrs : fn.results.toList = rs) (hts : fn.resultTypes.toList = ts) (hok : codeOk P (S f) fn.ntmps c = true) (hn : (fn.name == "runtime.NumGoroutine") = false)
 (hsp:splits G f=true) (hl:zbH.length+1<=fn.ntmps) (hr: ∀T:Option (List V × List Obj)->Prop,T (some r)-> ∀a,a= .nilS\/a= .emp->T (zo1 P h.length rs ts (zbA P G K S (zeB P G K S) f h.length 0 c ⟨⟩ (zam 0 (a::zbH)) h))):zeB P G K S f (.d (.list [])::zbH) h=some r:=by
 have key: ∀a,a= .nilS\/a= .emp->bodyV P G K S (zeB P G K S) loops f (a::zbH) h=some r:=λa ha=>by
  unfold bodyV;simp only[hf,hb,hok,hn,List.length_cons,decide_eq_true hl,Bool.and_self,Bool.not_false,if_true];unfold zux;rw[hrs,hts];exact hr (·=some r) rfl a ha
 exact znM hsp (key .nilS (.inl rfl)) (key .emp (.inr rfl))
def zyS (p:Bool->Prop) (r:Option (List V × List Obj)):Prop:= ∃b,r=some ([.d (.bool b)],[])/\p b
@[simp] def zuh {p:Bool->Prop} {b:Bool}:zyS p (some ([.d (.bool b)],[]))↔p b:=by
 constructor
 ·rintro ⟨b',h,hp⟩
  simp only[Option.some.injEq,Prod.mk.injEq,List.cons.injEq,V.d.injEq,D.bool.injEq,and_true]at h;rw[h];exact hp
 ·exact λh=>⟨b,rfl,h⟩
def zs2 {f:FuncId} {fn:Func} {c:Code} {rs:List ResultVar} {ts:List TypeId} {args:List V} {h:List Obj} {p:Option (List V × List Obj)->Prop} (hf:P.funcs[f]? =some fn) (hb:fn.body=some c)
 (hrs : fn.results.toList = rs) (hts : fn.resultTypes.toList = ts) (hok : codeOk P (S f) fn.ntmps c = true) (hn : (fn.name == "runtime.NumGoroutine") = false)
 (hsp:splits G f=false\/ ∀zbH,args≠ .d (.list [])::zbH) (hl:args.length<=fn.ntmps) (hp: ¬ p none) (hr:p (zo1 P h.length rs ts (zbA P G K S (zeB P G K S) f h.length 0 c ⟨⟩ (zam 0 args) h))):p (zeB P G K S f args h):=by
 cases he:zo1 P h.length rs ts (zbA P G K S (zeB P G K S) f h.length 0 c ⟨⟩ (zam 0 args) h) with
 |none=>rw[he]at hr;exact absurd hr hp
 |some r=>rw[he]at hr;rw[zmI hf hb hrs hts hok hn hsp hl he];exact hr
def zaa {σ:Type} {T:Res->Prop} {k:Nat} {keep:List (Nat × Nat)} {b:Slots->List Obj->Res} {t:Tok b} {s:Slots} {h:List Obj} (Sl:σ->Slots) (H:σ->List Obj) (I:σ->Prop) (μ:σ->Nat) (x:σ)
 (hi:I x) (hn:zf3 k keep s h=some (Sl x,H x))
 (step: ∀ (T':Res->Prop) (b':Slots->List Obj->Res),T'=T-> ∀x,I x->(∀y s h,I y->μ y<μ x->zf3 k keep s h=some (Sl y,H y)->T' (zeC k keep b' s h))->T' (zr3 (b (Sl x) (H x)) (zeC k keep b') ⟨⟩)):
 ∀z,zaf (some keep) k b t s h=z->T z:=by
 rintro _ rfl
 show T (zeC k keep b s h)
 have key: ∀n x,μ x<=n-> ∀s h,I x->zf3 k keep s h=some (Sl x,H x)->T (zeC k keep b s h):=by
  intro n
  induction n with
  |zero=>
   intro x hx s h hi hn;rw[zmF,hn];exact step T b rfl x hi λy s h _ hlt _=>by omega
  |succ n ih=>
   intro x hx s h hi hn;rw[zmF,hn];exact step T b rfl x hi λy s h hy hlt hn=>ih y (by omega) s h hy hn
 exact key (μ x) x (Nat.le_refl _) s h hi hn
def zdQ {T:Res->Prop} {x:Res} (Q:Res->Prop) (hq:Q x) (h: ∀z,Q z->T z): ∀z,x=z->T z:=by
 rintro _ rfl
 exact h _ hq
def zdR {t:TypeId} {parts:List (Nat × V)} {z:List V} {n:Nat} {e:TypeId} {s:Nat} (hz:zeroVs? P t=some z) (hu:P.underlying t=some (.array n e)) (hs:sizeOf? P e=some s):za6 P t parts=(zb8 (λi=>some (i*s,s)) z parts).map zb7:=by
 unfold zeroVs? at hz;unfold za6;cases h0:zero? P t with
 |none=>rw[h0]at hz;cases hz
 |some z0=>
  rw[h0]at hz;simp only at hz;split at hz
  ·rename_i hc
   simp only[Option.some.injEq]at hz;subst hz;simp only[hu,hs,hc,if_true]
  ·cases hz
@[simp] def zs4 (l:List Int):zap 1 (l.map λn=>D.int .i64 n)=true:=zaK l λ_=>rfl
@[simp] def zlB (k:IntKind) (x:Int): ∀n,zap 1 (List.replicate n (D.int k x))=true
 |0=>rfl
 |n+1=>by simp[List.replicate_succ,zlB k x n]
end
end Go.Am
