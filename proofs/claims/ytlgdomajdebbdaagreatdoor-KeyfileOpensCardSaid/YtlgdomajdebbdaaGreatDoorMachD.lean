/- The abstract machine: what a row says, and the fixpoint of all functions. -/
import Derived.ProofKit
import Derived.OpenShut
import Derived.Carry
import Derived.Test.YtlgdomajdebbdaaGreatDoorMachA
import Derived.Test.YtlgdomajdebbdaaGreatDoorMachC
set_option linter.all false
namespace Go.Am
def zmf (P:Program):Nat->List Field->Option Nat
 |n,[]=>some n
 |n,f::fs=>if f.offset=n then zmf P (n+P.cellsOf f.type) fs else none
def zb9 (P:Program):Nat->TypeId->Bool
 |0,_=>false
 |n+1,t=>
  match P.underlying t with
  |some (.int _) | some .bool | some .string=>true
  |some (.slice e)=>decide (0<P.cellsOf e) && zb9 P n e
  |some (.struct fs)=>(zmf P 0 fs.toList == some (P.cellsOf t)) && fs.toList.all λf=>zb9 P n f.type
  |_=>false
inductive All2 {α β:Type} (R:α->β->Prop):List α->List β->Prop
 |nil:All2 R [] []
 |cons {a:α} {b:β} {as:List α} {bs:List β}:R a b->All2 R as bs->All2 R (a::as) (b::bs)
def zdj (P:Program):Nat->TypeId->D->Prop
 |0,_,_=>False
 |n+1,t,x=>
  match P.underlying t with
  |some (.int k)=> ∃i,x= .int k i/\(Lit.int k i).wf=true
  |some .bool=> ∃b,x= .bool b
  |some .string=> ∃s,x= .str s/\s.size<=maxLen
  |some (.slice e)=> ∃xs,x= .list xs/\xs.length<=maxLen/\ ∀y∈xs,zdj P n e y
  |some (.struct fs)=> ∃ys:List D,x= .agg (ys.flatMap D.cells)/\All2 (λf y=>zdj P n f.type y) fs.toList ys
  |_=>False
def zfq:Nat->Nat->Prop:=λ_ _=>False
def zcw (w:World) (cs:List Value) (ds:List D):Prop:=
 cs.length=ds.length/\ ∀ (j:Nat) (c:D),ds[j]? =some c-> ∃v,cs[j]? =some v/\Rep zfq w v c/\c.isCell=true
section
variable {H:Type} {enc:TypeId × Value->H} {P:Program} {w:World}
def zcw.one {v:Value} {c:D} (hr:Rep zfq w v c) (hc:c.isCell=true):zcw w [v] c.cells:=by
 rw[D.cells_one hc];refine⟨rfl,λj c' hj=> ?_⟩
 cases j with
 |zero=>simp only[List.getElem?_cons_zero,Option.some.injEq]at hj;subst hj;exact⟨v,rfl,hr,hc⟩
 |succ j=>simp at hj
def zcw.append {cs:List Value} {k:Nat} {a b:List D} (ha:zcw w (cs.take k) a) (hb:zcw w (cs.drop k) b):zcw w cs (a++b):=by
 obtain⟨a1,a2⟩:=ha;obtain⟨b1,b2⟩:=hb;rw[List.length_take]at a1;rw[List.length_drop]at b1;refine⟨by rw[List.length_append];omega,λj c hj=> ?_⟩
 rcases Nat.lt_or_ge j a.length with hl | hl
 ·rw[List.getElem?_append_left hl]at hj
  obtain⟨v,h1,h2⟩:=a2 j c hj;rw[List.getElem?_take]at h1;split at h1
  ·exact⟨v,h1,h2⟩
  ·cases h1
 ·rw[List.getElem?_append_right hl]at hj
  obtain⟨v,h1,h2⟩:=b2 _ c hj;rw[List.getElem?_drop]at h1;have hlt:=lt_of_getElem? hj;have e:k+(j - a.length)=j:=by omega
  rw[e]at h1;exact⟨v,h1,h2⟩
def ziz {m fuel:Nat} {cs:List Value} (ih: ∀t cs d ps,zb9 P m t=true->DataW.trod enc P w 0 (λ_=>true) true fuel t cs=some (d,ps)-> ∃x,zdj P m t x/\zcw w cs x.cells):
 ∀ (fs:List Field) (n:Nat) (xs:List (DataW H × List MemPlace)),zmf P n fs=some cs.length->n<=cs.length->(∀f∈fs,zb9 P m f.type=true)->
  (fs.mapM λf=>DataW.trod enc P w 0 (λ_=>true) true fuel f.type ((cs.drop f.offset).take (P.cellsOf f.type)))=some xs->
  ∃ys:List D,All2 (λf y=>zdj P m f.type y) fs ys/\zcw w (cs.drop n) (ys.flatMap D.cells)
 |[],n,xs,ht,hn,hp,hx=>by
  simp only[zmf,Option.some.injEq]at ht;subst ht;exact⟨[],.nil,by simp,λj c hj=>by simp at hj⟩
 |f::fs,n,xs,ht,hn,hp,hx=>by
  simp only[zmf]at ht;split at ht
  ·rename_i ho
   simp only[List.mapM_cons,Option.bind_eq_bind,Option.bind_eq_some_iff,Option.pure_def,Option.some.injEq]at hx;obtain⟨⟨d,ps⟩,hd,xs',hxs,rfl⟩:=hx;obtain⟨y,hy,hc⟩:=ih _ _ _ _ (hp f (List.mem_cons_self ..)) hd;have hle:n+P.cellsOf f.type<=cs.length:=by
    have: ∀ (fs:List Field) (n m:Nat),zmf P n fs=some m->n<=m:=by
     intro fs
     induction fs with
     |nil=>intro n m h;simp only[zmf,Option.some.injEq]at h;omega
     |cons g gs ih=>intro n m h;simp only[zmf]at h;split at h
                    ·have:=ih _ _ h;omega
                    ·cases h
    exact this _ _ _ ht
   obtain⟨ys,h1,h2⟩:=ziz ih fs (n+P.cellsOf f.type) xs' ht hle (λg hg=>hp g (List.mem_cons_of_mem _ hg)) hxs
   refine⟨y::ys,.cons hy h1, ?_⟩;rw[List.flatMap_cons];refine zcw.append (k:=P.cellsOf f.type) (by rw[<- ho];exact hc) ?_
   rw[List.drop_drop];exact h2
  ·cases ht
def zj9 {m fuel:Nat} {e:TypeId} {b off:Nat} (hm:zb9 P m e=true) (ih: ∀t cs d ps,zb9 P m t=true->DataW.trod enc P w 0 (λ_=>true) true fuel t cs=some (d,ps)-> ∃x,zdj P m t x/\zcw w cs x.cells):
 ∀n:Nat,(∀i,i<n-> ∃x,(w.cells? 0 ((⟨b,off,none⟩:Addr).add (i*P.cellsOf e)) (P.cellsOf e)).bind (DataW.trod enc P w 0 (λ_=>true) true fuel e)=some x)->
  ∃xs:List D,xs.length=n/\(∀x∈xs,x.cells.length=P.cellsOf e)/\(∀x∈xs,zdj P m e x)/\(flat xs).length=n*P.cellsOf e/\
   ∀ (j:Nat) (c:D),(flat xs)[j]? =some c-> ∃v,w.cell? ⟨b,off+j,none⟩=some v/\Rep zfq w v c/\c.isCell=true
 |0,_=>⟨[],rfl,by simp,by simp,by simp[flat],λj c hj=>by simp[flat]at hj⟩
 |n+1,hx=>by
  obtain⟨xs,h1,h2,h3,h4,h5⟩:=zj9 hm ih n λi hi=>hx i (by omega)
  obtain⟨⟨d,ps⟩,hd⟩:=hx n (by omega)
  simp only[Option.bind_eq_some_iff]at hd;obtain⟨cs,hcs,hd⟩:=hd;obtain⟨x,hx1,hx2,hx3⟩:=ih _ _ _ _ hm hd;simp only[World.cells?,Nat.zero_le,if_true]at hcs;obtain⟨l1,l2⟩:=zbj hcs;rw[List.length_range]at l1;have hlen:x.cells.length=P.cellsOf e:=by rw[<- hx2,l1]
  have hfl:flat (xs++[x])=flat xs++x.cells:=by simp[flat]
  refine⟨xs++[x],by simp[h1],λy hy=> ?_,λy hy=> ?_, ?_,λj c hj=> ?_⟩
  ·rcases List.mem_append.1 hy with h | h
   ·exact h2 y h
   ·rw[List.mem_singleton.1 h];exact hlen
  ·rcases List.mem_append.1 hy with h | h
   ·exact h3 y h
   ·rw[List.mem_singleton.1 h];exact hx1
  ·rw[hfl,List.length_append,h4,hlen,Nat.add_mul,Nat.one_mul]
  ·rw[hfl]at hj
   rcases Nat.lt_or_ge j (flat xs).length with hl | hl
   ·rw[List.getElem?_append_left hl]at hj
    exact h5 j c hj
   ·rw[List.getElem?_append_right hl]at hj
    obtain⟨v,g1,g2,g3⟩:=hx3 _ c hj;obtain⟨i,g4,g5⟩:=l2 _ v g1;have hi:i=j - (flat xs).length:=by
     have hlt:=lt_of_getElem? g4;rw[List.length_range]at hlt;rw[List.getElem?_range hlt,Option.some.injEq]at g4;exact g4.symm
    refine⟨v, ?_,g2,g3⟩;rw[<- g5];congr 1;rw[hi,h4];unfold Addr.add;split <;> split <;> simp <;> omega
def reads: ∀ (fuel m:Nat) (t:TypeId) (cs:List Value) (d:DataW H) (ps:List MemPlace),zb9 P m t=true->DataW.trod enc P w 0 (λ_=>true) true fuel t cs=some (d,ps)->
 ∃x,zdj P m t x/\zcw w cs x.cells:=by
 intro fuel
 induction fuel with
 |zero=>intro m t cs d ps _ h;simp[DataW.trod]at h
 |succ fuel ih=>
  intro m t cs d ps hm h;cases m with
  |zero=>simp[zb9]at hm
  |succ m=>
   have ih': ∀t cs d ps,zb9 P m t=true->DataW.trod enc P w 0 (λ_=>true) true fuel t cs=some (d,ps)-> ∃x,zdj P m t x/\zcw w cs x.cells:=λt cs d ps=>ih m t cs d ps
   simp only[zb9]at hm;simp only[zdj];unfold DataW.trod at h;split at h
   case h_1 b e=>rw[e];exact⟨.bool b,⟨b,rfl⟩,zcw.one (.bool b) rfl⟩
   case h_2 k k' n e=>
    rw[e];split at h
    ·rename_i hk
     obtain⟨rfl,hw⟩:=hk;exact⟨.int _ n,⟨n,rfl,hw⟩,zcw.one (.int _ n) rfl⟩
    ·cases h
   case h_4 s e=>
    rw[e];split at h
    ·rename_i hs
     exact⟨.str s,⟨s,rfl,hs⟩,zcw.one (.str s) rfl⟩
    ·cases h
   case h_7 e0 e=>rw[e];exact⟨.list [],⟨[],rfl,Nat.zero_le _,λ_ h=>by cases h⟩,zcw.one (.nil none 0 λ_=>rfl) rfl⟩
   case h_8 e a len cap he=>
    rw[he]at hm ⊢;simp only[Bool.and_eq_true,decide_eq_true_eq]at hm;simp only at h;split at h
    ·rename_i hc
     simp only[Option.bind_eq_some_iff]at h;obtain⟨els,hels,-⟩:=h;obtain⟨r1,r2⟩:=zbj hels;obtain⟨_,r3⟩:=zf4 hels;rw[List.length_range]at r1;rcases Nat.eq_zero_or_pos len with h0 | h0
     ·subst h0
      exact⟨.list [],⟨[],rfl,Nat.zero_le _,λ_ h=>by cases h⟩,zcw.one (.nil _ _ λe=>by cases e) rfl⟩
     ·have hspot:a.spot=none:=by
       obtain⟨x0,_,hx0⟩:=r3 0 0 (by rw[List.getElem?_range h0])
       simp only[Option.bind_eq_some_iff]at hx0;obtain⟨cs0,hcs0,-⟩:=hx0;simp only[World.cells?,Nat.zero_le,if_true]at hcs0;obtain⟨_,q⟩:=zf4 hcs0;obtain⟨v0,_,hv0⟩:=q 0 0 (by rw[List.getElem?_range hm.1])
       simpa[Addr.add]using World.cell?_spot hv0
      obtain⟨b,off,sp⟩:=a;simp only at hspot;subst hspot;obtain⟨xs,h1,h2,h3,h4,h5⟩:=zj9 hm.2 ih' (b:=b) (off:=off) len λi hi=>by
       obtain⟨x,_,hx⟩:=r3 i i (by rw[List.getElem?_range hi])
       exact⟨x,hx⟩
      refine⟨.list xs,⟨xs,rfl,by omega,h3⟩,zcw.one ?_ rfl⟩
      refine .list b off len cap (P.cellsOf e) xs (λj=>(w.cell? ⟨b,off+j,none⟩).getD undef) h1.symm hc.2.1 h2 (λj c hj=> ?_) λj c hj=> ?_
      ·obtain⟨v,g1,g2,g3⟩:=h5 j c hj
       exact⟨by rw[g1];rfl,λh=>h,g3⟩
      ·obtain⟨v,g1,g2,g3⟩:=h5 j c hj
       rw[g1];exact g2
    ·cases h
   case h_9 cs' fs he=>
    rw[he]at hm ⊢;simp only[Bool.and_eq_true,beq_iff_eq,List.all_eq_true]at hm;split at h
    ·rename_i hlen
     simp only[Option.map_eq_some_iff]at h;obtain⟨xs,hxs,-⟩:=h;obtain⟨ys,h1,h2⟩:=ziz ih' fs.toList 0 xs (by rw[hlen];exact hm.1) (Nat.zero_le _) hm.2 hxs
     exact⟨.agg (ys.flatMap D.cells),⟨ys,rfl,h1⟩,h2⟩
    ·cases h
   all_goals
    rename_i e
    first
     |(rw[e]at hm;cases hm)
     |(exfalso;simp_all)
def zry {m:Nat} {t:TypeId} {v:Value} {d:DataW H} {ps:List MemPlace} (hm:zb9 P m t=true) (hd:DataW.Trod enc P w 0 (λ_=>true) true t v d ps):
 ∃x,zdj P m t x/\zcw w v.cells.toList x.cells:=by
 obtain⟨fuel,h⟩:=hd;exact reads fuel m t _ d ps hm h
end
end Go.Am
namespace Go.Am
open Go.RowKit Go.ChangeShapes Go.WideShapes
section
variable {H:Type} {enc:TypeId × Value->H} {P:Program} {w:World}
def zve {m b0:Nat} {t:TypeId} {v:Value} {d:DataW H} {ps:List MemPlace} (hm:zb9 P m t=true) (hok:Value.okWide P w .any b0 t v) (hd:DataW.Trod enc P w 0 (λ_=>true) true t v d ps):
 ∃x,zdj P m t x/\Rep zfq w v x:=by
 obtain⟨x,hx,hl,hc⟩:=zry hm hd;refine⟨x,hx, ?_⟩;have one: ∀ {v:Value} {x:D},v.cells= #[v]->x.isCell=true->zcw w v.cells.toList x.cells->Rep zfq w v x:=λhv hx hc=>by
  rw[hv,D.cells_one hx]at hc;obtain⟨v',h1,h2,_⟩:=hc.2 0 _ rfl;simp only[List.getElem?_cons_zero,Option.some.injEq]at h1;subst h1;exact h2
 cases m with
 |zero=>simp[zb9]at hm
 |succ m=>
  simp only[zb9]at hm;simp only[zdj]at hx;split at hm
  ·rename_i k he
   obtain⟨n,rfl⟩:=okWide_int he hok;rw[he]at hx;obtain⟨i,rfl,_⟩:=hx;exact one rfl rfl ⟨hl,hc⟩
  ·rename_i he
   obtain⟨n,rfl⟩:=okWide_bool he hok;rw[he]at hx;obtain⟨i,rfl⟩:=hx;exact one rfl rfl ⟨hl,hc⟩
  ·rename_i he
   obtain⟨n,rfl⟩:=okWide_string he hok;rw[he]at hx;obtain⟨i,rfl,_⟩:=hx;exact one rfl rfl ⟨hl,hc⟩
  ·rename_i e he
   obtain⟨a,l,c,rfl⟩:=okWide_slice he hok;rw[he]at hx;obtain⟨i,rfl,_⟩:=hx;exact one rfl rfl ⟨hl,hc⟩
  ·rename_i fs he
   obtain⟨cs,rfl,_⟩:=okWide_struct he hok;rw[he]at hx;obtain⟨ys,rfl,_⟩:=hx;have hcs: ∀ (j:Nat) (c:D),(ys.flatMap D.cells)[j]? =some c-> ∃v,cs[j]? =some v/\Rep zfq w v c/\c.isCell=true:=λj c hj=>by
    simpa[Value.cells,D.cells]using hc j c hj
   refine .agg cs _ (λj=>cs.getD j undef) (by simpa[Value.cells,D.cells]using hl) (λj c hj=> ?_) λj c hj=> ?_
   ·obtain⟨v,h1,h2,h3⟩:=hcs j c hj
    exact⟨by rw[h1,Array.getD_eq_getD_getElem?,h1];rfl,h3⟩
   ·obtain⟨v,h1,h2,h3⟩:=hcs j c hj
    rw[Array.getD_eq_getD_getElem?,h1];exact h2
  ·cases hm
def zrz (P:Program) (m:Nat) (t:TypeId):Bool:=zb9 P m t && P.readableRec t && decide (t<P.types.size)
def zoO {m b0:Nat}: ∀ (ts:List TypeId) (vs:List Value) (ds:List (DataW H)) (ps:List MemPlace),(∀t∈ts,zb9 P m t=true)->(∀ (j:Nat) t v,ts[j]? =some t->vs[j]? =some v->Value.okWide P w .any b0 t v)->
 DataW.TrodAll enc P w 0 (λ_=>true) true ts vs ds ps-> ∃xs:List D,All2 (zdj P m) ts xs/\All2 (Rep zfq w) vs xs
 |[],vs,ds,ps,_,_,h=>by
  obtain⟨rfl,_,_⟩:=trodAll_nil h;exact⟨[],.nil,.nil⟩
 |t::ts,vs,ds,ps,hp,hok,h=>by
  obtain⟨v,vs',d,ds',p,q,rfl,rfl,rfl,hd,hr⟩:=trodAll_cons h;obtain⟨x,h1,h2⟩:=zve (hp t (List.mem_cons_self ..)) (hok 0 t v rfl rfl) hd;obtain⟨xs,h3,h4⟩:=zoO ts vs' ds' q (λt ht=>hp t (List.mem_cons_of_mem _ ht)) (λj t v h1 h2=>hok (j+1) t v (by simpa using h1) (by simpa using h2)) hr
  exact⟨x::xs,.cons h1 h3,.cons h2 h4⟩
def zmg (hl:laidOutB P=true) {W':World} (hb:Below w.heap.size w W'): ∀ (ts:List TypeId) (vs:List Value) (ds:List (DataW H)) (ps:List MemPlace),(∀t∈ts,P.readableRec t=true/\t<P.types.size)->
 DataW.TrodAll enc P w 0 (λ_=>true) true ts vs ds ps->(∀x∈ps,x.block<w.heap.size)->DataW.TrodAll enc P W' 0 (λb=>decide (b<w.heap.size)) true ts vs ds ps
 |[],vs,ds,ps,_,h,_=>by
  obtain⟨rfl,rfl,rfl⟩:=trodAll_nil h;exact h
 |t::ts,vs,ds,ps,hp,h,hlt=>by
  obtain⟨v,vs',d,ds',p,q,rfl,rfl,rfl,hd,hr⟩:=trodAll_cons h;obtain⟨k1,k2⟩:=hp t (List.mem_cons_self ..);exact trodAll_cons_mk (Below.trod hl k1 k2 hd hb λx hx=>hlt x (List.mem_append_left _ hx))
   (zmg hl hb ts vs' ds' q (λt ht=>hp t (List.mem_cons_of_mem _ ht)) hr λx hx=>hlt x (List.mem_append_right _ hx))
def All2.length {α β:Type} {R:α->β->Prop}: ∀ {as:List α} {bs:List β},All2 R as bs->as.length=bs.length
 |_,_,.nil=>rfl
 |_,_,.cons _ h=>by simp[h.length]
def All2.get {α β:Type} {R:α->β->Prop}: ∀ {as:List α} {bs:List β},All2 R as bs-> ∀ (j:Nat) (b:β),bs[j]? =some b-> ∃a,as[j]? =some a/\R a b
 |_,_,.nil,j,b,hj=>by simp at hj
 |_,_,.cons h hs,0,b,hj=>by simp only[List.getElem?_cons_zero,Option.some.injEq]at hj;subst hj;exact⟨_,rfl,h⟩
 |_,_,.cons _ hs,j+1,b,hj=>by simpa using hs.get j b (by simpa using hj)
def zrA {run:Run} {f:FuncId} {G:Nat->Option (List D)} (hrun:zeg P G run) {xs:List D} {h':List Obj} (hx:run f (xs.map .d) []=some ([.d (.bool true)],h')) {vs:List Value} (hv:All2 (Rep zfq w) vs xs)
 (hg:GRel zfq G [] [] w):Calls P f vs.toArray w λe w'=>e= .returned (.bool true)/\Below w.heap.size w w':=by
 have hmut: ∀b j,Mut zfq [] [] b j->zfq b j:=by
  rintro b j (h | ⟨id,c,o,h,_⟩)
  ·exact h
  ·simp at h
 have H:HRel zfq [] [] w:=⟨rfl,λid o ho=>by simp at ho,λb j h=>h.elim,λ_ _ _ _ h=>by simp at h,λ_ _ _ _ _ h=>by simp at h⟩
 have ha:zcI zfq [] [] w vs (xs.map .d):=⟨by simp[hv.length],λj A hj=>by
  simp only[List.getElem?_map,Option.map_eq_some_iff]at hj;obtain⟨x,hj,rfl⟩:=hj;obtain⟨v,h1,h2⟩:=hv.get j x hj;exact⟨v,h1,h2.mono λb j v hm hc=>⟨hc,λh=>hm (hmut b j h)⟩⟩⟩
 refine (hrun f _ _ _ _ hx zfq [] w vs H hg ha).mono ?_
 rintro e w' ⟨ρ',rv,rfl,st,us,l1,l2,rfl⟩
 obtain⟨u,h1,h2⟩:=l2 0 _ rfl;have:us=[u]:=by
  match us,l1,h1 with
  |[u'],_,h1=>simpa using h1
 subst this;refine⟨?_,st.fr.os,st.fr.tape,st.fr.output,st.fr.size,λk hk=>(st.fr.block k hk λid c=>by simp).1⟩
 have h3:Rep (Mut zfq ρ' h') w' u (.bool true):=h2;cases h3;rfl
def zmh {run:Run} {f:FuncId} {fn:Func} {s:ChangeSpec} {m:Nat} {tb:TypeId} {G:Nat->Option (List D)} {W:World} {base:Nat} {args:Array Value} {ds gs:List (DataW H)} {before:List MemPlace}
 (hl:laidOutB P=true) (hp:fn.params.toList.all (zrz P m)=true) (hvars:s.vars=[]) (hres:fn.resultTypes= #[tb]) (htb:P.underlying tb=some .bool)
 (hspec: ∀ds:List (DataW H),ds.length=fn.params.size->s.fn H ds= { results:=[.lit (.bool true)],args:=ds,vars:=[] })
 (hrun:zeg P G run) (hx: ∀xs:List D,All2 (zdj P m) fn.params.toList xs-> ∃h',run f (xs.map .d) []=some ([.d (.bool true)],h')) (hg:GRel zfq G [] [] W)
 (hval: ∀ (j:Nat) t v,fn.params[j]? =some t->args[j]? =some v->Value.okWide P W .any base t v)
 (hW:DataW.Whole enc P fn.params.toList s.vars false W args.toList ds gs before):
 Calls P f args W λe W'=> ∃v,e= .returned v/\s.post enc P fn false true false false W args v W':=by
 have hW':=hW;have hlt: ∀x∈before,x.block<W.heap.size:=λx hx=>hW'.lt x hx
 obtain⟨p,q,hA,hV,rfl,_,_⟩:=hW;rw[hvars]at hV;obtain⟨rfl,rfl⟩:gs=[]/\q=[]:=by
  cases gs with
  |nil=>exact⟨rfl,hV⟩
  |cons g gs=>simp[DataW.TrodVars]at hV
 simp only[List.all_eq_true,zrz,Bool.and_eq_true,decide_eq_true_eq]at hp;obtain⟨xs,h1,h2⟩:=zoO fn.params.toList args.toList ds p (λt ht=>(hp t ht).1.1) (λj t v h1 h2=>hval j t v (by simpa using h1) (by simpa using h2)) hA
 obtain⟨h',hr⟩:=hx xs h1;have hlen:ds.length=fn.params.size:=by
  have: ∀ (ts:List TypeId) (vs:List Value) (ds:List (DataW H)) (ps:List MemPlace),DataW.TrodAll enc P W 0 (λ_=>true) true ts vs ds ps->ds.length=ts.length:=by
   intro ts
   induction ts with
   |nil=>intro vs ds ps h;obtain⟨_,rfl,_⟩:=trodAll_nil h;rfl
   |cons t ts ih=>
    intro vs ds ps h;obtain⟨v,vs',d,ds',p,q,rfl,rfl,rfl,hd,hr⟩:=trodAll_cons h;simp[ih _ _ _ hr]
  simpa using this _ _ _ _ hA
 have:=zrA hrun hr h2 hg;rw[Array.toArray_toList]at this;refine this.mono ?_
 rintro e W' ⟨rfl,hb⟩
 have hs:=hspec ds hlen;have hds:ds++([]:List (DataW H))=ds:=List.append_nil ds;refine⟨_,rfl,ds,[],p++[],[],p,[],hW', ?_, ?_, ?_,hb.frame _,λh=>by cases h⟩
 ·rw[hds,hs,hres]
  exact trodAll_cons_mk (shut_bool htb true) rfl
 ·rw[hds,hs]
  exact zmg hl hb _ _ _ _ (λt ht=>⟨(hp t ht).1.2,(hp t ht).2⟩) hA λx hx=>hlt x (List.mem_append_left _ hx)
 ·rw[hds,hs,hvars]
  rfl
end
end Go.Am
namespace Go.Am
def Ev {α:Type} (A:Nat->Option α) (x:Option α):Prop:= ∀r,x=some r-> ∃n, ∀m,n<=m->A m=some r
def Ev.const {α:Type} (x:Option α):Ev (λ_=>x) x:=λ_ hr=>⟨0,λ_ _=>hr⟩
def Ev.obind {α β:Type} {A:Nat->Option α} {x:Option α} {B:Nat->α->Option β} {b:α->Option β} (ha:Ev A x) (hb: ∀a,Ev (λm=>B m a) (b a)):
 Ev (λm=>Am.obind (A m) (B m)) (Am.obind x b):=λr hr=>by
 cases x with
 |none=>cases hr
 |some a=>
  obtain⟨n1,h1⟩:=ha a rfl;obtain⟨n2,h2⟩:=hb a r hr;exact⟨max n1 n2,λm hm=>by simp only[h1 m (by omega)];exact h2 m (by omega)⟩
def Ev.onNormal {A:Nat->Res} {x:Res} {B:Nat->Slots->List Obj->Res} {b:Slots->List Obj->Res} (ha:Ev A x) (hb: ∀s h,Ev (λm=>B m s h) (b s h)):
 Ev (λm=>Am.onNormal (A m) (B m)) (Am.onNormal x b):=λr hr=>by
 cases x with
 |none=>cases hr
 |some a=>
  obtain⟨o,s,h⟩:=a;obtain⟨n1,h1⟩:=ha _ rfl;cases o with
  |normal=>
   obtain⟨n2,h2⟩:=hb s h r hr;exact⟨max n1 n2,λm hm=>by simp only[h1 m (by omega),Am.onNormal];exact h2 m (by omega)⟩
  |exit i=>exact⟨n1,λm hm=>by simp only[h1 m hm];exact hr⟩
  |ret=>exact⟨n1,λm hm=>by simp only[h1 m hm];exact hr⟩
def Ev.leave {A:Nat->Res} {x:Res} (id:Nat) (ha:Ev A x):Ev (λm=>Am.leave id (A m)) (Am.leave id x):=λr hr=>by
 cases x with
 |none=>cases hr
 |some a=>
  obtain⟨n1,h1⟩:=ha _ rfl;exact⟨n1,λm hm=>by simp only[h1 m hm];exact hr⟩
def Ev.branch {A B:Nat->Res} {x y:Res} (c:V) (ha:Ev A x) (hb:Ev B y):Ev (λm=>Am.branch c (A m) (B m)) (Am.branch c x y):=by
 unfold Am.branch;split
 ·rename_i t
  cases t with
  |true=>exact ha
  |false=>exact hb
 ·exact Ev.const none
def Ev.iter {A:Nat->Slots->List Obj->Res} {x:Slots->List Obj->Res} (ha: ∀s h,Ev (λm=>A m s h) (x s h)): ∀ (k:Nat) (s:Slots) (h:List Obj),Ev (λm=>Am.iter (A m) k s h) (Am.iter x k s h)
 |0,_,_=>Ev.const none
 |k+1,s,h=>by
  simp only[Am.iter];exact Ev.onNormal (ha s h) λs h=>Ev.iter ha k s h
def Ev.loops {A:Nat->Slots->List Obj->Res} {x:Slots->List Obj->Res} (ha: ∀s h,Ev (λm=>A m s h) (x s h)) (s:Slots) (h:List Obj):Ev (λm=>Am.loops (A m) s h) (Am.loops x s h):=λr hr=>by
 obtain⟨k,hk⟩:=zdY.1 hr;obtain⟨n,hn⟩:=Ev.iter ha k s h r hk;exact⟨n,λm hm=>zdY.2 ⟨k,hn m hm⟩⟩
def zk0 (R:Nat->Run) (R':Run):Prop:= ∀f args h,Ev (λm=>R m f args h) (R' f args h)
section
variable {P:Program} {G:Nat->Option (List D)} {K:zh8} {S:zh7} {R:Nat->Run} {R':Run}
def Ev.callWith (hR:zk0 R R') (rf:Bool) (f:FuncId) (args:List V) (h:List Obj):Ev (λm=>Am.callWith rf (R m) f args h) (Am.callWith rf R' f args h):=by
 unfold Am.callWith;cases zdC rf h args with
 |none=>exact Ev.const none
 |some p=>
  obtain⟨as,h1⟩:=p;simp only;cases as.mapM (V.ren (zaW (zco h1 (zay [] (as.flatMap V.ids))))) with
  |none=>exact Ev.const none
  |some as2=>
   cases za3 h1 (zaW (zco h1 (zay [] (as.flatMap V.ids)))) (zco h1 (zay [] (as.flatMap V.ids))) with
   |none=>exact Ev.const none
   |some hin=>
    simp only;intro r hr;cases hx:R' f as2 hin with
    |none=>rw[hx]at hr;cases hr
    |some q=>
     rw[hx]at hr;obtain⟨n,hn⟩:=hR f as2 hin q hx;exact⟨n,λm hm=>by simp only[hn m hm];exact hr⟩
def Ev.callThaw (hR:zk0 R R') (f:FuncId) (args:List V) (h:List Obj):Ev (λm=>Am.callThaw (R m) f args h) (Am.callThaw R' f args h):=by
 unfold Am.callThaw;cases zdC false h args with
 |none=>exact Ev.const none
 |some p=>
  obtain⟨as,h1⟩:=p;simp only;intro r hr;cases hx:R' f as [] with
  |none=>rw[hx]at hr;cases hr
  |some q=>
   rw[hx]at hr;obtain⟨n,hn⟩:=hR f as [] q hx;exact⟨n,λm hm=>by simp only[hn m hm];exact hr⟩
def Ev.calleeV (hR:zk0 R R') (s:Slots) (h:List Obj) (f:V) (args:List V):Ev (λm=>Am.calleeV G s h (R m) f args) (Am.calleeV G s h R' f args):=by
 unfold Am.calleeV;split
 ·split
  ·split
   ·intro r hr
    rename_i g _ _;cases hx:Am.callWith (zad G g) R' g args h with
    |none=>rw[hx]at hr;simp[zdT]at hr
    |some q=>
     obtain⟨n,hn⟩:=Ev.callWith hR (zad G g) g args h q hx;refine⟨n,λm hm=> ?_⟩
     have e1:Am.callWith (zad G g) (R m) g args h=some q:=hn m hm
     show zdT h (Am.callWith (zad G g) (R m) g args h)=some r
     rw[e1,<- hx];exact hr
   ·exact Ev.callThaw hR _ _ _
  ·exact Ev.callWith hR _ _ _ _
 ·exact Ev.callWith hR _ _ _ _
 ·exact Ev.const none
def Ev.opV (hR:zk0 R R') (s:Slots) (h:List Obj) (o:Oper):Ev (λm=>Am.opV P G (R m) s h o) (Am.opV P G R' s h o):=by
 unfold Am.opV;cases o.op with
 |call c=>
  simp only;cases c.callee with
  |builtin b=>exact Ev.const _
  |invoke _ _=>exact Ev.const _
  |value f=>exact Ev.calleeV hR _ _ _ _
 |makeFunc fn first cap=>cases fn <;> exact Ev.const _
 |_=>exact Ev.const _
def Ev.opsV (hR:zk0 R R') (all:List Oper) (hint:List Nat) (hv:List Obj): ∀ (ops:List Oper) (i:Nat) (s:Slots) (h:List Obj),Ev (λm=>Am.opsV P G (R m) all hint hv i ops s h) (Am.opsV P G R' all hint hv i ops s h)
 |[],_,_,_=>Ev.const _
 |o::ops,i,s,h=>by
  simp only[Am.opsV];refine Ev.obind (Ev.const _) λw=> ?_
  cases w with
  |false=>exact Ev.opsV hR all hint hv ops _ _ _
  |true=>
   simp only[if_true];refine Ev.obind ?_ λp=>Ev.opsV hR all hint hv ops _ _ _
   cases hint.contains i with
   |true=>exact Ev.const _
   |false=>
    simp only[Bool.false_eq_true,if_false];split
    ·exact Ev.opV hR s h o
    ·exact Ev.const _
def Ev.codeV (hR:zk0 R R') (F:FuncId) (k:Nat): ∀ (c:Code) (b:Nat) (s:Slots) (h:List Obj),Ev (λm=>Am.codeV P G K S (R m) Am.loops F k b c s h) (Am.codeV P G K S R' Am.loops F k b c s h):=by
 intro c
 induction c with
 |skip=>intro b s h;exact Ev.const _
 |region id ops draw=>
  intro b s h;simp only[Am.codeV,zia];exact Ev.obind (Ev.const _) λ_=>Ev.obind (Ev.opsV hR _ _ _ _ _ _ _) λ_=>Ev.const _
 |seq x y ihx ihy=>intro b s h;simp only[Am.codeV];exact Ev.onNormal (ihx b s h) λs h=>ihy b s h
 |cond c x y ihx ihy=>intro b s h;simp only[Am.codeV];exact Ev.branch _ (ihx b s h) (ihy b s h)
 |block id c ih=>intro b s h;simp only[Am.codeV];exact Ev.leave id (ih id s h)
 |loop c ih=>
  intro b s h;simp only[Am.codeV];split
  ·exact Ev.loops (λs h=>Ev.obind (Ev.const _) λ(p:Slots × List Obj)=>ih b p.1 p.2) s h
  ·exact Ev.loops (λs h=>ih b s h) s h
 |_=>intro b s h;simp only[Am.codeV];exact Ev.const _
def Ev.bodyV (hR:zk0 R R') (f:FuncId) (args:List V) (h:List Obj):Ev (λm=>Am.bodyV P G K S (R m) Am.loops f args h) (Am.bodyV P G K S R' Am.loops f args h):=by
 unfold Am.bodyV;cases P.funcs[f]? with
 |none=>exact Ev.const _
 |some fn=>
  simp only;cases fn.body with
  |none=>exact Ev.const _
  |some c=>
   simp only;split
   ·intro r hr
    cases hx:Am.codeV P G K S R' Am.loops f h.length 0 c (zas 0 args) h with
    |none=>rw[hx]at hr;cases hr
    |some q=>
     rw[hx]at hr;obtain⟨n,hn⟩:=Ev.codeV hR f h.length c 0 _ _ q hx;exact⟨n,λm hm=>by
     have:=hn m hm;simp only at this;simp only[this];exact hr⟩
   ·exact Ev.const _
def Ev.joinV {A B:Nat->Option (List V × List Obj)} {x y:Option (List V × List Obj)} (ha:Ev A x) (hb:Ev B y):Ev (λm=>Am.joinV (A m) (B m)) (Am.joinV x y):=λr hr=>by
 obtain⟨h1,h2⟩:=zj8 hr;obtain⟨n1,k1⟩:=ha r h1;obtain⟨n2,k2⟩:=hb r h2;refine⟨max n1 n2,λm hm=> ?_⟩
 simp only[k1 m (by omega),k2 m (by omega),Am.joinV,if_true]
def Ev.bodyS (hR:zk0 R R') (f:FuncId) (args:List V) (h:List Obj):Ev (λm=>Am.bodyS P G K S (R m) Am.loops f args h) (Am.bodyS P G K S R' Am.loops f args h):=by
 unfold Am.bodyS;split
 ·exact Ev.joinV (Ev.bodyV hR _ _ _) (Ev.bodyV hR _ _ _)
 ·exact Ev.bodyV hR _ _ _
variable (P G K S)
noncomputable def ztG:Nat->Run
 |0=>λ_ _ _=>none
 |n+1=>Am.bodyS P G K S (ztG n) Am.loops
open Classical in
noncomputable def zhp:Run:=λf args h=>if e: ∃n r, ∀m,n<=m->ztG P G K S m f args h=some r then some (Classical.choose (Classical.choose_spec e)) else none
variable {P G K S}
def ziA {f:FuncId} {args:List V} {h:List Obj} {r:List V × List Obj}:zhp P G K S f args h=some r↔ ∃n, ∀m,n<=m->ztG P G K S m f args h=some r:=by
 unfold zhp;constructor
 ·intro hr
  split at hr
  ·rename_i e
   simp only[Option.some.injEq]at hr;subst hr;exact⟨_,Classical.choose_spec (Classical.choose_spec e)⟩
  ·cases hr
 ·rintro ⟨n,hn⟩
  have e: ∃n r, ∀m,n<=m->ztG P G K S m f args h=some r:=⟨n,r,hn⟩;rw[dif_pos e];have h2:=Classical.choose_spec (Classical.choose_spec e);have h3:=hn (max n (Classical.choose e)) (by omega)
  have h4:=h2 (max n (Classical.choose e)) (by omega)
  rw[h3]at h4;simpa using h4.symm
def zvf:zk0 (ztG P G K S) (zhp P G K S):=λ_ _ _ _ hr=>ziA.1 hr
def zoP {f:FuncId} {args:List V} {h:List Obj} {r:List V × List Obj} (hr:bodyS P G K S (zhp P G K S) loops f args h=some r):zhp P G K S f args h=some r:=by
 obtain⟨n,hn⟩:=Ev.bodyS zvf f args h r hr;refine ziA.2 ⟨n+1,λm hm=> ?_⟩
 obtain⟨k,rfl⟩: ∃k,m=k+1:=⟨m - 1,by omega⟩
 exact hn k (by omega)
def zvg {f:FuncId} {args:List V} {h:List Obj} {r:List V × List Obj} (hs:splits G f=false\/ ∀zaB,args≠ .d (.list [])::zaB) (hr:bodyV P G K S (zhp P G K S) loops f args h=some r):zhp P G K S f args h=some r:=by
 refine zoP ?_;unfold bodyS;split
 ·rename_i e
  rcases hs with hs | hs
  ·rw[hs]at e;cases e
  ·exact absurd rfl (hs _)
 ·exact hr
def zp3 {f:FuncId} {zaB:List V} {h:List Obj} {r:List V × List Obj} (hs:splits G f=true) (h1:bodyV P G K S (zhp P G K S) loops f (.nilS::zaB) h=some r) (h2:bodyV P G K S (zhp P G K S) loops f (.emp::zaB) h=some r):
 zhp P G K S f (.d (.list [])::zaB) h=some r:=by
 refine zoP ?_;unfold bodyS;simp only[hs,h1,h2,joinV,if_true]
def znJ (hm:P.follows .mixedOrders=true): ∀n,zeg P G (ztG P G K S n)/\zdh P (ztG P G K S n)
 |0=>⟨λ_ _ _ _ _ hr=>by simp[ztG]at hr,λ_ _ _ _ hr=>by simp[ztG]at hr⟩
 |n+1=>ztF hm (znJ hm n).1 (znJ hm n).2 λ_ _ _ _ _ hc=>zp2 hc
def zvh (hm:P.follows .mixedOrders=true):zeg P G (zhp P G K S):=λf args h rets h' hr=>by
 obtain⟨n,hn⟩:=ziA.1 hr;exact (znJ hm n).1 f args h rets h' (hn n (Nat.le_refl _))
noncomputable def zfH (k:Nat) (keep:List (Nat × Nat)) (b:Slots->List Obj->Res) (s:Slots) (h:List Obj):Res:=loops (λs h=>obind (zoE k keep s h) λp=>b p.1 p.2) s h
def zoQ (k:Nat) (keep:List (Nat × Nat)) (b:Slots->List Obj->Res) (s:Slots) (h:List Obj):
 zfH k keep b s h=obind (zoE k keep s h) λp=>onNormal (b p.1 p.2) (zfH k keep b):=by
 show loops _ s h=_
 rw[ztD];cases zoE k keep s h <;> rfl
def zp4 {run:Run} {F:FuncId} {k b:Nat} {c:Code} {s:Slots} {h:List Obj} {keep:List (Nat × Nat)} (hk:K F b=some keep):
 codeV P G K S run loops F k b (.loop c) s h=zfH k keep (codeV P G K S run loops F k b c) s h:=by
 simp only[codeV,hk];rfl
end
end Go.Am
namespace Go.Am
attribute [simp] zfC zcE calleeV zdU eqV zgC zjQ zlJ znm zpD zjR zhS ztl
attribute [simp] zlI zaQ zz0 zhQ zrf unD zgD zbg
attribute [simp] zgE zdE zcC zoB zct ze4 zoC zoD zbP zuB znn min2 max2 natOf? bound? bounds? zhe
attribute [simp] zdC zcN zbF zck zay zjC one zcb
attribute [simp] zco zkO ztk
attribute [simp] zpE zh6
attribute [simp] zbU V.storable V.cellOk
@[simp] def zAX {α:Type} (i:Nat):([]:List α)[i]? =none:=rfl
@[simp] def zz3 {α:Type} (x:α) (l:List α):(x::l)[0]? =some x:=rfl
@[simp] def zz4 {α:Type} (x:α) (l:List α) (i:Nat):(x::l)[i+1]? =l[i]? :=rfl
@[simp] def zz5 (rf:Bool) (h:List Obj) (a b:Nat):zhR rf h (.arr a b)=bif rf then some (.arr a b,h) else (zcN h (.arr a b)).map λp=>(.d p.1,p.2):=by cases rf <;> rfl
@[simp] def zAY (rf:Bool) (h:List Obj) (a b c d:Nat):zhR rf h (.sl a b c d)=bif rf then some (.sl a b c d,h) else (zcN h (.sl a b c d)).map λp=>(.d p.1,p.2):=by cases rf <;> rfl
@[simp] def zz6 (rf:Bool) (h:List Obj) (a b:Nat):zhR rf h (.ptr a b)=some (.ptr a b,h):=rfl
@[simp] def zAZ (rf:Bool) (h:List Obj) (a:Nat):zhR rf h (.mp a)=some (.mp a,h):=rfl
@[simp] def zz7 (rf:Bool) (h:List Obj) (f:FuncId) (l:List V):zhR rf h (.clo f l)=some (.clo f l,h):=rfl
@[simp] def zA0 (rf:Bool) (h:List Obj) (cs:List D):zhR rf h (.ro cs)=some (.ro cs,h):=rfl
@[simp] def zCR (rf:Bool) (h:List Obj) (x:D):zhR rf h (.d x)=some (.d x,h):=rfl
@[simp] def zw0 (rf:Bool) (h:List Obj):zhR rf h .nilS=some (.d (.list []),h):=rfl
@[simp] def zz8 (rf:Bool) (h:List Obj):zhR rf h .emp=some (.d (.list []),h):=rfl
@[simp] def zz9 (rf:Bool) (h:List Obj) (cs:List V):zhR rf h (.agg cs)=(zck h cs).map λp=>(.d (.agg p.1),p.2):=by
 show ((zck h cs).map λ(xs,h)=>(D.agg xs,h)).map _=_
 cases zck h cs <;> rfl
@[simp] def zCS (G:Nat->Option (List D)) (s:Slots) (t:Tmp):ev G s (.tmp t)=zak s t:=rfl
@[simp] def zAa (G:Nat->Option (List D)) (s:Slots) (v:Value):ev G s (.const v)=zlI v:=rfl
@[simp] def zw1 (G:Nat->Option (List D)) (s:Slots) (g:Nat):ev G s (.global g)=match G g with | some cs=> .ro cs | none=> .dead:=rfl
@[simp] def zA1 (G:Nat->Option (List D)) (s:Slots) (f:FuncId):ev G s (.func f)= .d (.fn f):=rfl
@[simp] def zCT (f:Nat->Option Nat) (x:D):V.ren0 f (.d x)=some (.d x):=rfl
@[simp] def zw2 (f:Nat->Option Nat):V.ren0 f (.nilS)=some (.nilS):=rfl
@[simp] def zA2 (f:Nat->Option Nat) (cs:List D):V.ren0 f (.ro cs)=some (.ro cs):=rfl
@[simp] def zw3 (f:Nat->Option Nat):V.ren0 f (.dead)=some (.dead):=rfl
@[simp] def zAb (f:Nat->Option Nat):V.ren0 f .emp=some .emp:=rfl
@[simp] def zA3 (f:Nat->Option Nat) (a b c d:Nat):V.ren0 f (.sl a b c d)=(f a).map λi=> .sl i b c d:=rfl
@[simp] def zAc (f:Nat->Option Nat) (a b:Nat):V.ren0 f (.arr a b)=(f a).map λi=> .arr i b:=rfl
@[simp] def zAd (f:Nat->Option Nat) (a b:Nat):V.ren0 f (.ptr a b)=(f a).map λi=> .ptr i b:=rfl
@[simp] def zw4 (f:Nat->Option Nat) (a b c d:Nat):V.ren0 f (.eptr a b c d)=(f a).map λi=> .eptr i b c d:=rfl
@[simp] def zA4 (f:Nat->Option Nat) (a:Nat):V.ren0 f (.mp a)=(f a).map .mp:=rfl
@[simp] def zCU (f:Nat->Option Nat) (x:D):V.ren1 f (.d x)=some (.d x):=rfl
@[simp] def zw5 (f:Nat->Option Nat):V.ren1 f (.nilS)=some (.nilS):=rfl
@[simp] def zA5 (f:Nat->Option Nat) (cs:List D):V.ren1 f (.ro cs)=some (.ro cs):=rfl
@[simp] def zw6 (f:Nat->Option Nat):V.ren1 f (.dead)=some (.dead):=rfl
@[simp] def zAe (f:Nat->Option Nat):V.ren1 f .emp=some .emp:=rfl
@[simp] def zA6 (f:Nat->Option Nat) (a b c d:Nat):V.ren1 f (.sl a b c d)=(f a).map λi=> .sl i b c d:=rfl
@[simp] def zAf (f:Nat->Option Nat) (a b:Nat):V.ren1 f (.arr a b)=(f a).map λi=> .arr i b:=rfl
@[simp] def zAg (f:Nat->Option Nat) (a b:Nat):V.ren1 f (.ptr a b)=(f a).map λi=> .ptr i b:=rfl
@[simp] def zw7 (f:Nat->Option Nat) (a b c d:Nat):V.ren1 f (.eptr a b c d)=(f a).map λi=> .eptr i b c d:=rfl
@[simp] def zA7 (f:Nat->Option Nat) (a:Nat):V.ren1 f (.mp a)=(f a).map .mp:=rfl
@[simp] def zAh (f:Nat->Option Nat) (g:FuncId) (l:List V):V.ren1 f (.clo g l)=(l.mapM (V.ren0 f)).map (.clo g):=rfl
@[simp] def zCV (f:Nat->Option Nat) (x:D):V.ren2 f (.d x)=some (.d x):=rfl
@[simp] def zw8 (f:Nat->Option Nat):V.ren2 f (.nilS)=some (.nilS):=rfl
@[simp] def zA8 (f:Nat->Option Nat) (cs:List D):V.ren2 f (.ro cs)=some (.ro cs):=rfl
@[simp] def zw9 (f:Nat->Option Nat):V.ren2 f (.dead)=some (.dead):=rfl
@[simp] def zAi (f:Nat->Option Nat):V.ren2 f .emp=some .emp:=rfl
@[simp] def zA9 (f:Nat->Option Nat) (a b c d:Nat):V.ren2 f (.sl a b c d)=(f a).map λi=> .sl i b c d:=rfl
@[simp] def zAj (f:Nat->Option Nat) (a b:Nat):V.ren2 f (.arr a b)=(f a).map λi=> .arr i b:=rfl
@[simp] def zAk (f:Nat->Option Nat) (a b:Nat):V.ren2 f (.ptr a b)=(f a).map λi=> .ptr i b:=rfl
@[simp] def zxa (f:Nat->Option Nat) (a b c d:Nat):V.ren2 f (.eptr a b c d)=(f a).map λi=> .eptr i b c d:=rfl
@[simp] def zBa (f:Nat->Option Nat) (a:Nat):V.ren2 f (.mp a)=(f a).map .mp:=rfl
@[simp] def zAl (f:Nat->Option Nat) (g:FuncId) (l:List V):V.ren2 f (.clo g l)=(l.mapM (V.ren0 f)).map (.clo g):=rfl
@[simp] def zAm (f:Nat->Option Nat) (l:List V):V.ren2 f (.agg l)=(l.mapM (V.ren1 f)).map .agg:=rfl
@[simp] def zDG (f:Nat->Option Nat) (x:D):V.ren f (.d x)=some (.d x):=rfl
@[simp] def zAn (f:Nat->Option Nat):V.ren f (.nilS)=some (.nilS):=rfl
@[simp] def zCW (f:Nat->Option Nat) (cs:List D):V.ren f (.ro cs)=some (.ro cs):=rfl
@[simp] def zAo (f:Nat->Option Nat):V.ren f (.dead)=some (.dead):=rfl
@[simp] def zBb (f:Nat->Option Nat):V.ren f .emp=some .emp:=rfl
@[simp] def zCX (f:Nat->Option Nat) (a b c d:Nat):V.ren f (.sl a b c d)=(f a).map λi=> .sl i b c d:=rfl
@[simp] def zBc (f:Nat->Option Nat) (a b:Nat):V.ren f (.arr a b)=(f a).map λi=> .arr i b:=rfl
@[simp] def zBd (f:Nat->Option Nat) (a b:Nat):V.ren f (.ptr a b)=(f a).map λi=> .ptr i b:=rfl
@[simp] def zAp (f:Nat->Option Nat) (a b c d:Nat):V.ren f (.eptr a b c d)=(f a).map λi=> .eptr i b c d:=rfl
@[simp] def zCY (f:Nat->Option Nat) (a:Nat):V.ren f (.mp a)=(f a).map .mp:=rfl
@[simp] def zBe (f:Nat->Option Nat) (g:FuncId) (l:List V):V.ren f (.clo g l)=(l.mapM (V.ren0 f)).map (.clo g):=rfl
@[simp] def zBf (f:Nat->Option Nat) (l:List V):V.ren f (.agg l)=(l.mapM (V.ren1 f)).map .agg:=rfl
@[simp] def zBg (f:Nat->Option Nat) (l:List V):V.ren f (.tup l)=(l.mapM (V.ren2 f)).map .tup:=rfl
@[simp] def zCZ (x:D):V.ids0 (.d x)=[]:=rfl
@[simp] def zxb:V.ids0 (.nilS)=[]:=rfl
@[simp] def zBh (cs:List D):V.ids0 (.ro cs)=[]:=rfl
@[simp] def zxc:V.ids0 (.dead)=[]:=rfl
@[simp] def zAq:V.ids0 .emp=[]:=rfl
@[simp] def zBi (a b c d:Nat):V.ids0 (.sl a b c d)=[a]:=rfl
@[simp] def zAr (a b:Nat):V.ids0 (.arr a b)=[a]:=rfl
@[simp] def zAs (a b:Nat):V.ids0 (.ptr a b)=[a]:=rfl
@[simp] def zxd (a b c d:Nat):V.ids0 (.eptr a b c d)=[a]:=rfl
@[simp] def zBj (a:Nat):V.ids0 (.mp a)=[a]:=rfl
@[simp] def zC0 (x:D):V.ids1 (.d x)=[]:=rfl
@[simp] def zxe:V.ids1 (.nilS)=[]:=rfl
@[simp] def zBk (cs:List D):V.ids1 (.ro cs)=[]:=rfl
@[simp] def zxf:V.ids1 (.dead)=[]:=rfl
@[simp] def zAt:V.ids1 .emp=[]:=rfl
@[simp] def zBl (a b c d:Nat):V.ids1 (.sl a b c d)=[a]:=rfl
@[simp] def zAu (a b:Nat):V.ids1 (.arr a b)=[a]:=rfl
@[simp] def zAv (a b:Nat):V.ids1 (.ptr a b)=[a]:=rfl
@[simp] def zxg (a b c d:Nat):V.ids1 (.eptr a b c d)=[a]:=rfl
@[simp] def zBm (a:Nat):V.ids1 (.mp a)=[a]:=rfl
@[simp] def zAw (g:FuncId) (l:List V):V.ids1 (.clo g l)=l.flatMap V.ids0:=rfl
@[simp] def zC1 (x:D):V.ids2 (.d x)=[]:=rfl
@[simp] def zxh:V.ids2 (.nilS)=[]:=rfl
@[simp] def zBn (cs:List D):V.ids2 (.ro cs)=[]:=rfl
@[simp] def zxi:V.ids2 (.dead)=[]:=rfl
@[simp] def zAx:V.ids2 .emp=[]:=rfl
@[simp] def zBo (a b c d:Nat):V.ids2 (.sl a b c d)=[a]:=rfl
@[simp] def zAy (a b:Nat):V.ids2 (.arr a b)=[a]:=rfl
@[simp] def zAz (a b:Nat):V.ids2 (.ptr a b)=[a]:=rfl
@[simp] def zxj (a b c d:Nat):V.ids2 (.eptr a b c d)=[a]:=rfl
@[simp] def zBp (a:Nat):V.ids2 (.mp a)=[a]:=rfl
@[simp] def zAA (g:FuncId) (l:List V):V.ids2 (.clo g l)=l.flatMap V.ids0:=rfl
@[simp] def zAB (l:List V):V.ids2 (.agg l)=l.flatMap V.ids1:=rfl
@[simp] def zDH (x:D):V.ids (.d x)=[]:=rfl
@[simp] def zAC:V.ids (.nilS)=[]:=rfl
@[simp] def zC2 (cs:List D):V.ids (.ro cs)=[]:=rfl
@[simp] def zAD:V.ids (.dead)=[]:=rfl
@[simp] def zBq:V.ids .emp=[]:=rfl
@[simp] def zC3 (a b c d:Nat):V.ids (.sl a b c d)=[a]:=rfl
@[simp] def zBr (a b:Nat):V.ids (.arr a b)=[a]:=rfl
@[simp] def zBs (a b:Nat):V.ids (.ptr a b)=[a]:=rfl
@[simp] def zAE (a b c d:Nat):V.ids (.eptr a b c d)=[a]:=rfl
@[simp] def zC4 (a:Nat):V.ids (.mp a)=[a]:=rfl
@[simp] def zBt (g:FuncId) (l:List V):V.ids (.clo g l)=l.flatMap V.ids0:=rfl
@[simp] def zBu (l:List V):V.ids (.agg l)=l.flatMap V.ids1:=rfl
@[simp] def zBv (l:List V):V.ids (.tup l)=l.flatMap V.ids2:=rfl
@[simp] def zv9 (f:Nat->Option Nat) (cs:List V):Obj.ren f (.box cs)=(cs.mapM (V.ren1 f)).map .box:=rfl
@[simp] def zwa (f:Nat->Option Nat) (sz:Nat) (xs:List D) (wm:Nat):Obj.ren f (.arr sz xs wm)=some (.arr sz xs wm):=rfl
@[simp] def zuF (f:Nat->Option Nat) (s:ByteArray) (n:Nat):Obj.ren f (.siter s n)=some (.siter s n):=rfl
@[simp] def zwb (cs:List V):Obj.ids (.box cs)=cs.flatMap V.ids1:=rfl
@[simp] def zwc (sz:Nat) (xs:List D) (wm:Nat):Obj.ids (.arr sz xs wm)=[]:=rfl
@[simp] def zuG (s:ByteArray) (n:Nat):Obj.ids (.siter s n)=[]:=rfl
@[simp] def zxk (i:Nat):zaW [] i=none:=rfl
@[simp] def zwd (x:Nat) (xs:List Nat) (i:Nat):zaW (x::xs) i=bif x == i then some 0 else (zaW xs i).map (·+1):=by simp only[zaW,cond_eq_ite,beq_iff_eq]
@[simp] def zC5 (l:List D):(D.agg l).cells=l:=rfl
@[simp] def zC6 (k:IntKind) (n:Int):(D.int k n).cells=[.int k n]:=rfl
@[simp] def zBw (b:Bool):(D.bool b).cells=[.bool b]:=rfl
@[simp] def zC7 (s:ByteArray):(D.str s).cells=[.str s]:=rfl
@[simp] def zBx (l:List D):(D.list l).cells=[.list l]:=rfl
@[simp] def zBy:D.nilI.cells=[.nilI]:=rfl
@[simp] def zBz:D.nilP.cells=[.nilP]:=rfl
@[simp] def zBA:D.nilM.cells=[.nilM]:=rfl
@[simp] def zBB:D.nilF.cells=[.nilF]:=rfl
@[simp] def zAF (t:TypeId) (x:D):(D.iface t x).cells=[.iface t x]:=rfl
@[simp] def zDI (f:FuncId):(D.fn f).cells=[.fn f]:=rfl
@[simp] def zC8 (l:List V):(V.agg l).cells=l:=rfl
@[simp] def zBC (l:List D):(V.d (.agg l)).cells=l.map .d:=rfl
@[simp] def zC9 (k:IntKind) (n:Int):(V.d (.int k n)).cells=[.d (.int k n)]:=rfl
@[simp] def zBD (b:Bool):(V.d (.bool b)).cells=[.d (.bool b)]:=rfl
@[simp] def zDa (s:ByteArray):(V.d (.str s)).cells=[.d (.str s)]:=rfl
@[simp] def zBE (l:List D):(V.d (.list l)).cells=[.d (.list l)]:=rfl
@[simp] def zBF:(V.d .nilI).cells=[.d .nilI]:=rfl
@[simp] def zBG:(V.d .nilM).cells=[.d .nilM]:=rfl
@[simp] def zBH:(V.d .nilP).cells=[.d .nilP]:=rfl
@[simp] def zBI:(V.d .nilF).cells=[.d .nilF]:=rfl
@[simp] def zAG (t:TypeId) (x:D):(V.d (.iface t x)).cells=[.d (.iface t x)]:=rfl
@[simp] def zDJ (f:FuncId):(V.d (.fn f)).cells=[.d (.fn f)]:=rfl
@[simp] def zBJ:V.nilS.cells=[.nilS]:=rfl
@[simp] def zDb (a b:Nat):(V.arr a b).cells=[.arr a b]:=rfl
@[simp] def zDc:V.emp.cells=[.emp]:=rfl
@[simp] def zDK (a b c d:Nat):(V.sl a b c d).cells=[.sl a b c d]:=rfl
@[simp] def zDd (a b:Nat):(V.ptr a b).cells=[.ptr a b]:=rfl
@[simp] def zBK (a b c d:Nat):(V.eptr a b c d).cells=[.eptr a b c d]:=rfl
@[simp] def zDe (f:FuncId) (l:List V):(V.clo f l).cells=[.clo f l]:=rfl
def zbu {α:Type} (p:Prop) [Decidable p] (x:Option α):Option α:=if p then x else none
@[simp] def zvi {α:Type} (x:Option α):zbu True x=x:=rfl
@[simp] def zuH {α:Type} (x:Option α):zbu False x=none:=rfl
@[simp] def zwe {α:Type} {p:Prop} [Decidable p] (x:Option α) (h:p):zbu p x=x:=if_pos h
@[congr] def zuI {α:Type} {p q:Prop} [Decidable p] [Decidable q] {x:Option α} (h:p=q):zbu p x=zbu q x:=by cases h;unfold zbu;congr
@[simp] def zrB {α:Type} (p:Prop) [Decidable p] (x:Option α):(if p then x else none)=zbu p x:=rfl
def zk1 {α:Type} (p q:Prop) [Decidable p] [Decidable q] (x:Option α):(if p/\q then x else none)=zbu p (zbu q x):=by
 unfold zbu
 by_cases hp:p <;> by_cases hq:q <;> simp[hp,hq]
@[simp] def zrC {α:Type} (p q:Prop) [Decidable p] [Decidable q] (x:Option α):zbu (p/\q) x=zbu p (zbu q x):=zk1 p q x
@[simp] def zgb {α:Type} (p:Prop) [Decidable p] (x:Option α):(if p then none else x)=zbu (¬ p) x:=by
 unfold zbu
 by_cases hp:p <;> simp[hp]
@[simp] def zwf (k:IntKind) (x y:Int):zbI .add k x y=some (.int k (k.wrap (x+y))):=rfl
@[simp] def zwg (k:IntKind) (x y:Int):zbI .sub k x y=some (.int k (k.wrap (x - y))):=rfl
@[simp] def zwh (k:IntKind) (x y:Int):zbI .mul k x y=some (.int k (k.wrap (x*y))):=rfl
@[simp] def zwi (k:IntKind) (x y:Int):zbI .quo k x y=zbu (¬ y=0) (some (.int k (k.wrap (x.tdiv y)))):=zgb _ _
@[simp] def zwj (k:IntKind) (x y:Int):zbI .rem k x y=zbu (¬ y=0) (some (.int k (x.tmod y))):=zgb _ _
@[simp] def zwk (k:IntKind) (x y:Int):zbI .eql k x y=some (.bool (decide (x=y))):=by simp only[zbI];congr 2
@[simp] def zwl (k:IntKind) (x y:Int):zbI .neq k x y=some (.bool (!decide (x=y))):=by simp only[zbI];congr 2
@[simp] def zwm (k:IntKind) (x y:Int):zbI .lss k x y=some (.bool (decide (x<y))):=rfl
@[simp] def zwn (k:IntKind) (x y:Int):zbI .leq k x y=some (.bool (decide (x<=y))):=rfl
@[simp] def zwo (k:IntKind) (x y:Int):zbI .gtr k x y=some (.bool (decide (y<x))):=rfl
@[simp] def zwp (k:IntKind) (x y:Int):zbI .geq k x y=some (.bool (decide (y<=x))):=rfl
@[simp] def zdH (l:List UInt8):(l.map zb8).mapM byteOf?=some l:=by
 induction l with
 |nil=>rfl
 |cons b l ih=>
  simp only[List.map_cons,List.mapM_cons,ih,zb8,byteOf?,Int.toNat_natCast];simp
structure Tok {α:Type} (a:α):Type where
section
variable {P:Program} {G:Nat->Option (List D)} {K:zh8} {S:zh7} {run:Run} {F k b:Nat} {α β:Type}
def zuJ (x:Res) (f:Slots->List Obj->Res) (_:Tok f):Res:=onNormal x f
def zbK (x:Option α) (f:α->Option β) (_:Tok f):Option β:=obind x f
def zfr (v:V) (f:Bool->Option α) (_:Tok f):Option α:=
 match v with
 |.d (.bool z)=>f z
 |_=>none
noncomputable def zbT (P:Program) (G:Nat->Option (List D)) (K:zh8) (S:zh7) (run:Run) (F k b:Nat) (c:Code) (_:Tok c) (s:Slots) (h:List Obj):Res:=codeV P G K S run loops F k b c s h
noncomputable def zra (P:Program) (G:Nat->Option (List D)) (run:Run) (all:List Oper) (hint:List Nat) (hv:List Obj) (i:Nat) (zaB:List Oper) (_:Tok (all,zaB)) (s:Slots) (h:List Obj):Option (Slots × List Obj):=opsV P G run all hint hv i zaB s h
noncomputable def opT (P:Program) (G:Nat->Option (List D)) (run:Run) (hint:List Nat) (hv:List Obj) (i:Nat) (o:Oper) (_:Tok o) (s:Slots) (h:List Obj):Option (V × List Obj):=zdO P G run hint hv i s h o
noncomputable def zac (keep:Option (List (Nat × Nat))) (k:Nat) (f:Slots->List Obj->Res) (_:Tok f) (s:Slots) (h:List Obj):Res:=
 match keep with
 |some l=>zfH k l f s h
 |none=>loops f s h
@[simp] def zvj (s:Slots) (h:List Obj) (f:Slots->List Obj->Res) (t:Tok f):zuJ (some (.normal,s,h)) f t=f s h:=rfl
@[simp] def zxl (i:Nat) (s:Slots) (h:List Obj) (f:Slots->List Obj->Res) (t:Tok f):zuJ (some (.exit i,s,h)) f t=some (.exit i,s,h):=rfl
@[simp] def zAH (s:Slots) (h:List Obj) (f:Slots->List Obj->Res) (t:Tok f):zuJ (some (.ret,s,h)) f t=some (.ret,s,h):=rfl
@[simp] def zwq (a:α) (f:α->Option β) (t:Tok f):zbK (some a) f t=f a:=rfl
@[simp] def zwr (f:α->Option β) (t:Tok f):zbK none f t=none:=rfl
@[simp] def zxm (f:Slots->List Obj->Res) (t:Tok f):zuJ none f t=none:=rfl
@[simp] def zws (f:Bool->Option α) (t:Tok f):zfr (.d (.bool true)) f t=f true:=rfl
@[simp] def zvk (f:Bool->Option α) (t:Tok f):zfr (.d (.bool false)) f t=f false:=rfl
@[simp] def zxn (c:Bool) (f:Bool->Option α) (t:Tok f):zfr (.d (.bool !c)) f t=zfr (.d (.bool c)) (λz=>match z with | true=>f false | false=>f true) ⟨⟩:=by cases c <;> rfl
@[simp] def zxo (v:V) (f:Bool->Res) (t:Tok f) (g:Slots->List Obj->Res) (u:Tok g):zuJ (zfr v f t) g u=zfr v (λz=>zuJ (f z) g ⟨⟩) ⟨⟩:=by
 cases v with
 |d x=>cases x <;> rfl
 |_=>rfl
@[simp] def zwt (v:V) (f:Bool->Option α) (t:Tok f) (g:α->Option β) (u:Tok g):zbK (zfr v f t) g u=zfr v (λz=>zbK (f z) g ⟨⟩) ⟨⟩:=by
 cases v with
 |d x=>cases x <;> rfl
 |_=>rfl
@[simp] def zwu (id:Nat) (v:V) (f:Bool->Res) (t:Tok f):leave id (zfr v f t)=zfr v (λz=>leave id (f z)) ⟨⟩:=by
 cases v with
 |d x=>cases x <;> rfl
 |_=>rfl
def zeh {T:Option α->Prop} {c:Bool} {f:Bool->Option α} {t:Tok f} (h1:c=true->T (f true)) (h0:c=false->T (f false)):T (zfr (.d (.bool c)) f t):=by
 cases c
 ·exact h0 rfl
 ·exact h1 rfl
def zez (x:α) (f:α->β) (_:Tok f):β:=f x
@[simp] def zAI (x:α) (f:α->β) (t:Tok f):zez x f t=f x:=rfl
@[simp] def zAJ (t:Nat):zak [] t= .dead:=rfl
@[simp] def zxp (i:Nat) (v:V) (r:Slots) (t:Nat):zak ((i,v)::r) t=bif i == t then v else zak r t:=by
 simp only[zak,cond_eq_ite,beq_iff_eq]
def zei (v:V) (sz t:Nat) (s:Slots) (h:List Obj) (r:List (Nat × Nat)):Slots × List Obj:=
 match v,sz with
 |.nilS,sz+1=>let (s1,h1):=zaj s (h++[.arr (sz+1) [] 0]) r;((t,.arr h.length 0)::s1,h1)
 |v,_=>let (s1,h1):=zaj s h r;((t,v)::s1,h1)
@[simp] def ztH (s:Slots) (h:List Obj):zaj s h []=([],h):=rfl
@[simp] def ztc (s:Slots) (h:List Obj) (t sz:Nat) (r:List (Nat × Nat)) (ht:t<1000000):zaj s h ((t,sz)::r)=zei (zak s t) sz t s h r:=by
 unfold zaj;rw[if_pos ht];rfl
def zk2 (p:Option (D × List Obj)) (t:Nat) (s:Slots) (r:List (Nat × Nat)):Slots × List Obj:=
 match p with
 |some (x,h0)=>let (s1,h1):=zaj s h0 r;((t,.d x)::s1,h1)
 |none=>([],[])
@[simp] def ztI (x:D) (h0:List Obj) (t:Nat) (s:Slots) (r:List (Nat × Nat)):zk2 (some (x,h0)) t s r=zez (zaj s h0 r) (λp=>((t,.d x)::p.1,p.2)) ⟨⟩:=rfl
def zfy {s:Slots} {h:List Obj} {t sz:Nat} {r:List (Nat × Nat)} {p:D × List Obj} (hp:zcN h (zak s t)=some p):zaj s h ((t+1000000,sz)::r)=zk2 (zcN h (zak s t)) t s r:=by
 unfold zaj;rw[if_neg (by omega),Nat.add_sub_cancel,hp]
 rfl
@[simp] def ztd {s:Slots} {h:List Obj} {t sz:Nat} {r:List (Nat × Nat)} {x:List D} (hp:zak s t= .d (.list x)):zaj s h ((t+1000000,sz)::r)=zez (zaj s h r) (λp=>((t,.d (.list x))::p.1,p.2)) ⟨⟩:=by
 rw[zfy (p:=(.list x,h)) (by rw[hp];rfl),hp];rfl
@[simp] def ztJ {s:Slots} {h:List Obj} {t sz:Nat} {r:List (Nat × Nat)} {id n:Nat} (hp:zak s t= .arr id n) (hd:(zcN h (.arr id n)).isSome=true):zaj s h ((t+1000000,sz)::r)=zk2 (zcN h (.arr id n)) t s r:=by
 obtain⟨p,e⟩:=Option.isSome_iff_exists.1 hd;rw[zfy (p:=p) (by rw[hp];exact e),hp]
@[simp] def ztK (v:V) (t:Nat) (s:Slots) (h:List Obj) (r:List (Nat × Nat)):zei v 0 t s h r=zez (zaj s h r) (λp=>((t,v)::p.1,p.2)) ⟨⟩:=by
 cases v <;> rfl
@[simp] def ztL (sz t:Nat) (s:Slots) (h:List Obj) (r:List (Nat × Nat)):zei .nilS (sz+1) t s h r=zez (zaj s (h++[.arr (sz+1) [] 0]) r) (λp=>((t,.arr h.length 0)::p.1,p.2)) ⟨⟩:=rfl
@[simp] def zuK (a b sz t:Nat) (s:Slots) (h:List Obj) (r:List (Nat × Nat)):zei (.arr a b) (sz+1) t s h r=zez (zaj s h r) (λp=>((t,.arr a b)::p.1,p.2)) ⟨⟩:=rfl
@[simp] def zvl (a b c d sz t:Nat) (s:Slots) (h:List Obj) (r:List (Nat × Nat)):zei (.sl a b c d) (sz+1) t s h r=zez (zaj s h r) (λp=>((t,.sl a b c d)::p.1,p.2)) ⟨⟩:=rfl
@[simp] def zuL (sz t:Nat) (s:Slots) (h:List Obj) (r:List (Nat × Nat)):zei .emp (sz+1) t s h r=zez (zaj s h r) (λp=>((t,.emp)::p.1,p.2)) ⟨⟩:=rfl
@[simp] def zwv (x:D) (sz t:Nat) (s:Slots) (h:List Obj) (r:List (Nat × Nat)):zei (.d x) (sz+1) t s h r=zez (zaj s h r) (λp=>((t,.d x)::p.1,p.2)) ⟨⟩:=rfl
@[simp] def zuM (f:Nat->Option Nat):zcD f []=some []:=rfl
@[simp] def ztM (f:Nat->Option Nat) (t:Nat) (v:V) (r:Slots):zcD f ((t,v)::r)=zbK (V.ren f v) (λu=>zbK (zcD f r) (λl=>some ((t,u)::l)) ⟨⟩) ⟨⟩:=by
 simp only[zcD,List.mapM_cons,zbK];cases V.ren f v with
 |none=>rfl
 |some u=>cases List.mapM (λ(p:Nat × V)=>Option.map (λv=>(p.1,v)) (V.ren f p.2)) r <;> rfl
def ziB (h:List Obj) (f:Nat->Option Nat) (i:Nat):Option Obj:=(h[i]?).bind (Obj.ren f)
@[simp] def zuN (o:Obj) (h:List Obj) (f:Nat->Option Nat):ziB (o::h) f 0=Obj.ren f o:=rfl
@[simp] def zuO (o:Obj) (h:List Obj) (f:Nat->Option Nat) (i:Nat):ziB (o::h) f (i+1)=ziB h f i:=rfl
@[simp] def zuP (h:List Obj) (f:Nat->Option Nat):za3 h f []=some []:=rfl
@[simp] def ztN (h:List Obj) (f:Nat->Option Nat) (i:Nat) (l:List Nat):za3 h f (i::l)=zbK (ziB h f i) (λo=>zbK (za3 h f l) (λos=>some (o::os)) ⟨⟩) ⟨⟩:=by
 simp only[za3,List.mapM_cons,zbK,ziB];cases (h[i]?).bind (Obj.ren f) with
 |none=>rfl
 |some u=>cases List.mapM (λi=>(h[i]?).bind (Obj.ren f)) l <;> rfl
@[simp] def zBL (k:Nat) (keep:List (Nat × Nat)) (s:Slots) (h:List Obj):zoE k keep s h=
 zez (zaj s h keep) (λp=>zez (zco p.2 (zay (List.range k) (p.1.flatMap λq=>q.2.ids))) (λids=>zbK (zcD (zaW ids) p.1) (λs2=>zbK (za3 p.2 (zaW ids) ids) (λh2=>some (s2,h2)) ⟨⟩) ⟨⟩) ⟨⟩) ⟨⟩:=by
 simp only[zoE,zez,zbK,obind];cases zcD (zaW (zco (zaj s h keep).2 (zay (List.range k) ((zaj s h keep).1.flatMap λq=>q.2.ids)))) (zaj s h keep).1 with
 |none=>rfl
 |some s2=>cases za3 (zaj s h keep).2 (zaW (zco (zaj s h keep).2 (zay (List.range k) ((zaj s h keep).1.flatMap λq=>q.2.ids)))) (zco (zaj s h keep).2 (zay (List.range k) ((zaj s h keep).1.flatMap λq=>q.2.ids))) <;> rfl
@[simp] def zvm (rf:Bool) (f:FuncId) (args:List V) (h:List Obj):callWith rf run f args h=
 zbK (zdC rf h args) (λp=>zez (zco p.2 (zay [] (p.1.flatMap V.ids))) (λids=>zbK (p.1.mapM (V.ren (zaW ids))) (λas2=>zbK (za3 p.2 (zaW ids) ids) (λhin=>
  zbK (run f as2 hin) (λq=>zbK (q.1.mapM (V.ren (zjC ids p.2.length))) (λrets2=>zbK (q.2.mapM (Obj.ren (zjC ids p.2.length))) (λhout2=>some (one rets2,zcb p.2 ids hout2++hout2.drop ids.length)) ⟨⟩) ⟨⟩) ⟨⟩) ⟨⟩) ⟨⟩) ⟨⟩) ⟨⟩:=by
 simp only[callWith,zez,zbK];cases zdC rf h args with
 |none=>rfl
 |some p=>
  obtain⟨as,h1⟩:=p;simp only[obind];cases as.mapM (V.ren (zaW (zco h1 (zay [] (as.flatMap V.ids))))) with
  |none=>rfl
  |some as2=>
   simp only;cases za3 h1 (zaW (zco h1 (zay [] (as.flatMap V.ids)))) (zco h1 (zay [] (as.flatMap V.ids))) with
   |none=>rfl
   |some hin=>
    simp only;cases run f as2 hin with
    |none=>rfl
    |some q=>
     obtain⟨rets,hout⟩:=q;simp only;cases rets.mapM (V.ren (zjC (zco h1 (zay [] (as.flatMap V.ids))) h1.length)) with
     |none=>rfl
     |some r2=>cases hout.mapM (Obj.ren (zjC (zco h1 (zay [] (as.flatMap V.ids))) h1.length)) <;> rfl
@[simp] def zvn (f:FuncId) (args:List V) (h:List Obj):callThaw run f args h=
 zbK (zdC false h args) (λp=>zbK (run f p.1 []) (λq=>zbK (bif args.all zbs && q.1.all V.flat && q.2.all Obj.flat then some () else none) (λ_=>zbK (q.1.mapM (V.ren (zjC [] h.length))) (λrets2=>zbK (q.2.mapM (Obj.ren (zjC [] h.length))) (λhout2=>some (one rets2,h++hout2)) ⟨⟩) ⟨⟩) ⟨⟩) ⟨⟩) ⟨⟩:=by
 simp only[callThaw,zbK];cases zdC false h args with
 |none=>rfl
 |some p=>
  obtain⟨as,h1⟩:=p;simp only[obind];cases run f as [] with
  |none=>rfl
  |some q=>
   obtain⟨rets,hout⟩:=q;simp only;cases args.all zbs && rets.all V.flat && hout.all Obj.flat with
   |false=>rfl
   |true=>
    simp only[if_true,cond_true];cases rets.mapM (V.ren (zjC [] h.length)) with
    |none=>rfl
    |some r2=>cases hout.mapM (Obj.ren (zjC [] h.length)) <;> rfl
@[simp] def zxq (k:Nat) (ts:List TypeId) (vs:List V) (h:List Obj):zfW P k ts vs h=
 zez (zh6 P h vs ts) (λp=>zez (zco p.2 (zay (List.range k) (p.1.flatMap V.ids))) (λids=>zbK (p.1.mapM (V.ren2 (zaW ids))) (λws=>zbK (za3 p.2 (zaW ids) ids) (λh2=>some (ws,h2)) ⟨⟩) ⟨⟩) ⟨⟩) ⟨⟩:=by
 simp only[zfW,zez,zbK,obind];generalize zh6 P h vs ts=p;cases p.1.mapM (V.ren2 (zaW (zco p.2 (zay (List.range k) (p.1.flatMap V.ids))))) with
 |none=>rfl
 |some s2=>cases za3 p.2 (zaW (zco p.2 (zay (List.range k) (p.1.flatMap V.ids)))) (zco p.2 (zay (List.range k) (p.1.flatMap V.ids))) <;> rfl
@[simp ↓] def zww {t} {s:Slots} {h:List Obj}:zbT P G K S run F k b .skip t s h=some (.normal,s,h):=rfl
@[simp ↓] def zxr {x y:Code} {t} {s:Slots} {h:List Obj}:zbT P G K S run F k b (.seq x y) t s h=zuJ (zbT P G K S run F k b x ⟨⟩ s h) (λs1 h1=>zbT P G K S run F k b y ⟨⟩ s1 h1) ⟨⟩:=rfl
@[simp ↓] def zav {c:Operand} {x y:Code} {t} {s:Slots} {h:List Obj}:
 zbT P G K S run F k b (.cond c x y) t s h=zfr (ev G s c) (λz=>match z with | true=>zbT P G K S run F k b x ⟨⟩ s h | false=>zbT P G K S run F k b y ⟨⟩ s h) ⟨⟩:=by
 show branch (ev G s c) _ _=_
 cases ev G s c with
 |d z=>
  cases z with
  |bool z=>cases z <;> rfl
  |_=>rfl
 |_=>rfl
@[simp ↓] def zfI {id:Nat} {c:Code} {t} {s:Slots} {h:List Obj}:zbT P G K S run F k b (.block id c) t s h=leave id (zbT P G K S run F k id c ⟨⟩ s h):=rfl
@[simp ↓] def zwx {id:Nat} {t} {s:Slots} {h:List Obj}:zbT P G K S run F k b (.exit id) t s h=some (.exit id,s,h):=rfl
@[simp ↓] def zxs {t} {s:Slots} {h:List Obj}:zbT P G K S run F k b .ret t s h=some (.ret,s,h):=rfl
@[simp ↓] def zwy {c:Code} {t} {s:Slots} {h:List Obj}:zbT P G K S run F k b (.loop c) t s h=zac (K F b) k (λs h=>zbT P G K S run F k b c ⟨⟩ s h) ⟨⟩ s h:=by
 unfold zac zbT;cases e:K F b with
 |some keep=>rw[zp4 e]
 |none=>simp only[codeV,e]
attribute [simp] D.flat V.flat Obj.flat zdL
def zc5 {α:Type} (f:α->D) (hf: ∀x,(f x).flat=true): ∀l:List α,zdL (l.map f)=true
 |[]=>rfl
 |x::l=>by
  show ((f x).flat && zdL (l.map f))=true
  rw[hf x,zc5 f hf l];rfl
@[simp] def zvo (l:List UInt8):zdL (l.map zb8)=true:=zc5 _ (λ_=>rfl) l
@[simp] def zwz {α:Type} (k:IntKind) (f:α->Int) (l:List α):zdL (l.map λx=>D.int k (f x))=true:=zc5 _ (λ_=>rfl) l
@[simp] def zxt (l:List Int):zdL (l.map λn=>D.int .i64 n)=true:=zc5 _ (λ_=>rfl) l
@[simp] def zwA (l:List ByteArray):zdL (l.map D.str)=true:=zc5 _ (λ_=>rfl) l
@[simp] def zmi: ∀ (a b:List D),zdL (a++b)=(zdL a && zdL b)
 |[],b=>rfl
 |x::a,b=>by
  show (x.flat && zdL (a++b))=(x.flat && zdL a && zdL b)
  rw[zmi a b,Bool.and_assoc]
@[simp ↓] def zxu {all:List Oper}:zh9 all []=[]:=rfl
@[simp ↓] def zvp {all r:List Oper} {dst:Option Tmp} {t:Tmp} {ty y:TypeId} {lo hi mx:Option Operand} {pos:String} {after:Array Edge} {g:Option (Nat × Bool)}:zh9 all (⟨dst,.slice ty (.tmp t) lo hi mx,y,pos,after,g⟩::r)=zfY all t::zh9 all r:=rfl
@[simp ↓] def zwB {all r:List Oper} {o:Oper}:zh9 all (o::r)=match o.op with | .slice _ (.tmp t) _ _ _=>zfY all t::zh9 all r | _=>zh9 all r:=rfl
@[simp ↓] def zwC {t:Tmp}:zfY [] t=t:=rfl
@[simp ↓] def zvq {r:List Oper} {o:Oper} {t:Tmp}:zfY (o::r) t=match o.op with | .move (.tmp x)=>(if o.dst=some t then x else zfY r t) | _=>zfY r t:=rfl
def zhU (ops:List Oper) (i:Nat):Bool:=match ops[i]? with | some o=>(match o.op with | .load .. =>true | _=>false) | none=>false
@[simp ↓] def zeJ {id:Nat} {ops:List Oper} {draw:Bool} {t} {s:Slots} {h:List Obj}:
 zbT P G K S run F k b (.region id ops.toArray draw) t s h=zbK (some (zd8 ops && !zd9 ops && !zad G F)) (λc=>zbK (match c with | true=>some (zbU h ((zh9 ops ops).map λt=>(t,zak s t))) | false=>some h) (λh=>zbK (zra P G run ops (bif draw then S F id else []) (bif zbV ops (bif draw then S F id else []) then zoF h else []) 0 ops ⟨⟩ s h) (λp=>some (.normal,p.1,p.2)) ⟨⟩) ⟨⟩) ⟨⟩:=by
 unfold zbT;simp only[codeV,zia,zjS,zbK,zra,cond_eq_ite];cases zd8 ops && !zd9 ops && !zad G F <;> rfl
@[simp ↓] def zAK {all:List Oper} {hint:List Nat} {hv:List Obj} {i:Nat} {t} {s:Slots} {h:List Obj}:zra P G run all hint hv i [] t s h=some (s,h):=rfl
def zmj {all:List Oper} {hint:List Nat} {hv:List Obj} {i:Nat} {o:Oper} {zaB:List Oper} {t} {s:Slots} {h:List Obj}:
 zra P G run all hint hv i (o::zaB) t s h=zbK (zbt all s o.guard) (λw=>match w with
  |true=>zbK (opT P G run hint hv i o ⟨⟩ s h) (λp=>zra P G run all hint hv (i+1) zaB ⟨⟩ (zfC s o.dst p.1) p.2) ⟨⟩
  |false=>zra P G run all hint hv (i+1) zaB ⟨⟩ (zfC s o.dst (.tup [])) h) ⟨⟩:=by
 unfold zra opT zbK;simp only[opsV,zdO];congr 1;funext w;cases w <;> rfl
@[simp ↓] def zwD {all:List Oper} {hint:List Nat} {hv:List Obj} {i:Nat} {dst:Option Tmp} {op:Op} {ty:TypeId} {pos:String} {after:Array Edge} {zaB:List Oper} {t} {s:Slots} {h:List Obj}:
 zra P G run all hint hv i (⟨dst,op,ty,pos,after,none⟩::zaB) t s h=zbK (opT P G run hint hv i ⟨dst,op,ty,pos,after,none⟩ ⟨⟩ s h) (λp=>zra P G run all hint hv (i+1) zaB ⟨⟩ (zfC s dst p.1) p.2) ⟨⟩:=by
 rw[zmj];rfl
def zoR (v:V) (want:Bool) (f:Bool->Option α) (_:Tok f):Option α:=
 match v with
 |.d (.bool c)=>f (c == want)
 |.tup []=>f false
 |_=>none
@[simp] def zvr (c:Bool) (f:Bool->Option α) (t:Tok f):zoR (.d (.bool c)) true f t=zfr (.d (.bool c)) f t:=by cases c <;> rfl
@[simp] def zuQ (c:Bool) (f:Bool->Option α) (t:Tok f):zoR (.d (.bool c)) false f t=zfr (.d (.bool c)) (λz=>match z with | true=>f false | false=>f true) ⟨⟩:=by cases c <;> rfl
@[simp] def zwE (want:Bool) (f:Bool->Option α) (t:Tok f):zoR (.tup []) want f t=f false:=rfl
def zgc (all:List Oper) (j:Nat) (_:Tok all):Option Tmp:=(all[j]?).bind (·.dst)
@[simp ↓] def ztO {o:Oper} {all:List Oper} {t}:zgc (o::all) 0 t=o.dst:=rfl
@[simp ↓] def ztP {o:Oper} {all:List Oper} {j:Nat} {t}:zgc (o::all) (j+1) t=zgc all j ⟨⟩:=rfl
def zoS (s:Slots) (d:Option Tmp):V:=
 match d with
 |none=> .tup []
 |some d=>zak s d
@[simp] def zvs (s:Slots) (d:Nat):zoS s (some d)=zak s d:=rfl
@[simp] def zvt (s:Slots):zoS s none= .tup []:=rfl
@[simp ↓] def zwF {all:List Oper} {hint:List Nat} {hv:List Obj} {i:Nat} {dst:Option Tmp} {op:Op} {ty:TypeId} {pos:String} {after:Array Edge} {j:Nat} {want:Bool} {zaB:List Oper} {t} {s:Slots} {h:List Obj}:
 zra P G run all hint hv i (⟨dst,op,ty,pos,after,some (j,want)⟩::zaB) t s h=zoR (zoS s (zgc all j ⟨⟩)) want (λw=>match w with
  |true=>zbK (opT P G run hint hv i ⟨dst,op,ty,pos,after,none⟩ ⟨⟩ s h) (λp=>zra P G run all hint hv (i+1) zaB ⟨⟩ (zfC s dst p.1) p.2) ⟨⟩
  |false=>zra P G run all hint hv (i+1) zaB ⟨⟩ (zfC s dst (.tup [])) h) ⟨⟩:=by
 rw[zmj];unfold zoS zgc;simp only[zbt];have hop: ∀ (o:Oper) (o':Oper),o.op=o'.op->opT P G run hint hv i o ⟨⟩ s h=opT P G run hint hv i o' ⟨⟩ s h:=λo o' e=>by
  unfold opT zdO opV zdF zlG zbh zfX;rw[e]
 rw[hop ⟨dst,op,ty,pos,after,some (j,want)⟩ ⟨dst,op,ty,pos,after,none⟩ rfl];cases (all[j]?).bind (·.dst) with
 |none=>rfl
 |some d=>
  simp only;cases zak s d with
  |d x=>
   cases x with
   |bool c=>cases c <;> cases want <;> rfl
   |_=>rfl
  |tup l=>cases l <;> rfl
  |_=>rfl
@[simp ↓] def zDf {hv:List Obj} {i:Nat} {dst:Option Tmp} {op:Op} {ty:TypeId} {pos:String} {after:Array Edge} {t} {s:Slots} {h:List Obj}:
 opT P G run [] hv i ⟨dst,op,ty,pos,after,none⟩ t s h=opV P G run s h ⟨dst,op,ty,pos,after,none⟩:=rfl
@[simp ↓] def zAL {x:Nat} {l:List Nat} {hv:List Obj} {i:Nat} {dst:Option Tmp} {op:Op} {ty:TypeId} {pos:String} {after:Array Edge} {t} {s:Slots} {h:List Obj}:
 opT P G run (x::l) hv i ⟨dst,op,ty,pos,after,none⟩ t s h=bif (x::l).contains i then zcE h (zdF P G hv s ⟨dst,op,ty,pos,after,none⟩) else bif hv.isEmpty || zlG G s ⟨dst,op,ty,pos,after,none⟩ || zbh (x::l) i ⟨dst,op,ty,pos,after,none⟩ then opV P G run s h ⟨dst,op,ty,pos,after,none⟩ else none:=by
 unfold opT zdO;simp only[cond_eq_ite,List.isEmpty_cons,Bool.false_or]
attribute [simp ↓] opV
attribute [simp] zoF zlG zbs zdF zbh zfX za0 zdT
@[simp ↓] def ztQ {ops:List Oper}:zbV ops []=false:=rfl
@[simp ↓] def zte {ops:List Oper} {i:Nat} {r:List Nat}:zbV ops (i::r)=(zhU ops i || zbV ops r):=rfl
@[simp ↓] def ztR {o:Oper} {ops:List Oper}:zhU (o::ops) 0=(match o.op with | .load .. =>true | _=>false):=rfl
@[simp ↓] def ztS {o:Oper} {ops:List Oper} {i:Nat}:zhU (o::ops) (i+1)=zhU ops i:=rfl
@[simp ↓] def zuR:zd8 []=false:=rfl
@[simp ↓] def zuS:zd9 []=false:=rfl
@[simp ↓] def ztT {o:Oper} {l:List Oper}:zd8 (o::l)=((match o.op with | .slice .. =>true | _=>false) || zd8 l):=rfl
@[simp ↓] def ztU {o:Oper} {l:List Oper}:zd9 (o::l)=((match o.op with | .store .. =>true | _=>false) || zd9 l):=rfl
end
def appElem? (P:Program) (e:TypeId):Option Nat:=
 match P.info? e with
 |some i=>if i.zero.map (·.cells.size)=some i.size/\0<i.size/\i.bytes<=65536 then some i.size else none
 |none=>none
@[simp] def zwG (P:Program) (h:List Obj) (ts tx:TypeId) (s x:V):zfB P h ts tx s x=
 (match P.underlying ts with
 |some (.slice e)=>
  match appElem? P e,source? P h tx x with
  |some n,some ys=>
   match s with
   |.nilS=>zbu (ys.length<2147483648) (zbu (zaw n ys=true) (some (.arr h.length ys.length,h++[.arr n ys 0])))
   |.arr id m=>
    match h[id]? with
    |some (.arr sz xs wm)=>zbu (m=xs.length) (zbu (sz=n) (zbu (m+ys.length<2147483648) (zbu (zaw n ys=true) (some (.arr id (m+ys.length),h.set id (.arr sz (xs++ys) wm))))))
    |_=>none
   |_=>none
  |_,_=>none
 |_=>none):=by
 unfold zfB appElem?;cases P.underlying ts with
 |none=>rfl
 |some d=>
  cases d <;> try rfl
  rename_i e;simp only;cases P.info? e with
  |none=>rfl
  |some i=>
   cases source? P h tx x with
   |none=>
    simp only;split <;> simp_all
   |some ys=>
    simp only;split
    ·simp only[zrB,zrC];rfl
    ·rfl
def makeElem? (P:Program) (e:TypeId):Option (Nat × D):=
 match P.info? e,zeroD? P e with
 |some i,some z=>if i.bytes<=65536/\0<i.size/\z.cells.length=i.size then some (i.size,z) else none
 |_,_=>none
@[simp] def ztV (P:Program) (h:List Obj) (t:TypeId) (k k':IntKind) (n m:Int):zdp P h t (.d (.int k n)) (.d (.int k' m))=
 (match P.underlying t with
 |some (.slice e)=>
  match makeElem? P e with
  |some (sz,z)=>zbu (0<=n) (zbu (n<=m) (zbu (m<2147483648) (some (.arr h.length n.toNat,h++[.arr sz (List.replicate n.toNat z) 0]))))
  |none=>none
 |_=>none):=by
 unfold zdp makeElem?;cases P.underlying t with
 |none=>rfl
 |some d=>
  cases d <;> try rfl
  rename_i e;simp only;cases P.info? e with
  |none=>rfl
  |some i=>
   cases zeroD? P e with
   |none=>rfl
   |some z=>
    simp only
    by_cases a:i.bytes<=65536/\0<i.size/\z.cells.length=i.size
    ·rw[if_pos a]
     obtain⟨a1,a2,a3⟩:=a;simp only[zbu]
     by_cases b1:0<=n <;> by_cases b2:n<=m <;> by_cases b3:m<2147483648 <;> simp[a1,a2,a3,b1,b2,b3]
    ·rw[if_neg a,if_neg]
     rintro ⟨_,_,_,b1,b2,b3⟩
     exact a ⟨b1,b2,b3⟩
def zeroVs? (P:Program) (t:TypeId):Option (List V):=
 match zero? P t with
 |some z=>if (z.cells.toList.map zaQ).all V.cellOk then some (z.cells.toList.map zaQ) else none
 |none=>none
def places? (P:Program) (t:TypeId):Option (List (Nat × Nat)):=
 match P.underlying t with
 |some (.struct fs)=>fs.toList.mapM λf=>(sizeOf? P f.type).map λs=>(f.offset,s)
 |_=>none
def zka {P:Program}: ∀ {fs:List Field} {pl:List (Nat × Nat)},(fs.mapM λ(f:Field)=>(sizeOf? P f.type).map λs=>(f.offset,s))=some pl-> ∀i:Nat,(fs[i]?).bind (λ(f:Field)=>(sizeOf? P f.type).map λs=>(f.offset,s))=pl[i]?
 |[],pl,h,i=>by simp at h;subst h;simp
 |f::fs,pl,h,i=>by
  simp only[List.mapM_cons,Option.bind_eq_bind,Option.bind_eq_some_iff,Option.pure_def,Option.some.injEq]at h;obtain⟨p,hp,ps,hps,rfl⟩:=h;cases i with
  |zero=>simpa using hp
  |succ i=>simpa using zka hps i
def zal {P:Program} {t:TypeId} {parts:List (Nat × V)} {z:List V} {pl:List (Nat × Nat)} (hz:zeroVs? P t=some z) (hp:places? P t=some pl):zbc P t parts=(zb0 (λi=>pl[i]?) z parts).map zbZ:=by
 unfold zeroVs? at hz;unfold places? at hp;unfold zbc;cases h0:zero? P t with
 |none=>rw[h0]at hz;cases hz
 |some z0=>
  rw[h0]at hz;simp only at hz;split at hz
  ·rename_i hc
   simp only[Option.some.injEq]at hz;subst hz;split at hp
   ·rename_i fs hfs
    have hall:fs.toList.all (λf=>(sizeOf? P f.type).isSome)=true:=by
     rw[List.all_eq_true];intro f hf;obtain⟨i,hi⟩:=List.getElem?_of_mem hf;obtain⟨_,h2⟩:=zf4 hp;obtain⟨b,_,hb⟩:=h2 i f hi;simp only[Option.map_eq_some_iff]at hb;obtain⟨s,hs,_⟩:=hb;rw[hs];rfl
    simp only[hfs,hc,hall,Bool.and_self,if_true];have hpl:(λ(i:Nat)=>(fs[i]?).bind λ(f:Field)=>(sizeOf? P f.type).map λs=>(f.offset,s))=λi=>pl[i]? :=by
     funext i;rw[<- zka hp i,Array.getElem?_toList]
    rw[hpl]
   ·cases hp
  ·cases hz
def zdZ {P:Program} {t:TypeId} {h:List Obj} {z:List V} (hz:zeroVs? P t=some z):zew P h t=some (.ptr h.length 0,h++[.box z]):=by
 unfold zeroVs? at hz;unfold zew;cases h0:zero? P t with
 |none=>rw[h0]at hz;cases hz
 |some z0=>
  rw[h0]at hz;simp only at hz ⊢;split at hz
  ·rename_i hc
   simp only[Option.some.injEq]at hz;subst hz;rw[if_pos hc]
  ·cases hz
@[simp] def ztf (P:Program) (h:List Obj) (t:TypeId) (len:Nat) (parts:List (Nat × V)):zcn P h t len parts=
 (match P.underlying t with
 |some (.slice e)=>
  match sizeOf? P e with
  |some sz=>
   if (zero? P e).isSome=true/\0<sz/\parts.length=len/\len*sz<=65536/\zgF parts 0 then
    match zft h (parts.map (·.2)) with
    |some (xs,h1)=>if zaw sz xs then some (.arr h1.length len,h1++[.arr sz xs 0]) else none
    |none=>none
   else none
  |none=>none
 |_=>none):=by
 unfold zcn;cases P.underlying t with
 |none=>rfl
 |some d=>
  cases d <;> try rfl
  rename_i e;simp only;cases sizeOf? P e with
  |none=>rfl
  |some sz=>
   cases zero? P e with
   |none=>simp
   |some z=>simp;rfl
attribute [simp] zb0 zax zbZ V.asD? zgF zft
@[simp] def zaN {α:Type} {f:α->D} {n:Nat} (l:List α) (hf: ∀x,(f x).cells.length=n):zaw n (l.map f)=true:=by
 induction l with
 |nil=>rfl
 |cons x l ih=>simp[zaw,hf,ih]
attribute [simp] zaw source? elems?
@[simp] def zBM (x y:Int):(x != y)= !decide (x=y):=by
 by_cases h:x=y <;> simp[h]
@[simp] def zBN (x y:Int):(x == y)=decide (x=y):=by
 by_cases h:x=y <;> simp[h]
def ztW {x:Int} (h1: -9223372036854775808<=x) (h2:x<=9223372036854775807):IntKind.i64.wrap x=x:=by
 simp[IntKind.wrap,IntKind.signed,IntKind.bits];omega
def zae {x:Int} (h1:0<=x) (h2:x<=18446744073709551615):IntKind.u64.wrap x=x:=by
 simp[IntKind.wrap,IntKind.signed,IntKind.bits];omega
def znK {x:Int} (h1:0<=x) (h2:x<=255):IntKind.u8.wrap x=x:=by
 simp[IntKind.wrap,IntKind.signed,IntKind.bits];omega
@[simp] def zrD {α β:Type} (x:Option α) (f:α->Option β):(x >>=f)=x.bind f:=rfl
section
variable {P:Program} {G:Nat->Option (List D)} {K:zh8} {S:zh7}
def zrE (P:Program) (k:Nat) (rs:List ResultVar) (ts:List TypeId) (r:Res):Option (List V × List Obj):=
 match r with
 |some (.normal,s,h) | some (.ret,s,h)=>obind (zpE P s h rs) λvs=>zfW P k ts vs h
 |_=>none
@[simp] def zvu {k:Nat} {rs:List ResultVar} {ts:List TypeId} {s:Slots} {h:List Obj}:zrE P k rs ts (some (.normal,s,h))=obind (zpE P s h rs) λvs=>zfW P k ts vs h:=rfl
@[simp] def zxv {k:Nat} {rs:List ResultVar} {ts:List TypeId} (v:V) (f:Bool->Res) (t:Tok f):zrE P k rs ts (zfr v f t)=zfr v (λz=>zrE P k rs ts (f z)) ⟨⟩:=by
 cases v with
 |d x=>cases x <;> rfl
 |_=>rfl
@[simp] def zAM {k:Nat} {rs:List ResultVar} {ts:List TypeId} {s:Slots} {h:List Obj}:zrE P k rs ts (some (.ret,s,h))=obind (zpE P s h rs) λvs=>zfW P k ts vs h:=rfl
def zoT {f:FuncId} {fn:Func} {c:Code} {rs:List ResultVar} {ts:List TypeId} {args:List V} {h:List Obj} {r:List V × List Obj} (hf:P.funcs[f]? =some fn) (hb:fn.body=some c)
 (hrs : fn.results.toList = rs) (hts : fn.resultTypes.toList = ts) (hok : codeOk P (S f) fn.ntmps c = true) (hn : (fn.name == "runtime.NumGoroutine") = false)
 (hsp:splits G f=false\/ ∀zaB,args≠ .d (.list [])::zaB) (hl:args.length<=fn.ntmps) (hr:zrE P h.length rs ts (zbT P G K S (zhp P G K S) f h.length 0 c ⟨⟩ (zas 0 args) h)=some r):zhp P G K S f args h=some r:=by
 refine zvg hsp ?_;unfold bodyV;simp only[hf,hb,hok,hn,decide_eq_true hl,Bool.and_self,Bool.not_false,if_true];unfold zwW;rw[hrs,hts];exact hr
def zgd {f:FuncId} {fn:Func} {c:Code} {rs:List ResultVar} {ts:List TypeId} {args:List V} {h:List Obj} {r:List V × List Obj} (hf:P.funcs[f]? =some fn) (hb:fn.body=some c)
 (hrs : fn.results.toList = rs) (hts : fn.resultTypes.toList = ts) (hok : codeOk P (S f) fn.ntmps c = true) (hn : (fn.name == "runtime.NumGoroutine") = false)
 (hsp:splits G f=false\/ ∀zaB,args≠ .d (.list [])::zaB) (hl:args.length<=fn.ntmps) (hr: ∀T:Option (List V × List Obj)->Prop,T (some r)->T (zrE P h.length rs ts (zbT P G K S (zhp P G K S) f h.length 0 c ⟨⟩ (zas 0 args) h))):zhp P G K S f args h=some r:=
 zoT hf hb hrs hts hok hn hsp hl (hr (·=some r) rfl)
def zge {f:FuncId} {fn:Func} {c:Code} {rs:List ResultVar} {ts:List TypeId} {zaB:List V} {h:List Obj} {r:List V × List Obj} (hf:P.funcs[f]? =some fn) (hb:fn.body=some c)
 (hrs : fn.results.toList = rs) (hts : fn.resultTypes.toList = ts) (hok : codeOk P (S f) fn.ntmps c = true) (hn : (fn.name == "runtime.NumGoroutine") = false)
 (hsp:splits G f=true) (hl:zaB.length+1<=fn.ntmps) (hr: ∀T:Option (List V × List Obj)->Prop,T (some r)-> ∀a,a= .nilS\/a= .emp->T (zrE P h.length rs ts (zbT P G K S (zhp P G K S) f h.length 0 c ⟨⟩ (zas 0 (a::zaB)) h))):zhp P G K S f (.d (.list [])::zaB) h=some r:=by
 have key: ∀a,a= .nilS\/a= .emp->bodyV P G K S (zhp P G K S) loops f (a::zaB) h=some r:=λa ha=>by
  unfold bodyV;simp only[hf,hb,hok,hn,List.length_cons,decide_eq_true hl,Bool.and_self,Bool.not_false,if_true];unfold zwW;rw[hrs,hts];exact hr (·=some r) rfl a ha
 exact zp3 hsp (key .nilS (.inl rfl)) (key .emp (.inr rfl))
def zBO (p:Bool->Prop) (r:Option (List V × List Obj)):Prop:= ∃b,r=some ([.d (.bool b)],[])/\p b
@[simp] def zwH {p:Bool->Prop} {b:Bool}:zBO p (some ([.d (.bool b)],[]))↔p b:=by
 constructor
 ·rintro ⟨b',h,hp⟩
  simp only[Option.some.injEq,Prod.mk.injEq,List.cons.injEq,V.d.injEq,D.bool.injEq,and_true]at h;rw[h];exact hp
 ·exact λh=>⟨b,rfl,h⟩
def zvv {f:FuncId} {fn:Func} {c:Code} {rs:List ResultVar} {ts:List TypeId} {args:List V} {h:List Obj} {p:Option (List V × List Obj)->Prop} (hf:P.funcs[f]? =some fn) (hb:fn.body=some c)
 (hrs : fn.results.toList = rs) (hts : fn.resultTypes.toList = ts) (hok : codeOk P (S f) fn.ntmps c = true) (hn : (fn.name == "runtime.NumGoroutine") = false)
 (hsp:splits G f=false\/ ∀zaB,args≠ .d (.list [])::zaB) (hl:args.length<=fn.ntmps) (hp: ¬ p none) (hr:p (zrE P h.length rs ts (zbT P G K S (zhp P G K S) f h.length 0 c ⟨⟩ (zas 0 args) h))):p (zhp P G K S f args h):=by
 cases he:zrE P h.length rs ts (zbT P G K S (zhp P G K S) f h.length 0 c ⟨⟩ (zas 0 args) h) with
 |none=>rw[he]at hr;exact absurd hr hp
 |some r=>rw[he]at hr;rw[zoT hf hb hrs hts hok hn hsp hl he];exact hr
def zaa {σ:Type} {T:Res->Prop} {k:Nat} {keep:List (Nat × Nat)} {b:Slots->List Obj->Res} {t:Tok b} {s:Slots} {h:List Obj} (Sl:σ->Slots) (H:σ->List Obj) (I:σ->Prop) (μ:σ->Nat) (x:σ)
 (hi:I x) (hn:zoE k keep s h=some (Sl x,H x))
 (step: ∀ (T':Res->Prop) (b':Slots->List Obj->Res),T'=T-> ∀x,I x->(∀y s h,I y->μ y<μ x->zoE k keep s h=some (Sl y,H y)->T' (zfH k keep b' s h))->T' (zuJ (b (Sl x) (H x)) (zfH k keep b') ⟨⟩)):
 ∀z,zac (some keep) k b t s h=z->T z:=by
 rintro _ rfl
 show T (zfH k keep b s h)
 have key: ∀n x,μ x<=n-> ∀s h,I x->zoE k keep s h=some (Sl x,H x)->T (zfH k keep b s h):=by
  intro n
  induction n with
  |zero=>
   intro x hx s h hi hn;rw[zoQ,hn];exact step T b rfl x hi λy s h _ hlt _=>by omega
  |succ n ih=>
   intro x hx s h hi hn;rw[zoQ,hn];exact step T b rfl x hi λy s h hy hlt hn=>ih y (by omega) s h hy hn
 exact key (μ x) x (Nat.le_refl _) s h hi hn
def zcP {T:Res->Prop} {x:Res} (Q:Res->Prop) (hq:Q x) (h: ∀z,Q z->T z): ∀z,x=z->T z:=by
 rintro _ rfl
 exact h _ hq
def zeK {t:TypeId} {parts:List (Nat × V)} {z:List V} {n:Nat} {e:TypeId} {s:Nat} (hz:zeroVs? P t=some z) (hu:P.underlying t=some (.array n e)) (hs:sizeOf? P e=some s):zbc P t parts=(zb0 (λi=>some (i*s,s)) z parts).map zbZ:=by
 unfold zeroVs? at hz;unfold zbc;cases h0:zero? P t with
 |none=>rw[h0]at hz;cases hz
 |some z0=>
  rw[h0]at hz;simp only at hz;split at hz
  ·rename_i hc
   simp only[Option.some.injEq]at hz;subst hz;simp only[hu,hs,hc,if_true]
  ·cases hz
@[simp] def zvw (l:List Int):zaw 1 (l.map λn=>D.int .i64 n)=true:=zaN l λ_=>rfl
@[simp] def znL (k:IntKind) (x:Int): ∀n,zaw 1 (List.replicate n (D.int k x))=true
 |0=>rfl
 |n+1=>by simp[List.replicate_succ,znL k x n]
end
end Go.Am
