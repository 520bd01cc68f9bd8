/- The abstract machine: what a row says, and the fixpoint of all functions. -/
import Derived.ProofKit
import Derived.OpenShut
import Derived.Carry
import Derived.Test.YtibdiacpdmhmnaaGreatDoorMachA
import Derived.Test.YtibdiacpdmhmnaaGreatDoorMachC
set_option linter.all false
namespace Go.Am
def zoD (P:Program):Nat->List Field->Option Nat
 |n,[]=>some n
 |n,f::fs=>if f.offset=n then zoD P (n+P.cellsOf f.type) fs else none
def zcg (P:Program):Nat->TypeId->Bool
 |0,_=>false
 |n+1,t=>
  match P.underlying t with
  |some (.int _) | some .bool | some .string=>true
  |some (.slice e)=>decide (0<P.cellsOf e) && zcg P n e
  |some (.struct fs)=>(zoD P 0 fs.toList == some (P.cellsOf t)) && fs.toList.all λf=>zcg P n f.type
  |_=>false
inductive All2 {α β:Type} (R:α->β->Prop):List α->List β->Prop
 |nil:All2 R [] []
 |cons {a:α} {b:β} {as:List α} {bs:List β}:R a b->All2 R as bs->All2 R (a::as) (b::bs)
def zbP (P:Program):Nat->TypeId->D->Prop
 |0,_,_=>False
 |n+1,t,x=>
  match P.underlying t with
  |some (.int k)=> ∃i,x= .int k i/\(Lit.int k i).wf=true
  |some .bool=> ∃b,x= .bool b
  |some .string=> ∃s,x= .str s/\s.size<=maxLen
  |some (.slice e)=> ∃xs,x= .list xs/\xs.length<=maxLen/\ ∀y∈xs,zbP P n e y
  |some (.struct fs)=> ∃ys:List D,x= .agg (ys.flatMap D.cells)/\All2 (λf y=>zbP P n f.type y) fs.toList ys
  |_=>False
def zfY:Nat->Nat->Prop:=λ_ _=>False
def zcy (w:World) (cs:List Value) (ds:List D):Prop:=
 cs.length=ds.length/\ ∀ (j:Nat) (c:D),ds[j]? =some c-> ∃v,cs[j]? =some v/\Rep zfY w v c/\c.isCell=true
section
variable {H:Type} {enc:TypeId × Value->H} {P:Program} {w:World}
def zcy.one {v:Value} {c:D} (hr:Rep zfY w v c) (hc:c.isCell=true):zcy w [v] c.cells:=by
 rw[D.cells_one hc];refine⟨rfl,λj c' hj=> ?_⟩
 cases j with
 |zero=>simp only[yaI,yaa]at hj;subst hj;exact⟨v,rfl,hr,hc⟩
 |succ j=>simp at hj
def zcy.append {cs:List Value} {k:Nat} {a b:List D} (ha:zcy w (cs.take k) a) (hb:zcy w (cs.drop k) b):zcy w cs (a++b):=by
 obtain⟨a1,a2⟩:=ha;obtain⟨b1,b2⟩:=hb;rw[yan]at a1;rw[yaw]at b1;refine⟨by rw[yab];omega,λj c hj=> ?_⟩
 rcases ybr j a.length with hl | hl
 ·rw[yap hl]at hj
  obtain⟨v,h1,h2⟩:=a2 j c hj;rw[yaU]at h1;split at h1
  ·exact⟨v,h1,h2⟩
  ·cases h1
 ·rw[yak hl]at hj
  obtain⟨v,h1,h2⟩:=b2 _ c hj;rw[ya1]at h1;have hlt:=lt_of_getElem? hj;have e:k+(j - a.length)=j:=by omega
  rw[e]at h1;exact⟨v,h1,h2⟩
def zj8 {m fuel:Nat} {cs:List Value} (ih: ∀t cs d ps,zcg P m t=true->DataW.trod enc P w 0 (λ_=>true) true fuel t cs=some (d,ps)-> ∃x,zbP P m t x/\zcy w cs x.cells):
 ∀ (fs:List Field) (n:Nat) (xs:List (DataW H × List MemPlace)),zoD P n fs=some cs.length->n<=cs.length->(∀f∈fs,zcg P m f.type=true)->
  (fs.mapM λf=>DataW.trod enc P w 0 (λ_=>true) true fuel f.type ((cs.drop f.offset).take (P.cellsOf f.type)))=some xs->
  ∃ys:List D,All2 (λf y=>zbP P m f.type y) fs ys/\zcy w (cs.drop n) (ys.flatMap D.cells)
 |[],n,xs,ht,hn,hp,hx=>by
  simp only[zoD,yaa]at ht;subst ht;exact⟨[],.nil,by simp,λj c hj=>by simp at hj⟩
 |f::fs,n,xs,ht,hn,hp,hx=>by
  simp only[zoD]at ht;split at ht
  ·rename_i ho
   simp only[ya2,ybF,yaT,ybS,yaa]at hx;obtain⟨⟨d,ps⟩,hd,xs',hxs,rfl⟩:=hx;obtain⟨y,hy,hc⟩:=ih _ _ _ _ (hp f (ybg ..)) hd;have hle:n+P.cellsOf f.type<=cs.length:=by
    have: ∀ (fs:List Field) (n m:Nat),zoD P n fs=some m->n<=m:=by
     intro fs
     induction fs with
     |nil=>intro n m h;simp only[zoD,yaa]at h;omega
     |cons g gs ih=>intro n m h;simp only[zoD]at h;split at h
                    ·have:=ih _ _ h;omega
                    ·cases h
    exact this _ _ _ ht
   obtain⟨ys,h1,h2⟩:=zj8 ih fs (n+P.cellsOf f.type) xs' ht hle (λg hg=>hp g (ya9 _ hg)) hxs
   refine⟨y::ys,.cons hy h1, ?_⟩;rw[ya3];refine zcy.append (k:=P.cellsOf f.type) (by rw[<- ho];exact hc) ?_
   rw[ycK];exact h2
  ·cases ht
def zmc {m fuel:Nat} {e:TypeId} {b off:Nat} (hm:zcg P m e=true) (ih: ∀t cs d ps,zcg P m t=true->DataW.trod enc P w 0 (λ_=>true) true fuel t cs=some (d,ps)-> ∃x,zbP P m t x/\zcy w cs x.cells):
 ∀n:Nat,(∀i,i<n-> ∃x,(w.cells? 0 ((⟨b,off,none⟩:Addr).add (i*P.cellsOf e)) (P.cellsOf e)).bind (DataW.trod enc P w 0 (λ_=>true) true fuel e)=some x)->
  ∃xs:List D,xs.length=n/\(∀x∈xs,x.cells.length=P.cellsOf e)/\(∀x∈xs,zbP P m e x)/\(flat xs).length=n*P.cellsOf e/\
   ∀ (j:Nat) (c:D),(flat xs)[j]? =some c-> ∃v,w.cell? ⟨b,off+j,none⟩=some v/\Rep zfY w v c/\c.isCell=true
 |0,_=>⟨[],rfl,by simp,by simp,by simp[flat],λj c hj=>by simp[flat]at hj⟩
 |n+1,hx=>by
  obtain⟨xs,h1,h2,h3,h4,h5⟩:=zmc hm ih n λi hi=>hx i (by omega)
  obtain⟨⟨d,ps⟩,hd⟩:=hx n (by omega)
  simp only[yaT]at hd;obtain⟨cs,hcs,hd⟩:=hd;obtain⟨x,hx1,hx2,hx3⟩:=ih _ _ _ _ hm hd;simp only[World.cells?,yai,ya6]at hcs;obtain⟨l1,l2⟩:=za6 hcs;rw[ycg]at l1;have hlen:x.cells.length=P.cellsOf e:=by rw[<- hx2,l1]
  have hfl:flat (xs++[x])=flat xs++x.cells:=by simp[flat]
  refine⟨xs++[x],by simp[h1],λy hy=> ?_,λy hy=> ?_, ?_,λj c hj=> ?_⟩
  ·rcases List.mem_append.1 hy with h | h
   ·exact h2 y h
   ·rw[List.mem_singleton.1 h];exact hlen
  ·rcases List.mem_append.1 hy with h | h
   ·exact h3 y h
   ·rw[List.mem_singleton.1 h];exact hx1
  ·rw[hfl,yab,h4,hlen,ya0,yb8]
  ·rw[hfl]at hj
   rcases ybr j (flat xs).length with hl | hl
   ·rw[yap hl]at hj
    exact h5 j c hj
   ·rw[yak hl]at hj
    obtain⟨v,g1,g2,g3⟩:=hx3 _ c hj;obtain⟨i,g4,g5⟩:=l2 _ v g1;have hi:i=j - (flat xs).length:=by
     have hlt:=lt_of_getElem? g4;rw[ycg]at hlt;rw[ybl hlt,yaa]at g4;exact g4.symm
    refine⟨v, ?_,g2,g3⟩;rw[<- g5];congr 1;rw[hi,h4];unfold Addr.add;split <;> split <;> simp <;> omega
def reads: ∀ (fuel m:Nat) (t:TypeId) (cs:List Value) (d:DataW H) (ps:List MemPlace),zcg P m t=true->DataW.trod enc P w 0 (λ_=>true) true fuel t cs=some (d,ps)->
 ∃x,zbP P m t x/\zcy w cs x.cells:=by
 intro fuel
 induction fuel with
 |zero=>intro m t cs d ps _ h;simp[DataW.trod]at h
 |succ fuel ih=>
  intro m t cs d ps hm h;cases m with
  |zero=>simp[zcg]at hm
  |succ m=>
   have ih': ∀t cs d ps,zcg P m t=true->DataW.trod enc P w 0 (λ_=>true) true fuel t cs=some (d,ps)-> ∃x,zbP P m t x/\zcy w cs x.cells:=λt cs d ps=>ih m t cs d ps
   simp only[zcg]at hm;simp only[zbP];unfold DataW.trod at h;split at h
   case h_1 b e=>rw[e];exact⟨.bool b,⟨b,rfl⟩,zcy.one (.bool b) rfl⟩
   case h_2 k k' n e=>
    rw[e];split at h
    ·rename_i hk
     obtain⟨rfl,hw⟩:=hk;exact⟨.int _ n,⟨n,rfl,hw⟩,zcy.one (.int _ n) rfl⟩
    ·cases h
   case h_4 s e=>
    rw[e];split at h
    ·rename_i hs
     exact⟨.str s,⟨s,rfl,hs⟩,zcy.one (.str s) rfl⟩
    ·cases h
   case h_7 e0 e=>rw[e];exact⟨.list [],⟨[],rfl,yai _,λ_ h=>by cases h⟩,zcy.one (.nil none 0 λ_=>rfl) rfl⟩
   case h_8 e a len cap he=>
    rw[he]at hm ⊢;simp only[yav,yaG]at hm;simp only at h;split at h
    ·rename_i hc
     simp only[yaT]at h;obtain⟨els,hels,-⟩:=h;obtain⟨r1,r2⟩:=za6 hels;obtain⟨_,r3⟩:=zgZ hels;rw[ycg]at r1;rcases ybw len with h0 | h0
     ·subst h0
      exact⟨.list [],⟨[],rfl,yai _,λ_ h=>by cases h⟩,zcy.one (.nil _ _ λe=>by cases e) rfl⟩
     ·have hspot:a.spot=none:=by
       obtain⟨x0,_,hx0⟩:=r3 0 0 (by rw[ybl h0])
       simp only[yaT]at hx0;obtain⟨cs0,hcs0,-⟩:=hx0;simp only[World.cells?,yai,ya6]at hcs0;obtain⟨_,q⟩:=zgZ hcs0;obtain⟨v0,_,hv0⟩:=q 0 0 (by rw[ybl hm.1])
       simpa[Addr.add]using World.cell?_spot hv0
      obtain⟨b,off,sp⟩:=a;simp only at hspot;subst hspot;obtain⟨xs,h1,h2,h3,h4,h5⟩:=zmc hm.2 ih' (b:=b) (off:=off) len λi hi=>by
       obtain⟨x,_,hx⟩:=r3 i i (by rw[ybl hi])
       exact⟨x,hx⟩
      refine⟨.list xs,⟨xs,rfl,by omega,h3⟩,zcy.one ?_ rfl⟩
      refine .list b off len cap (P.cellsOf e) xs (λj=>(w.cell? ⟨b,off+j,none⟩).getD undef) h1.symm hc.2.1 h2 (λj c hj=> ?_) λj c hj=> ?_
      ·obtain⟨v,g1,g2,g3⟩:=h5 j c hj
       exact⟨by rw[g1];rfl,λh=>h,g3⟩
      ·obtain⟨v,g1,g2,g3⟩:=h5 j c hj
       rw[g1];exact g2
    ·cases h
   case h_9 cs' fs he=>
    rw[he]at hm ⊢;simp only[yav,ycS,ybT]at hm;split at h
    ·rename_i hlen
     simp only[yac]at h;obtain⟨xs,hxs,-⟩:=h;obtain⟨ys,h1,h2⟩:=zj8 ih' fs.toList 0 xs (by rw[hlen];exact hm.1) (yai _) hm.2 hxs
     exact⟨.agg (ys.flatMap D.cells),⟨ys,rfl,h1⟩,h2⟩
    ·cases h
   all_goals
    rename_i e
    first
     |(rw[e]at hm;cases hm)
     |(exfalso;simp_all)
def zuZ {m:Nat} {t:TypeId} {v:Value} {d:DataW H} {ps:List MemPlace} (hm:zcg P m t=true) (hd:DataW.Trod enc P w 0 (λ_=>true) true t v d ps):
 ∃x,zbP P m t x/\zcy w v.cells.toList x.cells:=by
 obtain⟨fuel,h⟩:=hd;exact reads fuel m t _ d ps hm h
end
end Go.Am
namespace Go.Am
open Go.RowKit Go.ChangeShapes Go.WideShapes
section
variable {H:Type} {enc:TypeId × Value->H} {P:Program} {w:World}
def zzs {m b0:Nat} {t:TypeId} {v:Value} {d:DataW H} {ps:List MemPlace} (hm:zcg P m t=true) (hok:Value.okWide P w .any b0 t v) (hd:DataW.Trod enc P w 0 (λ_=>true) true t v d ps):
 ∃x,zbP P m t x/\Rep zfY w v x:=by
 obtain⟨x,hx,hl,hc⟩:=zuZ hm hd;refine⟨x,hx, ?_⟩;have one: ∀ {v:Value} {x:D},v.cells= #[v]->x.isCell=true->zcy w v.cells.toList x.cells->Rep zfY w v x:=λhv hx hc=>by
  rw[hv,D.cells_one hx]at hc;obtain⟨v',h1,h2,_⟩:=hc.2 0 _ rfl;simp only[yaI,yaa]at h1;subst h1;exact h2
 cases m with
 |zero=>simp[zcg]at hm
 |succ m=>
  simp only[zcg]at hm;simp only[zbP]at hx;split at hm
  ·rename_i k he
   obtain⟨n,rfl⟩:=okWide_int he hok;rw[he]at hx;obtain⟨i,rfl,_⟩:=hx;exact one rfl rfl ⟨hl,hc⟩
  ·rename_i he
   obtain⟨n,rfl⟩:=okWide_bool he hok;rw[he]at hx;obtain⟨i,rfl⟩:=hx;exact one rfl rfl ⟨hl,hc⟩
  ·rename_i he
   obtain⟨n,rfl⟩:=okWide_string he hok;rw[he]at hx;obtain⟨i,rfl,_⟩:=hx;exact one rfl rfl ⟨hl,hc⟩
  ·rename_i e he
   obtain⟨a,l,c,rfl⟩:=okWide_slice he hok;rw[he]at hx;obtain⟨i,rfl,_⟩:=hx;exact one rfl rfl ⟨hl,hc⟩
  ·rename_i fs he
   obtain⟨cs,rfl,_⟩:=okWide_struct he hok;rw[he]at hx;obtain⟨ys,rfl,_⟩:=hx;have hcs: ∀ (j:Nat) (c:D),(ys.flatMap D.cells)[j]? =some c-> ∃v,cs[j]? =some v/\Rep zfY w v c/\c.isCell=true:=λj c hj=>by
    simpa[Value.cells,D.cells]using hc j c hj
   refine .agg cs _ (λj=>cs.getD j undef) (by simpa[Value.cells,D.cells]using hl) (λj c hj=> ?_) λj c hj=> ?_
   ·obtain⟨v,h1,h2,h3⟩:=hcs j c hj
    exact⟨by rw[h1,yas,h1];rfl,h3⟩
   ·obtain⟨v,h1,h2,h3⟩:=hcs j c hj
    rw[yas,h1];exact h2
  ·cases hm
def zu0 (P:Program) (m:Nat) (t:TypeId):Bool:=zcg P m t && P.readableRec t && decide (t<P.types.size)
def zrG {m b0:Nat}: ∀ (ts:List TypeId) (vs:List Value) (ds:List (DataW H)) (ps:List MemPlace),(∀t∈ts,zcg P m t=true)->(∀ (j:Nat) t v,ts[j]? =some t->vs[j]? =some v->Value.okWide P w .any b0 t v)->
 DataW.TrodAll enc P w 0 (λ_=>true) true ts vs ds ps-> ∃xs:List D,All2 (zbP P m) ts xs/\All2 (Rep zfY w) vs xs
 |[],vs,ds,ps,_,_,h=>by
  obtain⟨rfl,_,_⟩:=trodAll_nil h;exact⟨[],.nil,.nil⟩
 |t::ts,vs,ds,ps,hp,hok,h=>by
  obtain⟨v,vs',d,ds',p,q,rfl,rfl,rfl,hd,hr⟩:=trodAll_cons h;obtain⟨x,h1,h2⟩:=zzs (hp t (ybg ..)) (hok 0 t v rfl rfl) hd;obtain⟨xs,h3,h4⟩:=zrG ts vs' ds' q (λt ht=>hp t (ya9 _ ht)) (λj t v h1 h2=>hok (j+1) t v (by simpa using h1) (by simpa using h2)) hr
  exact⟨x::xs,.cons h1 h3,.cons h2 h4⟩
def zoE (hl:laidOutB P=true) {W':World} (hb:Below w.heap.size w W'): ∀ (ts:List TypeId) (vs:List Value) (ds:List (DataW H)) (ps:List MemPlace),(∀t∈ts,P.readableRec t=true/\t<P.types.size)->
 DataW.TrodAll enc P w 0 (λ_=>true) true ts vs ds ps->(∀x∈ps,x.block<w.heap.size)->DataW.TrodAll enc P W' 0 (λb=>decide (b<w.heap.size)) true ts vs ds ps
 |[],vs,ds,ps,_,h,_=>by
  obtain⟨rfl,rfl,rfl⟩:=trodAll_nil h;exact h
 |t::ts,vs,ds,ps,hp,h,hlt=>by
  obtain⟨v,vs',d,ds',p,q,rfl,rfl,rfl,hd,hr⟩:=trodAll_cons h;obtain⟨k1,k2⟩:=hp t (ybg ..);exact trodAll_cons_mk (Below.trod hl k1 k2 hd hb λx hx=>hlt x (ybY _ hx))
   (zoE hl hb ts vs' ds' q (λt ht=>hp t (ya9 _ ht)) hr λx hx=>hlt x (ycy _ hx))
def All2.length {α β:Type} {R:α->β->Prop}: ∀ {as:List α} {bs:List β},All2 R as bs->as.length=bs.length
 |_,_,.nil=>rfl
 |_,_,.cons _ h=>by simp[h.length]
def All2.get {α β:Type} {R:α->β->Prop}: ∀ {as:List α} {bs:List β},All2 R as bs-> ∀ (j:Nat) (b:β),bs[j]? =some b-> ∃a,as[j]? =some a/\R a b
 |_,_,.nil,j,b,hj=>by simp at hj
 |_,_,.cons h hs,0,b,hj=>by simp only[yaI,yaa]at hj;subst hj;exact⟨_,rfl,h⟩
 |_,_,.cons _ hs,j+1,b,hj=>by simpa using hs.get j b (by simpa using hj)
def zu1 {run:Run} {f:FuncId} {G:Nat->Option (List D)} (hrun:zev P G run) {xs:List D} {h':List Obj} (hx:run f (xs.map .d) []=some ([.d (.bool true)],h')) {vs:List Value} (hv:All2 (Rep zfY w) vs xs)
 (hg:GRel zfY G [] [] w):Calls P f vs.toArray w λe w'=>e= .returned (.bool true)/\Below w.heap.size w w':=by
 have hmut: ∀b j,Mut zfY [] [] b j->zfY b j:=by
  rintro b j (h | ⟨id,c,o,h,_⟩)
  ·exact h
  ·simp at h
 have H:HRel zfY [] [] w:=⟨rfl,λid o ho=>by simp at ho,λb j h=>h.elim,λ_ _ _ _ h=>by simp at h,λ_ _ _ _ _ h=>by simp at h⟩
 have ha:zck zfY [] [] w vs (xs.map .d):=⟨by simp[hv.length],λj A hj=>by
  simp only[yaA,yac]at hj;obtain⟨x,hj,rfl⟩:=hj;obtain⟨v,h1,h2⟩:=hv.get j x hj;exact⟨v,h1,h2.mono λb j v hm hc=>⟨hc,λh=>hm (hmut b j h)⟩⟩⟩
 refine (hrun f _ _ _ _ hx zfY [] w vs H hg ha).mono ?_
 rintro e w' ⟨ρ',rv,rfl,st,us,l1,l2,rfl⟩
 obtain⟨u,h1,h2⟩:=l2 0 _ rfl;have:us=[u]:=by
  match us,l1,h1 with
  |[u'],_,h1=>simpa using h1
 subst this;refine⟨?_,st.fr.os,st.fr.tape,st.fr.output,st.fr.size,λk hk=>(st.fr.block k hk λid c=>by simp).1⟩
 have h3:Rep (Mut zfY ρ' h') w' u (.bool true):=h2;cases h3;rfl
def ziM {run:Run} {f:FuncId} {fn:Func} {s:ChangeSpec} {m:Nat} {tb:TypeId} {G:Nat->Option (List D)} {W:World} {base:Nat} {args:Array Value} {ds gs:List (DataW H)} {before:List MemPlace}
 (hl:laidOutB P=true) (hp:fn.params.toList.all (zu0 P m)=true) (hvars:s.vars=[]) (hres:fn.resultTypes= #[tb]) (htb:P.underlying tb=some .bool)
 (hspec: ∀ds:List (DataW H),ds.length=fn.params.size->s.fn H ds= { results:=[.lit (.bool true)],args:=ds,vars:=[] })
 (hrun:zev P G run) (hx: ∀xs:List D,All2 (zbP P m) fn.params.toList xs-> ∃h',run f (xs.map .d) []=some ([.d (.bool true)],h')) (hg:GRel zfY G [] [] W)
 (hval: ∀ (j:Nat) t v,fn.params[j]? =some t->args[j]? =some v->Value.okWide P W .any base t v)
 (hW:DataW.Whole enc P fn.params.toList s.vars false W args.toList ds gs before):
 Calls P f args W λe W'=> ∃v,e= .returned v/\s.post enc P fn false true false false W args v W':=by
 have hW':=hW;have hlt: ∀x∈before,x.block<W.heap.size:=λx hx=>hW'.lt x hx
 obtain⟨p,q,hA,hV,rfl,_,_⟩:=hW;rw[hvars]at hV;obtain⟨rfl,rfl⟩:gs=[]/\q=[]:=by
  cases gs with
  |nil=>exact⟨rfl,hV⟩
  |cons g gs=>simp[DataW.TrodVars]at hV
 simp only[ybT,zu0,yav,yaG]at hp;obtain⟨xs,h1,h2⟩:=zrG fn.params.toList args.toList ds p (λt ht=>(hp t ht).1.1) (λj t v h1 h2=>hval j t v (by simpa using h1) (by simpa using h2)) hA
 obtain⟨h',hr⟩:=hx xs h1;have hlen:ds.length=fn.params.size:=by
  have: ∀ (ts:List TypeId) (vs:List Value) (ds:List (DataW H)) (ps:List MemPlace),DataW.TrodAll enc P W 0 (λ_=>true) true ts vs ds ps->ds.length=ts.length:=by
   intro ts
   induction ts with
   |nil=>intro vs ds ps h;obtain⟨_,rfl,_⟩:=trodAll_nil h;rfl
   |cons t ts ih=>
    intro vs ds ps h;obtain⟨v,vs',d,ds',p,q,rfl,rfl,rfl,hd,hr⟩:=trodAll_cons h;simp[ih _ _ _ hr]
  simpa using this _ _ _ _ hA
 have:=zu1 hrun hr h2 hg;rw[Array.toArray_toList]at this;refine this.mono ?_
 rintro e W' ⟨rfl,hb⟩
 have hs:=hspec ds hlen;have hds:ds++([]:List (DataW H))=ds:=yaq ds;refine⟨_,rfl,ds,[],p++[],[],p,[],hW', ?_, ?_, ?_,hb.frame _,λh=>by cases h⟩
 ·rw[hds,hs,hres]
  exact trodAll_cons_mk (shut_bool htb true) rfl
 ·rw[hds,hs]
  exact zoE hl hb _ _ _ _ (λt ht=>⟨(hp t ht).1.2,(hp t ht).2⟩) hA λx hx=>hlt x (ybY _ hx)
 ·rw[hds,hs,hvars]
  rfl
end
end Go.Am
namespace Go.Am
def Ev {α:Type} (A:Nat->Option α) (x:Option α):Prop:= ∀r,x=some r-> ∃n, ∀m,n<=m->A m=some r
def Ev.const {α:Type} (x:Option α):Ev (λ_=>x) x:=λ_ hr=>⟨0,λ_ _=>hr⟩
def Ev.obind {α β:Type} {A:Nat->Option α} {x:Option α} {B:Nat->α->Option β} {b:α->Option β} (ha:Ev A x) (hb: ∀a,Ev (λm=>B m a) (b a)):
 Ev (λm=>Am.obind (A m) (B m)) (Am.obind x b):=λr hr=>by
 cases x with
 |none=>cases hr
 |some a=>
  obtain⟨n1,h1⟩:=ha a rfl;obtain⟨n2,h2⟩:=hb a r hr;exact⟨max n1 n2,λm hm=>by simp only[h1 m (by omega)];exact h2 m (by omega)⟩
def Ev.onNormal {A:Nat->Res} {x:Res} {B:Nat->Slots->List Obj->Res} {b:Slots->List Obj->Res} (ha:Ev A x) (hb: ∀s h,Ev (λm=>B m s h) (b s h)):
 Ev (λm=>Am.onNormal (A m) (B m)) (Am.onNormal x b):=λr hr=>by
 cases x with
 |none=>cases hr
 |some a=>
  obtain⟨o,s,h⟩:=a;obtain⟨n1,h1⟩:=ha _ rfl;cases o with
  |normal=>
   obtain⟨n2,h2⟩:=hb s h r hr;exact⟨max n1 n2,λm hm=>by simp only[h1 m (by omega),Am.onNormal];exact h2 m (by omega)⟩
  |exit i=>exact⟨n1,λm hm=>by simp only[h1 m hm];exact hr⟩
  |ret=>exact⟨n1,λm hm=>by simp only[h1 m hm];exact hr⟩
def Ev.leave {A:Nat->Res} {x:Res} (id:Nat) (ha:Ev A x):Ev (λm=>Am.leave id (A m)) (Am.leave id x):=λr hr=>by
 cases x with
 |none=>cases hr
 |some a=>
  obtain⟨n1,h1⟩:=ha _ rfl;exact⟨n1,λm hm=>by simp only[h1 m hm];exact hr⟩
def Ev.branch {A B:Nat->Res} {x y:Res} (c:V) (ha:Ev A x) (hb:Ev B y):Ev (λm=>Am.branch c (A m) (B m)) (Am.branch c x y):=by
 unfold Am.branch;split
 ·rename_i t
  cases t with
  |true=>exact ha
  |false=>exact hb
 ·exact Ev.const none
def Ev.iter {A:Nat->Slots->List Obj->Res} {x:Slots->List Obj->Res} (ha: ∀s h,Ev (λm=>A m s h) (x s h)): ∀ (k:Nat) (s:Slots) (h:List Obj),Ev (λm=>Am.iter (A m) k s h) (Am.iter x k s h)
 |0,_,_=>Ev.const none
 |k+1,s,h=>by
  simp only[Am.iter];exact Ev.onNormal (ha s h) λs h=>Ev.iter ha k s h
def Ev.loops {A:Nat->Slots->List Obj->Res} {x:Slots->List Obj->Res} (ha: ∀s h,Ev (λm=>A m s h) (x s h)) (s:Slots) (h:List Obj):Ev (λm=>Am.loops (A m) s h) (Am.loops x s h):=λr hr=>by
 obtain⟨k,hk⟩:=zdq.1 hr;obtain⟨n,hn⟩:=Ev.iter ha k s h r hk;exact⟨n,λm hm=>zdq.2 ⟨k,hn m hm⟩⟩
def zj9 (R:Nat->Run) (R':Run):Prop:= ∀f args h,Ev (λm=>R m f args h) (R' f args h)
section
variable {P:Program} {G:Nat->Option (List D)} {K:zhL} {S:zhK} {R:Nat->Run} {R':Run}
def Ev.callWith (hR:zj9 R R') (rf:Bool) (f:FuncId) (args:List V) (h:List Obj):Ev (λm=>Am.callWith rf (R m) f args h) (Am.callWith rf R' f args h):=by
 unfold Am.callWith;cases zdj rf h args with
 |none=>exact Ev.const none
 |some p=>
  obtain⟨as,h1⟩:=p;simp only;cases as.mapM (V.ren (zay (zbw h1 (zan [] (as.flatMap V.ids))))) with
  |none=>exact Ev.const none
  |some as2=>
   cases zaO h1 (zay (zbw h1 (zan [] (as.flatMap V.ids)))) (zbw h1 (zan [] (as.flatMap V.ids))) with
   |none=>exact Ev.const none
   |some hin=>
    simp only;intro r hr;cases hx:R' f as2 hin with
    |none=>rw[hx]at hr;cases hr
    |some q=>
     rw[hx]at hr;obtain⟨n,hn⟩:=hR f as2 hin q hx;exact⟨n,λm hm=>by simp only[hn m hm];exact hr⟩
def Ev.callThaw (hR:zj9 R R') (f:FuncId) (args:List V) (h:List Obj):Ev (λm=>Am.callThaw (R m) f args h) (Am.callThaw R' f args h):=by
 unfold Am.callThaw;cases zdj false h args with
 |none=>exact Ev.const none
 |some p=>
  obtain⟨as,h1⟩:=p;simp only;intro r hr;cases hx:R' f as [] with
  |none=>rw[hx]at hr;cases hr
  |some q=>
   rw[hx]at hr;obtain⟨n,hn⟩:=hR f as [] q hx;exact⟨n,λm hm=>by simp only[hn m hm];exact hr⟩
def Ev.calleeV (hR:zj9 R R') (s:Slots) (h:List Obj) (f:V) (args:List V):Ev (λm=>Am.calleeV G s h (R m) f args) (Am.calleeV G s h R' f args):=by
 unfold Am.calleeV;split
 ·split
  ·split
   ·intro r hr
    rename_i g _ _;cases hx:Am.callWith (zab G g) R' g args h with
    |none=>rw[hx]at hr;simp[zdY]at hr
    |some q=>
     obtain⟨n,hn⟩:=Ev.callWith hR (zab G g) g args h q hx;refine⟨n,λm hm=> ?_⟩
     have e1:Am.callWith (zab G g) (R m) g args h=some q:=hn m hm
     show zdY h (Am.callWith (zab G g) (R m) g args h)=some r
     rw[e1,<- hx];exact hr
   split
   ·intro r hr
    rename_i g _ _ _;cases hx:Am.callWith (zab G g) R' g args h with
    |none=>rw[hx]at hr;cases hr
    |some q=>
     obtain⟨n,hn⟩:=Ev.callWith hR (zab G g) g args h q hx;refine⟨n,λm hm=> ?_⟩
     have e1:Am.callWith (zab G g) (R m) g args h=some q:=hn m hm
     show zm0 h (Am.callWith (zab G g) (R m) g args h)=some r
     rw[e1,<- hx];exact hr
   split
   ·intro r hr
    rename_i g _ _ _ _;cases hx:Am.callWith (zab G g) R' g args h with
    |none=>rw[hx]at hr;cases hr
    |some q=>
     obtain⟨n,hn⟩:=Ev.callWith hR (zab G g) g args h q hx;refine⟨n,λm hm=> ?_⟩
     have e1:Am.callWith (zab G g) (R m) g args h=some q:=hn m hm
     show zm1 (Am.callWith (zab G g) (R m) g args h)=some r
     rw[e1,<- hx];exact hr
   ·exact Ev.callThaw hR _ _ _
  ·exact Ev.callWith hR _ _ _ _
 ·exact Ev.callWith hR _ _ _ _
 ·exact Ev.const none
def Ev.opV (hR:zj9 R R') (s:Slots) (h:List Obj) (o:Oper):Ev (λm=>Am.opV P G (R m) s h o) (Am.opV P G R' s h o):=by
 unfold Am.opV;cases o.op with
 |call c=>
  simp only;cases c.callee with
  |builtin b=>exact Ev.const _
  |invoke _ _=>exact Ev.const _
  |value f=>exact Ev.calleeV hR _ _ _ _
 |makeFunc fn first cap=>cases fn <;> exact Ev.const _
 |next it b=>cases b <;> exact Ev.const _
 |_=>exact Ev.const _
def Ev.blindV (hR:zj9 R R') (hv:List Obj) (s:Slots) (h:List Obj) (o:Oper):Ev (λm=>zcp h (Am.blindV P G (R m) hv s o)) (zcp h (Am.blindV P G R' hv s o)):=by
 have key:Ev (λm=>Am.blindV P G (R m) hv s o) (Am.blindV P G R' hv s o):=by
  unfold Am.blindV;cases o.op with
  |call c=>
   simp only;cases c.callee with
   |value f=>
    simp only;cases ev G s f with
    |d x=>
     cases x with
     |fn g=>
      simp only;split
      ·exact Ev.const _
      ·unfold zfs
       split
       ·exact Ev.obind (hR _ _ _) λ_=>Ev.const _
       ·exact Ev.const _
     |_=>exact Ev.const _
    |_=>exact Ev.const _
   |builtin b=>
    generalize List.map (ev G s) c.args.toList=l;generalize c.argTypes.toList=t;cases b <;> cases t <;> cases l <;> exact Ev.const _
   |invoke r m=>
    generalize List.map (ev G s) c.args.toList=l;generalize c.argTypes.toList=t;cases t <;> cases l <;> exact Ev.const _
  |_=>exact Ev.const _
 intro r hr;cases hx:Am.blindV P G R' hv s o with
 |none=>rw[hx]at hr;cases hr
 |some x=>
  rw[hx]at hr;obtain⟨n,hn⟩:=key x hx;exact⟨n,λm hm=>by simp only[hn m hm];exact hr⟩
def Ev.opsV (hR:zj9 R R') (all:List Oper) (hint:List Nat) (hv:List Obj): ∀ (ops:List Oper) (i:Nat) (s:Slots) (h:List Obj),Ev (λm=>Am.opsV P G (R m) all hint hv i ops s h) (Am.opsV P G R' all hint hv i ops s h)
 |[],_,_,_=>Ev.const _
 |o::ops,i,s,h=>by
  simp only[Am.opsV];refine Ev.obind (Ev.const _) λw=> ?_
  cases w with
  |false=>exact Ev.opsV hR all hint hv ops _ _ _
  |true=>
   simp only[ya6];refine Ev.obind ?_ λp=>Ev.opsV hR all hint hv ops _ _ _
   cases hint.contains i with
   |true=>exact Ev.blindV hR hv s h o
   |false=>
    simp only[yau,yaY];split
    ·exact Ev.opV hR s h o
    ·exact Ev.const _
def Ev.rangeV {A:Nat->List D->Slots->List Obj->Res} {x:List D->Slots->List Obj->Res} (ha: ∀z s h,Ev (λm=>A m z s h) (x z s h)) (k:Nat) (keep:List (Nat × Nat)):
 ∀ (l:List (List D)) (s:Slots) (h:List Obj),Ev (λm=>Am.rangeV (A m) k keep l s h) (Am.rangeV x k keep l s h)
 |[],s,h=>Ev.const _
 |z::l,s,h=>by
  intro r hr;simp only[Am.rangeV]at hr ⊢;cases hx:x z s h with
  |none=>rw[hx]at hr;cases hr
  |some q=>
   obtain⟨o,s1,h1⟩:=q;rw[hx]at hr;obtain⟨n1,e1⟩:=ha z s h _ hx;cases o with
   |normal=>
    obtain⟨n2,e2⟩:=Ev.obind (Ev.const (zf4 k keep s h1)) (λ(p:Slots × List Obj)=>Ev.rangeV ha k keep l p.1 p.2) r hr
    exact⟨max n1 n2,λm hm=>by simp only[e1 m (by omega)];exact e2 m (by omega)⟩
   |exit i=>exact⟨n1,λm hm=>by simp only[e1 m hm];exact hr⟩
   |ret=>exact⟨n1,λm hm=>by simp only[e1 m hm];exact hr⟩
def zg8 (I:(Slots->List Obj->Res)->Slots->List Obj->Res):Prop:= ∀ {A:Nat->Slots->List Obj->Res} {x:Slots->List Obj->Res},(∀s h,Ev (λm=>A m s h) (x s h))-> ∀s h,Ev (λm=>Am.loops (A m) s h) (I x s h)
def zg8.loops:zg8 Am.loops:=λha s h=>Ev.loops ha s h
def zg8.iter (k:Nat):zg8 (λx=>Am.iter x k):=λha s h r hr=>by
 obtain⟨n,hn⟩:=Ev.iter ha k s h r hr;exact⟨n,λm hm=>zdq.2 ⟨k,hn m hm⟩⟩
variable {I:(Slots->List Obj->Res)->Slots->List Obj->Res}
def Ev.codeV (hI:zg8 I) (hR:zj9 R R') (F:FuncId): ∀ (c:Code) (k b:Nat) (s:Slots) (h:List Obj),Ev (λm=>Am.codeV P G K S (R m) Am.loops F k b c s h) (Am.codeV P G K S R' I F k b c s h):=by
 intro c
 induction c with
 |skip=>intro k b s h;exact Ev.const _
 |region id ops draw=>
  intro k b s h;simp only[Am.codeV,zjG];exact Ev.obind (Ev.const _) λ_=>Ev.obind (Ev.opsV hR _ _ _ _ _ _ _) λ_=>Ev.const _
 |seq x y ihx ihy=>intro k b s h;simp only[Am.codeV];exact Ev.onNormal (ihx k b s h) λs h=>ihy k b s h
 |cond c x y ihx ihy=>intro k b s h;simp only[Am.codeV];exact Ev.branch _ (ihx k b s h) (ihy k b s h)
 |block id c ih=>intro k b s h;simp only[Am.codeV];exact Ev.leave id (ih k id s h)
 |loop c ih=>
  intro k b s h;simp only[Am.codeV];split
  ·exact hI (λs h=>Ev.obind (Ev.const _) λ(p:Slots × List Obj)=>ih k b p.1 p.2) s h
  ·exact hI (λs h=>ih k b s h) s h
 |rangeFunc f ps x y ihx ihy=>
  intro k b s h;simp only[Am.codeV];cases K F b with
  |none=>exact Ev.const _
  |some keep=>
   cases ps.toList with
   |nil=>exact Ev.const _
   |cons p l=>
    cases l with
    |cons _ _=>exact Ev.const _
    |nil=>
     refine Ev.obind (Ev.const _) λit=> ?_
     cases zgm k keep s h it.1 && zgm k keep s h it.2.1 with
     |false=>exact Ev.const _
     |true=>
      refine Ev.obind (Ev.const _) λq=>Ev.rangeV (λz s h=> ?_) _ _ _ _ _
      intro r hr;cases hx:Am.codeV P G K S R' I F h.length b x ((p,.d (.list z))::s) h with
      |none=>rw[hx]at hr;cases hr
      |some q=>
       obtain⟨o,s1,h1⟩:=q;rw[hx]at hr;obtain⟨n1,e1⟩:=ihx h.length b _ _ _ hx;cases o with
       |normal=>
        obtain⟨n2,e2⟩:=ihy h.length b s1 h1 r hr;exact⟨max n1 n2,λm hm=>by simp only[e1 m (by omega)];exact e2 m (by omega)⟩
       |exit i=>cases hr
       |ret=>cases hr
 |_=>intro k b s h;simp only[Am.codeV];exact Ev.const _
def Ev.bodyV (hI:zg8 I) (hR:zj9 R R') (f:FuncId) (args:List V) (h:List Obj):Ev (λm=>Am.bodyV P G K S (R m) Am.loops f args h) (Am.bodyV P G K S R' I f args h):=by
 unfold Am.bodyV;cases P.funcs[f]? with
 |none=>exact Ev.const _
 |some fn=>
  simp only;cases fn.body with
  |none=>exact Ev.const _
  |some c=>
   simp only;split
   ·intro r hr
    cases hx:Am.codeV P G K S R' I f h.length 0 c (zas 0 args) h with
    |none=>rw[hx]at hr;cases hr
    |some q=>
     rw[hx]at hr;obtain⟨n,hn⟩:=Ev.codeV hI hR f c h.length 0 _ _ q hx;exact⟨n,λm hm=>by
     have:=hn m hm;simp only at this;simp only[this];exact hr⟩
   ·exact Ev.const _
def Ev.joinV {A B:Nat->Option (List V × List Obj)} {x y:Option (List V × List Obj)} (ha:Ev A x) (hb:Ev B y):Ev (λm=>Am.joinV (A m) (B m)) (Am.joinV x y):=λr hr=>by
 obtain⟨h1,h2⟩:=zmb hr;obtain⟨n1,k1⟩:=ha r h1;obtain⟨n2,k2⟩:=hb r h2;refine⟨max n1 n2,λm hm=> ?_⟩
 simp only[k1 m (by omega),k2 m (by omega),Am.joinV,ya6]
def Ev.bodyS (hI:zg8 I) (hR:zj9 R R') (f:FuncId) (args:List V) (h:List Obj):Ev (λm=>Am.bodyS P G K S (R m) Am.loops f args h) (Am.bodyS P G K S R' I f args h):=by
 unfold Am.bodyS;split
 ·exact Ev.const _
 split
 ·exact Ev.joinV (Ev.bodyV hI hR _ _ _) (Ev.bodyV hI hR _ _ _)
 ·exact Ev.bodyV hI hR _ _ _
variable (P G K S)
noncomputable def zxt:Nat->Run
 |0=>λ_ _ _=>none
 |n+1=>Am.bodyS P G K S (zxt n) Am.loops
open Classical in
noncomputable def zgb:Run:=λf args h=>if e: ∃n r, ∀m,n<=m->zxt P G K S m f args h=some r then some (Classical.choose (ybA e)) else none
variable {P G K S}
def zka {f:FuncId} {args:List V} {h:List Obj} {r:List V × List Obj}:zgb P G K S f args h=some r↔ ∃n, ∀m,n<=m->zxt P G K S m f args h=some r:=by
 unfold zgb;constructor
 ·intro hr
  split at hr
  ·rename_i e
   simp only[yaa]at hr;subst hr;exact⟨_,ybA (ybA e)⟩
  ·cases hr
 ·rintro ⟨n,hn⟩
  have e: ∃n r, ∀m,n<=m->zxt P G K S m f args h=some r:=⟨n,r,hn⟩;rw[dif_pos e];have h2:=ybA (ybA e);have h3:=hn (max n (Classical.choose e)) (by omega)
  have h4:=h2 (max n (Classical.choose e)) (by omega)
  rw[h3]at h4;simpa using h4.symm
def zzt:zj9 (zxt P G K S) (zgb P G K S):=λ_ _ _ _ hr=>zka.1 hr
def zjj {f:FuncId} {args:List V} {h:List Obj} {r:List V × List Obj} (hr:bodyS P G K S (zgb P G K S) loops f args h=some r):zgb P G K S f args h=some r:=by
 obtain⟨n,hn⟩:=Ev.bodyS zg8.loops zzt f args h r hr;refine zka.2 ⟨n+1,λm hm=> ?_⟩
 obtain⟨k,rfl⟩: ∃k,m=k+1:=⟨m - 1,by omega⟩
 exact hn k (by omega)
def zoF {f:FuncId} (hs:splits G f=false):zcE G f=0:=by
 unfold zcE;rw[hs];rfl
def zzu {f:FuncId} {args:List V} {h:List Obj} {r:List V × List Obj} (hs:splits G f=false\/zcE G f=0/\ ∀zaF,args≠ .d (.list [])::zaF) (hr:bodyV P G K S (zgb P G K S) loops f args h=some r):zgb P G K S f args h=some r:=by
 refine zjj ?_;unfold bodyS;rw[yag (by
  rcases hs with hs | hs
  ·simp[zoF hs]
  ·simp[hs.1])]
 split
 ·rename_i e
  rcases hs with hs | hs
  ·rw[hs]at e;cases e
  ·exact absurd rfl (hs.2 _)
 ·exact hr
def zoG {f:FuncId} {args:List V} {h:List Obj} {r:List V × List Obj} (k:Nat) (hs:zcE G f=k+1) (hr:zn6 (k+1) args h=some r):zgb P G K S f args h=some r:=by
 refine zjj ?_;unfold bodyS;rw[hs,yaj (by simp)]
 exact hr
def ztp {f:FuncId} {zaF:List V} {h:List Obj} {r:List V × List Obj} (hs:splits G f=true) (h0:zcE G f=0) (h1:bodyV P G K S (zgb P G K S) loops f (.nilS::zaF) h=some r) (h2:bodyV P G K S (zgb P G K S) loops f (.emp::zaF) h=some r):
 zgb P G K S f (.d (.list [])::zaF) h=some r:=by
 refine zjj ?_;unfold bodyS;simp only[hs,h0,h1,h2,joinV,ya6,ydh,yba,yaY]
abbrev ztq:=FuncId × List V × List Obj × (List V × List Obj)
def zu2:List ztq->FuncId->List V->List Obj->Option (List V × List Obj)
 |[],_,_,_=>none
 |e::T,f,a,h=>if e.1=f/\e.2.1=a/\e.2.2.1=h then some e.2.2.2 else zu2 T f a h
def zxu (P:Program) (G:Nat->Option (List D)) (K:zhL) (S:zhK) (T:List ztq) (k:Nat):Nat->Run
 |0=>zu2 T
 |n+1=>λf a h=>
  match zu2 T f a h with
  |some r=>some r
  |none=>Am.bodyS P G K S (zxu P G K S T k n) (λx=>Am.iter x k) f a h
variable (P G K S) in
def Tbl (T:List ztq):Prop:= ∀e∈T,zgb P G K S e.1 e.2.1 e.2.2.1=some e.2.2.2
def t0:Tbl P G K S []:=λe he=>by cases he
def t1 {f:FuncId} {a:List V} {h:List Obj} {r:List V × List Obj} {T:List ztq} (hr:zgb P G K S f a h=some r) (t:Tbl P G K S T):Tbl P G K S ((f,a,h,r)::T):=λe he=>by
 rcases List.mem_cons.1 he with rfl | he
 ·exact hr
 ·exact t e he
def zhZ: ∀ {T:List ztq} {f:FuncId} {a:List V} {h:List Obj} {r:List V × List Obj},Tbl P G K S T->zu2 T f a h=some r->zgb P G K S f a h=some r
 |[],_,_,_,_,_,hr=>by cases hr
 |e::T,f,a,h,r,t,hr=>by
  unfold zu2 at hr;split at hr
  ·rename_i he
   obtain⟨rfl,rfl,rfl⟩:=he;simp only[yaa]at hr;subst hr;exact t e (ybg ..)
  ·exact zhZ (λe he=>t e (ya9 _ he)) hr
def zal {T:List ztq} (t:Tbl P G K S T) (k:Nat): ∀ (n:Nat) {f:FuncId} {args:List V} {h:List Obj} {r:List V × List Obj},zxu P G K S T k n f args h=some r->zgb P G K S f args h=some r
 |0,_,_,_,_,hr=>zhZ t hr
 |n+1,f,args,h,r,hr=>by
  unfold zxu at hr;split at hr
  ·rename_i hl
   simp only[yaa]at hr;subst hr;exact zhZ t hl
  ·have e:zj9 (λ_=>zgb P G K S) (zxu P G K S T k n):=λ_ _ _ r hr=>⟨0,λ_ _=>zal t k n hr⟩
   obtain⟨m,hm⟩:=Ev.bodyS (zg8.iter k) e f args h r hr;exact zjj (hm m (yaf _))
def zqy (hm:P.follows .mixedOrders=true) (hso: ∀g,zoB P G g) (hit: ∀g,zd0 G g=true->zgr P g): ∀n,zev P G (zxt P G K S n)/\zdf P (zxt P G K S n)
 |0=>⟨λ_ _ _ _ _ hr=>by simp[zxt]at hr,λ_ _ _ _ hr=>by simp[zxt]at hr⟩
 |n+1=>zxs hso hit hm (zqy hm hso hit n).1 (zqy hm hso hit n).2 λ_ _ _ _ _ _ hc=>ztn hc
def zu3 (hm:P.follows .mixedOrders=true) (hso: ∀g,zoB P G g) (hit: ∀g,zd0 G g=true->zgr P g):zev P G (zgb P G K S):=λf args h rets h' hr=>by
 obtain⟨n,hn⟩:=zka.1 hr;exact (zqy hm hso hit n).1 f args h rets h' (hn n (yaf _))
noncomputable def zgt (k:Nat) (keep:List (Nat × Nat)) (b:Slots->List Obj->Res) (s:Slots) (h:List Obj):Res:=loops (λs h=>obind (zf4 k keep s h) λp=>b p.1 p.2) s h
def zrH (k:Nat) (keep:List (Nat × Nat)) (b:Slots->List Obj->Res) (s:Slots) (h:List Obj):
 zgt k keep b s h=obind (zf4 k keep s h) λp=>onNormal (b p.1 p.2) (zgt k keep b):=by
 show loops _ s h=_
 rw[zxq];cases zf4 k keep s h <;> rfl
def ztr {run:Run} {F:FuncId} {k b:Nat} {c:Code} {s:Slots} {h:List Obj} {keep:List (Nat × Nat)} (hk:K F b=some keep):
 codeV P G K S run loops F k b (.loop c) s h=zgt k keep (codeV P G K S run loops F k b c) s h:=by
 simp only[codeV,hk];rfl
end
end Go.Am
namespace Go.Am
attribute [simp] zgl zcp calleeV zdZ eqV zcf zlN znZ zp4 zsS zlO zjh zw6
attribute [simp] znW zaL zD8 zjf zuF unD zhH za9
attribute [simp] zhI zdA zcG znY zcu zfq zrr zrs zbR zyB zp5 min2 max2 natOf? bound? bounds? ziz
attribute [simp] zdj zbV zbh zbe zan zjg one zce
attribute [simp] zbw zgk zcH
attribute [simp] zsU zjC
attribute [simp] zbW V.storable V.cellOk
@[simp] def zFd {α:Type} (i:Nat):([]:List α)[i]? =none:=rfl
@[simp] def zEb {α:Type} (x:α) (l:List α):(x::l)[0]? =some x:=rfl
@[simp] def zEc {α:Type} (x:α) (l:List α) (i:Nat):(x::l)[i+1]? =l[i]? :=rfl
@[simp] def zEd (rf:Bool) (h:List Obj) (a b:Nat):ziA rf h (.arr a b)=bif rf then some (.arr a b,h) else (zbV h (.arr a b)).map λp=>(.d p.1,p.2):=by cases rf <;> rfl
@[simp] def zFe (rf:Bool) (h:List Obj) (a b c d:Nat):ziA rf h (.sl a b c d)=bif rf then some (.sl a b c d,h) else (zbV h (.sl a b c d)).map λp=>(.d p.1,p.2):=by cases rf <;> rfl
@[simp] def zEe (rf:Bool) (h:List Obj) (a b:Nat):ziA rf h (.ptr a b)=some (.ptr a b,h):=rfl
@[simp] def zFf (rf:Bool) (h:List Obj) (a:Nat):ziA rf h (.mp a)=some (.mp a,h):=rfl
@[simp] def zEf (rf:Bool) (h:List Obj) (f:FuncId) (l:List V):ziA rf h (.clo f l)=some (.clo f l,h):=rfl
@[simp] def zFg (rf:Bool) (h:List Obj) (cs:List D):ziA rf h (.ro cs)=some (.ro cs,h):=rfl
@[simp] def zHF (rf:Bool) (h:List Obj) (x:D):ziA rf h (.d x)=some (.d x,h):=rfl
@[simp] def zBH (rf:Bool) (h:List Obj):ziA rf h .nilS=some (.d (.list []),h):=rfl
@[simp] def zEg (rf:Bool) (h:List Obj):ziA rf h .emp=some (.d (.list []),h):=rfl
@[simp] def zEh (rf:Bool) (h:List Obj) (cs:List V):ziA rf h (.agg cs)=(zbe h cs).map λp=>(.d (.agg p.1),p.2):=by
 show ((zbe h cs).map λ(xs,h)=>(D.agg xs,h)).map _=_
 cases zbe h cs <;> rfl
@[simp] def zHG (G:Nat->Option (List D)) (s:Slots) (t:Tmp):ev G s (.tmp t)=zbS s t:=rfl
@[simp] def zEi (G:Nat->Option (List D)) (s:Slots) (v:Value):ev G s (.const v)=znW v:=rfl
@[simp] def zBI (G:Nat->Option (List D)) (s:Slots) (g:Nat):ev G s (.global g)=match G g with | some cs=> .ro cs | none=> .dead:=rfl
@[simp] def zFh (G:Nat->Option (List D)) (s:Slots) (f:FuncId):ev G s (.func f)= .d (.fn f):=rfl
@[simp] def zHH (f:Nat->Option Nat) (x:D):V.ren0 f (.d x)=some (.d x):=rfl
@[simp] def zBJ (f:Nat->Option Nat):V.ren0 f (.nilS)=some (.nilS):=rfl
@[simp] def zFi (f:Nat->Option Nat) (cs:List D):V.ren0 f (.ro cs)=some (.ro cs):=rfl
@[simp] def zBK (f:Nat->Option Nat):V.ren0 f (.dead)=some (.dead):=rfl
@[simp] def zEj (f:Nat->Option Nat):V.ren0 f .emp=some .emp:=rfl
@[simp] def zFj (f:Nat->Option Nat) (a b c d:Nat):V.ren0 f (.sl a b c d)=(f a).map λi=> .sl i b c d:=rfl
@[simp] def zEk (f:Nat->Option Nat) (a b:Nat):V.ren0 f (.arr a b)=(f a).map λi=> .arr i b:=rfl
@[simp] def zEl (f:Nat->Option Nat) (a b:Nat):V.ren0 f (.ptr a b)=(f a).map λi=> .ptr i b:=rfl
@[simp] def zBL (f:Nat->Option Nat) (a b c d:Nat):V.ren0 f (.eptr a b c d)=(f a).map λi=> .eptr i b c d:=rfl
@[simp] def zFk (f:Nat->Option Nat) (a:Nat):V.ren0 f (.mp a)=(f a).map .mp:=rfl
@[simp] def zHI (f:Nat->Option Nat) (x:D):V.ren1 f (.d x)=some (.d x):=rfl
@[simp] def zBM (f:Nat->Option Nat):V.ren1 f (.nilS)=some (.nilS):=rfl
@[simp] def zFl (f:Nat->Option Nat) (cs:List D):V.ren1 f (.ro cs)=some (.ro cs):=rfl
@[simp] def zBN (f:Nat->Option Nat):V.ren1 f (.dead)=some (.dead):=rfl
@[simp] def zEm (f:Nat->Option Nat):V.ren1 f .emp=some .emp:=rfl
@[simp] def zFm (f:Nat->Option Nat) (a b c d:Nat):V.ren1 f (.sl a b c d)=(f a).map λi=> .sl i b c d:=rfl
@[simp] def zEn (f:Nat->Option Nat) (a b:Nat):V.ren1 f (.arr a b)=(f a).map λi=> .arr i b:=rfl
@[simp] def zEo (f:Nat->Option Nat) (a b:Nat):V.ren1 f (.ptr a b)=(f a).map λi=> .ptr i b:=rfl
@[simp] def zBO (f:Nat->Option Nat) (a b c d:Nat):V.ren1 f (.eptr a b c d)=(f a).map λi=> .eptr i b c d:=rfl
@[simp] def zFn (f:Nat->Option Nat) (a:Nat):V.ren1 f (.mp a)=(f a).map .mp:=rfl
@[simp] def zEp (f:Nat->Option Nat) (g:FuncId) (l:List V):V.ren1 f (.clo g l)=(l.mapM (V.ren0 f)).map (.clo g):=rfl
@[simp] def zHJ (f:Nat->Option Nat) (x:D):V.ren2 f (.d x)=some (.d x):=rfl
@[simp] def zBP (f:Nat->Option Nat):V.ren2 f (.nilS)=some (.nilS):=rfl
@[simp] def zFo (f:Nat->Option Nat) (cs:List D):V.ren2 f (.ro cs)=some (.ro cs):=rfl
@[simp] def zBQ (f:Nat->Option Nat):V.ren2 f (.dead)=some (.dead):=rfl
@[simp] def zEq (f:Nat->Option Nat):V.ren2 f .emp=some .emp:=rfl
@[simp] def zFp (f:Nat->Option Nat) (a b c d:Nat):V.ren2 f (.sl a b c d)=(f a).map λi=> .sl i b c d:=rfl
@[simp] def zEr (f:Nat->Option Nat) (a b:Nat):V.ren2 f (.arr a b)=(f a).map λi=> .arr i b:=rfl
@[simp] def zEs (f:Nat->Option Nat) (a b:Nat):V.ren2 f (.ptr a b)=(f a).map λi=> .ptr i b:=rfl
@[simp] def zBR (f:Nat->Option Nat) (a b c d:Nat):V.ren2 f (.eptr a b c d)=(f a).map λi=> .eptr i b c d:=rfl
@[simp] def zFq (f:Nat->Option Nat) (a:Nat):V.ren2 f (.mp a)=(f a).map .mp:=rfl
@[simp] def zEt (f:Nat->Option Nat) (g:FuncId) (l:List V):V.ren2 f (.clo g l)=(l.mapM (V.ren0 f)).map (.clo g):=rfl
@[simp] def zEu (f:Nat->Option Nat) (l:List V):V.ren2 f (.agg l)=(l.mapM (V.ren1 f)).map .agg:=rfl
@[simp] def zIB (f:Nat->Option Nat) (x:D):V.ren f (.d x)=some (.d x):=rfl
@[simp] def zEv (f:Nat->Option Nat):V.ren f (.nilS)=some (.nilS):=rfl
@[simp] def zHK (f:Nat->Option Nat) (cs:List D):V.ren f (.ro cs)=some (.ro cs):=rfl
@[simp] def zEw (f:Nat->Option Nat):V.ren f (.dead)=some (.dead):=rfl
@[simp] def zFr (f:Nat->Option Nat):V.ren f .emp=some .emp:=rfl
@[simp] def zHL (f:Nat->Option Nat) (a b c d:Nat):V.ren f (.sl a b c d)=(f a).map λi=> .sl i b c d:=rfl
@[simp] def ren_arr (f:Nat->Option Nat) (a b:Nat):V.ren f (.arr a b)=(f a).map λi=> .arr i b:=rfl
@[simp] def zFs (f:Nat->Option Nat) (a b:Nat):V.ren f (.ptr a b)=(f a).map λi=> .ptr i b:=rfl
@[simp] def zEx (f:Nat->Option Nat) (a b c d:Nat):V.ren f (.eptr a b c d)=(f a).map λi=> .eptr i b c d:=rfl
@[simp] def zHM (f:Nat->Option Nat) (a:Nat):V.ren f (.mp a)=(f a).map .mp:=rfl
@[simp] def zFt (f:Nat->Option Nat) (g:FuncId) (l:List V):V.ren f (.clo g l)=(l.mapM (V.ren0 f)).map (.clo g):=rfl
@[simp] def zFu (f:Nat->Option Nat) (l:List V):V.ren f (.agg l)=(l.mapM (V.ren1 f)).map .agg:=rfl
@[simp] def zFv (f:Nat->Option Nat) (l:List V):V.ren f (.tup l)=(l.mapM (V.ren2 f)).map .tup:=rfl
@[simp] def zHN (x:D):V.ids0 (.d x)=[]:=rfl
@[simp] def zBS:V.ids0 (.nilS)=[]:=rfl
@[simp] def zFw (cs:List D):V.ids0 (.ro cs)=[]:=rfl
@[simp] def zBT:V.ids0 (.dead)=[]:=rfl
@[simp] def zEy:V.ids0 .emp=[]:=rfl
@[simp] def zFx (a b c d:Nat):V.ids0 (.sl a b c d)=[a]:=rfl
@[simp] def zEz (a b:Nat):V.ids0 (.arr a b)=[a]:=rfl
@[simp] def zEA (a b:Nat):V.ids0 (.ptr a b)=[a]:=rfl
@[simp] def zBU (a b c d:Nat):V.ids0 (.eptr a b c d)=[a]:=rfl
@[simp] def zFy (a:Nat):V.ids0 (.mp a)=[a]:=rfl
@[simp] def zHO (x:D):V.ids1 (.d x)=[]:=rfl
@[simp] def zBV:V.ids1 (.nilS)=[]:=rfl
@[simp] def zFz (cs:List D):V.ids1 (.ro cs)=[]:=rfl
@[simp] def zBW:V.ids1 (.dead)=[]:=rfl
@[simp] def zEB:V.ids1 .emp=[]:=rfl
@[simp] def zFA (a b c d:Nat):V.ids1 (.sl a b c d)=[a]:=rfl
@[simp] def zEC (a b:Nat):V.ids1 (.arr a b)=[a]:=rfl
@[simp] def zED (a b:Nat):V.ids1 (.ptr a b)=[a]:=rfl
@[simp] def zBX (a b c d:Nat):V.ids1 (.eptr a b c d)=[a]:=rfl
@[simp] def zFB (a:Nat):V.ids1 (.mp a)=[a]:=rfl
@[simp] def zEE (g:FuncId) (l:List V):V.ids1 (.clo g l)=l.flatMap V.ids0:=rfl
@[simp] def zHP (x:D):V.ids2 (.d x)=[]:=rfl
@[simp] def zBY:V.ids2 (.nilS)=[]:=rfl
@[simp] def zFC (cs:List D):V.ids2 (.ro cs)=[]:=rfl
@[simp] def zBZ:V.ids2 (.dead)=[]:=rfl
@[simp] def zEF:V.ids2 .emp=[]:=rfl
@[simp] def zFD (a b c d:Nat):V.ids2 (.sl a b c d)=[a]:=rfl
@[simp] def zEG (a b:Nat):V.ids2 (.arr a b)=[a]:=rfl
@[simp] def zEH (a b:Nat):V.ids2 (.ptr a b)=[a]:=rfl
@[simp] def zB0 (a b c d:Nat):V.ids2 (.eptr a b c d)=[a]:=rfl
@[simp] def zFE (a:Nat):V.ids2 (.mp a)=[a]:=rfl
@[simp] def zEI (g:FuncId) (l:List V):V.ids2 (.clo g l)=l.flatMap V.ids0:=rfl
@[simp] def zEJ (l:List V):V.ids2 (.agg l)=l.flatMap V.ids1:=rfl
@[simp] def zIC (x:D):V.ids (.d x)=[]:=rfl
@[simp] def zEK:V.ids (.nilS)=[]:=rfl
@[simp] def zHQ (cs:List D):V.ids (.ro cs)=[]:=rfl
@[simp] def zEL:V.ids (.dead)=[]:=rfl
@[simp] def zFF:V.ids .emp=[]:=rfl
@[simp] def zHR (a b c d:Nat):V.ids (.sl a b c d)=[a]:=rfl
@[simp] def zFG (a b:Nat):V.ids (.arr a b)=[a]:=rfl
@[simp] def zFH (a b:Nat):V.ids (.ptr a b)=[a]:=rfl
@[simp] def zEM (a b c d:Nat):V.ids (.eptr a b c d)=[a]:=rfl
@[simp] def zHS (a:Nat):V.ids (.mp a)=[a]:=rfl
@[simp] def zFI (g:FuncId) (l:List V):V.ids (.clo g l)=l.flatMap V.ids0:=rfl
@[simp] def zFJ (l:List V):V.ids (.agg l)=l.flatMap V.ids1:=rfl
@[simp] def zFK (l:List V):V.ids (.tup l)=l.flatMap V.ids2:=rfl
@[simp] def zAF (f:Nat->Option Nat) (cs:List V):Obj.ren f (.box cs)=(cs.mapM (V.ren1 f)).map .box:=rfl
@[simp] def zAG (f:Nat->Option Nat) (sz:Nat) (xs:List D) (wm:Nat):Obj.ren f (.arr sz xs wm)=some (.arr sz xs wm):=rfl
@[simp] def zyF (f:Nat->Option Nat) (s:ByteArray) (n:Nat):Obj.ren f (.siter s n)=some (.siter s n):=rfl
@[simp] def zAH (cs:List V):Obj.ids (.box cs)=cs.flatMap V.ids1:=rfl
@[simp] def zAI (sz:Nat) (xs:List D) (wm:Nat):Obj.ids (.arr sz xs wm)=[]:=rfl
@[simp] def zyG (s:ByteArray) (n:Nat):Obj.ids (.siter s n)=[]:=rfl
@[simp] def zB1 (i:Nat):zay [] i=none:=rfl
@[simp] def zAJ (x:Nat) (xs:List Nat) (i:Nat):zay (x::xs) i=bif x == i then some 0 else (zay xs i).map (·+1):=by simp only[zay,cond_eq_ite,ycS]
@[simp] def zHT (l:List D):(D.agg l).cells=l:=rfl
@[simp] def zHU (k:IntKind) (n:Int):(D.int k n).cells=[.int k n]:=rfl
@[simp] def zFL (b:Bool):(D.bool b).cells=[.bool b]:=rfl
@[simp] def zHV (s:ByteArray):(D.str s).cells=[.str s]:=rfl
@[simp] def zFM (l:List D):(D.list l).cells=[.list l]:=rfl
@[simp] def zFN:D.nilI.cells=[.nilI]:=rfl
@[simp] def zFO:D.nilP.cells=[.nilP]:=rfl
@[simp] def zFP:D.nilM.cells=[.nilM]:=rfl
@[simp] def zFQ:D.nilF.cells=[.nilF]:=rfl
@[simp] def zEN (t:TypeId) (x:D):(D.iface t x).cells=[.iface t x]:=rfl
@[simp] def zID (f:FuncId):(D.fn f).cells=[.fn f]:=rfl
@[simp] def zHW (l:List V):(V.agg l).cells=l:=rfl
@[simp] def zFR (l:List D):(V.d (.agg l)).cells=l.map .d:=rfl
@[simp] def zHX (k:IntKind) (n:Int):(V.d (.int k n)).cells=[.d (.int k n)]:=rfl
@[simp] def zFS (b:Bool):(V.d (.bool b)).cells=[.d (.bool b)]:=rfl
@[simp] def zHY (s:ByteArray):(V.d (.str s)).cells=[.d (.str s)]:=rfl
@[simp] def zFT (l:List D):(V.d (.list l)).cells=[.d (.list l)]:=rfl
@[simp] def zFU:(V.d .nilI).cells=[.d .nilI]:=rfl
@[simp] def zFV:(V.d .nilM).cells=[.d .nilM]:=rfl
@[simp] def zFW:(V.d .nilP).cells=[.d .nilP]:=rfl
@[simp] def zFX:(V.d .nilF).cells=[.d .nilF]:=rfl
@[simp] def zEO (t:TypeId) (x:D):(V.d (.iface t x)).cells=[.d (.iface t x)]:=rfl
@[simp] def zIE (f:FuncId):(V.d (.fn f)).cells=[.d (.fn f)]:=rfl
@[simp] def zFY:V.nilS.cells=[.nilS]:=rfl
@[simp] def zHZ (a b:Nat):(V.arr a b).cells=[.arr a b]:=rfl
@[simp] def zH0:V.emp.cells=[.emp]:=rfl
@[simp] def zIF (a b c d:Nat):(V.sl a b c d).cells=[.sl a b c d]:=rfl
@[simp] def zH1 (a b:Nat):(V.ptr a b).cells=[.ptr a b]:=rfl
@[simp] def zFZ (a b c d:Nat):(V.eptr a b c d).cells=[.eptr a b c d]:=rfl
@[simp] def zH2 (f:FuncId) (l:List V):(V.clo f l).cells=[.clo f l]:=rfl
def zbu {α:Type} (p:Prop) [Decidable p] (x:Option α):Option α:=if p then x else none
@[simp] def zzv {α:Type} (x:Option α):zbu True x=x:=rfl
@[simp] def zyH {α:Type} (x:Option α):zbu False x=none:=rfl
@[simp] def zAK {α:Type} {p:Prop} [Decidable p] (x:Option α) (h:p):zbu p x=x:=yaj h
@[congr] def zyI {α:Type} {p q:Prop} [Decidable p] [Decidable q] {x:Option α} (h:p=q):zbu p x=zbu q x:=by cases h;unfold zbu;congr
@[simp] def zu4 {α:Type} (p:Prop) [Decidable p] (x:Option α):(if p then x else none)=zbu p x:=rfl
def znc {α:Type} (p q:Prop) [Decidable p] [Decidable q] (x:Option α):(if p/\q then x else none)=zbu p (zbu q x):=by
 unfold zbu
 by_cases hp:p <;> by_cases hq:q <;> simp[hp,hq]
@[simp] def zu5 {α:Type} (p q:Prop) [Decidable p] [Decidable q] (x:Option α):zbu (p/\q) x=zbu p (zbu q x):=znc p q x
@[simp] def zg9 {α:Type} (p:Prop) [Decidable p] (x:Option α):(if p then none else x)=zbu (¬ p) x:=by
 unfold zbu
 by_cases hp:p <;> simp[hp]
@[simp] def zAL (k:IntKind) (x y:Int):zbs .add k x y=some (.int k (k.wrap (x+y))):=rfl
@[simp] def zAM (k:IntKind) (x y:Int):zbs .sub k x y=some (.int k (k.wrap (x - y))):=rfl
@[simp] def zAN (k:IntKind) (x y:Int):zbs .mul k x y=some (.int k (k.wrap (x*y))):=rfl
@[simp] def zAO (k:IntKind) (x y:Int):zbs .quo k x y=zbu (¬ y=0) (some (.int k (k.wrap (x.tdiv y)))):=zg9 _ _
@[simp] def zAP (k:IntKind) (x y:Int):zbs .rem k x y=zbu (¬ y=0) (some (.int k (x.tmod y))):=zg9 _ _
@[simp] def zAQ (k:IntKind) (x y:Int):zbs .eql k x y=some (.bool (decide (x=y))):=by simp only[zbs];congr 2
@[simp] def zAR (k:IntKind) (x y:Int):zbs .neq k x y=some (.bool (!decide (x=y))):=by simp only[zbs];congr 2
@[simp] def zAS (k:IntKind) (x y:Int):zbs .lss k x y=some (.bool (decide (x<y))):=rfl
@[simp] def zAT (k:IntKind) (x y:Int):zbs .leq k x y=some (.bool (decide (x<=y))):=rfl
@[simp] def zAU (k:IntKind) (x y:Int):zbs .gtr k x y=some (.bool (decide (y<x))):=rfl
@[simp] def zAV (k:IntKind) (x y:Int):zbs .geq k x y=some (.bool (decide (y<=x))):=rfl
@[simp] def zdB (l:List UInt8):(l.map zbi).mapM byteOf?=some l:=by
 induction l with
 |nil=>rfl
 |cons b l ih=>
  simp only[yaO,ya2,ih,zbi,byteOf?,yaB];simp
structure Tok {α:Type} (a:α):Type where
section
variable {P:Program} {G:Nat->Option (List D)} {K:zhL} {S:zhK} {run:Run} {F k b:Nat} {α β:Type}
def zyJ (x:Res) (f:Slots->List Obj->Res) (_:Tok f):Res:=onNormal x f
def zbl (x:Option α) (f:α->Option β) (_:Tok f):Option β:=obind x f
def zeN (v:V) (f:Bool->Option α) (_:Tok f):Option α:=
 match v with
 |.d (.bool z)=>f z
 |_=>none
noncomputable def zcS (P:Program) (G:Nat->Option (List D)) (K:zhL) (S:zhK) (run:Run) (F k b:Nat) (c:Code) (_:Tok c) (s:Slots) (h:List Obj):Res:=codeV P G K S run loops F k b c s h
noncomputable def zux (P:Program) (G:Nat->Option (List D)) (run:Run) (all:List Oper) (hint:List Nat) (hv:List Obj) (i:Nat) (zaF:List Oper) (_:Tok (all,zaF)) (s:Slots) (h:List Obj):Option (Slots × List Obj):=opsV P G run all hint hv i zaF s h
noncomputable def opT (P:Program) (G:Nat->Option (List D)) (run:Run) (hint:List Nat) (hv:List Obj) (i:Nat) (o:Oper) (_:Tok o) (s:Slots) (h:List Obj):Option (V × List Obj):=zdM P G run hint hv i s h o
noncomputable def zaj (keep:Option (List (Nat × Nat))) (k:Nat) (f:Slots->List Obj->Res) (_:Tok f) (s:Slots) (h:List Obj):Res:=
 match keep with
 |some l=>zgt k l f s h
 |none=>loops f s h
@[simp] def zzw (s:Slots) (h:List Obj) (f:Slots->List Obj->Res) (t:Tok f):zyJ (some (.normal,s,h)) f t=f s h:=rfl
@[simp] def zB2 (i:Nat) (s:Slots) (h:List Obj) (f:Slots->List Obj->Res) (t:Tok f):zyJ (some (.exit i,s,h)) f t=some (.exit i,s,h):=rfl
@[simp] def zEP (s:Slots) (h:List Obj) (f:Slots->List Obj->Res) (t:Tok f):zyJ (some (.ret,s,h)) f t=some (.ret,s,h):=rfl
@[simp] def zAW (a:α) (f:α->Option β) (t:Tok f):zbl (some a) f t=f a:=rfl
@[simp] def zAX (f:α->Option β) (t:Tok f):zbl none f t=none:=rfl
@[simp] def zB3 (f:Slots->List Obj->Res) (t:Tok f):zyJ none f t=none:=rfl
@[simp] def zAY (f:Bool->Option α) (t:Tok f):zeN (.d (.bool true)) f t=f true:=rfl
@[simp] def zzx (f:Bool->Option α) (t:Tok f):zeN (.d (.bool false)) f t=f false:=rfl
@[simp] def zB4 (c:Bool) (f:Bool->Option α) (t:Tok f):zeN (.d (.bool !c)) f t=zeN (.d (.bool c)) (λz=>match z with | true=>f false | false=>f true) ⟨⟩:=by cases c <;> rfl
@[simp] def zB5 (v:V) (f:Bool->Res) (t:Tok f) (g:Slots->List Obj->Res) (u:Tok g):zyJ (zeN v f t) g u=zeN v (λz=>zyJ (f z) g ⟨⟩) ⟨⟩:=by
 cases v with
 |d x=>cases x <;> rfl
 |_=>rfl
@[simp] def zAZ (v:V) (f:Bool->Option α) (t:Tok f) (g:α->Option β) (u:Tok g):zbl (zeN v f t) g u=zeN v (λz=>zbl (f z) g ⟨⟩) ⟨⟩:=by
 cases v with
 |d x=>cases x <;> rfl
 |_=>rfl
@[simp] def zA0 (id:Nat) (v:V) (f:Bool->Res) (t:Tok f):leave id (zeN v f t)=zeN v (λz=>leave id (f z)) ⟨⟩:=by
 cases v with
 |d x=>cases x <;> rfl
 |_=>rfl
def zha {T:Option α->Prop} {c:Bool} {f:Bool->Option α} {t:Tok f} (h1:c=true->T (f true)) (h0:c=false->T (f false)):T (zeN (.d (.bool c)) f t):=by
 cases c
 ·exact h0 rfl
 ·exact h1 rfl
def zdP (x:α) (f:α->β) (_:Tok f):β:=f x
@[simp] def zEQ (x:α) (f:α->β) (t:Tok f):zdP x f t=f x:=rfl
@[simp] def zER (t:Nat):zbS [] t= .dead:=rfl
@[simp] def zB6 (i:Nat) (v:V) (r:Slots) (t:Nat):zbS ((i,v)::r) t=bif i == t then v else zbS r t:=by
 simp only[zbS,cond_eq_ite,ycS]
def zez (v:V) (sz t:Nat) (s:Slots) (h:List Obj) (r:List (Nat × Nat)):Slots × List Obj:=
 match v,sz with
 |.nilS,sz+1=>let (s1,h1):=zaf s (h++[.arr (sz+1) [] 0]) r;((t,.arr h.length 0)::s1,h1)
 |v,_=>let (s1,h1):=zaf s h r;((t,v)::s1,h1)
@[simp] def zxv (s:Slots) (h:List Obj):zaf s h []=([],h):=rfl
@[simp] def zwV (s:Slots) (h:List Obj) (t sz:Nat) (r:List (Nat × Nat)) (ht:t<1000000):zaf s h ((t,sz)::r)=zez (zbS s t) sz t s h r:=by
 unfold zaf;rw[yaj ht];rfl
def znd (p:Option (D × List Obj)) (t:Nat) (s:Slots) (r:List (Nat × Nat)):Slots × List Obj:=
 match p with
 |some (x,h0)=>let (s1,h1):=zaf s h0 r;((t,.d x)::s1,h1)
 |none=>([],[])
@[simp] def zxw (x:D) (h0:List Obj) (t:Nat) (s:Slots) (r:List (Nat × Nat)):znd (some (x,h0)) t s r=zdP (zaf s h0 r) (λp=>((t,.d x)::p.1,p.2)) ⟨⟩:=rfl
def zgc {s:Slots} {h:List Obj} {t sz:Nat} {r:List (Nat × Nat)} {p:D × List Obj} (hp:zbV h (zbS s t)=some p):zaf s h ((t+1000000,sz)::r)=znd (zbV h (zbS s t)) t s r:=by
 unfold zaf;rw[yag (by omega),ybN,hp]
 rfl
@[simp] def zwW {s:Slots} {h:List Obj} {t sz:Nat} {r:List (Nat × Nat)} {x:List D} (hp:zbS s t= .d (.list x)):zaf s h ((t+1000000,sz)::r)=zdP (zaf s h r) (λp=>((t,.d (.list x))::p.1,p.2)) ⟨⟩:=by
 rw[zgc (p:=(.list x,h)) (by rw[hp];rfl),hp];rfl
@[simp] def zxx {s:Slots} {h:List Obj} {t sz:Nat} {r:List (Nat × Nat)} {id n:Nat} (hp:zbS s t= .arr id n) (hd:(zbV h (.arr id n)).isSome=true):zaf s h ((t+1000000,sz)::r)=znd (zbV h (.arr id n)) t s r:=by
 obtain⟨p,e⟩:=Option.isSome_iff_exists.1 hd;rw[zgc (p:=p) (by rw[hp];exact e),hp]
@[simp] def zxy (v:V) (t:Nat) (s:Slots) (h:List Obj) (r:List (Nat × Nat)):zez v 0 t s h r=zdP (zaf s h r) (λp=>((t,v)::p.1,p.2)) ⟨⟩:=by
 cases v <;> rfl
@[simp] def zxz (sz t:Nat) (s:Slots) (h:List Obj) (r:List (Nat × Nat)):zez .nilS (sz+1) t s h r=zdP (zaf s (h++[.arr (sz+1) [] 0]) r) (λp=>((t,.arr h.length 0)::p.1,p.2)) ⟨⟩:=rfl
@[simp] def zyK (a b sz t:Nat) (s:Slots) (h:List Obj) (r:List (Nat × Nat)):zez (.arr a b) (sz+1) t s h r=zdP (zaf s h r) (λp=>((t,.arr a b)::p.1,p.2)) ⟨⟩:=rfl
@[simp] def zzy (a b c d sz t:Nat) (s:Slots) (h:List Obj) (r:List (Nat × Nat)):zez (.sl a b c d) (sz+1) t s h r=zdP (zaf s h r) (λp=>((t,.sl a b c d)::p.1,p.2)) ⟨⟩:=rfl
@[simp] def zyL (sz t:Nat) (s:Slots) (h:List Obj) (r:List (Nat × Nat)):zez .emp (sz+1) t s h r=zdP (zaf s h r) (λp=>((t,.emp)::p.1,p.2)) ⟨⟩:=rfl
@[simp] def zA1 (x:D) (sz t:Nat) (s:Slots) (h:List Obj) (r:List (Nat × Nat)):zez (.d x) (sz+1) t s h r=zdP (zaf s h r) (λp=>((t,.d x)::p.1,p.2)) ⟨⟩:=rfl
@[simp] def zyM (f:Nat->Option Nat):zaP f []=some []:=rfl
@[simp] def zxA (f:Nat->Option Nat) (t:Nat) (v:V) (r:Slots):zaP f ((t,v)::r)=zbl (V.ren f v) (λu=>zbl (zaP f r) (λl=>some ((t,u)::l)) ⟨⟩) ⟨⟩:=by
 simp only[zaP,ya2,zbl];cases V.ren f v with
 |none=>rfl
 |some u=>cases List.mapM (λ(p:Nat × V)=>Option.map (λv=>(p.1,v)) (V.ren f p.2)) r <;> rfl
def zkb (h:List Obj) (f:Nat->Option Nat) (i:Nat):Option Obj:=(h[i]?).bind (Obj.ren f)
@[simp] def zyN (o:Obj) (h:List Obj) (f:Nat->Option Nat):zkb (o::h) f 0=Obj.ren f o:=rfl
@[simp] def zyO (o:Obj) (h:List Obj) (f:Nat->Option Nat) (i:Nat):zkb (o::h) f (i+1)=zkb h f i:=rfl
@[simp] def zyP (h:List Obj) (f:Nat->Option Nat):zaO h f []=some []:=rfl
@[simp] def zxB (h:List Obj) (f:Nat->Option Nat) (i:Nat) (l:List Nat):zaO h f (i::l)=zbl (zkb h f i) (λo=>zbl (zaO h f l) (λos=>some (o::os)) ⟨⟩) ⟨⟩:=by
 simp only[zaO,ya2,zbl,zkb];cases (h[i]?).bind (Obj.ren f) with
 |none=>rfl
 |some u=>cases List.mapM (λi=>(h[i]?).bind (Obj.ren f)) l <;> rfl
@[simp] def zF0 (k:Nat) (keep:List (Nat × Nat)) (s:Slots) (h:List Obj):zf4 k keep s h=
 zdP (zaf s h keep) (λp=>zdP (zbw p.2 (zan (List.range k) (p.1.flatMap λq=>q.2.ids))) (λids=>zbl (zaP (zay ids) p.1) (λs2=>zbl (zaO p.2 (zay ids) ids) (λh2=>some (s2,h2)) ⟨⟩) ⟨⟩) ⟨⟩) ⟨⟩:=by
 simp only[zf4,zdP,zbl,obind];cases zaP (zay (zbw (zaf s h keep).2 (zan (List.range k) ((zaf s h keep).1.flatMap λq=>q.2.ids)))) (zaf s h keep).1 with
 |none=>rfl
 |some s2=>cases zaO (zaf s h keep).2 (zay (zbw (zaf s h keep).2 (zan (List.range k) ((zaf s h keep).1.flatMap λq=>q.2.ids)))) (zbw (zaf s h keep).2 (zan (List.range k) ((zaf s h keep).1.flatMap λq=>q.2.ids))) <;> rfl
@[simp] def zzz (rf:Bool) (f:FuncId) (args:List V) (h:List Obj):callWith rf run f args h=
 zbl (zdj rf h args) (λp=>zdP (zbw p.2 (zan [] (p.1.flatMap V.ids))) (λids=>zbl (p.1.mapM (V.ren (zay ids))) (λas2=>zbl (zaO p.2 (zay ids) ids) (λhin=>
  zbl (run f as2 hin) (λq=>zbl (q.1.mapM (V.ren (zjg ids p.2.length))) (λrets2=>zbl (q.2.mapM (Obj.ren (zjg ids p.2.length))) (λhout2=>some (one rets2,zce p.2 ids hout2++hout2.drop ids.length)) ⟨⟩) ⟨⟩) ⟨⟩) ⟨⟩) ⟨⟩) ⟨⟩) ⟨⟩:=by
 simp only[callWith,zdP,zbl];cases zdj rf h args with
 |none=>rfl
 |some p=>
  obtain⟨as,h1⟩:=p;simp only[obind];cases as.mapM (V.ren (zay (zbw h1 (zan [] (as.flatMap V.ids))))) with
  |none=>rfl
  |some as2=>
   simp only;cases zaO h1 (zay (zbw h1 (zan [] (as.flatMap V.ids)))) (zbw h1 (zan [] (as.flatMap V.ids))) with
   |none=>rfl
   |some hin=>
    simp only;cases run f as2 hin with
    |none=>rfl
    |some q=>
     obtain⟨rets,hout⟩:=q;simp only;cases rets.mapM (V.ren (zjg (zbw h1 (zan [] (as.flatMap V.ids))) h1.length)) with
     |none=>rfl
     |some r2=>cases hout.mapM (Obj.ren (zjg (zbw h1 (zan [] (as.flatMap V.ids))) h1.length)) <;> rfl
@[simp] def zzA (f:FuncId) (args:List V) (h:List Obj):callThaw run f args h=
 zbl (zdj false h args) (λp=>zbl (run f p.1 []) (λq=>zbl (bif args.all zbx && q.1.all V.flat && q.2.all Obj.flat then some () else none) (λ_=>zbl (q.1.mapM (V.ren (zjg [] h.length))) (λrets2=>zbl (q.2.mapM (Obj.ren (zjg [] h.length))) (λhout2=>some (one rets2,h++hout2)) ⟨⟩) ⟨⟩) ⟨⟩) ⟨⟩) ⟨⟩:=by
 simp only[callThaw,zbl];cases zdj false h args with
 |none=>rfl
 |some p=>
  obtain⟨as,h1⟩:=p;simp only[obind];cases run f as [] with
  |none=>rfl
  |some q=>
   obtain⟨rets,hout⟩:=q;simp only;cases args.all zbx && rets.all V.flat && hout.all Obj.flat with
   |false=>rfl
   |true=>
    simp only[ya6,cond_true];cases rets.mapM (V.ren (zjg [] h.length)) with
    |none=>rfl
    |some r2=>cases hout.mapM (Obj.ren (zjg [] h.length)) <;> rfl
@[simp] def zB7 (k:Nat) (ts:List TypeId) (vs:List V) (h:List Obj):zgM P k ts vs h=
 zdP (zjC P h vs ts) (λp=>zdP (zbw p.2 (zan (List.range k) (p.1.flatMap V.ids))) (λids=>zbl (p.1.mapM (V.ren2 (zay ids))) (λws=>zbl (zaO p.2 (zay ids) ids) (λh2=>some (ws,h2)) ⟨⟩) ⟨⟩) ⟨⟩) ⟨⟩:=by
 simp only[zgM,zdP,zbl,obind];generalize zjC P h vs ts=p;cases p.1.mapM (V.ren2 (zay (zbw p.2 (zan (List.range k) (p.1.flatMap V.ids))))) with
 |none=>rfl
 |some s2=>cases zaO p.2 (zay (zbw p.2 (zan (List.range k) (p.1.flatMap V.ids)))) (zbw p.2 (zan (List.range k) (p.1.flatMap V.ids))) <;> rfl
@[simp ↓] def zA2 {t} {s:Slots} {h:List Obj}:zcS P G K S run F k b .skip t s h=some (.normal,s,h):=rfl
@[simp ↓] def zB8 {x y:Code} {t} {s:Slots} {h:List Obj}:zcS P G K S run F k b (.seq x y) t s h=zyJ (zcS P G K S run F k b x ⟨⟩ s h) (λs1 h1=>zcS P G K S run F k b y ⟨⟩ s1 h1) ⟨⟩:=rfl
@[simp ↓] def zA3 {c:Operand} {x y:Code} {t} {s:Slots} {h:List Obj}:
 zcS P G K S run F k b (.cond c x y) t s h=zeN (ev G s c) (λz=>match z with | true=>zcS P G K S run F k b x ⟨⟩ s h | false=>zcS P G K S run F k b y ⟨⟩ s h) ⟨⟩:=by
 show branch (ev G s c) _ _=_
 cases ev G s c with
 |d z=>
  cases z with
  |bool z=>cases z <;> rfl
  |_=>rfl
 |_=>rfl
@[simp ↓] def zgu {id:Nat} {c:Code} {t} {s:Slots} {h:List Obj}:zcS P G K S run F k b (.block id c) t s h=leave id (zcS P G K S run F k id c ⟨⟩ s h):=rfl
@[simp ↓] def zA4 {id:Nat} {t} {s:Slots} {h:List Obj}:zcS P G K S run F k b (.exit id) t s h=some (.exit id,s,h):=rfl
@[simp ↓] def zB9 {t} {s:Slots} {h:List Obj}:zcS P G K S run F k b .ret t s h=some (.ret,s,h):=rfl
@[simp ↓] def zA5 {c:Code} {t} {s:Slots} {h:List Obj}:zcS P G K S run F k b (.loop c) t s h=zaj (K F b) k (λs h=>zcS P G K S run F k b c ⟨⟩ s h) ⟨⟩ s h:=by
 unfold zaj zcS;cases e:K F b with
 |some keep=>rw[ztr e]
 |none=>simp only[codeV,e]
noncomputable def ze2 (keep:List (Nat × Nat)) (k:Nat) (round:List D->Slots->List Obj->Res) (_:Tok round) (l:List (List D)) (s:Slots) (h:List Obj):Res:=obind (zf4 k keep s h) λq=>rangeV round k keep l q.1 q.2
def zH3 (x:Res) (f:Slots->List Obj->Res) (_:Tok f):Res:=
 match x with
 |some (.normal,s,h)=>f s h
 |_=>none
def zzB (x:Res) (s:Slots) (f:List Obj->Res) (_:Tok f):Res:=
 match x with
 |some (.normal,_,h)=>f h
 |some (o,_,h)=>some (o,s,h)
 |none=>none
@[simp] def zzC (s:Slots) (h:List Obj) (f:Slots->List Obj->Res) (t:Tok f):zH3 (some (.normal,s,h)) f t=f s h:=rfl
@[simp] def zzD (s s':Slots) (h:List Obj) (f:List Obj->Res) (t:Tok f):zzB (some (.normal,s',h)) s f t=f h:=rfl
@[simp] def zCa (i:Nat) (s s':Slots) (h:List Obj) (f:List Obj->Res) (t:Tok f):zzB (some (.exit i,s',h)) s f t=some (.exit i,s,h):=rfl
@[simp] def zES (s s':Slots) (h:List Obj) (f:List Obj->Res) (t:Tok f):zzB (some (.ret,s',h)) s f t=some (.ret,s,h):=rfl
@[simp] def zCb (v:V) (f:Bool->Res) (t:Tok f) (s:Slots) (g:List Obj->Res) (u:Tok g):zzB (zeN v f t) s g u=zeN v (λz=>zzB (f z) s g ⟨⟩) ⟨⟩:=by
 cases v with
 |d x=>cases x <;> rfl
 |_=>rfl
def zCc (i j:Nat):Option Obj->Option Obj->Option (Nat × Nat × List (List D))
 |some (.box [.d (.list xs)]),some (.box [.d (.int .i64 n)])=>if 0<n/\n<=65536/\xs.length<=65536/\zaq 1 xs then some (i,j,zcI n.toNat xs.length xs) else none
 |_,_=>none
@[simp] def zCd (h:List Obj) (g i j:Nat):zlb G h (.clo g [.ptr i 0,.ptr j 0])=bif zd0 G g then zCc i j h[i]? h[j]? else none:=by
 cases e:zd0 G g <;> simp only[zlb,e,cond_true,cond_false,ya6,yau,yaY];rfl
@[simp] def zET (i j:Nat) (xs:List D) (n:Int):zCc i j (some (.box [.d (.list xs)])) (some (.box [.d (.int .i64 n)]))=zbu (0<n/\n<=65536/\xs.length<=65536/\zaq 1 xs=true) (some (i,j,zcI n.toNat xs.length xs)):=rfl
@[simp] def zEU (k:Nat) (keep:List (Nat × Nat)) (s:Slots) (h:List Obj) (i:Nat):zgm k keep s h i=zdP (zaf s h keep) (λp=>zdP (zbw p.2 (zan (List.range k) (p.1.flatMap λq=>q.2.ids))) (λids=> !ids.contains i) ⟨⟩) ⟨⟩:=rfl
@[simp ↓] def zzE {f:Operand} {p:Tmp} {x y:Code} {t} {s:Slots} {h:List Obj}:zcS P G K S run F k b (.rangeFunc f #[p] x y) t s h=
 zbl (K F b) (λkeep=>zbl (zlb G h (ev G s f)) (λit=>zbl (bif zgm k keep s h it.1 && zgm k keep s h it.2.1 then some () else none) (λ_=>
  ze2 keep k (λz s h=>zH3 (zcS P G K S run F h.length b x ⟨⟩ ((p,.d (.list z))::s) h) (λs1 h1=>zcS P G K S run F h.length b y ⟨⟩ s1 h1) ⟨⟩) ⟨⟩ it.2.2 s h) ⟨⟩) ⟨⟩) ⟨⟩:=by
 unfold zcS ze2;simp only[codeV,zbl];cases K F b with
 |none=>rfl
 |some keep=>
  simp only[obind];cases zlb G h (ev G s f) with
  |none=>rfl
  |some it=>
   simp only;cases zgm k keep s h it.1 && zgm k keep s h it.2.1 with
   |false=>rfl
   |true=>rfl
def zkc {σ:Type} {T:Res->Prop} {k:Nat} {keep:List (Nat × Nat)} {round:List D->Slots->List Obj->Res} {t:Tok round} {l:List (List D)} {s:Slots} {h:List Obj} (Sl:σ->Slots) (H:σ->List Obj) (I:List (List D)->σ->Prop) (x:σ)
 (hi:I l x) (hn:zf4 k keep s h=some (Sl x,H x))
 (step: ∀ (T':Res->Prop) (g:List (List D)->Slots->List Obj->Res),T'=T-> ∀z l x,I (z::l) x->(∀y h',I l y->zf4 k keep (Sl x) h'=some (Sl y,H y)->T' (g l (Sl x) h'))->T' (zzB (round z (Sl x) (H x)) (Sl x) (λh'=>g l (Sl x) h') ⟨⟩))
 (done: ∀x,I [] x->T (some (.normal,Sl x,H x))): ∀z,ze2 keep k round t l s h=z->T z:=by
 rintro _ rfl
 induction l generalizing x s h with
 |nil=>unfold ze2;rw[hn];exact done x hi
 |cons z l ih=>
  have e:ze2 keep k round t (z::l) s h=zzB (round z (Sl x) (H x)) (Sl x) (λh'=>ze2 keep k round t l (Sl x) h') ⟨⟩:=by
   unfold ze2;rw[hn]
   show rangeV round k keep (z::l) (Sl x) (H x)=_
   simp only[rangeV];cases round z (Sl x) (H x) with
   |none=>rfl
   |some q=>
    obtain⟨o,s1,h1⟩:=q;cases o <;> rfl
  rw[e];exact step T (λl s h=>ze2 keep k round t l s h) rfl z l x hi λy h' hy hn'=>ih y hy hn'
attribute [simp] zgN zp7 zw7
@[simp] def zzF (f:FuncId) (args:List V):zfs run f args=bif zw7 args then zbl (run f args []) (λq=>bif q.2.isEmpty && zw7 q.1 then some (one q.1) else none) ⟨⟩ else none:=by
 unfold zfs zbl;cases zw7 args with
 |false=>rfl
 |true=>
  simp only[ya6,cond_true];cases run f args [] with
  |none=>rfl
  |some q=>simp only[obind];cases q.2.isEmpty && zw7 q.1 <;> rfl
@[simp] def zzG {h:List Obj} {id:Nat} {s:ByteArray} {pos:Nat} (e:pos<s.size):zgO h id s pos=(.tup [.d (.bool true),.d (.int .i64 pos),.d (.int .i32 (Utf8.decode s pos).1)],h.set id (.siter s (pos+(Utf8.decode s pos).2))):=yaj e
@[simp] def zyQ {h:List Obj} {id:Nat} {s:ByteArray}:zgO h id s s.size=(.tup [.d (.bool false)],h):=yag (ybG _)
attribute [simp] D.flat V.flat Obj.flat zel
def zdw {α:Type} (f:α->D) (hf: ∀x,(f x).flat=true): ∀l:List α,zel (l.map f)=true
 |[]=>rfl
 |x::l=>by
  show ((f x).flat && zel (l.map f))=true
  rw[hf x,zdw f hf l];rfl
@[simp] def zzH (l:List UInt8):zel (l.map zbi)=true:=zdw _ (λ_=>rfl) l
@[simp] def zA6 {α:Type} (k:IntKind) (f:α->Int) (l:List α):zel (l.map λx=>D.int k (f x))=true:=zdw _ (λ_=>rfl) l
@[simp] def zCe (l:List Int):zel (l.map λn=>D.int .i64 n)=true:=zdw _ (λ_=>rfl) l
@[simp] def zA7 (l:List ByteArray):zel (l.map D.str)=true:=zdw _ (λ_=>rfl) l
@[simp] def zoH: ∀ (a b:List D),zel (a++b)=(zel a && zel b)
 |[],b=>rfl
 |x::a,b=>by
  show (x.flat && zel (a++b))=(x.flat && zel a && zel b)
  rw[zoH a b,yd0]
@[simp ↓] def zCf {all:List Oper}:zjF all []=[]:=rfl
@[simp ↓] def zzI {all r:List Oper} {dst:Option Tmp} {t:Tmp} {ty y:TypeId} {lo hi mx:Option Operand} {pos:String} {after:Array Edge} {g:Option (Nat × Bool)}:zjF all (⟨dst,.slice ty (.tmp t) lo hi mx,y,pos,after,g⟩::r)=zgP all t::zjF all r:=rfl
@[simp ↓] def zA8 {all r:List Oper} {o:Oper}:zjF all (o::r)=match o.op with | .slice _ (.tmp t) _ _ _=>zgP all t::zjF all r | _=>zjF all r:=rfl
@[simp ↓] def zA9 {t:Tmp}:zgP [] t=t:=rfl
@[simp ↓] def zzJ {r:List Oper} {o:Oper} {t:Tmp}:zgP (o::r) t=match o.op with | .move (.tmp x)=>(if o.dst=some t then x else zgP r t) | _=>zgP r t:=rfl
def zjk (ops:List Oper) (i:Nat):Bool:=match ops[i]? with | some o=>(match o.op with | .load .. =>true | _=>false) | none=>false
@[simp ↓] def zyR {id:Nat} {ops:List Oper} {draw:Bool} {t} {s:Slots} {h:List Obj}:
 zcS P G K S run F k b (.region id ops.toArray draw) t s h=zbl (some (zem ops && !zen ops && !zab G F)) (λc=>zbl (match c with | true=>some (zbW h ((zjF ops ops).map λt=>(t,zbS s t))) | false=>some h) (λh=>zbl (zux P G run ops (bif draw then S F id else []) (bif zbX ops (bif draw then S F id else []) then zn3 s (bif draw then S F id else []) (zrt h) else []) 0 ops ⟨⟩ s h) (λp=>some (.normal,p.1,p.2)) ⟨⟩) ⟨⟩) ⟨⟩:=by
 unfold zcS;simp only[codeV,zjG,zlQ,zbl,zux,cond_eq_ite];cases zem ops && !zen ops && !zab G F <;> rfl
@[simp ↓] def zEV {all:List Oper} {hint:List Nat} {hv:List Obj} {i:Nat} {t} {s:Slots} {h:List Obj}:zux P G run all hint hv i [] t s h=some (s,h):=rfl
def zoI {all:List Oper} {hint:List Nat} {hv:List Obj} {i:Nat} {o:Oper} {zaF:List Oper} {t} {s:Slots} {h:List Obj}:
 zux P G run all hint hv i (o::zaF) t s h=zbl (zby all s o.guard) (λw=>match w with
  |true=>zbl (opT P G run hint hv i o ⟨⟩ s h) (λp=>zux P G run all hint hv (i+1) zaF ⟨⟩ (zgl s o.dst p.1) p.2) ⟨⟩
  |false=>zux P G run all hint hv (i+1) zaF ⟨⟩ (zgl s o.dst (.tup [])) h) ⟨⟩:=by
 unfold zux opT zbl;simp only[opsV,zdM];congr 1;funext w;cases w <;> rfl
@[simp ↓] def zBa {all:List Oper} {hint:List Nat} {hv:List Obj} {i:Nat} {dst:Option Tmp} {op:Op} {ty:TypeId} {pos:String} {after:Array Edge} {zaF:List Oper} {t} {s:Slots} {h:List Obj}:
 zux P G run all hint hv i (⟨dst,op,ty,pos,after,none⟩::zaF) t s h=zbl (opT P G run hint hv i ⟨dst,op,ty,pos,after,none⟩ ⟨⟩ s h) (λp=>zux P G run all hint hv (i+1) zaF ⟨⟩ (zgl s dst p.1) p.2) ⟨⟩:=by
 rw[zoI];rfl
def zrI (v:V) (want:Bool) (f:Bool->Option α) (_:Tok f):Option α:=
 match v with
 |.d (.bool c)=>f (c == want)
 |.tup []=>f false
 |_=>none
@[simp] def zzK (c:Bool) (f:Bool->Option α) (t:Tok f):zrI (.d (.bool c)) true f t=zeN (.d (.bool c)) f t:=by cases c <;> rfl
@[simp] def zyS (c:Bool) (f:Bool->Option α) (t:Tok f):zrI (.d (.bool c)) false f t=zeN (.d (.bool c)) (λz=>match z with | true=>f false | false=>f true) ⟨⟩:=by cases c <;> rfl
@[simp] def zBb (want:Bool) (f:Bool->Option α) (t:Tok f):zrI (.tup []) want f t=f false:=rfl
def zhb (all:List Oper) (j:Nat) (_:Tok all):Option Tmp:=(all[j]?).bind (·.dst)
@[simp ↓] def zxC {o:Oper} {all:List Oper} {t}:zhb (o::all) 0 t=o.dst:=rfl
@[simp ↓] def zxD {o:Oper} {all:List Oper} {j:Nat} {t}:zhb (o::all) (j+1) t=zhb all j ⟨⟩:=rfl
def zrJ (s:Slots) (d:Option Tmp):V:=
 match d with
 |none=> .tup []
 |some d=>zbS s d
@[simp] def zzL (s:Slots) (d:Nat):zrJ s (some d)=zbS s d:=rfl
@[simp] def zzM (s:Slots):zrJ s none= .tup []:=rfl
@[simp ↓] def zBc {all:List Oper} {hint:List Nat} {hv:List Obj} {i:Nat} {dst:Option Tmp} {op:Op} {ty:TypeId} {pos:String} {after:Array Edge} {j:Nat} {want:Bool} {zaF:List Oper} {t} {s:Slots} {h:List Obj}:
 zux P G run all hint hv i (⟨dst,op,ty,pos,after,some (j,want)⟩::zaF) t s h=zrI (zrJ s (zhb all j ⟨⟩)) want (λw=>match w with
  |true=>zbl (opT P G run hint hv i ⟨dst,op,ty,pos,after,none⟩ ⟨⟩ s h) (λp=>zux P G run all hint hv (i+1) zaF ⟨⟩ (zgl s dst p.1) p.2) ⟨⟩
  |false=>zux P G run all hint hv (i+1) zaF ⟨⟩ (zgl s dst (.tup [])) h) ⟨⟩:=by
 rw[zoI];unfold zrJ zhb;simp only[zby];have hop: ∀ (o:Oper) (o':Oper),o.op=o'.op->opT P G run hint hv i o ⟨⟩ s h=opT P G run hint hv i o' ⟨⟩ s h:=λo o' e=>by
  unfold opT zdM opV blindV znT zbb zn2 zm2;rw[e]
 rw[hop ⟨dst,op,ty,pos,after,some (j,want)⟩ ⟨dst,op,ty,pos,after,none⟩ rfl];cases (all[j]?).bind (·.dst) with
 |none=>rfl
 |some d=>
  simp only;cases zbS s d with
  |d x=>
   cases x with
   |bool c=>cases c <;> cases want <;> rfl
   |_=>rfl
  |tup l=>cases l <;> rfl
  |_=>rfl
@[simp ↓] def zH4 {hv:List Obj} {i:Nat} {dst:Option Tmp} {op:Op} {ty:TypeId} {pos:String} {after:Array Edge} {t} {s:Slots} {h:List Obj}:
 opT P G run [] hv i ⟨dst,op,ty,pos,after,none⟩ t s h=opV P G run s h ⟨dst,op,ty,pos,after,none⟩:=rfl
@[simp ↓] def zEW {x:Nat} {l:List Nat} {hv:List Obj} {i:Nat} {dst:Option Tmp} {op:Op} {ty:TypeId} {pos:String} {after:Array Edge} {t} {s:Slots} {h:List Obj}:
 opT P G run (x::l) hv i ⟨dst,op,ty,pos,after,none⟩ t s h=bif (x::l).contains i then zcp h (blindV P G run hv s ⟨dst,op,ty,pos,after,none⟩) else bif hv.isEmpty || znT G hv s ⟨dst,op,ty,pos,after,none⟩ || zbb (x::l) i ⟨dst,op,ty,pos,after,none⟩ then opV P G run s h ⟨dst,op,ty,pos,after,none⟩ else none:=by
 unfold opT zdM;simp only[cond_eq_ite,List.isEmpty_cons,ycY]
attribute [simp ↓] opV
@[simp] def zF1 (h:List Obj) (x:D):zla h (.d x)=h:=rfl
@[simp] def zBd (h:List Obj):zla h .nilS=h:=rfl
@[simp] def zCg (h:List Obj):zla h .emp=h:=rfl
@[simp] def zCh (h:List Obj) (a b:Nat):zla h (.arr a b)=h:=rfl
@[simp] def zEX (h:List Obj) (a b c d:Nat):zla h (.sl a b c d)=h:=rfl
@[simp] def zEY (h:List Obj) (id:Nat):zla h (.mp id)=match h[id]? with | some (.box cs)=>(match zbe h cs with | some (_,h1)=>h1 | none=>h) | _=>h:=rfl
attribute [simp] zBA zuE zeJ zlP
@[simp] def zzN (x:Option (V × List Obj)):zm1 x=zbl x (λq=>zlP q.2 q.1) ⟨⟩:=by cases x <;> rfl
attribute [simp] zrt znT zuG zn3 zbx blindV zbb zn2 zm2 zaH zdY
@[simp ↓] def zxE {ops:List Oper}:zbX ops []=false:=rfl
@[simp ↓] def zwX {ops:List Oper} {i:Nat} {r:List Nat}:zbX ops (i::r)=(zjk ops i || zbX ops r):=rfl
@[simp ↓] def zxF {o:Oper} {ops:List Oper}:zjk (o::ops) 0=(match o.op with | .load .. =>true | _=>false):=rfl
@[simp ↓] def zxG {o:Oper} {ops:List Oper} {i:Nat}:zjk (o::ops) (i+1)=zjk ops i:=rfl
@[simp ↓] def zyT:zem []=false:=rfl
@[simp ↓] def zyU:zen []=false:=rfl
@[simp ↓] def zxH {o:Oper} {l:List Oper}:zem (o::l)=((match o.op with | .slice .. =>true | _=>false) || zem l):=rfl
@[simp ↓] def zxI {o:Oper} {l:List Oper}:zen (o::l)=((match o.op with | .store .. =>true | _=>false) || zen l):=rfl
end
def appElem? (P:Program) (e:TypeId):Option Nat:=
 match P.info? e with
 |some i=>if i.zero.map (·.cells.size)=some i.size/\0<i.size/\i.bytes<=65536 then some i.size else none
 |none=>none
@[simp] def zBe (P:Program) (h:List Obj) (ts tx:TypeId) (s x:V):zgj P h ts tx s x=
 (match P.underlying ts with
 |some (.slice e)=>
  match appElem? P e,source? P h tx x with
  |some n,some ys=>
   match s with
   |.nilS=>zbu (ys.length<2147483648) (zbu (zaq n ys=true) (some (.arr h.length ys.length,h++[.arr n ys 0])))
   |.arr id m=>
    match h[id]? with
    |some (.arr sz xs wm)=>zbu (m=xs.length) (zbu (sz=n) (zbu (m+ys.length<2147483648) (zbu (zaq n ys=true) (some (.arr id (m+ys.length),h.set id (.arr sz (xs++ys) wm))))))
    |_=>none
   |_=>none
  |_,_=>none
 |_=>none):=by
 unfold zgj appElem?;cases P.underlying ts with
 |none=>rfl
 |some d=>
  cases d <;> try rfl
  rename_i e;simp only;cases P.info? e with
  |none=>rfl
  |some i=>
   cases source? P h tx x with
   |none=>
    simp only;split <;> simp_all
   |some ys=>
    simp only;split
    ·simp only[zu4,zu5];rfl
    ·rfl
def makeElem? (P:Program) (e:TypeId):Option (Nat × D):=
 match P.info? e,zeroD? P e with
 |some i,some z=>if i.bytes<=65536/\0<i.size/\z.cells.length=i.size then some (i.size,z) else none
 |_,_=>none
@[simp] def zxJ (P:Program) (h:List Obj) (t:TypeId) (k k':IntKind) (n m:Int):zdo P h t (.d (.int k n)) (.d (.int k' m))=
 (match P.underlying t with
 |some (.slice e)=>
  match makeElem? P e with
  |some (sz,z)=>zbu (0<=n) (zbu (n<=m) (zbu (m<2147483648) (some (.arr h.length n.toNat,h++[.arr sz (List.replicate n.toNat z) 0]))))
  |none=>none
 |_=>none):=by
 unfold zdo makeElem?;cases P.underlying t with
 |none=>rfl
 |some d=>
  cases d <;> try rfl
  rename_i e;simp only;cases P.info? e with
  |none=>rfl
  |some i=>
   cases zeroD? P e with
   |none=>rfl
   |some z=>
    simp only
    by_cases a:i.bytes<=65536/\0<i.size/\z.cells.length=i.size
    ·rw[yaj a]
     obtain⟨a1,a2,a3⟩:=a;simp only[zbu]
     by_cases b1:0<=n <;> by_cases b2:n<=m <;> by_cases b3:m<2147483648 <;> simp[a1,a2,a3,b1,b2,b3]
    ·rw[yag a,yag]
     rintro ⟨_,_,_,b1,b2,b3⟩
     exact a ⟨b1,b2,b3⟩
def zeroVs? (P:Program) (t:TypeId):Option (List V):=
 match zero? P t with
 |some z=>if (z.cells.toList.map zaL).all V.cellOk then some (z.cells.toList.map zaL) else none
 |none=>none
def places? (P:Program) (t:TypeId):Option (List (Nat × Nat)):=
 match P.underlying t with
 |some (.struct fs)=>fs.toList.mapM λf=>(sizeOf? P f.type).map λs=>(f.offset,s)
 |_=>none
def zmd {P:Program}: ∀ {fs:List Field} {pl:List (Nat × Nat)},(fs.mapM λ(f:Field)=>(sizeOf? P f.type).map λs=>(f.offset,s))=some pl-> ∀i:Nat,(fs[i]?).bind (λ(f:Field)=>(sizeOf? P f.type).map λs=>(f.offset,s))=pl[i]?
 |[],pl,h,i=>by simp at h;subst h;simp
 |f::fs,pl,h,i=>by
  simp only[ya2,ybF,yaT,ybS,yaa]at h;obtain⟨p,hp,ps,hps,rfl⟩:=h;cases i with
  |zero=>simpa using hp
  |succ i=>simpa using zmd hps i
def zar {P:Program} {t:TypeId} {parts:List (Nat × V)} {z:List V} {pl:List (Nat × Nat)} (hz:zeroVs? P t=some z) (hp:places? P t=some pl):zbt P t parts=(zcD (λi=>pl[i]?) z parts).map zcC:=by
 unfold zeroVs? at hz;unfold places? at hp;unfold zbt;cases h0:zero? P t with
 |none=>rw[h0]at hz;cases hz
 |some z0=>
  rw[h0]at hz;simp only at hz;split at hz
  ·rename_i hc
   simp only[yaa]at hz;subst hz;split at hp
   ·rename_i fs hfs
    have hall:fs.toList.all (λf=>(sizeOf? P f.type).isSome)=true:=by
     rw[ybT];intro f hf;obtain⟨i,hi⟩:=ybt hf;obtain⟨_,h2⟩:=zgZ hp;obtain⟨b,_,hb⟩:=h2 i f hi;simp only[yac]at hb;obtain⟨s,hs,_⟩:=hb;rw[hs];rfl
    simp only[hfs,hc,hall,ydP,ya6];have hpl:(λ(i:Nat)=>(fs[i]?).bind λ(f:Field)=>(sizeOf? P f.type).map λs=>(f.offset,s))=λi=>pl[i]? :=by
     funext i;rw[<- zmd hp i,ycn]
    rw[hpl]
   ·cases hp
  ·cases hz
def zbK {P:Program} {t:TypeId} {h:List Obj} {z:List V} (hz:zeroVs? P t=some z):zcT P h t=some (.ptr h.length 0,h++[.box z]):=by
 unfold zeroVs? at hz;unfold zcT;cases h0:zero? P t with
 |none=>rw[h0]at hz;cases hz
 |some z0=>
  rw[h0]at hz;simp only at hz ⊢;split at hz
  ·rename_i hc
   simp only[yaa]at hz;subst hz;rw[yaj hc]
  ·cases hz
@[simp] def zwY (P:Program) (h:List Obj) (t:TypeId) (len:Nat) (parts:List (Nat × V)):zco P h t len parts=
 (match P.underlying t with
 |some (.slice e)=>
  match sizeOf? P e with
  |some sz=>
   if (zero? P e).isSome=true/\0<sz/\parts.length=len/\len*sz<=65536/\zhJ parts 0 then
    match zeJ h (parts.map (·.2)) with
    |some (xs,h1)=>if zaq sz xs then some (.arr h1.length len,h1++[.arr sz xs 0]) else none
    |none=>none
   else none
  |none=>none
 |_=>none):=by
 unfold zco;cases P.underlying t with
 |none=>rfl
 |some d=>
  cases d <;> try rfl
  rename_i e;simp only;cases sizeOf? P e with
  |none=>rfl
  |some sz=>
   cases zero? P e with
   |none=>simp
   |some z=>simp;rfl
attribute [simp] zcD putCells zcC V.asD? zhJ zeJ
@[simp] def zaS {α:Type} {f:α->D} {n:Nat} (l:List α) (hf: ∀x,(f x).cells.length=n):zaq n (l.map f)=true:=by
 induction l with
 |nil=>rfl
 |cons x l ih=>simp[zaq,hf,ih]
attribute [simp] zaq source? elems?
@[simp] def zF2 (x y:Int):(x != y)= !decide (x=y):=by
 by_cases h:x=y <;> simp[h]
@[simp] def zF3 (x y:Int):(x == y)=decide (x=y):=by
 by_cases h:x=y <;> simp[h]
def zxK {x:Int} (h1: -9223372036854775808<=x) (h2:x<=9223372036854775807):IntKind.i64.wrap x=x:=by
 simp[IntKind.wrap,IntKind.signed,IntKind.bits];omega
def zak {x:Int} (h1:0<=x) (h2:x<=18446744073709551615):IntKind.u64.wrap x=x:=by
 simp[IntKind.wrap,IntKind.signed,IntKind.bits];omega
def zrK {x:Int} (h1:0<=x) (h2:x<=4294967295):IntKind.u32.wrap x=x:=by
 simp[IntKind.wrap,IntKind.signed,IntKind.bits];omega
def zne {x:Int} (h1:0<=x) (h2:x<=255):IntKind.u8.wrap x=x:=by
 simp[IntKind.wrap,IntKind.signed,IntKind.bits];omega
@[simp] def zu6 {α β:Type} (x:Option α) (f:α->Option β):(x >>=f)=x.bind f:=rfl
section
variable {P:Program} {G:Nat->Option (List D)} {K:zhL} {S:zhK}
def zu7 (P:Program) (k:Nat) (rs:List ResultVar) (ts:List TypeId) (r:Res):Option (List V × List Obj):=
 match r with
 |some (.normal,s,h) | some (.ret,s,h)=>obind (zsU P s h rs) λvs=>zgM P k ts vs h
 |_=>none
@[simp] def zzO {k:Nat} {rs:List ResultVar} {ts:List TypeId} {s:Slots} {h:List Obj}:zu7 P k rs ts (some (.normal,s,h))=obind (zsU P s h rs) λvs=>zgM P k ts vs h:=rfl
@[simp] def zCi {k:Nat} {rs:List ResultVar} {ts:List TypeId} (v:V) (f:Bool->Res) (t:Tok f):zu7 P k rs ts (zeN v f t)=zeN v (λz=>zu7 P k rs ts (f z)) ⟨⟩:=by
 cases v with
 |d x=>cases x <;> rfl
 |_=>rfl
@[simp] def zEZ {k:Nat} {rs:List ResultVar} {ts:List TypeId} {s:Slots} {h:List Obj}:zu7 P k rs ts (some (.ret,s,h))=obind (zsU P s h rs) λvs=>zgM P k ts vs h:=rfl
def zrL {f:FuncId} {fn:Func} {c:Code} {rs:List ResultVar} {ts:List TypeId} {args:List V} {h:List Obj} {r:List V × List Obj} (hf:P.funcs[f]? =some fn) (hb:fn.body=some c)
 (hrs : fn.results.toList = rs) (hts : fn.resultTypes.toList = ts) (hok : codeOk P (S f) fn.ntmps c = true) (hn : (fn.name == "runtime.NumGoroutine") = false)
 (hsp:splits G f=false\/zcE G f=0/\ ∀zaF,args≠ .d (.list [])::zaF) (hl:args.length<=fn.ntmps) (hr:zu7 P h.length rs ts (zcS P G K S (zgb P G K S) f h.length 0 c ⟨⟩ (zas 0 args) h)=some r):zgb P G K S f args h=some r:=by
 refine zzu hsp ?_;unfold bodyV;simp only[hf,hb,hok,hn,yaK hl,ydP,yd3,ya6];unfold zBB;rw[hrs,hts];exact hr
def zfx {f:FuncId} {fn:Func} {c:Code} {rs:List ResultVar} {ts:List TypeId} {args:List V} {h:List Obj} {r:List V × List Obj} (hf:P.funcs[f]? =some fn) (hb:fn.body=some c)
 (hrs : fn.results.toList = rs) (hts : fn.resultTypes.toList = ts) (hok : codeOk P (S f) fn.ntmps c = true) (hn : (fn.name == "runtime.NumGoroutine") = false)
 (hsp:splits G f=false\/zcE G f=0/\ ∀zaF,args≠ .d (.list [])::zaF) (hl:args.length<=fn.ntmps) (hr: ∀T:Option (List V × List Obj)->Prop,T (some r)->T (zu7 P h.length rs ts (zcS P G K S (zgb P G K S) f h.length 0 c ⟨⟩ (zas 0 args) h))):zgb P G K S f args h=some r:=
 zrL hf hb hrs hts hok hn hsp hl (hr (·=some r) rfl)
def ze3 {f:FuncId} {fn:Func} {c:Code} {rs:List ResultVar} {ts:List TypeId} {zaF:List V} {h:List Obj} {r:List V × List Obj} (hf:P.funcs[f]? =some fn) (hb:fn.body=some c)
 (hrs : fn.results.toList = rs) (hts : fn.resultTypes.toList = ts) (hok : codeOk P (S f) fn.ntmps c = true) (hn : (fn.name == "runtime.NumGoroutine") = false)
 (hsp:splits G f=true/\zcE G f=0) (hl:zaF.length+1<=fn.ntmps) (hr: ∀T:Option (List V × List Obj)->Prop,T (some r)-> ∀a,a= .nilS\/a= .emp->T (zu7 P h.length rs ts (zcS P G K S (zgb P G K S) f h.length 0 c ⟨⟩ (zas 0 (a::zaF)) h))):zgb P G K S f (.d (.list [])::zaF) h=some r:=by
 have key: ∀a,a= .nilS\/a= .emp->bodyV P G K S (zgb P G K S) loops f (a::zaF) h=some r:=λa ha=>by
  unfold bodyV;simp only[hf,hb,hok,hn,yad,yaK hl,ydP,yd3,ya6];unfold zBB;rw[hrs,hts];exact hr (·=some r) rfl a ha
 exact ztp hsp.1 hsp.2 (key .nilS (.inl rfl)) (key .emp (.inr rfl))
def zF4 (p:Bool->Prop) (r:Option (List V × List Obj)):Prop:= ∃b,r=some ([.d (.bool b)],[])/\p b
@[simp] def zBf {p:Bool->Prop} {b:Bool}:zF4 p (some ([.d (.bool b)],[]))↔p b:=by
 constructor
 ·rintro ⟨b',h,hp⟩
  simp only[yaa,yae,ycz,V.d.injEq,D.bool.injEq,yd7]at h;rw[h];exact hp
 ·exact λh=>⟨b,rfl,h⟩
def zzP {f:FuncId} {fn:Func} {c:Code} {rs:List ResultVar} {ts:List TypeId} {args:List V} {h:List Obj} {p:Option (List V × List Obj)->Prop} (hf:P.funcs[f]? =some fn) (hb:fn.body=some c)
 (hrs : fn.results.toList = rs) (hts : fn.resultTypes.toList = ts) (hok : codeOk P (S f) fn.ntmps c = true) (hn : (fn.name == "runtime.NumGoroutine") = false)
 (hsp:splits G f=false\/zcE G f=0/\ ∀zaF,args≠ .d (.list [])::zaF) (hl:args.length<=fn.ntmps) (hp: ¬ p none) (hr:p (zu7 P h.length rs ts (zcS P G K S (zgb P G K S) f h.length 0 c ⟨⟩ (zas 0 args) h))):p (zgb P G K S f args h):=by
 cases he:zu7 P h.length rs ts (zcS P G K S (zgb P G K S) f h.length 0 c ⟨⟩ (zas 0 args) h) with
 |none=>rw[he]at hr;exact absurd hr hp
 |some r=>rw[he]at hr;rw[zrL hf hb hrs hts hok hn hsp hl he];exact hr
def zaa {σ:Type} {T:Res->Prop} {k:Nat} {keep:List (Nat × Nat)} {b:Slots->List Obj->Res} {t:Tok b} {s:Slots} {h:List Obj} (Sl:σ->Slots) (H:σ->List Obj) (I:σ->Prop) (μ:σ->Nat) (x:σ)
 (hi:I x) (hn:zf4 k keep s h=some (Sl x,H x))
 (step: ∀ (T':Res->Prop) (b':Slots->List Obj->Res),T'=T-> ∀x,I x->(∀y s h,I y->μ y<μ x->zf4 k keep s h=some (Sl y,H y)->T' (zgt k keep b' s h))->T' (zyJ (b (Sl x) (H x)) (zgt k keep b') ⟨⟩)):
 ∀z,zaj (some keep) k b t s h=z->T z:=by
 rintro _ rfl
 show T (zgt k keep b s h)
 have key: ∀n x,μ x<=n-> ∀s h,I x->zf4 k keep s h=some (Sl x,H x)->T (zgt k keep b s h):=by
  intro n
  induction n with
  |zero=>
   intro x hx s h hi hn;rw[zrH,hn];exact step T b rfl x hi λy s h _ hlt _=>by omega
  |succ n ih=>
   intro x hx s h hi hn;rw[zrH,hn];exact step T b rfl x hi λy s h hy hlt hn=>ih y (by omega) s h hy hn
 exact key (μ x) x (yaf _) s h hi hn
def zzQ {T:Res->Prop} {x:Res} (Q:Res->Prop) (hq:Q x) (h: ∀z,Q z->T z): ∀z,x=z->T z:=by
 rintro _ rfl
 exact h _ hq
def ze4 {t:TypeId} {parts:List (Nat × V)} {z:List V} {n:Nat} {e:TypeId} {s:Nat} (hz:zeroVs? P t=some z) (hu:P.underlying t=some (.array n e)) (hs:sizeOf? P e=some s):zbt P t parts=(zcD (λi=>some (i*s,s)) z parts).map zcC:=by
 unfold zeroVs? at hz;unfold zbt;cases h0:zero? P t with
 |none=>rw[h0]at hz;cases hz
 |some z0=>
  rw[h0]at hz;simp only at hz;split at hz
  ·rename_i hc
   simp only[yaa]at hz;subst hz;simp only[hu,hs,hc,ya6]
  ·cases hz
@[simp] def zzR (l:List Int):zaq 1 (l.map λn=>D.int .i64 n)=true:=zaS l λ_=>rfl
@[simp] def zqz (k:IntKind) (x:Int): ∀n,zaq 1 (List.replicate n (D.int k x))=true
 |0=>rfl
 |n+1=>by simp[yaS,zqz k x n]
end
end Go.Am
