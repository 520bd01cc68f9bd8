/- The abstract machine: what a row says, and the fixpoint of all functions. -/
import Derived.ProofKit
import Derived.OpenShut
import Derived.Carry
import Derived.Test.YtibdiacpdmhmnaaGreatDoorMachA
import Derived.Test.YtibdiacpdmhmnaaGreatDoorMachC
set_option linter.all false
namespace Go.Am
def znC (P:Program):Nat->List Field->Option Nat
 |n,[]=>some n
 |n,f::fs=>if f.offset=n then znC P (n+P.cellsOf f.type) fs else none
def zb4 (P:Program):Nat->TypeId->Bool
 |0,_=>false
 |n+1,t=>
  match P.underlying t with
  |some (.int _) | some .bool | some .string=>true
  |some (.slice e)=>decide (0<P.cellsOf e) && zb4 P n e
  |some (.struct fs)=>(znC P 0 fs.toList == some (P.cellsOf t)) && fs.toList.all λf=>zb4 P n f.type
  |_=>false
inductive All2 {α β:Type} (R:α->β->Prop):List α->List β->Prop
 |nil:All2 R [] []
 |cons {a:α} {b:β} {as:List α} {bs:List β}:R a b->All2 R as bs->All2 R (a::as) (b::bs)
def zbD (P:Program):Nat->TypeId->D->Prop
 |0,_,_=>False
 |n+1,t,x=>
  match P.underlying t with
  |some (.int k)=> ∃i,x= .int k i/\(Lit.int k i).wf=true
  |some .bool=> ∃b,x= .bool b
  |some .string=> ∃s,x= .str s/\s.size<=maxLen
  |some (.slice e)=> ∃xs,x= .list xs/\xs.length<=maxLen/\ ∀y∈xs,zbD P n e y
  |some (.struct fs)=> ∃ys:List D,x= .agg (ys.flatMap D.cells)/\All2 (λf y=>zbD P n f.type y) fs.toList ys
  |_=>False
def zfD:Nat->Nat->Prop:=λ_ _=>False
def zcm (w:World) (cs:List Value) (ds:List D):Prop:=
 cs.length=ds.length/\ ∀ (j:Nat) (c:D),ds[j]? =some c-> ∃v,cs[j]? =some v/\Rep zfD w v c/\c.isCell=true
section
variable {H:Type} {enc:TypeId × Value->H} {P:Program} {w:World}
def zcm.one {v:Value} {c:D} (hr:Rep zfD w v c) (hc:c.isCell=true):zcm w [v] c.cells:=by
 rw[D.cells_one hc];refine⟨rfl,λj c' hj=> ?_⟩
 cases j with
 |zero=>simp only[yau,yaa]at hj;subst hj;exact⟨v,rfl,hr,hc⟩
 |succ j=>simp at hj
def zcm.append {cs:List Value} {k:Nat} {a b:List D} (ha:zcm w (cs.take k) a) (hb:zcm w (cs.drop k) b):zcm w cs (a++b):=by
 obtain⟨a1,a2⟩:=ha;obtain⟨b1,b2⟩:=hb;rw[yat]at a1;rw[yay]at b1;refine⟨by rw[yae];omega,λj c hj=> ?_⟩
 rcases ybF j a.length with hl | hl
 ·rw[yan hl]at hj
  obtain⟨v,h1,h2⟩:=a2 j c hj;rw[yaU]at h1;split at h1
  ·exact⟨v,h1,h2⟩
  ·cases h1
 ·rw[yah hl]at hj
  obtain⟨v,h1,h2⟩:=b2 _ c hj;rw[yaZ]at h1;have hlt:=lt_of_getElem? hj;have e:k+(j - a.length)=j:=by omega
  rw[e]at h1;exact⟨v,h1,h2⟩
def zjD {m fuel:Nat} {cs:List Value} (ih: ∀t cs d ps,zb4 P m t=true->DataW.trod enc P w 0 (λ_=>true) true fuel t cs=some (d,ps)-> ∃x,zbD P m t x/\zcm w cs x.cells):
 ∀ (fs:List Field) (n:Nat) (xs:List (DataW H × List MemPlace)),znC P n fs=some cs.length->n<=cs.length->(∀f∈fs,zb4 P m f.type=true)->
  (fs.mapM λf=>DataW.trod enc P w 0 (λ_=>true) true fuel f.type ((cs.drop f.offset).take (P.cellsOf f.type)))=some xs->
  ∃ys:List D,All2 (λf y=>zbD P m f.type y) fs ys/\zcm w (cs.drop n) (ys.flatMap D.cells)
 |[],n,xs,ht,hn,hp,hx=>by
  simp only[znC,yaa]at ht;subst ht;exact⟨[],.nil,by simp,λj c hj=>by simp at hj⟩
 |f::fs,n,xs,ht,hn,hp,hx=>by
  simp only[znC]at ht;split at ht
  ·rename_i ho
   simp only[yaI,ybz,yaT,ybR,yaa]at hx;obtain⟨⟨d,ps⟩,hd,xs',hxs,rfl⟩:=hx;obtain⟨y,hy,hc⟩:=ih _ _ _ _ (hp f (ybh ..)) hd;have hle:n+P.cellsOf f.type<=cs.length:=by
    have: ∀ (fs:List Field) (n m:Nat),znC P n fs=some m->n<=m:=by
     intro fs
     induction fs with
     |nil=>intro n m h;simp only[znC,yaa]at h;omega
     |cons g gs ih=>intro n m h;simp only[znC]at h;split at h
                    ·have:=ih _ _ h;omega
                    ·cases h
    exact this _ _ _ ht
   obtain⟨ys,h1,h2⟩:=zjD ih fs (n+P.cellsOf f.type) xs' ht hle (λg hg=>hp g (ybb _ hg)) hxs
   refine⟨y::ys,.cons hy h1, ?_⟩;rw[yaY];refine zcm.append (k:=P.cellsOf f.type) (by rw[<- ho];exact hc) ?_
   rw[yc7];exact h2
  ·cases ht
def zlk {m fuel:Nat} {e:TypeId} {b off:Nat} (hm:zb4 P m e=true) (ih: ∀t cs d ps,zb4 P m t=true->DataW.trod enc P w 0 (λ_=>true) true fuel t cs=some (d,ps)-> ∃x,zbD P m t x/\zcm w cs x.cells):
 ∀n:Nat,(∀i,i<n-> ∃x,(w.cells? 0 ((⟨b,off,none⟩:Addr).add (i*P.cellsOf e)) (P.cellsOf e)).bind (DataW.trod enc P w 0 (λ_=>true) true fuel e)=some x)->
  ∃xs:List D,xs.length=n/\(∀x∈xs,x.cells.length=P.cellsOf e)/\(∀x∈xs,zbD P m e x)/\(flat xs).length=n*P.cellsOf e/\
   ∀ (j:Nat) (c:D),(flat xs)[j]? =some c-> ∃v,w.cell? ⟨b,off+j,none⟩=some v/\Rep zfD w v c/\c.isCell=true
 |0,_=>⟨[],rfl,by simp,by simp,by simp[flat],λj c hj=>by simp[flat]at hj⟩
 |n+1,hx=>by
  obtain⟨xs,h1,h2,h3,h4,h5⟩:=zlk hm ih n λi hi=>hx i (by omega)
  obtain⟨⟨d,ps⟩,hd⟩:=hx n (by omega)
  simp only[yaT]at hd;obtain⟨cs,hcs,hd⟩:=hd;obtain⟨x,hx1,hx2,hx3⟩:=ih _ _ _ _ hm hd;simp only[World.cells?,yaj,ybm]at hcs;obtain⟨l1,l2⟩:=zaV hcs;rw[yb1]at l1;have hlen:x.cells.length=P.cellsOf e:=by rw[<- hx2,l1]
  have hfl:flat (xs++[x])=flat xs++x.cells:=by simp[flat]
  refine⟨xs++[x],by simp[h1],λy hy=> ?_,λy hy=> ?_, ?_,λj c hj=> ?_⟩
  ·rcases List.mem_append.1 hy with h | h
   ·exact h2 y h
   ·rw[List.mem_singleton.1 h];exact hlen
  ·rcases List.mem_append.1 hy with h | h
   ·exact h3 y h
   ·rw[List.mem_singleton.1 h];exact hx1
  ·rw[hfl,yae,h4,hlen,ya9,ycl]
  ·rw[hfl]at hj
   rcases ybF j (flat xs).length with hl | hl
   ·rw[yan hl]at hj
    exact h5 j c hj
   ·rw[yah hl]at hj
    obtain⟨v,g1,g2,g3⟩:=hx3 _ c hj;obtain⟨i,g4,g5⟩:=l2 _ v g1;have hi:i=j - (flat xs).length:=by
     have hlt:=lt_of_getElem? g4;rw[yb1]at hlt;rw[yaK hlt,yaa]at g4;exact g4.symm
    refine⟨v, ?_,g2,g3⟩;rw[<- g5];congr 1;rw[hi,h4];unfold Addr.add;split <;> split <;> simp <;> omega
def reads: ∀ (fuel m:Nat) (t:TypeId) (cs:List Value) (d:DataW H) (ps:List MemPlace),zb4 P m t=true->DataW.trod enc P w 0 (λ_=>true) true fuel t cs=some (d,ps)->
 ∃x,zbD P m t x/\zcm w cs x.cells:=by
 intro fuel
 induction fuel with
 |zero=>intro m t cs d ps _ h;simp[DataW.trod]at h
 |succ fuel ih=>
  intro m t cs d ps hm h;cases m with
  |zero=>simp[zb4]at hm
  |succ m=>
   have ih': ∀t cs d ps,zb4 P m t=true->DataW.trod enc P w 0 (λ_=>true) true fuel t cs=some (d,ps)-> ∃x,zbD P m t x/\zcm w cs x.cells:=λt cs d ps=>ih m t cs d ps
   simp only[zb4]at hm;simp only[zbD];unfold DataW.trod at h;split at h
   case h_1 b e=>rw[e];exact⟨.bool b,⟨b,rfl⟩,zcm.one (.bool b) rfl⟩
   case h_2 k k' n e=>
    rw[e];split at h
    ·rename_i hk
     obtain⟨rfl,hw⟩:=hk;exact⟨.int _ n,⟨n,rfl,hw⟩,zcm.one (.int _ n) rfl⟩
    ·cases h
   case h_4 s e=>
    rw[e];split at h
    ·rename_i hs
     exact⟨.str s,⟨s,rfl,hs⟩,zcm.one (.str s) rfl⟩
    ·cases h
   case h_7 e0 e=>rw[e];exact⟨.list [],⟨[],rfl,yaj _,λ_ h=>by cases h⟩,zcm.one (.nil none 0 λ_=>rfl) rfl⟩
   case h_8 e a len cap he=>
    rw[he]at hm ⊢;simp only[yas,yaA]at hm;simp only at h;split at h
    ·rename_i hc
     simp only[yaT]at h;obtain⟨els,hels,-⟩:=h;obtain⟨r1,r2⟩:=zaV hels;obtain⟨_,r3⟩:=zgD hels;rw[yb1]at r1;rcases ybs len with h0 | h0
     ·subst h0
      exact⟨.list [],⟨[],rfl,yaj _,λ_ h=>by cases h⟩,zcm.one (.nil _ _ λe=>by cases e) rfl⟩
     ·have hspot:a.spot=none:=by
       obtain⟨x0,_,hx0⟩:=r3 0 0 (by rw[yaK h0])
       simp only[yaT]at hx0;obtain⟨cs0,hcs0,-⟩:=hx0;simp only[World.cells?,yaj,ybm]at hcs0;obtain⟨_,q⟩:=zgD hcs0;obtain⟨v0,_,hv0⟩:=q 0 0 (by rw[yaK hm.1])
       simpa[Addr.add]using World.cell?_spot hv0
      obtain⟨b,off,sp⟩:=a;simp only at hspot;subst hspot;obtain⟨xs,h1,h2,h3,h4,h5⟩:=zlk hm.2 ih' (b:=b) (off:=off) len λi hi=>by
       obtain⟨x,_,hx⟩:=r3 i i (by rw[yaK hi])
       exact⟨x,hx⟩
      refine⟨.list xs,⟨xs,rfl,by omega,h3⟩,zcm.one ?_ rfl⟩
      refine .list b off len cap (P.cellsOf e) xs (λj=>(w.cell? ⟨b,off+j,none⟩).getD undef) h1.symm hc.2.1 h2 (λj c hj=> ?_) λj c hj=> ?_
      ·obtain⟨v,g1,g2,g3⟩:=h5 j c hj
       exact⟨by rw[g1];rfl,λh=>h,g3⟩
      ·obtain⟨v,g1,g2,g3⟩:=h5 j c hj
       rw[g1];exact g2
    ·cases h
   case h_9 cs' fs he=>
    rw[he]at hm ⊢;simp only[yas,ycO,ybS]at hm;split at h
    ·rename_i hlen
     simp only[yac]at h;obtain⟨xs,hxs,-⟩:=h;obtain⟨ys,h1,h2⟩:=zjD ih' fs.toList 0 xs (by rw[hlen];exact hm.1) (yaj _) hm.2 hxs
     exact⟨.agg (ys.flatMap D.cells),⟨ys,rfl,h1⟩,h2⟩
    ·cases h
   all_goals
    rename_i e
    first
     |(rw[e]at hm;cases hm)
     |(exfalso;simp_all)
def ztY {m:Nat} {t:TypeId} {v:Value} {d:DataW H} {ps:List MemPlace} (hm:zb4 P m t=true) (hd:DataW.Trod enc P w 0 (λ_=>true) true t v d ps):
 ∃x,zbD P m t x/\zcm w v.cells.toList x.cells:=by
 obtain⟨fuel,h⟩:=hd;exact reads fuel m t _ d ps hm h
end
end Go.Am
namespace Go.Am
open Go.RowKit Go.ChangeShapes Go.WideShapes
section
variable {H:Type} {enc:TypeId × Value->H} {P:Program} {w:World}
def zyZ {m b0:Nat} {t:TypeId} {v:Value} {d:DataW H} {ps:List MemPlace} (hm:zb4 P m t=true) (hok:Value.okWide P w .any b0 t v) (hd:DataW.Trod enc P w 0 (λ_=>true) true t v d ps):
 ∃x,zbD P m t x/\Rep zfD w v x:=by
 obtain⟨x,hx,hl,hc⟩:=ztY hm hd;refine⟨x,hx, ?_⟩;have one: ∀ {v:Value} {x:D},v.cells= #[v]->x.isCell=true->zcm w v.cells.toList x.cells->Rep zfD w v x:=λhv hx hc=>by
  rw[hv,D.cells_one hx]at hc;obtain⟨v',h1,h2,_⟩:=hc.2 0 _ rfl;simp only[yau,yaa]at h1;subst h1;exact h2
 cases m with
 |zero=>simp[zb4]at hm
 |succ m=>
  simp only[zb4]at hm;simp only[zbD]at hx;split at hm
  ·rename_i k he
   obtain⟨n,rfl⟩:=okWide_int he hok;rw[he]at hx;obtain⟨i,rfl,_⟩:=hx;exact one rfl rfl ⟨hl,hc⟩
  ·rename_i he
   obtain⟨n,rfl⟩:=okWide_bool he hok;rw[he]at hx;obtain⟨i,rfl⟩:=hx;exact one rfl rfl ⟨hl,hc⟩
  ·rename_i he
   obtain⟨n,rfl⟩:=okWide_string he hok;rw[he]at hx;obtain⟨i,rfl,_⟩:=hx;exact one rfl rfl ⟨hl,hc⟩
  ·rename_i e he
   obtain⟨a,l,c,rfl⟩:=okWide_slice he hok;rw[he]at hx;obtain⟨i,rfl,_⟩:=hx;exact one rfl rfl ⟨hl,hc⟩
  ·rename_i fs he
   obtain⟨cs,rfl,_⟩:=okWide_struct he hok;rw[he]at hx;obtain⟨ys,rfl,_⟩:=hx;have hcs: ∀ (j:Nat) (c:D),(ys.flatMap D.cells)[j]? =some c-> ∃v,cs[j]? =some v/\Rep zfD w v c/\c.isCell=true:=λj c hj=>by
    simpa[Value.cells,D.cells]using hc j c hj
   refine .agg cs _ (λj=>cs.getD j undef) (by simpa[Value.cells,D.cells]using hl) (λj c hj=> ?_) λj c hj=> ?_
   ·obtain⟨v,h1,h2,h3⟩:=hcs j c hj
    exact⟨by rw[h1,yap,h1];rfl,h3⟩
   ·obtain⟨v,h1,h2,h3⟩:=hcs j c hj
    rw[yap,h1];exact h2
  ·cases hm
def ztZ (P:Program) (m:Nat) (t:TypeId):Bool:=zb4 P m t && P.readableRec t && decide (t<P.types.size)
def zqu {m b0:Nat}: ∀ (ts:List TypeId) (vs:List Value) (ds:List (DataW H)) (ps:List MemPlace),(∀t∈ts,zb4 P m t=true)->(∀ (j:Nat) t v,ts[j]? =some t->vs[j]? =some v->Value.okWide P w .any b0 t v)->
 DataW.TrodAll enc P w 0 (λ_=>true) true ts vs ds ps-> ∃xs:List D,All2 (zbD P m) ts xs/\All2 (Rep zfD w) vs xs
 |[],vs,ds,ps,_,_,h=>by
  obtain⟨rfl,_,_⟩:=trodAll_nil h;exact⟨[],.nil,.nil⟩
 |t::ts,vs,ds,ps,hp,hok,h=>by
  obtain⟨v,vs',d,ds',p,q,rfl,rfl,rfl,hd,hr⟩:=trodAll_cons h;obtain⟨x,h1,h2⟩:=zyZ (hp t (ybh ..)) (hok 0 t v rfl rfl) hd;obtain⟨xs,h3,h4⟩:=zqu ts vs' ds' q (λt ht=>hp t (ybb _ ht)) (λj t v h1 h2=>hok (j+1) t v (by simpa using h1) (by simpa using h2)) hr
  exact⟨x::xs,.cons h1 h3,.cons h2 h4⟩
def znD (hl:laidOutB P=true) {W':World} (hb:Below w.heap.size w W'): ∀ (ts:List TypeId) (vs:List Value) (ds:List (DataW H)) (ps:List MemPlace),(∀t∈ts,P.readableRec t=true/\t<P.types.size)->
 DataW.TrodAll enc P w 0 (λ_=>true) true ts vs ds ps->(∀x∈ps,x.block<w.heap.size)->DataW.TrodAll enc P W' 0 (λb=>decide (b<w.heap.size)) true ts vs ds ps
 |[],vs,ds,ps,_,h,_=>by
  obtain⟨rfl,rfl,rfl⟩:=trodAll_nil h;exact h
 |t::ts,vs,ds,ps,hp,h,hlt=>by
  obtain⟨v,vs',d,ds',p,q,rfl,rfl,rfl,hd,hr⟩:=trodAll_cons h;obtain⟨k1,k2⟩:=hp t (ybh ..);exact trodAll_cons_mk (Below.trod hl k1 k2 hd hb λx hx=>hlt x (yb0 _ hx))
   (znD hl hb ts vs' ds' q (λt ht=>hp t (ybb _ ht)) hr λx hx=>hlt x (ycs _ hx))
def All2.length {α β:Type} {R:α->β->Prop}: ∀ {as:List α} {bs:List β},All2 R as bs->as.length=bs.length
 |_,_,.nil=>rfl
 |_,_,.cons _ h=>by simp[h.length]
def All2.get {α β:Type} {R:α->β->Prop}: ∀ {as:List α} {bs:List β},All2 R as bs-> ∀ (j:Nat) (b:β),bs[j]? =some b-> ∃a,as[j]? =some a/\R a b
 |_,_,.nil,j,b,hj=>by simp at hj
 |_,_,.cons h hs,0,b,hj=>by simp only[yau,yaa]at hj;subst hj;exact⟨_,rfl,h⟩
 |_,_,.cons _ hs,j+1,b,hj=>by simpa using hs.get j b (by simpa using hj)
def zt0 {run:Run} {f:FuncId} {G:Nat->Option (List D)} (hrun:zdk P G run) {xs:List D} {h':List Obj} (hx:run f (xs.map .d) []=some ([.d (.bool true)],h')) {vs:List Value} (hv:All2 (Rep zfD w) vs xs)
 (hg:GRel zfD G [] [] w):Calls P f vs.toArray w λe w'=>e= .returned (.bool true)/\Below w.heap.size w w':=by
 have hmut: ∀b j,Mut zfD [] [] b j->zfD b j:=by
  rintro b j (h | ⟨id,c,o,h,_⟩)
  ·exact h
  ·simp at h
 have H:HRel zfD [] [] w:=⟨rfl,λid o ho=>by simp at ho,λb j h=>h.elim,λ_ _ _ _ h=>by simp at h,λ_ _ _ _ _ h=>by simp at h⟩
 have ha:zbK zfD [] [] w vs (xs.map .d):=⟨by simp[hv.length],λj A hj=>by
  simp only[yax,yac]at hj;obtain⟨x,hj,rfl⟩:=hj;obtain⟨v,h1,h2⟩:=hv.get j x hj;exact⟨v,h1,h2.mono λb j v hm hc=>⟨hc,λh=>hm (hmut b j h)⟩⟩⟩
 refine (hrun f _ _ _ _ hx zfD [] w vs H hg ha).mono ?_
 rintro e w' ⟨ρ',rv,rfl,st,us,l1,l2,rfl⟩
 obtain⟨u,h1,h2⟩:=l2 0 _ rfl;have:us=[u]:=by
  match us,l1,h1 with
  |[u'],_,h1=>simpa using h1
 subst this;refine⟨?_,st.fr.os,st.fr.tape,st.fr.output,st.fr.size,λk hk=>(st.fr.block k hk λid c=>by simp).1⟩
 have h3:Rep (Mut zfD ρ' h') w' u (.bool true):=h2;cases h3;rfl
def znE {run:Run} {f:FuncId} {fn:Func} {s:ChangeSpec} {m:Nat} {tb:TypeId} {G:Nat->Option (List D)} {W:World} {base:Nat} {args:Array Value} {ds gs:List (DataW H)} {before:List MemPlace}
 (hl:laidOutB P=true) (hp:fn.params.toList.all (ztZ P m)=true) (hvars:s.vars=[]) (hres:fn.resultTypes= #[tb]) (htb:P.underlying tb=some .bool)
 (hspec: ∀ds:List (DataW H),ds.length=fn.params.size->s.fn H ds= { results:=[.lit (.bool true)],args:=ds,vars:=[] })
 (hrun:zdk P G run) (hx: ∀xs:List D,All2 (zbD P m) fn.params.toList xs-> ∃h',run f (xs.map .d) []=some ([.d (.bool true)],h')) (hg:GRel zfD G [] [] W)
 (hval: ∀ (j:Nat) t v,fn.params[j]? =some t->args[j]? =some v->Value.okWide P W .any base t v)
 (hW:DataW.Whole enc P fn.params.toList s.vars false W args.toList ds gs before):
 Calls P f args W λe W'=> ∃v,e= .returned v/\s.post enc P fn false true false false W args v W':=by
 have hW':=hW;have hlt: ∀x∈before,x.block<W.heap.size:=λx hx=>hW'.lt x hx
 obtain⟨p,q,hA,hV,rfl,_,_⟩:=hW;rw[hvars]at hV;obtain⟨rfl,rfl⟩:gs=[]/\q=[]:=by
  cases gs with
  |nil=>exact⟨rfl,hV⟩
  |cons g gs=>simp[DataW.TrodVars]at hV
 simp only[ybS,ztZ,yas,yaA]at hp;obtain⟨xs,h1,h2⟩:=zqu fn.params.toList args.toList ds p (λt ht=>(hp t ht).1.1) (λj t v h1 h2=>hval j t v (by simpa using h1) (by simpa using h2)) hA
 obtain⟨h',hr⟩:=hx xs h1;have hlen:ds.length=fn.params.size:=by
  have: ∀ (ts:List TypeId) (vs:List Value) (ds:List (DataW H)) (ps:List MemPlace),DataW.TrodAll enc P W 0 (λ_=>true) true ts vs ds ps->ds.length=ts.length:=by
   intro ts
   induction ts with
   |nil=>intro vs ds ps h;obtain⟨_,rfl,_⟩:=trodAll_nil h;rfl
   |cons t ts ih=>
    intro vs ds ps h;obtain⟨v,vs',d,ds',p,q,rfl,rfl,rfl,hd,hr⟩:=trodAll_cons h;simp[ih _ _ _ hr]
  simpa using this _ _ _ _ hA
 have:=zt0 hrun hr h2 hg;rw[ydl]at this;refine this.mono ?_
 rintro e W' ⟨rfl,hb⟩
 have hs:=hspec ds hlen;have hds:ds++([]:List (DataW H))=ds:=yaq ds;refine⟨_,rfl,ds,[],p++[],[],p,[],hW', ?_, ?_, ?_,hb.frame _,λh=>by cases h⟩
 ·rw[hds,hs,hres]
  exact trodAll_cons_mk (shut_bool htb true) rfl
 ·rw[hds,hs]
  exact znD hl hb _ _ _ _ (λt ht=>⟨(hp t ht).1.2,(hp t ht).2⟩) hA λx hx=>hlt x (yb0 _ hx)
 ·rw[hds,hs,hvars]
  rfl
end
end Go.Am
namespace Go.Am
def Ev {α:Type} (A:Nat->Option α) (x:Option α):Prop:= ∀r,x=some r-> ∃n, ∀m,n<=m->A m=some r
def Ev.const {α:Type} (x:Option α):Ev (λ_=>x) x:=λ_ hr=>⟨0,λ_ _=>hr⟩
def Ev.obind {α β:Type} {A:Nat->Option α} {x:Option α} {B:Nat->α->Option β} {b:α->Option β} (ha:Ev A x) (hb: ∀a,Ev (λm=>B m a) (b a)):
 Ev (λm=>Am.obind (A m) (B m)) (Am.obind x b):=λr hr=>by
 cases x with
 |none=>cases hr
 |some a=>
  obtain⟨n1,h1⟩:=ha a rfl;obtain⟨n2,h2⟩:=hb a r hr;exact⟨max n1 n2,λm hm=>by simp only[h1 m (by omega)];exact h2 m (by omega)⟩
def Ev.onNormal {A:Nat->Res} {x:Res} {B:Nat->Slots->List Obj->Res} {b:Slots->List Obj->Res} (ha:Ev A x) (hb: ∀s h,Ev (λm=>B m s h) (b s h)):
 Ev (λm=>Am.onNormal (A m) (B m)) (Am.onNormal x b):=λr hr=>by
 cases x with
 |none=>cases hr
 |some a=>
  obtain⟨o,s,h⟩:=a;obtain⟨n1,h1⟩:=ha _ rfl;cases o with
  |normal=>
   obtain⟨n2,h2⟩:=hb s h r hr;exact⟨max n1 n2,λm hm=>by simp only[h1 m (by omega),Am.onNormal];exact h2 m (by omega)⟩
  |exit i=>exact⟨n1,λm hm=>by simp only[h1 m hm];exact hr⟩
  |ret=>exact⟨n1,λm hm=>by simp only[h1 m hm];exact hr⟩
def Ev.leave {A:Nat->Res} {x:Res} (id:Nat) (ha:Ev A x):Ev (λm=>Am.leave id (A m)) (Am.leave id x):=λr hr=>by
 cases x with
 |none=>cases hr
 |some a=>
  obtain⟨n1,h1⟩:=ha _ rfl;exact⟨n1,λm hm=>by simp only[h1 m hm];exact hr⟩
def Ev.branch {A B:Nat->Res} {x y:Res} (c:V) (ha:Ev A x) (hb:Ev B y):Ev (λm=>Am.branch c (A m) (B m)) (Am.branch c x y):=by
 unfold Am.branch;split
 ·rename_i t
  cases t with
  |true=>exact ha
  |false=>exact hb
 ·exact Ev.const none
def Ev.iter {A:Nat->Slots->List Obj->Res} {x:Slots->List Obj->Res} (ha: ∀s h,Ev (λm=>A m s h) (x s h)): ∀ (k:Nat) (s:Slots) (h:List Obj),Ev (λm=>Am.iter (A m) k s h) (Am.iter x k s h)
 |0,_,_=>Ev.const none
 |k+1,s,h=>by
  simp only[Am.iter];exact Ev.onNormal (ha s h) λs h=>Ev.iter ha k s h
def Ev.loops {A:Nat->Slots->List Obj->Res} {x:Slots->List Obj->Res} (ha: ∀s h,Ev (λm=>A m s h) (x s h)) (s:Slots) (h:List Obj):Ev (λm=>Am.loops (A m) s h) (Am.loops x s h):=λr hr=>by
 obtain⟨k,hk⟩:=zc7.1 hr;obtain⟨n,hn⟩:=Ev.iter ha k s h r hk;exact⟨n,λm hm=>zc7.2 ⟨k,hn m hm⟩⟩
def zhF (R:Nat->Run) (R':Run):Prop:= ∀f args h,Ev (λm=>R m f args h) (R' f args h)
section
variable {P:Program} {G:Nat->Option (List D)} {K:zgm} {S:zgl} {R:Nat->Run} {R':Run}
def Ev.callWith (hR:zhF R R') (rf:Bool) (f:FuncId) (args:List V) (h:List Obj):Ev (λm=>Am.callWith rf (R m) f args h) (Am.callWith rf R' f args h):=by
 unfold Am.callWith;cases zcb rf h args with
 |none=>exact Ev.const none
 |some p=>
  obtain⟨as,h1⟩:=p;simp only;cases as.mapM (V.ren (zar (za8 h1 (zal [] (as.flatMap V.ids))))) with
  |none=>exact Ev.const none
  |some as2=>
   cases zax h1 (zar (za8 h1 (zal [] (as.flatMap V.ids)))) (za8 h1 (zal [] (as.flatMap V.ids))) with
   |none=>exact Ev.const none
   |some hin=>
    simp only;intro r hr;cases hx:R' f as2 hin with
    |none=>rw[hx]at hr;cases hr
    |some q=>
     rw[hx]at hr;obtain⟨n,hn⟩:=hR f as2 hin q hx;exact⟨n,λm hm=>by simp only[hn m hm];exact hr⟩
def Ev.callThaw (hR:zhF R R') (f:FuncId) (args:List V) (h:List Obj):Ev (λm=>Am.callThaw (R m) f args h) (Am.callThaw R' f args h):=by
 unfold Am.callThaw;cases zcb false h args with
 |none=>exact Ev.const none
 |some p=>
  obtain⟨as,h1⟩:=p;simp only;intro r hr;cases hx:R' f as [] with
  |none=>rw[hx]at hr;cases hr
  |some q=>
   rw[hx]at hr;obtain⟨n,hn⟩:=hR f as [] q hx;exact⟨n,λm hm=>by simp only[hn m hm];exact hr⟩
def Ev.callFresh (hR:zhF R R') (f:FuncId) (args:List V) (h:List Obj):Ev (λm=>Am.callFresh (R m) f args h) (Am.callFresh R' f args h):=by
 unfold Am.callFresh;cases zcb false h args with
 |none=>exact Ev.const none
 |some p=>
  obtain⟨as,h1⟩:=p;simp only;intro r hr;cases hx:R' f as [] with
  |none=>rw[hx]at hr;cases hr
  |some q=>
   rw[hx]at hr;obtain⟨n,hn⟩:=hR f as [] q hx;exact⟨n,λm hm=>by simp only[hn m hm];exact hr⟩
def Ev.calleeV (hR:zhF R R') (s:Slots) (h:List Obj) (f:V) (args:List V):Ev (λm=>Am.calleeV G s h (R m) f args) (Am.calleeV G s h R' f args):=by
 unfold Am.calleeV;split
 ·split
  ·split
   ·intro r hr
    rename_i g _ _;cases hx:Am.callWith (zab G g) R' g args h with
    |none=>rw[hx]at hr;simp[zdQ]at hr
    |some q=>
     obtain⟨n,hn⟩:=Ev.callWith hR (zab G g) g args h q hx;refine⟨n,λm hm=> ?_⟩
     have e1:Am.callWith (zab G g) (R m) g args h=some q:=hn m hm
     show zdQ h (Am.callWith (zab G g) (R m) g args h)=some r
     rw[e1,<- hx];exact hr
   split
   ·intro r hr
    rename_i g _ _ _;obtain⟨q,hq,rfl⟩:=Option.map_eq_some_iff.1 hr;have hE:Ev (λm=>if h.all zm0=true then Am.callFresh (R m) g args h else Am.callWith (zab G g) (R m) g args h) (if h.all zm0=true then Am.callFresh R' g args h else Am.callWith (zab G g) R' g args h):=by
     split
     ·exact Ev.callFresh hR g args h
     ·exact Ev.callWith hR (zab G g) g args h
    obtain⟨n,hn⟩:=hE q hq;refine⟨n,λm hm=> ?_⟩
    have h1:=hn m hm;simp only at h1
    show Option.map _ _=_
    rw[h1];rfl
   split
   ·intro r hr
    rename_i g _ _ _ _;cases hx:Am.callWith (zab G g) R' g args h with
    |none=>rw[hx]at hr;cases hr
    |some q=>
     obtain⟨n,hn⟩:=Ev.callWith hR (zab G g) g args h q hx;refine⟨n,λm hm=> ?_⟩
     have e1:Am.callWith (zab G g) (R m) g args h=some q:=hn m hm
     show zl7 (Am.callWith (zab G g) (R m) g args h)=some r
     rw[e1,<- hx];exact hr
   ·exact Ev.callThaw hR _ _ _
  ·exact Ev.callWith hR _ _ _ _
 ·split
  ·exact Ev.callWith hR _ _ _ _
  ·exact Ev.const none
 ·exact Ev.const none
def Ev.opV (hR:zhF R R') (s:Slots) (h:List Obj) (o:Oper):Ev (λm=>Am.opV P G (R m) s h o) (Am.opV P G R' s h o):=by
 unfold Am.opV;cases o.op with
 |call c=>
  simp only;cases c.callee with
  |builtin b=>exact Ev.const _
  |invoke _ _=>exact Ev.const _
  |value f=>exact Ev.calleeV hR _ _ _ _
 |makeFunc fn first cap=>cases fn <;> exact Ev.const _
 |next it b=>cases b <;> exact Ev.const _
 |_=>exact Ev.const _
def Ev.blindV (hR:zhF R R') (hv:List Obj) (s:Slots) (h:List Obj) (o:Oper):Ev (λm=>zcc h (Am.blindV P G (R m) hv s o)) (zcc h (Am.blindV P G R' hv s o)):=by
 have key:Ev (λm=>Am.blindV P G (R m) hv s o) (Am.blindV P G R' hv s o):=by
  unfold Am.blindV;cases o.op with
  |call c=>
   simp only;cases c.callee with
   |value f=>
    simp only;cases ev G s f with
    |d x=>
     cases x with
     |fn g=>
      simp only;split
      ·exact Ev.const _
      ·unfold zfd
       split
       ·exact Ev.obind (hR _ _ _) λ_=>Ev.const _
       ·exact Ev.const _
     |_=>exact Ev.const _
    |_=>exact Ev.const _
   |builtin b=>
    generalize List.map (ev G s) c.args.toList=l;generalize c.argTypes.toList=t;cases b <;> cases t <;> cases l <;> exact Ev.const _
   |invoke r m=>
    generalize List.map (ev G s) c.args.toList=l;generalize c.argTypes.toList=t;cases t <;> cases l <;> exact Ev.const _
  |_=>exact Ev.const _
 intro r hr;cases hx:Am.blindV P G R' hv s o with
 |none=>rw[hx]at hr;cases hr
 |some x=>
  rw[hx]at hr;obtain⟨n,hn⟩:=key x hx;exact⟨n,λm hm=>by simp only[hn m hm];exact hr⟩
def Ev.opsV (hR:zhF R R') (all:List Oper) (hint:List Nat) (hv:List Obj): ∀ (ops:List Oper) (i:Nat) (s:Slots) (h:List Obj),Ev (λm=>Am.opsV P G (R m) all hint hv i ops s h) (Am.opsV P G R' all hint hv i ops s h)
 |[],_,_,_=>Ev.const _
 |o::ops,i,s,h=>by
  simp only[Am.opsV];refine Ev.obind (Ev.const _) λw=> ?_
  cases w with
  |false=>exact Ev.opsV hR all hint hv ops _ _ _
  |true=>
   simp only[ybm];refine Ev.obind ?_ λp=>Ev.opsV hR all hint hv ops _ _ _
   cases hint.contains i with
   |true=>exact Ev.blindV hR hv s h o
   |false=>
    simp only[yaD,ybg];split
    ·exact Ev.opV hR s h o
    ·exact Ev.const _
def Ev.opsO (hR:zhF R R') (all:List Oper): ∀ (ops:List Oper) (s:Slots) (h:List Obj),Ev (λm=>Am.opsO P G (R m) all ops s h) (Am.opsO P G R' all ops s h)
 |[],_,_=>Ev.const _
 |o::ops,s,h=>by
  simp only[Am.opsO];refine Ev.obind (Ev.const _) λw=> ?_
  cases w with
  |false=>exact Ev.opsO hR all ops _ _
  |true=>
   simp only[ybm];refine Ev.obind ?_ λp=>Ev.opsO hR all ops _ _
   unfold Am.opM;cases zi3 P G s h o with
   |none=>exact Ev.opV hR s h o
   |some r=>exact Ev.const _
def Ev.rangeV {A:Nat->List D->Slots->List Obj->Res} {x:List D->Slots->List Obj->Res} (ha: ∀z s h,Ev (λm=>A m z s h) (x z s h)) (k:Nat) (keep:List (Nat × Nat)):
 ∀ (l:List (List D)) (s:Slots) (h:List Obj),Ev (λm=>Am.rangeV (A m) k keep l s h) (Am.rangeV x k keep l s h)
 |[],s,h=>Ev.const _
 |z::l,s,h=>by
  intro r hr;simp only[Am.rangeV]at hr ⊢;cases hx:x z s h with
  |none=>rw[hx]at hr;cases hr
  |some q=>
   obtain⟨o,s1,h1⟩:=q;rw[hx]at hr;obtain⟨n1,e1⟩:=ha z s h _ hx;cases o with
   |normal=>
    obtain⟨n2,e2⟩:=Ev.obind (Ev.const (zew k keep s h1)) (λ(p:Slots × List Obj)=>Ev.rangeV ha k keep l p.1 p.2) r hr
    exact⟨max n1 n2,λm hm=>by simp only[e1 m (by omega)];exact e2 m (by omega)⟩
   |exit i=>exact⟨n1,λm hm=>by simp only[e1 m hm];exact hr⟩
   |ret=>exact⟨n1,λm hm=>by simp only[e1 m hm];exact hr⟩
def zgM (I:(Slots->List Obj->Res)->Slots->List Obj->Res):Prop:= ∀ {A:Nat->Slots->List Obj->Res} {x:Slots->List Obj->Res},(∀s h,Ev (λm=>A m s h) (x s h))-> ∀s h,Ev (λm=>Am.loops (A m) s h) (I x s h)
def zgM.loops:zgM Am.loops:=λha s h=>Ev.loops ha s h
def zgM.iter (k:Nat):zgM (λx=>Am.iter x k):=λha s h r hr=>by
 obtain⟨n,hn⟩:=Ev.iter ha k s h r hr;exact⟨n,λm hm=>zc7.2 ⟨k,hn m hm⟩⟩
variable {I:(Slots->List Obj->Res)->Slots->List Obj->Res}
def Ev.codeV (hI:zgM I) (hR:zhF R R') (F:FuncId): ∀ (c:Code) (k b:Nat) (s:Slots) (h:List Obj),Ev (λm=>Am.codeV P G K S (R m) Am.loops F k b c s h) (Am.codeV P G K S R' I F k b c s h):=by
 intro c
 induction c with
 |skip=>intro k b s h;exact Ev.const _
 |region id ops draw=>
  intro k b s h;simp only[Am.codeV,zi4];split
  ·exact Ev.obind (Ev.opsO hR _ _ _ _) λ_=>Ev.const _
  ·exact Ev.obind (Ev.const _) λ_=>Ev.obind (Ev.opsV hR _ _ _ _ _ _ _) λ_=>Ev.const _
 |seq x y ihx ihy=>intro k b s h;simp only[Am.codeV];exact Ev.onNormal (ihx k b s h) λs h=>ihy k b s h
 |cond c x y ihx ihy=>intro k b s h;simp only[Am.codeV];exact Ev.branch _ (ihx k b s h) (ihy k b s h)
 |block id c ih=>intro k b s h;simp only[Am.codeV];exact Ev.leave id (ih k id s h)
 |loop c ih=>
  intro k b s h;simp only[Am.codeV];split
  ·exact hI (λs h=>Ev.obind (Ev.const _) λ(p:Slots × List Obj)=>ih k b p.1 p.2) s h
  ·exact hI (λs h=>ih k b s h) s h
 |rangeFunc f ps x y ihx ihy=>
  intro k b s h;simp only[Am.codeV];cases K F b with
  |none=>exact Ev.const _
  |some keep=>
   cases ps.toList with
   |nil=>exact Ev.const _
   |cons p l=>
    cases l with
    |cons _ _=>exact Ev.const _
    |nil=>
     refine Ev.obind (Ev.const _) λit=> ?_
     cases zfW k keep s h it.1 && zfW k keep s h it.2.1 with
     |false=>exact Ev.const _
     |true=>
      refine Ev.obind (Ev.const _) λq=>Ev.rangeV (λz s h=> ?_) _ _ _ _ _
      intro r hr;cases hx:Am.codeV P G K S R' I F h.length b x ((p,.d (.list z))::s) h with
      |none=>rw[hx]at hr;cases hr
      |some q=>
       obtain⟨o,s1,h1⟩:=q;rw[hx]at hr;obtain⟨n1,e1⟩:=ihx h.length b _ _ _ hx;cases o with
       |normal=>
        obtain⟨n2,e2⟩:=ihy h.length b s1 h1 r hr;exact⟨max n1 n2,λm hm=>by simp only[e1 m (by omega)];exact e2 m (by omega)⟩
       |exit i=>cases hr
       |ret=>cases hr
 |_=>intro k b s h;simp only[Am.codeV];exact Ev.const _
def Ev.bodyV (hI:zgM I) (hR:zhF R R') (f:FuncId) (args:List V) (h:List Obj):Ev (λm=>Am.bodyV P G K S (R m) Am.loops f args h) (Am.bodyV P G K S R' I f args h):=by
 unfold Am.bodyV;cases P.funcs[f]? with
 |none=>exact Ev.const _
 |some fn=>
  simp only;cases fn.body with
  |none=>exact Ev.const _
  |some c=>
   simp only;split
   ·intro r hr
    cases hx:Am.codeV P G K S R' I f h.length 0 c (zaq 0 args) h with
    |none=>rw[hx]at hr;cases hr
    |some q=>
     rw[hx]at hr;obtain⟨n,hn⟩:=Ev.codeV hI hR f c h.length 0 _ _ q hx;exact⟨n,λm hm=>by
     have:=hn m hm;simp only at this;simp only[this];exact hr⟩
   ·exact Ev.const _
def Ev.joinV {A B:Nat->Option (List V × List Obj)} {x y:Option (List V × List Obj)} (ha:Ev A x) (hb:Ev B y):Ev (λm=>Am.joinV (A m) (B m)) (Am.joinV x y):=λr hr=>by
 obtain⟨h1,h2⟩:=zlj hr;obtain⟨n1,k1⟩:=ha r h1;obtain⟨n2,k2⟩:=hb r h2;refine⟨max n1 n2,λm hm=> ?_⟩
 simp only[k1 m (by omega),k2 m (by omega),Am.joinV,ybm]
def Ev.bodyS (hI:zgM I) (hR:zhF R R') (f:FuncId) (args:List V) (h:List Obj):Ev (λm=>Am.bodyS P G K S (R m) Am.loops f args h) (Am.bodyS P G K S R' I f args h):=by
 unfold Am.bodyS;split
 ·exact Ev.bodyV hI hR _ _ _
 split
 ·exact Ev.const _
 split
 ·exact Ev.joinV (Ev.bodyV hI hR _ _ _) (Ev.bodyV hI hR _ _ _)
 ·exact Ev.bodyV hI hR _ _ _
variable (P G K S)
noncomputable def zwH:Nat->Run
 |0=>λ_ _ _=>none
 |n+1=>Am.bodyS P G K S (zwH n) Am.loops
open Classical in
noncomputable def zeA:Run:=λf args h=>if e: ∃n r, ∀m,n<=m->zwH P G K S m f args h=some r then some (Classical.choose (ybu e)) else none
variable {P G K S}
def zjE {f:FuncId} {args:List V} {h:List Obj} {r:List V × List Obj}:zeA P G K S f args h=some r↔ ∃n, ∀m,n<=m->zwH P G K S m f args h=some r:=by
 unfold zeA;constructor
 ·intro hr
  split at hr
  ·rename_i e
   simp only[yaa]at hr;subst hr;exact⟨_,ybu (ybu e)⟩
  ·cases hr
 ·rintro ⟨n,hn⟩
  have e: ∃n r, ∀m,n<=m->zwH P G K S m f args h=some r:=⟨n,r,hn⟩;rw[dif_pos e];have h2:=ybu (ybu e);have h3:=hn (max n (Classical.choose e)) (by omega)
  have h4:=h2 (max n (Classical.choose e)) (by omega)
  rw[h3]at h4;simpa using h4.symm
def zy0:zhF (zwH P G K S) (zeA P G K S):=λ_ _ _ _ hr=>zjE.1 hr
def zgN {f:FuncId} {args:List V} {h:List Obj} {r:List V × List Obj} (hr:bodyS P G K S (zeA P G K S) loops f args h=some r):zeA P G K S f args h=some r:=by
 obtain⟨n,hn⟩:=Ev.bodyS zgM.loops zy0 f args h r hr;refine zjE.2 ⟨n+1,λm hm=> ?_⟩
 obtain⟨k,rfl⟩: ∃k,m=k+1:=⟨m - 1,by omega⟩
 exact hn k (by omega)
def znF {f:FuncId} (hs:splits G f=false):zbs G f=0:=by
 unfold zbs;rw[hs];rfl
def zy1 {f:FuncId} {args:List V} {h:List Obj} {r:List V × List Obj} (hs:splits G f=false\/zbs G f=0/\ ∀zav,args≠ .d (.list [])::zav) (hr:bodyV P G K S (zeA P G K S) loops f args h=some r):zeA P G K S f args h=some r:=by
 refine zgN ?_;unfold bodyS;have h0:zbs G f=0:=hs.elim znF λhs=>hs.1
 rw[yaf (by simp[h0]),yaf (by simp[h0])]
 split
 ·rename_i e
  rcases hs with hs | hs
  ·rw[hs]at e;cases e
  ·exact absurd rfl (hs.2 _)
 ·exact hr
def znG {f:FuncId} {args:List V} {h:List Obj} {r:List V × List Obj} (k:Nat) (hs:zbs G f=k+1) (hr:zm7 (k+1) args h=some r) (hk:k<2:=by decide):zeA P G K S f args h=some r:=by
 refine zgN ?_;unfold bodyS;rw[hs,yaf (by omega),yai (by simp)]
 exact hr
def zwI {f:FuncId} {args:List V} {h:List Obj} {r:List V × List Obj} (hs:zbs G f=3) (hr:bodyV P (zoM G) K S (zeA P G K S) loops f args h=some r):zeA P G K S f args h=some r:=by
 refine zgN ?_;unfold bodyS;rw[yai hs];exact hr
def zr7 {f:FuncId} {zav:List V} {h:List Obj} {r:List V × List Obj} (hs:splits G f=true) (h0:zbs G f=0) (h1:bodyV P G K S (zeA P G K S) loops f (.nilS::zav) h=some r) (h2:bodyV P G K S (zeA P G K S) loops f (.emp::zav) h=some r):
 zeA P G K S f (.d (.list [])::zav) h=some r:=by
 refine zgN ?_;unfold bodyS;rw[yaf (by simp[h0]),yaf (by simp[h0])]
 simp only[hs,h1,h2,joinV,ybm]
abbrev zr8:=FuncId × List V × List Obj × (List V × List Obj)
def zt1:List zr8->FuncId->List V->List Obj->Option (List V × List Obj)
 |[],_,_,_=>none
 |e::T,f,a,h=>if e.1=f/\e.2.1=a/\e.2.2.1=h then some e.2.2.2 else zt1 T f a h
def zwJ (P:Program) (G:Nat->Option (List D)) (K:zgm) (S:zgl) (T:List zr8) (k:Nat):Nat->Run
 |0=>zt1 T
 |n+1=>λf a h=>
  match zt1 T f a h with
  |some r=>some r
  |none=>Am.bodyS P G K S (zwJ P G K S T k n) (λx=>Am.iter x k) f a h
variable (P G K S) in
def Tbl (T:List zr8):Prop:= ∀e∈T,zeA P G K S e.1 e.2.1 e.2.2.1=some e.2.2.2
def t0:Tbl P G K S []:=λe he=>by cases he
def t1 {f:FuncId} {a:List V} {h:List Obj} {r:List V × List Obj} {T:List zr8} (hr:zeA P G K S f a h=some r) (t:Tbl P G K S T):Tbl P G K S ((f,a,h,r)::T):=λe he=>by
 rcases List.mem_cons.1 he with rfl | he
 ·exact hr
 ·exact t e he
def zhG: ∀ {T:List zr8} {f:FuncId} {a:List V} {h:List Obj} {r:List V × List Obj},Tbl P G K S T->zt1 T f a h=some r->zeA P G K S f a h=some r
 |[],_,_,_,_,_,hr=>by cases hr
 |e::T,f,a,h,r,t,hr=>by
  unfold zt1 at hr;split at hr
  ·rename_i he
   obtain⟨rfl,rfl,rfl⟩:=he;simp only[yaa]at hr;subst hr;exact t e (ybh ..)
  ·exact zhG (λe he=>t e (ybb _ he)) hr
def zae {T:List zr8} (t:Tbl P G K S T) (k:Nat): ∀ (n:Nat) {f:FuncId} {args:List V} {h:List Obj} {r:List V × List Obj},zwJ P G K S T k n f args h=some r->zeA P G K S f args h=some r
 |0,_,_,_,_,hr=>zhG t hr
 |n+1,f,args,h,r,hr=>by
  unfold zwJ at hr;split at hr
  ·rename_i hl
   simp only[yaa]at hr;subst hr;exact zhG t hl
  ·have e:zhF (λ_=>zeA P G K S) (zwJ P G K S T k n):=λ_ _ _ r hr=>⟨0,λ_ _=>zae t k n hr⟩
   obtain⟨m,hm⟩:=Ev.bodyS (zgM.iter k) e f args h r hr;exact zgN (hm m (yag _))
def zpo (hm:P.follows .mixedOrders=true) (h9:zdy G=false) (hso: ∀g,znA P G g) (hit: ∀g,zdo G g=true->zf1 P g): ∀n,zdk P G (zwH P G K S n)/\zcz P (zwH P G K S n)
 |0=>⟨λ_ _ _ _ _ hr=>by simp[zwH]at hr,λ_ _ _ _ hr=>by simp[zwH]at hr⟩
 |n+1=>zwG h9 hso hit hm (zpo hm h9 hso hit n).1 (zpo hm h9 hso hit n).2 λ_ _ _ _ _ _ _ hc=>zr5 hc
def zy2 (hm:P.follows .mixedOrders=true) (h9:zdy G=false) (hso: ∀g,znA P G g) (hit: ∀g,zdo G g=true->zf1 P g):zdk P G (zeA P G K S):=λf args h rets h' hr=>by
 obtain⟨n,hn⟩:=zjE.1 hr;exact (zpo hm h9 hso hit n).1 f args h rets h' (hn n (yag _))
noncomputable def zfE (k:Nat) (keep:List (Nat × Nat)) (b:Slots->List Obj->Res) (s:Slots) (h:List Obj):Res:=loops (λs h=>obind (zew k keep s h) λp=>b p.1 p.2) s h
def zqv (k:Nat) (keep:List (Nat × Nat)) (b:Slots->List Obj->Res) (s:Slots) (h:List Obj):
 zfE k keep b s h=obind (zew k keep s h) λp=>onNormal (b p.1 p.2) (zfE k keep b):=by
 show loops _ s h=_
 rw[zwF];cases zew k keep s h <;> rfl
def zr9 {run:Run} {F:FuncId} {k b:Nat} {c:Code} {s:Slots} {h:List Obj} {keep:List (Nat × Nat)} (hk:K F b=some keep):
 codeV P G K S run loops F k b (.loop c) s h=zfE k keep (codeV P G K S run loops F k b c) s h:=by
 simp only[codeV,hk];rfl
end
end Go.Am
namespace Go.Am
attribute [simp] zeB zcc calleeV zdR eqV zb2 zkS zmZ zoU zrC zkT ziM zwi
attribute [simp] zmW zaE zDB ziL ztx unD zhp za0
attribute [simp] zgk zdm zcu zmY zch zfc zqd zqe zbA zx1 zoV min2 max2 natOf? bound? bounds? zh7
attribute [simp] zcb zby zaY zaH zal zd7 one zbk
attribute [simp] za8 zfV zb5
attribute [simp] zrE zhr
attribute [simp] zbF V.storable V.cellOk
@[simp] def zEF {α:Type} (i:Nat):([]:List α)[i]? =none:=rfl
@[simp] def zDD {α:Type} (x:α) (l:List α):(x::l)[0]? =some x:=rfl
@[simp] def zDE {α:Type} (x:α) (l:List α) (i:Nat):(x::l)[i+1]? =l[i]? :=rfl
@[simp] def zDF (rf:Bool) (h:List Obj) (a b:Nat):zfJ rf h (.arr a b)=bif rf then some (.arr a b,h) else (zby h (.arr a b)).map λp=>(.d p.1,p.2):=by cases rf <;> rfl
@[simp] def zEG (rf:Bool) (h:List Obj) (a b c d:Nat):zfJ rf h (.sl a b c d)=bif rf then some (.sl a b c d,h) else (zby h (.sl a b c d)).map λp=>(.d p.1,p.2):=by cases rf <;> rfl
@[simp] def zDG (rf:Bool) (h:List Obj) (a b:Nat):zfJ rf h (.ptr a b)=some (.ptr a b,h):=rfl
@[simp] def zEH (rf:Bool) (h:List Obj) (a:Nat):zfJ rf h (.mp a)=some (.mp a,h):=rfl
@[simp] def zDH (rf:Bool) (h:List Obj) (f:FuncId) (l:List V):zfJ rf h (.clo f l)=(if f=1000000000 then (zaH h l.tail).map λ(xs,h)=>(V.d (.list xs),h) else some (.clo f l,h)):=rfl
@[simp] def zEI (rf:Bool) (h:List Obj) (cs:List D):zfJ rf h (.ro cs)=some (.ro cs,h):=rfl
@[simp] def zGJ (rf:Bool) (h:List Obj) (x:D):zfJ rf h (.d x)=some (.d x,h):=rfl
@[simp] def zBl (rf:Bool) (h:List Obj):zfJ rf h .nilS=some (.d (.list []),h):=rfl
@[simp] def zDI (rf:Bool) (h:List Obj):zfJ rf h .emp=some (.d (.list []),h):=rfl
@[simp] def zDJ (rf:Bool) (h:List Obj) (cs:List V):zfJ rf h (.agg cs)=(zaH h cs).map λp=>(.d (.agg p.1),p.2):=by
 show ((zaH h cs).map λ(xs,h)=>(D.agg xs,h)).map _=_
 cases zaH h cs <;> rfl
@[simp] def zGK (G:Nat->Option (List D)) (s:Slots) (t:Tmp):ev G s (.tmp t)=zbE s t:=rfl
@[simp] def zDK (G:Nat->Option (List D)) (s:Slots) (v:Value):ev G s (.const v)=zmW v:=rfl
@[simp] def zBm (G:Nat->Option (List D)) (s:Slots) (g:Nat):ev G s (.global g)=match G g with | some cs=> .ro cs | none=> .dead:=rfl
@[simp] def zEJ (G:Nat->Option (List D)) (s:Slots) (f:FuncId):ev G s (.func f)= .d (.fn f):=rfl
@[simp] def zGL (f:Nat->Option Nat) (x:D):V.ren0 f (.d x)=some (.d x):=rfl
@[simp] def zBn (f:Nat->Option Nat):V.ren0 f (.nilS)=some (.nilS):=rfl
@[simp] def zEK (f:Nat->Option Nat) (cs:List D):V.ren0 f (.ro cs)=some (.ro cs):=rfl
@[simp] def zBo (f:Nat->Option Nat):V.ren0 f (.dead)=some (.dead):=rfl
@[simp] def zDL (f:Nat->Option Nat):V.ren0 f .emp=some .emp:=rfl
@[simp] def zEL (f:Nat->Option Nat) (a b c d:Nat):V.ren0 f (.sl a b c d)=(f a).map λi=> .sl i b c d:=rfl
@[simp] def zDM (f:Nat->Option Nat) (a b:Nat):V.ren0 f (.arr a b)=(f a).map λi=> .arr i b:=rfl
@[simp] def zDN (f:Nat->Option Nat) (a b:Nat):V.ren0 f (.ptr a b)=(f a).map λi=> .ptr i b:=rfl
@[simp] def zBp (f:Nat->Option Nat) (a b c d:Nat):V.ren0 f (.eptr a b c d)=(f a).map λi=> .eptr i b c d:=rfl
@[simp] def zEM (f:Nat->Option Nat) (a:Nat):V.ren0 f (.mp a)=(f a).map .mp:=rfl
@[simp] def zGM (f:Nat->Option Nat) (x:D):V.ren1 f (.d x)=some (.d x):=rfl
@[simp] def zBq (f:Nat->Option Nat):V.ren1 f (.nilS)=some (.nilS):=rfl
@[simp] def zEN (f:Nat->Option Nat) (cs:List D):V.ren1 f (.ro cs)=some (.ro cs):=rfl
@[simp] def zBr (f:Nat->Option Nat):V.ren1 f (.dead)=some (.dead):=rfl
@[simp] def zDO (f:Nat->Option Nat):V.ren1 f .emp=some .emp:=rfl
@[simp] def zEO (f:Nat->Option Nat) (a b c d:Nat):V.ren1 f (.sl a b c d)=(f a).map λi=> .sl i b c d:=rfl
@[simp] def zDP (f:Nat->Option Nat) (a b:Nat):V.ren1 f (.arr a b)=(f a).map λi=> .arr i b:=rfl
@[simp] def zDQ (f:Nat->Option Nat) (a b:Nat):V.ren1 f (.ptr a b)=(f a).map λi=> .ptr i b:=rfl
@[simp] def zBs (f:Nat->Option Nat) (a b c d:Nat):V.ren1 f (.eptr a b c d)=(f a).map λi=> .eptr i b c d:=rfl
@[simp] def zEP (f:Nat->Option Nat) (a:Nat):V.ren1 f (.mp a)=(f a).map .mp:=rfl
@[simp] def zDR (f:Nat->Option Nat) (g:FuncId) (l:List V):V.ren1 f (.clo g l)=(l.mapM (V.ren0 f)).map (.clo g):=rfl
@[simp] def zGN (f:Nat->Option Nat) (x:D):V.ren2 f (.d x)=some (.d x):=rfl
@[simp] def zBt (f:Nat->Option Nat):V.ren2 f (.nilS)=some (.nilS):=rfl
@[simp] def zEQ (f:Nat->Option Nat) (cs:List D):V.ren2 f (.ro cs)=some (.ro cs):=rfl
@[simp] def zBu (f:Nat->Option Nat):V.ren2 f (.dead)=some (.dead):=rfl
@[simp] def zDS (f:Nat->Option Nat):V.ren2 f .emp=some .emp:=rfl
@[simp] def zER (f:Nat->Option Nat) (a b c d:Nat):V.ren2 f (.sl a b c d)=(f a).map λi=> .sl i b c d:=rfl
@[simp] def zDT (f:Nat->Option Nat) (a b:Nat):V.ren2 f (.arr a b)=(f a).map λi=> .arr i b:=rfl
@[simp] def zDU (f:Nat->Option Nat) (a b:Nat):V.ren2 f (.ptr a b)=(f a).map λi=> .ptr i b:=rfl
@[simp] def zBv (f:Nat->Option Nat) (a b c d:Nat):V.ren2 f (.eptr a b c d)=(f a).map λi=> .eptr i b c d:=rfl
@[simp] def zES (f:Nat->Option Nat) (a:Nat):V.ren2 f (.mp a)=(f a).map .mp:=rfl
@[simp] def zDV (f:Nat->Option Nat) (g:FuncId) (l:List V):V.ren2 f (.clo g l)=(l.mapM (V.ren0 f)).map (.clo g):=rfl
@[simp] def zDW (f:Nat->Option Nat) (l:List V):V.ren2 f (.agg l)=(l.mapM (V.ren1 f)).map .agg:=rfl
@[simp] def zHE (f:Nat->Option Nat) (x:D):V.ren f (.d x)=some (.d x):=rfl
@[simp] def zDX (f:Nat->Option Nat):V.ren f (.nilS)=some (.nilS):=rfl
@[simp] def zGO (f:Nat->Option Nat) (cs:List D):V.ren f (.ro cs)=some (.ro cs):=rfl
@[simp] def zDY (f:Nat->Option Nat):V.ren f (.dead)=some (.dead):=rfl
@[simp] def zET (f:Nat->Option Nat):V.ren f .emp=some .emp:=rfl
@[simp] def zGP (f:Nat->Option Nat) (a b c d:Nat):V.ren f (.sl a b c d)=(f a).map λi=> .sl i b c d:=rfl
@[simp] def ren_arr (f:Nat->Option Nat) (a b:Nat):V.ren f (.arr a b)=(f a).map λi=> .arr i b:=rfl
@[simp] def zEU (f:Nat->Option Nat) (a b:Nat):V.ren f (.ptr a b)=(f a).map λi=> .ptr i b:=rfl
@[simp] def zDZ (f:Nat->Option Nat) (a b c d:Nat):V.ren f (.eptr a b c d)=(f a).map λi=> .eptr i b c d:=rfl
@[simp] def zGQ (f:Nat->Option Nat) (a:Nat):V.ren f (.mp a)=(f a).map .mp:=rfl
@[simp] def zEV (f:Nat->Option Nat) (g:FuncId) (l:List V):V.ren f (.clo g l)=(l.mapM (V.ren0 f)).map (.clo g):=rfl
@[simp] def zEW (f:Nat->Option Nat) (l:List V):V.ren f (.agg l)=(l.mapM (V.ren1 f)).map .agg:=rfl
@[simp] def zEX (f:Nat->Option Nat) (l:List V):V.ren f (.tup l)=(l.mapM (V.ren2 f)).map .tup:=rfl
@[simp] def zGR (x:D):V.ids0 (.d x)=[]:=rfl
@[simp] def zBw:V.ids0 (.nilS)=[]:=rfl
@[simp] def zEY (cs:List D):V.ids0 (.ro cs)=[]:=rfl
@[simp] def zBx:V.ids0 (.dead)=[]:=rfl
@[simp] def zD0:V.ids0 .emp=[]:=rfl
@[simp] def zEZ (a b c d:Nat):V.ids0 (.sl a b c d)=[a]:=rfl
@[simp] def zD1 (a b:Nat):V.ids0 (.arr a b)=[a]:=rfl
@[simp] def zD2 (a b:Nat):V.ids0 (.ptr a b)=[a]:=rfl
@[simp] def zBy (a b c d:Nat):V.ids0 (.eptr a b c d)=[a]:=rfl
@[simp] def zE0 (a:Nat):V.ids0 (.mp a)=[a]:=rfl
@[simp] def zGS (x:D):V.ids1 (.d x)=[]:=rfl
@[simp] def zBz:V.ids1 (.nilS)=[]:=rfl
@[simp] def zE1 (cs:List D):V.ids1 (.ro cs)=[]:=rfl
@[simp] def zBA:V.ids1 (.dead)=[]:=rfl
@[simp] def zD3:V.ids1 .emp=[]:=rfl
@[simp] def zE2 (a b c d:Nat):V.ids1 (.sl a b c d)=[a]:=rfl
@[simp] def zD4 (a b:Nat):V.ids1 (.arr a b)=[a]:=rfl
@[simp] def zD5 (a b:Nat):V.ids1 (.ptr a b)=[a]:=rfl
@[simp] def zBB (a b c d:Nat):V.ids1 (.eptr a b c d)=[a]:=rfl
@[simp] def zE3 (a:Nat):V.ids1 (.mp a)=[a]:=rfl
@[simp] def zD6 (g:FuncId) (l:List V):V.ids1 (.clo g l)=l.flatMap V.ids0:=rfl
@[simp] def zGT (x:D):V.ids2 (.d x)=[]:=rfl
@[simp] def zBC:V.ids2 (.nilS)=[]:=rfl
@[simp] def zE4 (cs:List D):V.ids2 (.ro cs)=[]:=rfl
@[simp] def zBD:V.ids2 (.dead)=[]:=rfl
@[simp] def zD7:V.ids2 .emp=[]:=rfl
@[simp] def zE5 (a b c d:Nat):V.ids2 (.sl a b c d)=[a]:=rfl
@[simp] def zD8 (a b:Nat):V.ids2 (.arr a b)=[a]:=rfl
@[simp] def zD9 (a b:Nat):V.ids2 (.ptr a b)=[a]:=rfl
@[simp] def zBE (a b c d:Nat):V.ids2 (.eptr a b c d)=[a]:=rfl
@[simp] def zE6 (a:Nat):V.ids2 (.mp a)=[a]:=rfl
@[simp] def zEa (g:FuncId) (l:List V):V.ids2 (.clo g l)=l.flatMap V.ids0:=rfl
@[simp] def zEb (l:List V):V.ids2 (.agg l)=l.flatMap V.ids1:=rfl
@[simp] def zHF (x:D):V.ids (.d x)=[]:=rfl
@[simp] def zEc:V.ids (.nilS)=[]:=rfl
@[simp] def zGU (cs:List D):V.ids (.ro cs)=[]:=rfl
@[simp] def zEd:V.ids (.dead)=[]:=rfl
@[simp] def zE7:V.ids .emp=[]:=rfl
@[simp] def zGV (a b c d:Nat):V.ids (.sl a b c d)=[a]:=rfl
@[simp] def zE8 (a b:Nat):V.ids (.arr a b)=[a]:=rfl
@[simp] def zE9 (a b:Nat):V.ids (.ptr a b)=[a]:=rfl
@[simp] def zEe (a b c d:Nat):V.ids (.eptr a b c d)=[a]:=rfl
@[simp] def zGW (a:Nat):V.ids (.mp a)=[a]:=rfl
@[simp] def zFa (g:FuncId) (l:List V):V.ids (.clo g l)=l.flatMap V.ids0:=rfl
@[simp] def zFb (l:List V):V.ids (.agg l)=l.flatMap V.ids1:=rfl
@[simp] def zFc (l:List V):V.ids (.tup l)=l.flatMap V.ids2:=rfl
@[simp] def zAh (f:Nat->Option Nat) (cs:List V):Obj.ren f (.box cs)=(cs.mapM (V.ren1 f)).map .box:=rfl
@[simp] def zAi (f:Nat->Option Nat) (sz:Nat) (xs:List D) (wm:Nat):Obj.ren f (.arr sz xs wm)=some (.arr sz xs wm):=rfl
@[simp] def zx5 (f:Nat->Option Nat) (s:ByteArray) (n:Nat):Obj.ren f (.siter s n)=some (.siter s n):=rfl
@[simp] def zAj (cs:List V):Obj.ids (.box cs)=cs.flatMap V.ids1:=rfl
@[simp] def zAk (sz:Nat) (xs:List D) (wm:Nat):Obj.ids (.arr sz xs wm)=[]:=rfl
@[simp] def zx6 (s:ByteArray) (n:Nat):Obj.ids (.siter s n)=[]:=rfl
@[simp] def zBF (i:Nat):zar [] i=none:=rfl
@[simp] def zAl (x:Nat) (xs:List Nat) (i:Nat):zar (x::xs) i=bif x == i then some 0 else (zar xs i).map (·+1):=by simp only[zar,cond_eq_ite,ycO]
@[simp] def zGX (l:List D):(D.agg l).cells=l:=rfl
@[simp] def zGY (k:IntKind) (n:Int):(D.int k n).cells=[.int k n]:=rfl
@[simp] def zFd (b:Bool):(D.bool b).cells=[.bool b]:=rfl
@[simp] def zGZ (s:ByteArray):(D.str s).cells=[.str s]:=rfl
@[simp] def zFe (l:List D):(D.list l).cells=[.list l]:=rfl
@[simp] def zFf:D.nilI.cells=[.nilI]:=rfl
@[simp] def zFg:D.nilP.cells=[.nilP]:=rfl
@[simp] def zFh:D.nilM.cells=[.nilM]:=rfl
@[simp] def zFi:D.nilF.cells=[.nilF]:=rfl
@[simp] def zEf (t:TypeId) (x:D):(D.iface t x).cells=[.iface t x]:=rfl
@[simp] def zHG (f:FuncId):(D.fn f).cells=[.fn f]:=rfl
@[simp] def zG0 (l:List V):(V.agg l).cells=l:=rfl
@[simp] def zFj (l:List D):(V.d (.agg l)).cells=l.map .d:=rfl
@[simp] def zG1 (k:IntKind) (n:Int):(V.d (.int k n)).cells=[.d (.int k n)]:=rfl
@[simp] def zFk (b:Bool):(V.d (.bool b)).cells=[.d (.bool b)]:=rfl
@[simp] def zG2 (s:ByteArray):(V.d (.str s)).cells=[.d (.str s)]:=rfl
@[simp] def zFl (l:List D):(V.d (.list l)).cells=[.d (.list l)]:=rfl
@[simp] def zFm:(V.d .nilI).cells=[.d .nilI]:=rfl
@[simp] def zFn:(V.d .nilM).cells=[.d .nilM]:=rfl
@[simp] def zFo:(V.d .nilP).cells=[.d .nilP]:=rfl
@[simp] def zFp:(V.d .nilF).cells=[.d .nilF]:=rfl
@[simp] def zEg (t:TypeId) (x:D):(V.d (.iface t x)).cells=[.d (.iface t x)]:=rfl
@[simp] def zHH (f:FuncId):(V.d (.fn f)).cells=[.d (.fn f)]:=rfl
@[simp] def zFq:V.nilS.cells=[.nilS]:=rfl
@[simp] def zG3 (a b:Nat):(V.arr a b).cells=[.arr a b]:=rfl
@[simp] def zG4:V.emp.cells=[.emp]:=rfl
@[simp] def zHI (a b c d:Nat):(V.sl a b c d).cells=[.sl a b c d]:=rfl
@[simp] def zG5 (a b:Nat):(V.ptr a b).cells=[.ptr a b]:=rfl
@[simp] def zFr (a b c d:Nat):(V.eptr a b c d).cells=[.eptr a b c d]:=rfl
@[simp] def zG6 (f:FuncId) (l:List V):(V.clo f l).cells=[.clo f l]:=rfl
def zbh {α:Type} (p:Prop) [Decidable p] (x:Option α):Option α:=if p then x else none
@[simp] def zy3 {α:Type} (x:Option α):zbh True x=x:=rfl
@[simp] def zx7 {α:Type} (x:Option α):zbh False x=none:=rfl
@[simp] def zAm {α:Type} {p:Prop} [Decidable p] (x:Option α) (h:p):zbh p x=x:=yai h
@[congr] def zx8 {α:Type} {p q:Prop} [Decidable p] [Decidable q] {x:Option α} (h:p=q):zbh p x=zbh q x:=by cases h;unfold zbh;congr
@[simp] def zt2 {α:Type} (p:Prop) [Decidable p] (x:Option α):(if p then x else none)=zbh p x:=rfl
def zmj {α:Type} (p q:Prop) [Decidable p] [Decidable q] (x:Option α):(if p/\q then x else none)=zbh p (zbh q x):=by
 unfold zbh
 by_cases hp:p <;> by_cases hq:q <;> simp[hp,hq]
@[simp] def zt3 {α:Type} (p q:Prop) [Decidable p] [Decidable q] (x:Option α):zbh (p/\q) x=zbh p (zbh q x):=zmj p q x
@[simp] def zgO {α:Type} (p:Prop) [Decidable p] (x:Option α):(if p then none else x)=zbh (¬ p) x:=by
 unfold zbh
 by_cases hp:p <;> simp[hp]
@[simp] def zAn (k:IntKind) (x y:Int):zbq .add k x y=some (.int k (k.wrap (x+y))):=rfl
@[simp] def zAo (k:IntKind) (x y:Int):zbq .sub k x y=some (.int k (k.wrap (x - y))):=rfl
@[simp] def zAp (k:IntKind) (x y:Int):zbq .mul k x y=some (.int k (k.wrap (x*y))):=rfl
@[simp] def zAq (k:IntKind) (x y:Int):zbq .quo k x y=zbh (¬ y=0) (some (.int k (k.wrap (x.tdiv y)))):=zgO _ _
@[simp] def zAr (k:IntKind) (x y:Int):zbq .rem k x y=zbh (¬ y=0) (some (.int k (x.tmod y))):=zgO _ _
@[simp] def zAs (k:IntKind) (x y:Int):zbq .eql k x y=some (.bool (decide (x=y))):=by simp only[zbq];congr 2
@[simp] def zAt (k:IntKind) (x y:Int):zbq .neq k x y=some (.bool (!decide (x=y))):=by simp only[zbq];congr 2
@[simp] def zAu (k:IntKind) (x y:Int):zbq .lss k x y=some (.bool (decide (x<y))):=rfl
@[simp] def zAv (k:IntKind) (x y:Int):zbq .leq k x y=some (.bool (decide (x<=y))):=rfl
@[simp] def zAw (k:IntKind) (x y:Int):zbq .gtr k x y=some (.bool (decide (y<x))):=rfl
@[simp] def zAx (k:IntKind) (x y:Int):zbq .geq k x y=some (.bool (decide (y<=x))):=rfl
@[simp] def zdq (l:List UInt8):(l.map zbT).mapM byteOf?=some l:=by
 induction l with
 |nil=>rfl
 |cons b l ih=>
  simp only[ya1,yaI,ih,zbT,byteOf?,yaz];simp
structure Tok {α:Type} (a:α):Type where
section
variable {P:Program} {G:Nat->Option (List D)} {K:zgm} {S:zgl} {run:Run} {F k b:Nat} {α β:Type}
def zx9 (x:Res) (f:Slots->List Obj->Res) (_:Tok f):Res:=onNormal x f
def zaU (x:Option α) (f:α->Option β) (_:Tok f):Option β:=obind x f
def zex (v:V) (f:Bool->Option α) (_:Tok f):Option α:=
 match v with
 |.d (.bool z)=>f z
 |_=>none
noncomputable def zcA (P:Program) (G:Nat->Option (List D)) (K:zgm) (S:zgl) (run:Run) (F k b:Nat) (c:Code) (_:Tok c) (s:Slots) (h:List Obj):Res:=codeV P G K S run loops F k b c s h
noncomputable def ztr (P:Program) (G:Nat->Option (List D)) (run:Run) (all:List Oper) (hint:List Nat) (hv:List Obj) (i:Nat) (zav:List Oper) (_:Tok (all,zav)) (s:Slots) (h:List Obj):Option (Slots × List Obj):=opsV P G run all hint hv i zav s h
noncomputable def opT (P:Program) (G:Nat->Option (List D)) (run:Run) (hint:List Nat) (hv:List Obj) (i:Nat) (o:Oper) (_:Tok o) (s:Slots) (h:List Obj):Option (V × List Obj):=zdC P G run hint hv i s h o
noncomputable def zak (keep:Option (List (Nat × Nat))) (k:Nat) (f:Slots->List Obj->Res) (_:Tok f) (s:Slots) (h:List Obj):Res:=
 match keep with
 |some l=>zfE k l f s h
 |none=>loops f s h
@[simp] def zy4 (s:Slots) (h:List Obj) (f:Slots->List Obj->Res) (t:Tok f):zx9 (some (.normal,s,h)) f t=f s h:=rfl
@[simp] def zBG (i:Nat) (s:Slots) (h:List Obj) (f:Slots->List Obj->Res) (t:Tok f):zx9 (some (.exit i,s,h)) f t=some (.exit i,s,h):=rfl
@[simp] def zEh (s:Slots) (h:List Obj) (f:Slots->List Obj->Res) (t:Tok f):zx9 (some (.ret,s,h)) f t=some (.ret,s,h):=rfl
@[simp] def zAy (a:α) (f:α->Option β) (t:Tok f):zaU (some a) f t=f a:=rfl
@[simp] def zAz (f:α->Option β) (t:Tok f):zaU none f t=none:=rfl
@[simp] def zBH (f:Slots->List Obj->Res) (t:Tok f):zx9 none f t=none:=rfl
@[simp] def zAA (f:Bool->Option α) (t:Tok f):zex (.d (.bool true)) f t=f true:=rfl
@[simp] def zy5 (f:Bool->Option α) (t:Tok f):zex (.d (.bool false)) f t=f false:=rfl
@[simp] def zBI (c:Bool) (f:Bool->Option α) (t:Tok f):zex (.d (.bool !c)) f t=zex (.d (.bool c)) (λz=>match z with | true=>f false | false=>f true) ⟨⟩:=by cases c <;> rfl
@[simp] def zBJ (v:V) (f:Bool->Res) (t:Tok f) (g:Slots->List Obj->Res) (u:Tok g):zx9 (zex v f t) g u=zex v (λz=>zx9 (f z) g ⟨⟩) ⟨⟩:=by
 cases v with
 |d x=>cases x <;> rfl
 |_=>rfl
@[simp] def zAB (v:V) (f:Bool->Option α) (t:Tok f) (g:α->Option β) (u:Tok g):zaU (zex v f t) g u=zex v (λz=>zaU (f z) g ⟨⟩) ⟨⟩:=by
 cases v with
 |d x=>cases x <;> rfl
 |_=>rfl
@[simp] def zAC (id:Nat) (v:V) (f:Bool->Res) (t:Tok f):leave id (zex v f t)=zex v (λz=>leave id (f z)) ⟨⟩:=by
 cases v with
 |d x=>cases x <;> rfl
 |_=>rfl
def zgP {T:Option α->Prop} {c:Bool} {f:Bool->Option α} {t:Tok f} (h1:c=true->T (f true)) (h0:c=false->T (f false)):T (zex (.d (.bool c)) f t):=by
 cases c
 ·exact h0 rfl
 ·exact h1 rfl
def zdF (x:α) (f:α->β) (_:Tok f):β:=f x
@[simp] def zEi (x:α) (f:α->β) (t:Tok f):zdF x f t=f x:=rfl
@[simp] def zEj (t:Nat):zbE [] t= .dead:=rfl
@[simp] def zBK (i:Nat) (v:V) (r:Slots) (t:Nat):zbE ((i,v)::r) t=bif i == t then v else zbE r t:=by
 simp only[zbE,cond_eq_ite,ycO]
def zen (v:V) (sz t:Nat) (s:Slots) (h:List Obj) (r:List (Nat × Nat)):Slots × List Obj:=
 match v,sz with
 |.nilS,sz+1=>let (s1,h1):=zad s (h++[.arr (sz+1) [] 0]) r;((t,.arr h.length 0)::s1,h1)
 |v,_=>let (s1,h1):=zad s h r;((t,v)::s1,h1)
@[simp] def zwK (s:Slots) (h:List Obj):zad s h []=([],h):=rfl
@[simp] def zv7 (s:Slots) (h:List Obj) (t sz:Nat) (r:List (Nat × Nat)) (ht:t<1000000):zad s h ((t,sz)::r)=zen (zbE s t) sz t s h r:=by
 unfold zad;rw[yai ht];rfl
def zmk (p:Option (D × List Obj)) (t:Nat) (s:Slots) (r:List (Nat × Nat)):Slots × List Obj:=
 match p with
 |some (x,h0)=>let (s1,h1):=zad s h0 r;((t,.d x)::s1,h1)
 |none=>([],[])
@[simp] def zwL (x:D) (h0:List Obj) (t:Nat) (s:Slots) (r:List (Nat × Nat)):zmk (some (x,h0)) t s r=zdF (zad s h0 r) (λp=>((t,.d x)::p.1,p.2)) ⟨⟩:=rfl
def zfP {s:Slots} {h:List Obj} {t sz:Nat} {r:List (Nat × Nat)} {p:D × List Obj} (hp:zby h (zbE s t)=some p):zad s h ((t+1000000,sz)::r)=zmk (zby h (zbE s t)) t s r:=by
 unfold zad;rw[yaf (by omega),ybJ,hp]
 rfl
@[simp] def zv8 {s:Slots} {h:List Obj} {t sz:Nat} {r:List (Nat × Nat)} {x:List D} (hp:zbE s t= .d (.list x)):zad s h ((t+1000000,sz)::r)=zdF (zad s h r) (λp=>((t,.d (.list x))::p.1,p.2)) ⟨⟩:=by
 rw[zfP (p:=(.list x,h)) (by rw[hp];rfl),hp];rfl
@[simp] def zwM {s:Slots} {h:List Obj} {t sz:Nat} {r:List (Nat × Nat)} {id n:Nat} (hp:zbE s t= .arr id n) (hd:(zby h (.arr id n)).isSome=true):zad s h ((t+1000000,sz)::r)=zmk (zby h (.arr id n)) t s r:=by
 obtain⟨p,e⟩:=Option.isSome_iff_exists.1 hd;rw[zfP (p:=p) (by rw[hp];exact e),hp]
@[simp] def zwN (v:V) (t:Nat) (s:Slots) (h:List Obj) (r:List (Nat × Nat)):zen v 0 t s h r=zdF (zad s h r) (λp=>((t,v)::p.1,p.2)) ⟨⟩:=by
 cases v <;> rfl
@[simp] def zwO (sz t:Nat) (s:Slots) (h:List Obj) (r:List (Nat × Nat)):zen .nilS (sz+1) t s h r=zdF (zad s (h++[.arr (sz+1) [] 0]) r) (λp=>((t,.arr h.length 0)::p.1,p.2)) ⟨⟩:=rfl
@[simp] def zya (a b sz t:Nat) (s:Slots) (h:List Obj) (r:List (Nat × Nat)):zen (.arr a b) (sz+1) t s h r=zdF (zad s h r) (λp=>((t,.arr a b)::p.1,p.2)) ⟨⟩:=rfl
@[simp] def zy6 (a b c d sz t:Nat) (s:Slots) (h:List Obj) (r:List (Nat × Nat)):zen (.sl a b c d) (sz+1) t s h r=zdF (zad s h r) (λp=>((t,.sl a b c d)::p.1,p.2)) ⟨⟩:=rfl
@[simp] def zyb (sz t:Nat) (s:Slots) (h:List Obj) (r:List (Nat × Nat)):zen .emp (sz+1) t s h r=zdF (zad s h r) (λp=>((t,.emp)::p.1,p.2)) ⟨⟩:=rfl
@[simp] def zAD (x:D) (sz t:Nat) (s:Slots) (h:List Obj) (r:List (Nat × Nat)):zen (.d x) (sz+1) t s h r=zdF (zad s h r) (λp=>((t,.d x)::p.1,p.2)) ⟨⟩:=rfl
@[simp] def zyc (f:Nat->Option Nat):zaw f []=some []:=rfl
@[simp] def zwP (f:Nat->Option Nat) (t:Nat) (v:V) (r:Slots):zaw f ((t,v)::r)=zaU (V.ren f v) (λu=>zaU (zaw f r) (λl=>some ((t,u)::l)) ⟨⟩) ⟨⟩:=by
 simp only[zaw,yaI,zaU];cases V.ren f v with
 |none=>rfl
 |some u=>cases List.mapM (λ(p:Nat × V)=>Option.map (λv=>(p.1,v)) (V.ren f p.2)) r <;> rfl
def zjF (h:List Obj) (f:Nat->Option Nat) (i:Nat):Option Obj:=(h[i]?).bind (Obj.ren f)
@[simp] def zyd (o:Obj) (h:List Obj) (f:Nat->Option Nat):zjF (o::h) f 0=Obj.ren f o:=rfl
@[simp] def zye (o:Obj) (h:List Obj) (f:Nat->Option Nat) (i:Nat):zjF (o::h) f (i+1)=zjF h f i:=rfl
@[simp] def zyf (h:List Obj) (f:Nat->Option Nat):zax h f []=some []:=rfl
@[simp] def zwQ (h:List Obj) (f:Nat->Option Nat) (i:Nat) (l:List Nat):zax h f (i::l)=zaU (zjF h f i) (λo=>zaU (zax h f l) (λos=>some (o::os)) ⟨⟩) ⟨⟩:=by
 simp only[zax,yaI,zaU,zjF];cases (h[i]?).bind (Obj.ren f) with
 |none=>rfl
 |some u=>cases List.mapM (λi=>(h[i]?).bind (Obj.ren f)) l <;> rfl
@[simp] def zFs (k:Nat) (keep:List (Nat × Nat)) (s:Slots) (h:List Obj):zew k keep s h=
 zdF (zad s h keep) (λp=>zdF (za8 p.2 (zal (List.range k) (p.1.flatMap λq=>q.2.ids))) (λids=>zaU (zaw (zar ids) p.1) (λs2=>zaU (zax p.2 (zar ids) ids) (λh2=>some (s2,h2)) ⟨⟩) ⟨⟩) ⟨⟩) ⟨⟩:=by
 simp only[zew,zdF,zaU,obind];cases zaw (zar (za8 (zad s h keep).2 (zal (List.range k) ((zad s h keep).1.flatMap λq=>q.2.ids)))) (zad s h keep).1 with
 |none=>rfl
 |some s2=>cases zax (zad s h keep).2 (zar (za8 (zad s h keep).2 (zal (List.range k) ((zad s h keep).1.flatMap λq=>q.2.ids)))) (za8 (zad s h keep).2 (zal (List.range k) ((zad s h keep).1.flatMap λq=>q.2.ids))) <;> rfl
@[simp] def zy7 (rf:Bool) (f:FuncId) (args:List V) (h:List Obj):callWith rf run f args h=
 zaU (zcb rf h args) (λp=>zdF (za8 p.2 (zal [] (p.1.flatMap V.ids))) (λids=>zaU (p.1.mapM (V.ren (zar ids))) (λas2=>zaU (zax p.2 (zar ids) ids) (λhin=>
  zaU (run f as2 hin) (λq=>zaU (q.1.mapM (V.ren (zd7 ids p.2.length))) (λrets2=>zaU (q.2.mapM (Obj.ren (zd7 ids p.2.length))) (λhout2=>some (one rets2,zbk p.2 ids hout2++hout2.drop ids.length)) ⟨⟩) ⟨⟩) ⟨⟩) ⟨⟩) ⟨⟩) ⟨⟩) ⟨⟩:=by
 simp only[callWith,zdF,zaU];cases zcb rf h args with
 |none=>rfl
 |some p=>
  obtain⟨as,h1⟩:=p;simp only[obind];cases as.mapM (V.ren (zar (za8 h1 (zal [] (as.flatMap V.ids))))) with
  |none=>rfl
  |some as2=>
   simp only;cases zax h1 (zar (za8 h1 (zal [] (as.flatMap V.ids)))) (za8 h1 (zal [] (as.flatMap V.ids))) with
   |none=>rfl
   |some hin=>
    simp only;cases run f as2 hin with
    |none=>rfl
    |some q=>
     obtain⟨rets,hout⟩:=q;simp only;cases rets.mapM (V.ren (zd7 (za8 h1 (zal [] (as.flatMap V.ids))) h1.length)) with
     |none=>rfl
     |some r2=>cases hout.mapM (Obj.ren (zd7 (za8 h1 (zal [] (as.flatMap V.ids))) h1.length)) <;> rfl
@[simp] def zy8 (f:FuncId) (args:List V) (h:List Obj):callThaw run f args h=
 zaU (zcb false h args) (λp=>zaU (run f p.1 []) (λq=>zaU (bif args.all zaP && q.1.all V.flat && q.2.all Obj.flat then some () else none) (λ_=>zaU (q.1.mapM (V.ren (zd7 [] h.length))) (λrets2=>zaU (q.2.mapM (Obj.ren (zd7 [] h.length))) (λhout2=>some (one rets2,h++hout2)) ⟨⟩) ⟨⟩) ⟨⟩) ⟨⟩) ⟨⟩:=by
 simp only[callThaw,zaU];cases zcb false h args with
 |none=>rfl
 |some p=>
  obtain⟨as,h1⟩:=p;simp only[obind];cases run f as [] with
  |none=>rfl
  |some q=>
   obtain⟨rets,hout⟩:=q;simp only;cases args.all zaP && rets.all V.flat && hout.all Obj.flat with
   |false=>rfl
   |true=>
    simp only[ybm,cond_true];cases rets.mapM (V.ren (zd7 [] h.length)) with
    |none=>rfl
    |some r2=>cases hout.mapM (Obj.ren (zd7 [] h.length)) <;> rfl
@[simp] def zyg (f:FuncId) (args:List V) (h:List Obj):callFresh run f args h=
 zaU (zcb false h args) (λp=>zaU (run f p.1 []) (λq=>zaU (bif args.all zaP && h.all zm0 && q.1.all V.fresh && q.2.all Obj.fresh then some () else none) (λ_=>zaU (q.1.mapM (V.ren (zd7 [] h.length))) (λrets2=>zaU (q.2.mapM (Obj.ren (zd7 [] h.length))) (λhout2=>some (one rets2,h++hout2)) ⟨⟩) ⟨⟩) ⟨⟩) ⟨⟩) ⟨⟩:=by
 simp only[callFresh,zaU];cases zcb false h args with
 |none=>rfl
 |some p=>
  obtain⟨as,h1⟩:=p;simp only[obind];cases run f as [] with
  |none=>rfl
  |some q=>
   obtain⟨rets,hout⟩:=q;simp only;cases args.all zaP && h.all zm0 && rets.all V.fresh && hout.all Obj.fresh with
   |false=>rfl
   |true=>
    simp only[ybm,cond_true];cases rets.mapM (V.ren (zd7 [] h.length)) with
    |none=>rfl
    |some r2=>cases hout.mapM (Obj.ren (zd7 [] h.length)) <;> rfl
@[simp] def znH (k:Nat) (ts:List TypeId) (vs:List V) (h:List Obj):zdn P k ts vs h=
 zdF (zhr P h vs ts) (λp=>zdF (za8 p.2 (zal (List.range k) (p.1.flatMap V.ids))) (λids=>zaU (p.1.mapM (V.ren2 (zar ids))) (λws=>zaU (zax p.2 (zar ids) ids) (λh2=>some (ws,h2)) ⟨⟩) ⟨⟩) ⟨⟩) ⟨⟩:=by
 simp only[zdn,zdF,zaU,obind];generalize zhr P h vs ts=p;cases p.1.mapM (V.ren2 (zar (za8 p.2 (zal (List.range k) (p.1.flatMap V.ids))))) with
 |none=>rfl
 |some s2=>cases zax p.2 (zar (za8 p.2 (zal (List.range k) (p.1.flatMap V.ids)))) (za8 p.2 (zal (List.range k) (p.1.flatMap V.ids))) <;> rfl
@[simp ↓] def zAE {t} {s:Slots} {h:List Obj}:zcA P G K S run F k b .skip t s h=some (.normal,s,h):=rfl
@[simp ↓] def zBL {x y:Code} {t} {s:Slots} {h:List Obj}:zcA P G K S run F k b (.seq x y) t s h=zx9 (zcA P G K S run F k b x ⟨⟩ s h) (λs1 h1=>zcA P G K S run F k b y ⟨⟩ s1 h1) ⟨⟩:=rfl
@[simp ↓] def zAF {c:Operand} {x y:Code} {t} {s:Slots} {h:List Obj}:
 zcA P G K S run F k b (.cond c x y) t s h=zex (ev G s c) (λz=>match z with | true=>zcA P G K S run F k b x ⟨⟩ s h | false=>zcA P G K S run F k b y ⟨⟩ s h) ⟨⟩:=by
 show branch (ev G s c) _ _=_
 cases ev G s c with
 |d z=>
  cases z with
  |bool z=>cases z <;> rfl
  |_=>rfl
 |_=>rfl
@[simp ↓] def zf3 {id:Nat} {c:Code} {t} {s:Slots} {h:List Obj}:zcA P G K S run F k b (.block id c) t s h=leave id (zcA P G K S run F k id c ⟨⟩ s h):=rfl
@[simp ↓] def zAG {id:Nat} {t} {s:Slots} {h:List Obj}:zcA P G K S run F k b (.exit id) t s h=some (.exit id,s,h):=rfl
@[simp ↓] def zBM {t} {s:Slots} {h:List Obj}:zcA P G K S run F k b .ret t s h=some (.ret,s,h):=rfl
@[simp ↓] def zAH {c:Code} {t} {s:Slots} {h:List Obj}:zcA P G K S run F k b (.loop c) t s h=zak (K F b) k (λs h=>zcA P G K S run F k b c ⟨⟩ s h) ⟨⟩ s h:=by
 unfold zak zcA;cases e:K F b with
 |some keep=>rw[zr9 e]
 |none=>simp only[codeV,e]
noncomputable def zeL (keep:List (Nat × Nat)) (k:Nat) (round:List D->Slots->List Obj->Res) (_:Tok round) (l:List (List D)) (s:Slots) (h:List Obj):Res:=obind (zew k keep s h) λq=>rangeV round k keep l q.1 q.2
def zG7 (x:Res) (f:Slots->List Obj->Res) (_:Tok f):Res:=
 match x with
 |some (.normal,s,h)=>f s h
 |_=>none
def zy9 (x:Res) (s:Slots) (f:List Obj->Res) (_:Tok f):Res:=
 match x with
 |some (.normal,_,h)=>f h
 |some (o,_,h)=>some (o,s,h)
 |none=>none
@[simp] def zza (s:Slots) (h:List Obj) (f:Slots->List Obj->Res) (t:Tok f):zG7 (some (.normal,s,h)) f t=f s h:=rfl
@[simp] def zzb (s s':Slots) (h:List Obj) (f:List Obj->Res) (t:Tok f):zy9 (some (.normal,s',h)) s f t=f h:=rfl
@[simp] def zBN (i:Nat) (s s':Slots) (h:List Obj) (f:List Obj->Res) (t:Tok f):zy9 (some (.exit i,s',h)) s f t=some (.exit i,s,h):=rfl
@[simp] def zEk (s s':Slots) (h:List Obj) (f:List Obj->Res) (t:Tok f):zy9 (some (.ret,s',h)) s f t=some (.ret,s,h):=rfl
@[simp] def zBO (v:V) (f:Bool->Res) (t:Tok f) (s:Slots) (g:List Obj->Res) (u:Tok g):zy9 (zex v f t) s g u=zex v (λz=>zy9 (f z) s g ⟨⟩) ⟨⟩:=by
 cases v with
 |d x=>cases x <;> rfl
 |_=>rfl
def zBP (i j:Nat):Option Obj->Option Obj->Option (Nat × Nat × List (List D))
 |some (.box [.d (.list xs)]),some (.box [.d (.int .i64 n)])=>if 0<n/\n<=65536/\xs.length<=65536/\zao 1 xs then some (i,j,zcv n.toNat xs.length xs) else none
 |_,_=>none
@[simp] def zBQ (h:List Obj) (g i j:Nat):zkx G h (.clo g [.ptr i 0,.ptr j 0])=bif zdo G g && decide (g<1000000000) then zBP i j h[i]? h[j]? else none:=by
 cases e:(zdo G g && decide (g<1000000000)) <;> simp only[zkx,e,cond_true,cond_false,ybm,yaD,ybg];rfl
@[simp] def zEl (i j:Nat) (xs:List D) (n:Int):zBP i j (some (.box [.d (.list xs)])) (some (.box [.d (.int .i64 n)]))=zbh (0<n/\n<=65536/\xs.length<=65536/\zao 1 xs=true) (some (i,j,zcv n.toNat xs.length xs)):=rfl
@[simp] def zEm (k:Nat) (keep:List (Nat × Nat)) (s:Slots) (h:List Obj) (i:Nat):zfW k keep s h i=zdF (zad s h keep) (λp=>zdF (za8 p.2 (zal (List.range k) (p.1.flatMap λq=>q.2.ids))) (λids=> !ids.contains i) ⟨⟩) ⟨⟩:=rfl
@[simp ↓] def zzc {f:Operand} {p:Tmp} {x y:Code} {t} {s:Slots} {h:List Obj}:zcA P G K S run F k b (.rangeFunc f #[p] x y) t s h=
 zaU (K F b) (λkeep=>zaU (zkx G h (ev G s f)) (λit=>zaU (bif zfW k keep s h it.1 && zfW k keep s h it.2.1 then some () else none) (λ_=>
  zeL keep k (λz s h=>zG7 (zcA P G K S run F h.length b x ⟨⟩ ((p,.d (.list z))::s) h) (λs1 h1=>zcA P G K S run F h.length b y ⟨⟩ s1 h1) ⟨⟩) ⟨⟩ it.2.2 s h) ⟨⟩) ⟨⟩) ⟨⟩:=by
 unfold zcA zeL;simp only[codeV,zaU];cases K F b with
 |none=>rfl
 |some keep=>
  simp only[obind];cases zkx G h (ev G s f) with
  |none=>rfl
  |some it=>
   simp only;cases zfW k keep s h it.1 && zfW k keep s h it.2.1 with
   |false=>rfl
   |true=>rfl
def zjG {σ:Type} {T:Res->Prop} {k:Nat} {keep:List (Nat × Nat)} {round:List D->Slots->List Obj->Res} {t:Tok round} {l:List (List D)} {s:Slots} {h:List Obj} (Sl:σ->Slots) (H:σ->List Obj) (I:List (List D)->σ->Prop) (x:σ)
 (hi:I l x) (hn:zew k keep s h=some (Sl x,H x))
 (step: ∀ (T':Res->Prop) (g:List (List D)->Slots->List Obj->Res),T'=T-> ∀z l x,I (z::l) x->(∀y h',I l y->zew k keep (Sl x) h'=some (Sl y,H y)->T' (g l (Sl x) h'))->T' (zy9 (round z (Sl x) (H x)) (Sl x) (λh'=>g l (Sl x) h') ⟨⟩))
 (done: ∀x,I [] x->T (some (.normal,Sl x,H x))): ∀z,zeL keep k round t l s h=z->T z:=by
 rintro _ rfl
 induction l generalizing x s h with
 |nil=>unfold zeL;rw[hn];exact done x hi
 |cons z l ih=>
  have e:zeL keep k round t (z::l) s h=zy9 (round z (Sl x) (H x)) (Sl x) (λh'=>zeL keep k round t l (Sl x) h') ⟨⟩:=by
   unfold zeL;rw[hn]
   show rangeV round k keep (z::l) (Sl x) (H x)=_
   simp only[rangeV];cases round z (Sl x) (H x) with
   |none=>rfl
   |some q=>
    obtain⟨o,s1,h1⟩:=q;cases o <;> rfl
  rw[e];exact step T (λl s h=>zeL keep k round t l s h) rfl z l x hi λy h' hy hn'=>ih y hy hn'
attribute [simp] zgo zoX zwj
@[simp] def zzd (f:FuncId) (args:List V):zfd run f args=bif zwj args then zaU (run f args []) (λq=>bif q.2.isEmpty && zwj q.1 then some (one q.1) else none) ⟨⟩ else none:=by
 unfold zfd zaU;cases zwj args with
 |false=>rfl
 |true=>
  simp only[ybm,cond_true];cases run f args [] with
  |none=>rfl
  |some q=>simp only[obind];cases q.2.isEmpty && zwj q.1 <;> rfl
@[simp] def zze {h:List Obj} {id:Nat} {s:ByteArray} {pos:Nat} (e:pos<s.size):zgp h id s pos=(.tup [.d (.bool true),.d (.int .i64 pos),.d (.int .i32 (Utf8.decode s pos).1)],h.set id (.siter s (pos+(Utf8.decode s pos).2))):=yai e
@[simp] def zyh {h:List Obj} {id:Nat} {s:ByteArray}:zgp h id s s.size=(.tup [.d (.bool false)],h):=yaf (ybv _)
attribute [simp] D.flat V.flat Obj.flat zd8
attribute [simp] D.clean V.fresh Obj.fresh zdb zty zm0
@[simp] def zAI:zi0 []=true:=rfl
@[simp] def zzf (x:D) (l:List D):zi0 (x::l)=match x.cells with
 |.nilM::_=>false
 |c::_=> !zty c
 |[]=>false:=rfl
@[simp] def zHJ (b:List UInt8):(b.map zbT).all zty=true:=List.all_eq_true.2 λx h=>by
 obtain⟨y,-,rfl⟩:=List.mem_map.1 h;rfl
@[simp] def zG8 (b:List UInt8):b.all (zty ∘ zbT)=true:=List.all_eq_true.2 λ_ _=>rfl
def zfj {α:Type} (f:α->D) (hf: ∀x,(f x).clean=true): ∀l:List α,zdb (l.map f)=true
 |[]=>rfl
 |x::l=>by
  show ((f x).clean && zdb (l.map f))=true
  rw[hf x,zfj f hf l];rfl
def zjH {α:Type} (f:α->D) (hf: ∀x,(f x).clean=true) (h1: ∀x,zi0 [f x]=true) (l:List α):(D.list (l.map f)).clean=true:=by
 show (zi0 (l.map f) && zdb (l.map f))=true
 rw[zfj f hf l,yce];cases l with
 |nil=>rfl
 |cons x l=>exact h1 x
def zdg {α:Type} (f:α->D) (hf: ∀x,(f x).flat=true): ∀l:List α,zd8 (l.map f)=true
 |[]=>rfl
 |x::l=>by
  show ((f x).flat && zd8 (l.map f))=true
  rw[hf x,zdg f hf l];rfl
@[simp] def zzg (l:List UInt8):zd8 (l.map zbT)=true:=zdg _ (λ_=>rfl) l
@[simp] def zAJ {α:Type} (k:IntKind) (f:α->Int) (l:List α):zd8 (l.map λx=>D.int k (f x))=true:=zdg _ (λ_=>rfl) l
@[simp] def zBR (l:List Int):zd8 (l.map λn=>D.int .i64 n)=true:=zdg _ (λ_=>rfl) l
@[simp] def zAK (l:List ByteArray):zd8 (l.map D.str)=true:=zdg _ (λ_=>rfl) l
@[simp] def znI: ∀ (a b:List D),zd8 (a++b)=(zd8 a && zd8 b)
 |[],b=>rfl
 |x::a,b=>by
  show (x.flat && zd8 (a++b))=(x.flat && zd8 a && zd8 b)
  rw[znI a b,yd0]
@[simp ↓] def zBS {all:List Oper}:zi2 all []=[]:=rfl
@[simp ↓] def zzh {all r:List Oper} {dst:Option Tmp} {t:Tmp} {ty y:TypeId} {lo hi mx:Option Operand} {pos:String} {after:Array Edge} {g:Option (Nat × Bool)}:zi2 all (⟨dst,.slice ty (.tmp t) lo hi mx,y,pos,after,g⟩::r)=zgq all t::zi2 all r:=rfl
@[simp ↓] def zAL {all r:List Oper} {o:Oper}:zi2 all (o::r)=match o.op with | .slice _ (.tmp t) _ _ _=>zgq all t::zi2 all r | _=>zi2 all r:=rfl
@[simp ↓] def zAM {t:Tmp}:zgq [] t=t:=rfl
@[simp ↓] def zzi {r:List Oper} {o:Oper} {t:Tmp}:zgq (o::r) t=match o.op with | .move (.tmp x)=>(if o.dst=some t then x else zgq r t) | _=>zgq r t:=rfl
def ziN (ops:List Oper) (i:Nat):Bool:=match ops[i]? with | some o=>(match o.op with | .load .. =>true | _=>false) | none=>false
@[simp ↓] def zyi {id:Nat} {ops:List Oper} {draw:Bool} {t} {s:Slots} {h:List Obj}:
 zcA P G K S run F k b (.region id ops.toArray draw) t s h=zaU (some (zdy G && !draw)) (λo=>match o with | true=>zaU (opsO P G run ops ops s h) (λp=>some (.normal,p.1,p.2)) ⟨⟩ | false=>zaU (some (zd9 ops && !zea ops && !zab G F)) (λc=>zaU (match c with | true=>some (zbF h ((zi2 ops ops).map λt=>(t,zbE s t))) | false=>some h) (λh=>zaU (ztr P G run ops (bif draw then S F id else []) (bif zbG ops (bif draw then S F id else []) then zm4 s (bif draw then S F id else []) (zqf h) else []) 0 ops ⟨⟩ s h) (λp=>some (.normal,p.1,p.2)) ⟨⟩) ⟨⟩) ⟨⟩) ⟨⟩:=by
 unfold zcA;simp only[codeV,zi4,zkW,zaU,ztr,cond_eq_ite];cases zdy G <;> cases draw <;> cases zd9 ops && !zea ops && !zab G F <;> rfl
@[simp ↓] def zEn {all:List Oper} {hint:List Nat} {hv:List Obj} {i:Nat} {t} {s:Slots} {h:List Obj}:ztr P G run all hint hv i [] t s h=some (s,h):=rfl
def znJ {all:List Oper} {hint:List Nat} {hv:List Obj} {i:Nat} {o:Oper} {zav:List Oper} {t} {s:Slots} {h:List Obj}:
 ztr P G run all hint hv i (o::zav) t s h=zaU (za5 all s o.guard) (λw=>match w with
  |true=>zaU (opT P G run hint hv i o ⟨⟩ s h) (λp=>ztr P G run all hint hv (i+1) zav ⟨⟩ (zeB s o.dst p.1) p.2) ⟨⟩
  |false=>ztr P G run all hint hv (i+1) zav ⟨⟩ (zeB s o.dst (.tup [])) h) ⟨⟩:=by
 unfold ztr opT zaU;simp only[opsV,zdC];congr 1;funext w;cases w <;> rfl
@[simp ↓] def zAN {all:List Oper} {hint:List Nat} {hv:List Obj} {i:Nat} {dst:Option Tmp} {op:Op} {ty:TypeId} {pos:String} {after:Array Edge} {zav:List Oper} {t} {s:Slots} {h:List Obj}:
 ztr P G run all hint hv i (⟨dst,op,ty,pos,after,none⟩::zav) t s h=zaU (opT P G run hint hv i ⟨dst,op,ty,pos,after,none⟩ ⟨⟩ s h) (λp=>ztr P G run all hint hv (i+1) zav ⟨⟩ (zeB s dst p.1) p.2) ⟨⟩:=by
 rw[znJ];rfl
def zqw (v:V) (want:Bool) (f:Bool->Option α) (_:Tok f):Option α:=
 match v with
 |.d (.bool c)=>f (c == want)
 |.tup []=>f false
 |_=>none
@[simp] def zzj (c:Bool) (f:Bool->Option α) (t:Tok f):zqw (.d (.bool c)) true f t=zex (.d (.bool c)) f t:=by cases c <;> rfl
@[simp] def zyj (c:Bool) (f:Bool->Option α) (t:Tok f):zqw (.d (.bool c)) false f t=zex (.d (.bool c)) (λz=>match z with | true=>f false | false=>f true) ⟨⟩:=by cases c <;> rfl
@[simp] def zAO (want:Bool) (f:Bool->Option α) (t:Tok f):zqw (.tup []) want f t=f false:=rfl
def zgQ (all:List Oper) (j:Nat) (_:Tok all):Option Tmp:=(all[j]?).bind (·.dst)
@[simp ↓] def zwR {o:Oper} {all:List Oper} {t}:zgQ (o::all) 0 t=o.dst:=rfl
@[simp ↓] def zwS {o:Oper} {all:List Oper} {j:Nat} {t}:zgQ (o::all) (j+1) t=zgQ all j ⟨⟩:=rfl
def zqx (s:Slots) (d:Option Tmp):V:=
 match d with
 |none=> .tup []
 |some d=>zbE s d
@[simp] def zzk (s:Slots) (d:Nat):zqx s (some d)=zbE s d:=rfl
@[simp] def zzl (s:Slots):zqx s none= .tup []:=rfl
@[simp ↓] def zAP {all:List Oper} {hint:List Nat} {hv:List Obj} {i:Nat} {dst:Option Tmp} {op:Op} {ty:TypeId} {pos:String} {after:Array Edge} {j:Nat} {want:Bool} {zav:List Oper} {t} {s:Slots} {h:List Obj}:
 ztr P G run all hint hv i (⟨dst,op,ty,pos,after,some (j,want)⟩::zav) t s h=zqw (zqx s (zgQ all j ⟨⟩)) want (λw=>match w with
  |true=>zaU (opT P G run hint hv i ⟨dst,op,ty,pos,after,none⟩ ⟨⟩ s h) (λp=>ztr P G run all hint hv (i+1) zav ⟨⟩ (zeB s dst p.1) p.2) ⟨⟩
  |false=>ztr P G run all hint hv (i+1) zav ⟨⟩ (zeB s dst (.tup [])) h) ⟨⟩:=by
 rw[znJ];unfold zqx zgQ;simp only[za5];have hop: ∀ (o:Oper) (o':Oper),o.op=o'.op->opT P G run hint hv i o ⟨⟩ s h=opT P G run hint hv i o' ⟨⟩ s h:=λo o' e=>by
  unfold opT zdC opV blindV zmT za1 zm3 zl8;rw[e]
 rw[hop ⟨dst,op,ty,pos,after,some (j,want)⟩ ⟨dst,op,ty,pos,after,none⟩ rfl];cases (all[j]?).bind (·.dst) with
 |none=>rfl
 |some d=>
  simp only;cases zbE s d with
  |d x=>
   cases x with
   |bool c=>cases c <;> cases want <;> rfl
   |_=>rfl
  |tup l=>cases l <;> rfl
  |_=>rfl
@[simp ↓] def zG9 {hv:List Obj} {i:Nat} {dst:Option Tmp} {op:Op} {ty:TypeId} {pos:String} {after:Array Edge} {t} {s:Slots} {h:List Obj}:
 opT P G run [] hv i ⟨dst,op,ty,pos,after,none⟩ t s h=opV P G run s h ⟨dst,op,ty,pos,after,none⟩:=rfl
@[simp ↓] def zEo {x:Nat} {l:List Nat} {hv:List Obj} {i:Nat} {dst:Option Tmp} {op:Op} {ty:TypeId} {pos:String} {after:Array Edge} {t} {s:Slots} {h:List Obj}:
 opT P G run (x::l) hv i ⟨dst,op,ty,pos,after,none⟩ t s h=bif (x::l).contains i then zcc h (blindV P G run hv s ⟨dst,op,ty,pos,after,none⟩) else bif hv.isEmpty || zmT G hv s ⟨dst,op,ty,pos,after,none⟩ || za1 (x::l) i ⟨dst,op,ty,pos,after,none⟩ then opV P G run s h ⟨dst,op,ty,pos,after,none⟩ else none:=by
 unfold opT zdC;simp only[cond_eq_ite,List.isEmpty_cons,ydn]
attribute [simp ↓] opV
@[simp] def zFt (h:List Obj) (x:D):zkw h (.d x)=h:=rfl
@[simp] def zAQ (h:List Obj):zkw h .nilS=h:=rfl
@[simp] def zBT (h:List Obj):zkw h .emp=h:=rfl
@[simp] def zBU (h:List Obj) (a b:Nat):zkw h (.arr a b)=h:=rfl
@[simp] def zEp (h:List Obj) (a b c d:Nat):zkw h (.sl a b c d)=h:=rfl
@[simp] def zEq (h:List Obj) (id:Nat):zkw h (.mp id)=match h[id]? with | some (.box cs)=>(match zaH h cs with | some (_,h1)=>h1 | none=>h) | _=>h:=rfl
attribute [simp] zBe ztw zdO zkV
@[simp] def zzm (x:Option (V × List Obj)):zl7 x=zaU x (λq=>zkV q.2 q.1) ⟨⟩:=by cases x <;> rfl
attribute [simp] zqf zmT ztA zm4 zaP blindV za1 zm3 zl8 zas zdQ
@[simp ↓] def zwT {ops:List Oper}:zbG ops []=false:=rfl
@[simp ↓] def zv9 {ops:List Oper} {i:Nat} {r:List Nat}:zbG ops (i::r)=(ziN ops i || zbG ops r):=rfl
@[simp ↓] def zwU {o:Oper} {ops:List Oper}:ziN (o::ops) 0=(match o.op with | .load .. =>true | _=>false):=rfl
@[simp ↓] def zwV {o:Oper} {ops:List Oper} {i:Nat}:ziN (o::ops) (i+1)=ziN ops i:=rfl
@[simp ↓] def zyk:zd9 []=false:=rfl
@[simp ↓] def zyl:zea []=false:=rfl
@[simp ↓] def zwW {o:Oper} {l:List Oper}:zd9 (o::l)=((match o.op with | .slice .. =>true | _=>false) || zd9 l):=rfl
@[simp ↓] def zwX {o:Oper} {l:List Oper}:zea (o::l)=((match o.op with | .store .. =>true | _=>false) || zea l):=rfl
end
def appElem? (P:Program) (e:TypeId):Option Nat:=
 match P.info? e with
 |some i=>if i.zero.map (·.cells.size)=some i.size/\0<i.size/\i.bytes<=65536 then some i.size else none
 |none=>none
@[simp] def zAR (P:Program) (h:List Obj) (ts tx:TypeId) (s x:V):zda P h ts tx s x=
 (match P.underlying ts with
 |some (.slice e)=>
  match appElem? P e,source? P h tx x with
  |some n,some ys=>
   match s with
   |.nilS=>zbh (ys.length<2147483648) (zbh (zao n ys=true) (some (.arr h.length ys.length,h++[.arr n ys 0])))
   |.arr id m=>
    match h[id]? with
    |some (.arr sz xs wm)=>zbh (m=xs.length) (zbh (sz=n) (zbh (m+ys.length<2147483648) (zbh (zao n ys=true) (some (.arr id (m+ys.length),h.set id (.arr sz (xs++ys) wm))))))
    |_=>none
   |_=>none
  |_,_=>none
 |_=>none):=by
 unfold zda appElem?;cases P.underlying ts with
 |none=>rfl
 |some d=>
  cases d <;> try rfl
  rename_i e;simp only;cases P.info? e with
  |none=>rfl
  |some i=>
   cases source? P h tx x with
   |none=>
    simp only;split <;> simp_all
   |some ys=>
    simp only;split
    ·simp only[zt2,zt3];rfl
    ·rfl
def makeElem? (P:Program) (e:TypeId):Option (Nat × D):=
 match P.info? e,zeroD? P e with
 |some i,some z=>if i.bytes<=65536/\0<i.size/\z.cells.length=i.size then some (i.size,z) else none
 |_,_=>none
@[simp] def zwY (P:Program) (h:List Obj) (t:TypeId) (k k':IntKind) (n m:Int):zc5 P h t (.d (.int k n)) (.d (.int k' m))=
 (match P.underlying t with
 |some (.slice e)=>
  match makeElem? P e with
  |some (sz,z)=>zbh (0<=n) (zbh (n<=m) (zbh (m<2147483648) (some (.arr h.length n.toNat,h++[.arr sz (List.replicate n.toNat z) 0]))))
  |none=>none
 |_=>none):=by
 unfold zc5 makeElem?;cases P.underlying t with
 |none=>rfl
 |some d=>
  cases d <;> try rfl
  rename_i e;simp only;cases P.info? e with
  |none=>rfl
  |some i=>
   cases zeroD? P e with
   |none=>rfl
   |some z=>
    simp only
    by_cases a:i.bytes<=65536/\0<i.size/\z.cells.length=i.size
    ·rw[yai a]
     obtain⟨a1,a2,a3⟩:=a;simp only[zbh]
     by_cases b1:0<=n <;> by_cases b2:n<=m <;> by_cases b3:m<2147483648 <;> simp[a1,a2,a3,b1,b2,b3]
    ·rw[yaf a,yaf]
     rintro ⟨_,_,_,b1,b2,b3⟩
     exact a ⟨b1,b2,b3⟩
def zeroVs? (P:Program) (t:TypeId):Option (List V):=
 match zero? P t with
 |some z=>if (z.cells.toList.map zaE).all V.cellOk then some (z.cells.toList.map zaE) else none
 |none=>none
def places? (P:Program) (t:TypeId):Option (List (Nat × Nat)):=
 match P.underlying t with
 |some (.struct fs)=>fs.toList.mapM λf=>(sizeOf? P f.type).map λs=>(f.offset,s)
 |_=>none
def zll {P:Program}: ∀ {fs:List Field} {pl:List (Nat × Nat)},(fs.mapM λ(f:Field)=>(sizeOf? P f.type).map λs=>(f.offset,s))=some pl-> ∀i:Nat,(fs[i]?).bind (λ(f:Field)=>(sizeOf? P f.type).map λs=>(f.offset,s))=pl[i]?
 |[],pl,h,i=>by simp at h;subst h;simp
 |f::fs,pl,h,i=>by
  simp only[yaI,ybz,yaT,ybR,yaa]at h;obtain⟨p,hp,ps,hps,rfl⟩:=h;cases i with
  |zero=>simpa using hp
  |succ i=>simpa using zll hps i
def zap {P:Program} {t:TypeId} {parts:List (Nat × V)} {z:List V} {pl:List (Nat × Nat)} (hz:zeroVs? P t=some z) (hp:places? P t=some pl):zbf P t parts=(zcr (λi=>pl[i]?) z parts).map zcq:=by
 unfold zeroVs? at hz;unfold places? at hp;unfold zbf;cases h0:zero? P t with
 |none=>rw[h0]at hz;cases hz
 |some z0=>
  rw[h0]at hz;simp only at hz;split at hz
  ·rename_i hc
   simp only[yaa]at hz;subst hz;split at hp
   ·rename_i fs hfs
    have hall:fs.toList.all (λf=>(sizeOf? P f.type).isSome)=true:=by
     rw[ybS];intro f hf;obtain⟨i,hi⟩:=ybe hf;obtain⟨_,h2⟩:=zgD hp;obtain⟨b,_,hb⟩:=h2 i f hi;simp only[yac]at hb;obtain⟨s,hs,_⟩:=hb;rw[hs];rfl
    simp only[hfs,hc,hall,ydo,ybm];have hpl:(λ(i:Nat)=>(fs[i]?).bind λ(f:Field)=>(sizeOf? P f.type).map λs=>(f.offset,s))=λi=>pl[i]? :=by
     funext i;rw[<- zll hp i,ycf]
    rw[hpl]
   ·cases hp
  ·cases hz
def zbz {P:Program} {t:TypeId} {h:List Obj} {z:List V} (hz:zeroVs? P t=some z):zcK P h t=some (.ptr h.length 0,h++[.box z]):=by
 unfold zeroVs? at hz;unfold zcK;cases h0:zero? P t with
 |none=>rw[h0]at hz;cases hz
 |some z0=>
  rw[h0]at hz;simp only at hz ⊢;split at hz
  ·rename_i hc
   simp only[yaa]at hz;subst hz;rw[yai hc]
  ·cases hz
@[simp] def zwa (P:Program) (h:List Obj) (t:TypeId) (len:Nat) (parts:List (Nat × V)):zbe P h t len parts=
 (match P.underlying t with
 |some (.slice e)=>
  match sizeOf? P e with
  |some sz=>
   if (zero? P e).isSome=true/\0<sz/\parts.length=len/\len*sz<=65536/\zhq parts 0 then
    match zdO h (parts.map (·.2)) with
    |some (xs,h1)=>if zao sz xs then some (.arr h1.length len,h1++[.arr sz xs 0]) else none
    |none=>none
   else none
  |none=>none
 |_=>none):=by
 unfold zbe;cases P.underlying t with
 |none=>rfl
 |some d=>
  cases d <;> try rfl
  rename_i e;simp only;cases sizeOf? P e with
  |none=>rfl
  |some sz=>
   cases zero? P e with
   |none=>simp
   |some z=>simp;rfl
attribute [simp] zcr putCells zcq V.asD? zhq zdO
@[simp] def zaJ {α:Type} {f:α->D} {n:Nat} (l:List α) (hf: ∀x,(f x).cells.length=n):zao n (l.map f)=true:=by
 induction l with
 |nil=>rfl
 |cons x l ih=>simp[zao,hf,ih]
attribute [simp] zao source? elems?
@[simp] def zFu (x y:Int):(x != y)= !decide (x=y):=by
 by_cases h:x=y <;> simp[h]
@[simp] def zFv (x y:Int):(x == y)=decide (x=y):=by
 by_cases h:x=y <;> simp[h]
def zwZ {x:Int} (h1: -9223372036854775808<=x) (h2:x<=9223372036854775807):IntKind.i64.wrap x=x:=by
 simp[IntKind.wrap,IntKind.signed,IntKind.bits];omega
def zan {x:Int} (h1:0<=x) (h2:x<=18446744073709551615):IntKind.u64.wrap x=x:=by
 simp[IntKind.wrap,IntKind.signed,IntKind.bits];omega
def zqy {x:Int} (h1:0<=x) (h2:x<=4294967295):IntKind.u32.wrap x=x:=by
 simp[IntKind.wrap,IntKind.signed,IntKind.bits];omega
def zpp {x:Int} (h1:0<=x) (h2:x<=255):IntKind.u8.wrap x=x:=by
 simp[IntKind.wrap,IntKind.signed,IntKind.bits];omega
@[simp] def zt4 {α β:Type} (x:Option α) (f:α->Option β):(x >>=f)=x.bind f:=rfl
section
variable {P:Program} {G:Nat->Option (List D)} {K:zgm} {S:zgl}
def zts (P:Program) (k:Nat) (rs:List ResultVar) (ts:List TypeId) (r:Res):Option (List V × List Obj):=
 match r with
 |some (.normal,s,h) | some (.ret,s,h)=>obind (zrE P s h rs) λvs=>zdn P k ts vs h
 |_=>none
@[simp] def zzn {k:Nat} {rs:List ResultVar} {ts:List TypeId} {s:Slots} {h:List Obj}:zts P k rs ts (some (.normal,s,h))=obind (zrE P s h rs) λvs=>zdn P k ts vs h:=rfl
@[simp] def zBV {k:Nat} {rs:List ResultVar} {ts:List TypeId} (v:V) (f:Bool->Res) (t:Tok f):zts P k rs ts (zex v f t)=zex v (λz=>zts P k rs ts (f z)) ⟨⟩:=by
 cases v with
 |d x=>cases x <;> rfl
 |_=>rfl
@[simp] def zEr {k:Nat} {rs:List ResultVar} {ts:List TypeId} {s:Slots} {h:List Obj}:zts P k rs ts (some (.ret,s,h))=obind (zrE P s h rs) λvs=>zdn P k ts vs h:=rfl
def zqz {f:FuncId} {fn:Func} {c:Code} {rs:List ResultVar} {ts:List TypeId} {args:List V} {h:List Obj} {r:List V × List Obj} (hf:P.funcs[f]? =some fn) (hb:fn.body=some c)
 (hrs : fn.results.toList = rs) (hts : fn.resultTypes.toList = ts) (hok : codeOk P (S f) fn.ntmps c = true) (hn : (fn.name == "runtime.NumGoroutine") = false)
 (hsp:splits G f=false\/zbs G f=0/\ ∀zav,args≠ .d (.list [])::zav) (hl:args.length<=fn.ntmps) (hr:zts P h.length rs ts (zcA P G K S (zeA P G K S) f h.length 0 c ⟨⟩ (zaq 0 args) h)=some r):zeA P G K S f args h=some r:=by
 refine zy1 hsp ?_;unfold bodyV;simp only[hf,hb,hok,hn,yaQ hl,ydo,ydF,ybm];unfold zAc;rw[hrs,hts];exact hr
def zfk {f:FuncId} {fn:Func} {c:Code} {rs:List ResultVar} {ts:List TypeId} {args:List V} {h:List Obj} {r:List V × List Obj} (hf:P.funcs[f]? =some fn) (hb:fn.body=some c)
 (hrs : fn.results.toList = rs) (hts : fn.resultTypes.toList = ts) (hok : codeOk P (S f) fn.ntmps c = true) (hn : (fn.name == "runtime.NumGoroutine") = false)
 (hsp:splits G f=false\/zbs G f=0/\ ∀zav,args≠ .d (.list [])::zav) (hl:args.length<=fn.ntmps) (hr: ∀T:Option (List V × List Obj)->Prop,T (some r)->T (zts P h.length rs ts (zcA P G K S (zeA P G K S) f h.length 0 c ⟨⟩ (zaq 0 args) h))):zeA P G K S f args h=some r:=
 zqz hf hb hrs hts hok hn hsp hl (hr (·=some r) rfl)
def zeM {f:FuncId} {fn:Func} {c:Code} {rs:List ResultVar} {ts:List TypeId} {zav:List V} {h:List Obj} {r:List V × List Obj} (hf:P.funcs[f]? =some fn) (hb:fn.body=some c)
 (hrs : fn.results.toList = rs) (hts : fn.resultTypes.toList = ts) (hok : codeOk P (S f) fn.ntmps c = true) (hn : (fn.name == "runtime.NumGoroutine") = false)
 (hsp:splits G f=true/\zbs G f=0) (hl:zav.length+1<=fn.ntmps) (hr: ∀T:Option (List V × List Obj)->Prop,T (some r)-> ∀a,a= .nilS\/a= .emp->T (zts P h.length rs ts (zcA P G K S (zeA P G K S) f h.length 0 c ⟨⟩ (zaq 0 (a::zav)) h))):zeA P G K S f (.d (.list [])::zav) h=some r:=by
 have key: ∀a,a= .nilS\/a= .emp->bodyV P G K S (zeA P G K S) loops f (a::zav) h=some r:=λa ha=>by
  unfold bodyV;simp only[hf,hb,hok,hn,yad,yaQ hl,ydo,ydF,ybm];unfold zAc;rw[hrs,hts];exact hr (·=some r) rfl a ha
 exact zr7 hsp.1 hsp.2 (key .nilS (.inl rfl)) (key .emp (.inr rfl))
def zFw (p:Bool->Prop) (r:Option (List V × List Obj)):Prop:= ∃b,r=some ([.d (.bool b)],[])/\p b
@[simp] def zAS {p:Bool->Prop} {b:Bool}:zFw p (some ([.d (.bool b)],[]))↔p b:=by
 constructor
 ·rintro ⟨b',h,hp⟩
  simp only[yaa,yab,yct,V.d.injEq,D.bool.injEq,yc6]at h;rw[h];exact hp
 ·exact λh=>⟨b,rfl,h⟩
def zzo {f:FuncId} {fn:Func} {c:Code} {rs:List ResultVar} {ts:List TypeId} {args:List V} {h:List Obj} {p:Option (List V × List Obj)->Prop} (hf:P.funcs[f]? =some fn) (hb:fn.body=some c)
 (hrs : fn.results.toList = rs) (hts : fn.resultTypes.toList = ts) (hok : codeOk P (S f) fn.ntmps c = true) (hn : (fn.name == "runtime.NumGoroutine") = false)
 (hsp:splits G f=false\/zbs G f=0/\ ∀zav,args≠ .d (.list [])::zav) (hl:args.length<=fn.ntmps) (hp: ¬ p none) (hr:p (zts P h.length rs ts (zcA P G K S (zeA P G K S) f h.length 0 c ⟨⟩ (zaq 0 args) h))):p (zeA P G K S f args h):=by
 cases he:zts P h.length rs ts (zcA P G K S (zeA P G K S) f h.length 0 c ⟨⟩ (zaq 0 args) h) with
 |none=>rw[he]at hr;exact absurd hr hp
 |some r=>rw[he]at hr;rw[zqz hf hb hrs hts hok hn hsp hl he];exact hr
def zaa {σ:Type} {T:Res->Prop} {k:Nat} {keep:List (Nat × Nat)} {b:Slots->List Obj->Res} {t:Tok b} {s:Slots} {h:List Obj} (Sl:σ->Slots) (H:σ->List Obj) (I:σ->Prop) (μ:σ->Nat) (x:σ)
 (hi:I x) (hn:zew k keep s h=some (Sl x,H x))
 (step: ∀ (T':Res->Prop) (b':Slots->List Obj->Res),T'=T-> ∀x,I x->(∀y s h,I y->μ y<μ x->zew k keep s h=some (Sl y,H y)->T' (zfE k keep b' s h))->T' (zx9 (b (Sl x) (H x)) (zfE k keep b') ⟨⟩)):
 ∀z,zak (some keep) k b t s h=z->T z:=by
 rintro _ rfl
 show T (zfE k keep b s h)
 have key: ∀n x,μ x<=n-> ∀s h,I x->zew k keep s h=some (Sl x,H x)->T (zfE k keep b s h):=by
  intro n
  induction n with
  |zero=>
   intro x hx s h hi hn;rw[zqv,hn];exact step T b rfl x hi λy s h _ hlt _=>by omega
  |succ n ih=>
   intro x hx s h hi hn;rw[zqv,hn];exact step T b rfl x hi λy s h hy hlt hn=>ih y (by omega) s h hy hn
 exact key (μ x) x (yag _) s h hi hn
def zzp {T:Res->Prop} {x:Res} (Q:Res->Prop) (hq:Q x) (h: ∀z,Q z->T z): ∀z,x=z->T z:=by
 rintro _ rfl
 exact h _ hq
def zeN {t:TypeId} {parts:List (Nat × V)} {z:List V} {n:Nat} {e:TypeId} {s:Nat} (hz:zeroVs? P t=some z) (hu:P.underlying t=some (.array n e)) (hs:sizeOf? P e=some s):zbf P t parts=(zcr (λi=>some (i*s,s)) z parts).map zcq:=by
 unfold zeroVs? at hz;unfold zbf;cases h0:zero? P t with
 |none=>rw[h0]at hz;cases hz
 |some z0=>
  rw[h0]at hz;simp only at hz;split at hz
  ·rename_i hc
   simp only[yaa]at hz;subst hz;simp only[hu,hs,hc,ybm]
  ·cases hz
@[simp] def zzq (l:List Int):zao 1 (l.map λn=>D.int .i64 n)=true:=zaJ l λ_=>rfl
@[simp] def zpq (k:IntKind) (x:Int): ∀n,zao 1 (List.replicate n (D.int k x))=true
 |0=>rfl
 |n+1=>by simp[yaS,zpq k x n]
end
/-! ### lists of own lists -/
section
variable {P:Program} {G:Nat->Option (List D)} {K:zgm} {S:zgl} {run:Run} {F k b:Nat}
@[simp] def zzr:zdy (zoM G)=true:=rfl
@[simp] def zBW (f:FuncId):zab (zoM G) f=zab G f:=by unfold zab zoM;rw[yaf (by have:1000000<=1000000+f:=ybM _ _;omega)]
@[simp] def zBX (f:FuncId):zac (zoM G) f=zac G f:=by unfold zac zoM;rw[yaf (by have:3000000<=3000000+f:=ybM _ _;omega)]
@[simp ↓] def zEs {all:List Oper} {s:Slots} {h:List Obj}:opsO P G run all [] s h=some (s,h):=rfl
@[simp ↓] def zAT {all:List Oper} {dst:Option Tmp} {op:Op} {ty:TypeId} {pos:String} {after:Array Edge} {zav:List Oper} {s:Slots} {h:List Obj}:
 opsO P G run all (⟨dst,op,ty,pos,after,none⟩::zav) s h=zaU (opM P G run s h ⟨dst,op,ty,pos,after,none⟩) (λp=>opsO P G run all zav (zeB s dst p.1) p.2) ⟨⟩:=rfl
def zt5 {f:FuncId} {fn:Func} {c:Code} {rs:List ResultVar} {ts:List TypeId} {args:List V} {h:List Obj} {r:List V × List Obj} (hf:P.funcs[f]? =some fn) (hb:fn.body=some c)
 (hrs : fn.results.toList = rs) (hts : fn.resultTypes.toList = ts) (hok : codeOk P (S f) fn.ntmps c = true) (hn : (fn.name == "runtime.NumGoroutine") = false)
 (hsp:zbs G f=3) (hl:args.length<=fn.ntmps) (hr: ∀T:Option (List V × List Obj)->Prop,T (some r)->T (zts P h.length rs ts (zcA P (zoM G) K S (zeA P G K S) f h.length 0 c ⟨⟩ (zaq 0 args) h))):zeA P G K S f args h=some r:=by
 refine zwI hsp ?_;unfold bodyV;simp only[hf,hb,hok,hn,yaQ hl,ydo,ydF,ybm];unfold zAc;rw[hrs,hts];exact hr (·=some r) rfl
end
end Go.Am
