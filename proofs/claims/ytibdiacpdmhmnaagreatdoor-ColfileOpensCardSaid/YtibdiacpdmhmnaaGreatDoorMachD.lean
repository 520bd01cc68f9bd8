/- The abstract machine: what a row says, and the fixpoint of all functions. -/
import Derived.ProofKit
import Derived.OpenShut
import Derived.Carry
import Derived.Test.YtibdiacpdmhmnaaGreatDoorMachA
import Derived.Test.YtibdiacpdmhmnaaGreatDoorMachC
set_option linter.all false
namespace Go.Am
def zmy (P:Program):Nat->List Field->Option Nat
 |n,[]=>some n
 |n,f::fs=>if f.offset=n then zmy P (n+P.cellsOf f.type) fs else none
def zbZ (P:Program):Nat->TypeId->Bool
 |0,_=>false
 |n+1,t=>
  match P.underlying t with
  |some (.int _) | some .bool | some .string=>true
  |some (.slice e)=>decide (0<P.cellsOf e) && zbZ P n e
  |some (.struct fs)=>(zmy P 0 fs.toList == some (P.cellsOf t)) && fs.toList.all λf=>zbZ P n f.type
  |_=>false
inductive All2 {α β:Type} (R:α->β->Prop):List α->List β->Prop
 |nil:All2 R [] []
 |cons {a:α} {b:β} {as:List α} {bs:List β}:R a b->All2 R as bs->All2 R (a::as) (b::bs)
def zc1 (P:Program):Nat->TypeId->D->Prop
 |0,_,_=>False
 |n+1,t,x=>
  match P.underlying t with
  |some (.int k)=> ∃i,x= .int k i/\(Lit.int k i).wf=true
  |some .bool=> ∃b,x= .bool b
  |some .string=> ∃s,x= .str s/\s.size<=maxLen
  |some (.slice e)=> ∃xs,x= .list xs/\xs.length<=maxLen/\ ∀y∈xs,zc1 P n e y
  |some (.struct fs)=> ∃ys:List D,x= .agg (ys.flatMap D.cells)/\All2 (λf y=>zc1 P n f.type y) fs.toList ys
  |_=>False
def zfj:Nat->Nat->Prop:=λ_ _=>False
def zcl (w:World) (cs:List Value) (ds:List D):Prop:=
 cs.length=ds.length/\ ∀ (j:Nat) (c:D),ds[j]? =some c-> ∃v,cs[j]? =some v/\Rep zfj w v c/\c.isCell=true
section
variable {H:Type} {enc:TypeId × Value->H} {P:Program} {w:World}
def zcl.one {v:Value} {c:D} (hr:Rep zfj w v c) (hc:c.isCell=true):zcl w [v] c.cells:=by
 rw[D.cells_one hc];refine⟨rfl,λj c' hj=> ?_⟩
 cases j with
 |zero=>simp only[yaF,yaa]at hj;subst hj;exact⟨v,rfl,hr,hc⟩
 |succ j=>simp at hj
def zcl.append {cs:List Value} {k:Nat} {a b:List D} (ha:zcl w (cs.take k) a) (hb:zcl w (cs.drop k) b):zcl w cs (a++b):=by
 obtain⟨a1,a2⟩:=ha;obtain⟨b1,b2⟩:=hb;rw[yao]at a1;rw[yay]at b1;refine⟨by rw[yaf];omega,λj c hj=> ?_⟩
 rcases ybn j a.length with hl | hl
 ·rw[yan hl]at hj
  obtain⟨v,h1,h2⟩:=a2 j c hj;rw[yaT]at h1;split at h1
  ·exact⟨v,h1,h2⟩
  ·cases h1
 ·rw[yaj hl]at hj
  obtain⟨v,h1,h2⟩:=b2 _ c hj;rw[ya1]at h1;have hlt:=lt_of_getElem? hj;have e:k+(j - a.length)=j:=by omega
  rw[e]at h1;exact⟨v,h1,h2⟩
def ziN {m fuel:Nat} {cs:List Value} (ih: ∀t cs d ps,zbZ P m t=true->DataW.trod enc P w 0 (λ_=>true) true fuel t cs=some (d,ps)-> ∃x,zc1 P m t x/\zcl w cs x.cells):
 ∀ (fs:List Field) (n:Nat) (xs:List (DataW H × List MemPlace)),zmy P n fs=some cs.length->n<=cs.length->(∀f∈fs,zbZ P m f.type=true)->
  (fs.mapM λf=>DataW.trod enc P w 0 (λ_=>true) true fuel f.type ((cs.drop f.offset).take (P.cellsOf f.type)))=some xs->
  ∃ys:List D,All2 (λf y=>zc1 P m f.type y) fs ys/\zcl w (cs.drop n) (ys.flatMap D.cells)
 |[],n,xs,ht,hn,hp,hx=>by
  simp only[zmy,yaa]at ht;subst ht;exact⟨[],.nil,by simp,λj c hj=>by simp at hj⟩
 |f::fs,n,xs,ht,hn,hp,hx=>by
  simp only[zmy]at ht;split at ht
  ·rename_i ho
   simp only[yaU,ybz,yaP,ybH,yaa]at hx;obtain⟨⟨d,ps⟩,hd,xs',hxs,rfl⟩:=hx;obtain⟨y,hy,hc⟩:=ih _ _ _ _ (hp f (ybh ..)) hd;have hle:n+P.cellsOf f.type<=cs.length:=by
    have: ∀ (fs:List Field) (n m:Nat),zmy P n fs=some m->n<=m:=by
     intro fs
     induction fs with
     |nil=>intro n m h;simp only[zmy,yaa]at h;omega
     |cons g gs ih=>intro n m h;simp only[zmy]at h;split at h
                    ·have:=ih _ _ h;omega
                    ·cases h
    exact this _ _ _ ht
   obtain⟨ys,h1,h2⟩:=ziN ih fs (n+P.cellsOf f.type) xs' ht hle (λg hg=>hp g (ya6 _ hg)) hxs
   refine⟨y::ys,.cons hy h1, ?_⟩;rw[ybB];refine zcl.append (k:=P.cellsOf f.type) (by rw[<- ho];exact hc) ?_
   rw[ycK];exact h2
  ·cases ht
def zkv {m fuel:Nat} {e:TypeId} {b off:Nat} (hm:zbZ P m e=true) (ih: ∀t cs d ps,zbZ P m t=true->DataW.trod enc P w 0 (λ_=>true) true fuel t cs=some (d,ps)-> ∃x,zc1 P m t x/\zcl w cs x.cells):
 ∀n:Nat,(∀i,i<n-> ∃x,(w.cells? 0 ((⟨b,off,none⟩:Addr).add (i*P.cellsOf e)) (P.cellsOf e)).bind (DataW.trod enc P w 0 (λ_=>true) true fuel e)=some x)->
  ∃xs:List D,xs.length=n/\(∀x∈xs,x.cells.length=P.cellsOf e)/\(∀x∈xs,zc1 P m e x)/\(flat xs).length=n*P.cellsOf e/\
   ∀ (j:Nat) (c:D),(flat xs)[j]? =some c-> ∃v,w.cell? ⟨b,off+j,none⟩=some v/\Rep zfj w v c/\c.isCell=true
 |0,_=>⟨[],rfl,by simp,by simp,by simp[flat],λj c hj=>by simp[flat]at hj⟩
 |n+1,hx=>by
  obtain⟨xs,h1,h2,h3,h4,h5⟩:=zkv hm ih n λi hi=>hx i (by omega)
  obtain⟨⟨d,ps⟩,hd⟩:=hx n (by omega)
  simp only[yaP]at hd;obtain⟨cs,hcs,hd⟩:=hd;obtain⟨x,hx1,hx2,hx3⟩:=ih _ _ _ _ hm hd;simp only[World.cells?,yai,ybk]at hcs;obtain⟨l1,l2⟩:=zaX hcs;rw[yb7]at l1;have hlen:x.cells.length=P.cellsOf e:=by rw[<- hx2,l1]
  have hfl:flat (xs++[x])=flat xs++x.cells:=by simp[flat]
  refine⟨xs++[x],by simp[h1],λy hy=> ?_,λy hy=> ?_, ?_,λj c hj=> ?_⟩
  ·rcases List.mem_append.1 hy with h | h
   ·exact h2 y h
   ·rw[List.mem_singleton.1 h];exact hlen
  ·rcases List.mem_append.1 hy with h | h
   ·exact h3 y h
   ·rw[List.mem_singleton.1 h];exact hx1
  ·rw[hfl,yaf,h4,hlen,yaX,ycc]
  ·rw[hfl]at hj
   rcases ybn j (flat xs).length with hl | hl
   ·rw[yan hl]at hj
    exact h5 j c hj
   ·rw[yaj hl]at hj
    obtain⟨v,g1,g2,g3⟩:=hx3 _ c hj;obtain⟨i,g4,g5⟩:=l2 _ v g1;have hi:i=j - (flat xs).length:=by
     have hlt:=lt_of_getElem? g4;rw[yb7]at hlt;rw[ybb hlt,yaa]at g4;exact g4.symm
    refine⟨v, ?_,g2,g3⟩;rw[<- g5];congr 1;rw[hi,h4];unfold Addr.add;split <;> split <;> simp <;> omega
def reads: ∀ (fuel m:Nat) (t:TypeId) (cs:List Value) (d:DataW H) (ps:List MemPlace),zbZ P m t=true->DataW.trod enc P w 0 (λ_=>true) true fuel t cs=some (d,ps)->
 ∃x,zc1 P m t x/\zcl w cs x.cells:=by
 intro fuel
 induction fuel with
 |zero=>intro m t cs d ps _ h;simp[DataW.trod]at h
 |succ fuel ih=>
  intro m t cs d ps hm h;cases m with
  |zero=>simp[zbZ]at hm
  |succ m=>
   have ih': ∀t cs d ps,zbZ P m t=true->DataW.trod enc P w 0 (λ_=>true) true fuel t cs=some (d,ps)-> ∃x,zc1 P m t x/\zcl w cs x.cells:=λt cs d ps=>ih m t cs d ps
   simp only[zbZ]at hm;simp only[zc1];unfold DataW.trod at h;split at h
   case h_1 b e=>rw[e];exact⟨.bool b,⟨b,rfl⟩,zcl.one (.bool b) rfl⟩
   case h_2 k k' n e=>
    rw[e];split at h
    ·rename_i hk
     obtain⟨rfl,hw⟩:=hk;exact⟨.int _ n,⟨n,rfl,hw⟩,zcl.one (.int _ n) rfl⟩
    ·cases h
   case h_4 s e=>
    rw[e];split at h
    ·rename_i hs
     exact⟨.str s,⟨s,rfl,hs⟩,zcl.one (.str s) rfl⟩
    ·cases h
   case h_7 e0 e=>rw[e];exact⟨.list [],⟨[],rfl,yai _,λ_ h=>by cases h⟩,zcl.one (.nil none 0 λ_=>rfl) rfl⟩
   case h_8 e a len cap he=>
    rw[he]at hm ⊢;simp only[yar,yaG]at hm;simp only at h;split at h
    ·rename_i hc
     simp only[yaP]at h;obtain⟨els,hels,-⟩:=h;obtain⟨r1,r2⟩:=zaX hels;obtain⟨_,r3⟩:=zga hels;rw[yb7]at r1;rcases ybw len with h0 | h0
     ·subst h0
      exact⟨.list [],⟨[],rfl,yai _,λ_ h=>by cases h⟩,zcl.one (.nil _ _ λe=>by cases e) rfl⟩
     ·have hspot:a.spot=none:=by
       obtain⟨x0,_,hx0⟩:=r3 0 0 (by rw[ybb h0])
       simp only[yaP]at hx0;obtain⟨cs0,hcs0,-⟩:=hx0;simp only[World.cells?,yai,ybk]at hcs0;obtain⟨_,q⟩:=zga hcs0;obtain⟨v0,_,hv0⟩:=q 0 0 (by rw[ybb hm.1])
       simpa[Addr.add]using World.cell?_spot hv0
      obtain⟨b,off,sp⟩:=a;simp only at hspot;subst hspot;obtain⟨xs,h1,h2,h3,h4,h5⟩:=zkv hm.2 ih' (b:=b) (off:=off) len λi hi=>by
       obtain⟨x,_,hx⟩:=r3 i i (by rw[ybb hi])
       exact⟨x,hx⟩
      refine⟨.list xs,⟨xs,rfl,by omega,h3⟩,zcl.one ?_ rfl⟩
      refine .list b off len cap (P.cellsOf e) xs (λj=>(w.cell? ⟨b,off+j,none⟩).getD undef) h1.symm hc.2.1 h2 (λj c hj=> ?_) λj c hj=> ?_
      ·obtain⟨v,g1,g2,g3⟩:=h5 j c hj
       exact⟨by rw[g1];rfl,λh=>h,g3⟩
      ·obtain⟨v,g1,g2,g3⟩:=h5 j c hj
       rw[g1];exact g2
    ·cases h
   case h_9 cs' fs he=>
    rw[he]at hm ⊢;simp only[yar,ycP,ybR]at hm;split at h
    ·rename_i hlen
     simp only[yac]at h;obtain⟨xs,hxs,-⟩:=h;obtain⟨ys,h1,h2⟩:=ziN ih' fs.toList 0 xs (by rw[hlen];exact hm.1) (yai _) hm.2 hxs
     exact⟨.agg (ys.flatMap D.cells),⟨ys,rfl,h1⟩,h2⟩
    ·cases h
   all_goals
    rename_i e
    first
     |(rw[e]at hm;cases hm)
     |(exfalso;simp_all)
def zsf {m:Nat} {t:TypeId} {v:Value} {d:DataW H} {ps:List MemPlace} (hm:zbZ P m t=true) (hd:DataW.Trod enc P w 0 (λ_=>true) true t v d ps):
 ∃x,zc1 P m t x/\zcl w v.cells.toList x.cells:=by
 obtain⟨fuel,h⟩:=hd;exact reads fuel m t _ d ps hm h
end
end Go.Am
namespace Go.Am
open Go.RowKit Go.ChangeShapes Go.WideShapes
section
variable {H:Type} {enc:TypeId × Value->H} {P:Program} {w:World}
def zwn {m b0:Nat} {t:TypeId} {v:Value} {d:DataW H} {ps:List MemPlace} (hm:zbZ P m t=true) (hok:Value.okWide P w .any b0 t v) (hd:DataW.Trod enc P w 0 (λ_=>true) true t v d ps):
 ∃x,zc1 P m t x/\Rep zfj w v x:=by
 obtain⟨x,hx,hl,hc⟩:=zsf hm hd;refine⟨x,hx, ?_⟩;have one: ∀ {v:Value} {x:D},v.cells= #[v]->x.isCell=true->zcl w v.cells.toList x.cells->Rep zfj w v x:=λhv hx hc=>by
  rw[hv,D.cells_one hx]at hc;obtain⟨v',h1,h2,_⟩:=hc.2 0 _ rfl;simp only[yaF,yaa]at h1;subst h1;exact h2
 cases m with
 |zero=>simp[zbZ]at hm
 |succ m=>
  simp only[zbZ]at hm;simp only[zc1]at hx;split at hm
  ·rename_i k he
   obtain⟨n,rfl⟩:=okWide_int he hok;rw[he]at hx;obtain⟨i,rfl,_⟩:=hx;exact one rfl rfl ⟨hl,hc⟩
  ·rename_i he
   obtain⟨n,rfl⟩:=okWide_bool he hok;rw[he]at hx;obtain⟨i,rfl⟩:=hx;exact one rfl rfl ⟨hl,hc⟩
  ·rename_i he
   obtain⟨n,rfl⟩:=okWide_string he hok;rw[he]at hx;obtain⟨i,rfl,_⟩:=hx;exact one rfl rfl ⟨hl,hc⟩
  ·rename_i e he
   obtain⟨a,l,c,rfl⟩:=okWide_slice he hok;rw[he]at hx;obtain⟨i,rfl,_⟩:=hx;exact one rfl rfl ⟨hl,hc⟩
  ·rename_i fs he
   obtain⟨cs,rfl,_⟩:=okWide_struct he hok;rw[he]at hx;obtain⟨ys,rfl,_⟩:=hx;have hcs: ∀ (j:Nat) (c:D),(ys.flatMap D.cells)[j]? =some c-> ∃v,cs[j]? =some v/\Rep zfj w v c/\c.isCell=true:=λj c hj=>by
    simpa[Value.cells,D.cells]using hc j c hj
   refine .agg cs _ (λj=>cs.getD j undef) (by simpa[Value.cells,D.cells]using hl) (λj c hj=> ?_) λj c hj=> ?_
   ·obtain⟨v,h1,h2,h3⟩:=hcs j c hj
    exact⟨by rw[h1,yap,h1];rfl,h3⟩
   ·obtain⟨v,h1,h2,h3⟩:=hcs j c hj
    rw[yap,h1];exact h2
  ·cases hm
def zsg (P:Program) (m:Nat) (t:TypeId):Bool:=zbZ P m t && P.readableRec t && decide (t<P.types.size)
def zpl {m b0:Nat}: ∀ (ts:List TypeId) (vs:List Value) (ds:List (DataW H)) (ps:List MemPlace),(∀t∈ts,zbZ P m t=true)->(∀ (j:Nat) t v,ts[j]? =some t->vs[j]? =some v->Value.okWide P w .any b0 t v)->
 DataW.TrodAll enc P w 0 (λ_=>true) true ts vs ds ps-> ∃xs:List D,All2 (zc1 P m) ts xs/\All2 (Rep zfj w) vs xs
 |[],vs,ds,ps,_,_,h=>by
  obtain⟨rfl,_,_⟩:=trodAll_nil h;exact⟨[],.nil,.nil⟩
 |t::ts,vs,ds,ps,hp,hok,h=>by
  obtain⟨v,vs',d,ds',p,q,rfl,rfl,rfl,hd,hr⟩:=trodAll_cons h;obtain⟨x,h1,h2⟩:=zwn (hp t (ybh ..)) (hok 0 t v rfl rfl) hd;obtain⟨xs,h3,h4⟩:=zpl ts vs' ds' q (λt ht=>hp t (ya6 _ ht)) (λj t v h1 h2=>hok (j+1) t v (by simpa using h1) (by simpa using h2)) hr
  exact⟨x::xs,.cons h1 h3,.cons h2 h4⟩
def zmz (hl:laidOutB P=true) {W':World} (hb:Below w.heap.size w W'): ∀ (ts:List TypeId) (vs:List Value) (ds:List (DataW H)) (ps:List MemPlace),(∀t∈ts,P.readableRec t=true/\t<P.types.size)->
 DataW.TrodAll enc P w 0 (λ_=>true) true ts vs ds ps->(∀x∈ps,x.block<w.heap.size)->DataW.TrodAll enc P W' 0 (λb=>decide (b<w.heap.size)) true ts vs ds ps
 |[],vs,ds,ps,_,h,_=>by
  obtain⟨rfl,rfl,rfl⟩:=trodAll_nil h;exact h
 |t::ts,vs,ds,ps,hp,h,hlt=>by
  obtain⟨v,vs',d,ds',p,q,rfl,rfl,rfl,hd,hr⟩:=trodAll_cons h;obtain⟨k1,k2⟩:=hp t (ybh ..);exact trodAll_cons_mk (Below.trod hl k1 k2 hd hb λx hx=>hlt x (ybQ _ hx))
   (zmz hl hb ts vs' ds' q (λt ht=>hp t (ya6 _ ht)) hr λx hx=>hlt x (ycy _ hx))
def All2.length {α β:Type} {R:α->β->Prop}: ∀ {as:List α} {bs:List β},All2 R as bs->as.length=bs.length
 |_,_,.nil=>rfl
 |_,_,.cons _ h=>by simp[h.length]
def All2.get {α β:Type} {R:α->β->Prop}: ∀ {as:List α} {bs:List β},All2 R as bs-> ∀ (j:Nat) (b:β),bs[j]? =some b-> ∃a,as[j]? =some a/\R a b
 |_,_,.nil,j,b,hj=>by simp at hj
 |_,_,.cons h hs,0,b,hj=>by simp only[yaF,yaa]at hj;subst hj;exact⟨_,rfl,h⟩
 |_,_,.cons _ hs,j+1,b,hj=>by simpa using hs.get j b (by simpa using hj)
def zsh {run:Run} {f:FuncId} {G:Nat->Option (List D)} (hrun:zd6 P G run) {xs:List D} {h':List Obj} (hx:run f (xs.map .d) []=some ([.d (.bool true)],h')) {vs:List Value} (hv:All2 (Rep zfj w) vs xs)
 (hg:GRel zfj G [] [] w):Calls P f vs.toArray w λe w'=>e= .returned (.bool true)/\Below w.heap.size w w':=by
 have hmut: ∀b j,Mut zfj [] [] b j->zfj b j:=by
  rintro b j (h | ⟨id,c,o,h,_⟩)
  ·exact h
  ·simp at h
 have H:HRel zfj [] [] w:=⟨rfl,λid o ho=>by simp at ho,λb j h=>h.elim,λ_ _ _ _ h=>by simp at h,λ_ _ _ _ _ h=>by simp at h⟩
 have ha:zcA zfj [] [] w vs (xs.map .d):=⟨by simp[hv.length],λj A hj=>by
  simp only[yaz,yac]at hj;obtain⟨x,hj,rfl⟩:=hj;obtain⟨v,h1,h2⟩:=hv.get j x hj;exact⟨v,h1,h2.mono λb j v hm hc=>⟨hc,λh=>hm (hmut b j h)⟩⟩⟩
 refine (hrun f _ _ _ _ hx zfj [] w vs H hg ha).mono ?_
 rintro e w' ⟨ρ',rv,rfl,st,us,l1,l2,rfl⟩
 obtain⟨u,h1,h2⟩:=l2 0 _ rfl;have:us=[u]:=by
  match us,l1,h1 with
  |[u'],_,h1=>simpa using h1
 subst this;refine⟨?_,st.fr.os,st.fr.tape,st.fr.output,st.fr.size,λk hk=>(st.fr.block k hk λid c=>by simp).1⟩
 have h3:Rep (Mut zfj ρ' h') w' u (.bool true):=h2;cases h3;rfl
def zmA {run:Run} {f:FuncId} {fn:Func} {s:ChangeSpec} {m:Nat} {tb:TypeId} {G:Nat->Option (List D)} {W:World} {base:Nat} {args:Array Value} {ds gs:List (DataW H)} {before:List MemPlace}
 (hl:laidOutB P=true) (hp:fn.params.toList.all (zsg P m)=true) (hvars:s.vars=[]) (hres:fn.resultTypes= #[tb]) (htb:P.underlying tb=some .bool)
 (hspec: ∀ds:List (DataW H),ds.length=fn.params.size->s.fn H ds= { results:=[.lit (.bool true)],args:=ds,vars:=[] })
 (hrun:zd6 P G run) (hx: ∀xs:List D,All2 (zc1 P m) fn.params.toList xs-> ∃h',run f (xs.map .d) []=some ([.d (.bool true)],h')) (hg:GRel zfj G [] [] W)
 (hval: ∀ (j:Nat) t v,fn.params[j]? =some t->args[j]? =some v->Value.okWide P W .any base t v)
 (hW:DataW.Whole enc P fn.params.toList s.vars false W args.toList ds gs before):
 Calls P f args W λe W'=> ∃v,e= .returned v/\s.post enc P fn false true false false W args v W':=by
 have hW':=hW;have hlt: ∀x∈before,x.block<W.heap.size:=λx hx=>hW'.lt x hx
 obtain⟨p,q,hA,hV,rfl,_,_⟩:=hW;rw[hvars]at hV;obtain⟨rfl,rfl⟩:gs=[]/\q=[]:=by
  cases gs with
  |nil=>exact⟨rfl,hV⟩
  |cons g gs=>simp[DataW.TrodVars]at hV
 simp only[ybR,zsg,yar,yaG]at hp;obtain⟨xs,h1,h2⟩:=zpl fn.params.toList args.toList ds p (λt ht=>(hp t ht).1.1) (λj t v h1 h2=>hval j t v (by simpa using h1) (by simpa using h2)) hA
 obtain⟨h',hr⟩:=hx xs h1;have hlen:ds.length=fn.params.size:=by
  have: ∀ (ts:List TypeId) (vs:List Value) (ds:List (DataW H)) (ps:List MemPlace),DataW.TrodAll enc P W 0 (λ_=>true) true ts vs ds ps->ds.length=ts.length:=by
   intro ts
   induction ts with
   |nil=>intro vs ds ps h;obtain⟨_,rfl,_⟩:=trodAll_nil h;rfl
   |cons t ts ih=>
    intro vs ds ps h;obtain⟨v,vs',d,ds',p,q,rfl,rfl,rfl,hd,hr⟩:=trodAll_cons h;simp[ih _ _ _ hr]
  simpa using this _ _ _ _ hA
 have:=zsh hrun hr h2 hg;rw[Array.toArray_toList]at this;refine this.mono ?_
 rintro e W' ⟨rfl,hb⟩
 have hs:=hspec ds hlen;have hds:ds++([]:List (DataW H))=ds:=yau ds;refine⟨_,rfl,ds,[],p++[],[],p,[],hW', ?_, ?_, ?_,hb.frame _,λh=>by cases h⟩
 ·rw[hds,hs,hres]
  exact trodAll_cons_mk (shut_bool htb true) rfl
 ·rw[hds,hs]
  exact zmz hl hb _ _ _ _ (λt ht=>⟨(hp t ht).1.2,(hp t ht).2⟩) hA λx hx=>hlt x (ybQ _ hx)
 ·rw[hds,hs,hvars]
  rfl
end
end Go.Am
namespace Go.Am
def Ev {α:Type} (A:Nat->Option α) (x:Option α):Prop:= ∀r,x=some r-> ∃n, ∀m,n<=m->A m=some r
def Ev.const {α:Type} (x:Option α):Ev (λ_=>x) x:=λ_ hr=>⟨0,λ_ _=>hr⟩
def Ev.obind {α β:Type} {A:Nat->Option α} {x:Option α} {B:Nat->α->Option β} {b:α->Option β} (ha:Ev A x) (hb: ∀a,Ev (λm=>B m a) (b a)):
 Ev (λm=>Am.obind (A m) (B m)) (Am.obind x b):=λr hr=>by
 cases x with
 |none=>cases hr
 |some a=>
  obtain⟨n1,h1⟩:=ha a rfl;obtain⟨n2,h2⟩:=hb a r hr;exact⟨max n1 n2,λm hm=>by simp only[h1 m (by omega)];exact h2 m (by omega)⟩
def Ev.onNormal {A:Nat->Res} {x:Res} {B:Nat->Slots->List Obj->Res} {b:Slots->List Obj->Res} (ha:Ev A x) (hb: ∀s h,Ev (λm=>B m s h) (b s h)):
 Ev (λm=>Am.onNormal (A m) (B m)) (Am.onNormal x b):=λr hr=>by
 cases x with
 |none=>cases hr
 |some a=>
  obtain⟨o,s,h⟩:=a;obtain⟨n1,h1⟩:=ha _ rfl;cases o with
  |normal=>
   obtain⟨n2,h2⟩:=hb s h r hr;exact⟨max n1 n2,λm hm=>by simp only[h1 m (by omega),Am.onNormal];exact h2 m (by omega)⟩
  |exit i=>exact⟨n1,λm hm=>by simp only[h1 m hm];exact hr⟩
  |ret=>exact⟨n1,λm hm=>by simp only[h1 m hm];exact hr⟩
def Ev.leave {A:Nat->Res} {x:Res} (id:Nat) (ha:Ev A x):Ev (λm=>Am.leave id (A m)) (Am.leave id x):=λr hr=>by
 cases x with
 |none=>cases hr
 |some a=>
  obtain⟨n1,h1⟩:=ha _ rfl;exact⟨n1,λm hm=>by simp only[h1 m hm];exact hr⟩
def Ev.branch {A B:Nat->Res} {x y:Res} (c:V) (ha:Ev A x) (hb:Ev B y):Ev (λm=>Am.branch c (A m) (B m)) (Am.branch c x y):=by
 unfold Am.branch;split
 ·rename_i t
  cases t with
  |true=>exact ha
  |false=>exact hb
 ·exact Ev.const none
def Ev.iter {A:Nat->Slots->List Obj->Res} {x:Slots->List Obj->Res} (ha: ∀s h,Ev (λm=>A m s h) (x s h)): ∀ (k:Nat) (s:Slots) (h:List Obj),Ev (λm=>Am.iter (A m) k s h) (Am.iter x k s h)
 |0,_,_=>Ev.const none
 |k+1,s,h=>by
  simp only[Am.iter];exact Ev.onNormal (ha s h) λs h=>Ev.iter ha k s h
def Ev.loops {A:Nat->Slots->List Obj->Res} {x:Slots->List Obj->Res} (ha: ∀s h,Ev (λm=>A m s h) (x s h)) (s:Slots) (h:List Obj):Ev (λm=>Am.loops (A m) s h) (Am.loops x s h):=λr hr=>by
 obtain⟨k,hk⟩:=zc8.1 hr;obtain⟨n,hn⟩:=Ev.iter ha k s h r hk;exact⟨n,λm hm=>zc8.2 ⟨k,hn m hm⟩⟩
def ziO (R:Nat->Run) (R':Run):Prop:= ∀f args h,Ev (λm=>R m f args h) (R' f args h)
section
variable {P:Program} {G:Nat->Option (List D)} {K:zgT} {S:zgS} {R:Nat->Run} {R':Run}
def Ev.callWith (hR:ziO R R') (rf:Bool) (f:FuncId) (args:List V) (h:List Obj):Ev (λm=>Am.callWith rf (R m) f args h) (Am.callWith rf R' f args h):=by
 unfold Am.callWith;cases zcZ rf h args with
 |none=>exact Ev.const none
 |some p=>
  obtain⟨as,h1⟩:=p;simp only;cases as.mapM (V.ren (zax (zbp h1 (zam [] (as.flatMap V.ids))))) with
  |none=>exact Ev.const none
  |some as2=>
   cases zaL h1 (zax (zbp h1 (zam [] (as.flatMap V.ids)))) (zbp h1 (zam [] (as.flatMap V.ids))) with
   |none=>exact Ev.const none
   |some hin=>
    simp only;intro r hr;cases hx:R' f as2 hin with
    |none=>rw[hx]at hr;cases hr
    |some q=>
     rw[hx]at hr;obtain⟨n,hn⟩:=hR f as2 hin q hx;exact⟨n,λm hm=>by simp only[hn m hm];exact hr⟩
def Ev.callThaw (hR:ziO R R') (f:FuncId) (args:List V) (h:List Obj):Ev (λm=>Am.callThaw (R m) f args h) (Am.callThaw R' f args h):=by
 unfold Am.callThaw;cases zcZ false h args with
 |none=>exact Ev.const none
 |some p=>
  obtain⟨as,h1⟩:=p;simp only;intro r hr;cases hx:R' f as [] with
  |none=>rw[hx]at hr;cases hr
  |some q=>
   rw[hx]at hr;obtain⟨n,hn⟩:=hR f as [] q hx;exact⟨n,λm hm=>by simp only[hn m hm];exact hr⟩
def Ev.calleeV (hR:ziO R R') (s:Slots) (h:List Obj) (f:V) (args:List V):Ev (λm=>Am.calleeV G s h (R m) f args) (Am.calleeV G s h R' f args):=by
 unfold Am.calleeV;split
 ·split
  ·split
   ·intro r hr
    rename_i g _ _;cases hx:Am.callWith (zab G g) R' g args h with
    |none=>rw[hx]at hr;simp[zdE]at hr
    |some q=>
     obtain⟨n,hn⟩:=Ev.callWith hR (zab G g) g args h q hx;refine⟨n,λm hm=> ?_⟩
     have e1:Am.callWith (zab G g) (R m) g args h=some q:=hn m hm
     show zdE h (Am.callWith (zab G g) (R m) g args h)=some r
     rw[e1,<- hx];exact hr
   split
   ·intro r hr
    rename_i g _ _ _;cases hx:Am.callWith (zab G g) R' g args h with
    |none=>rw[hx]at hr;cases hr
    |some q=>
     obtain⟨n,hn⟩:=Ev.callWith hR (zab G g) g args h q hx;refine⟨n,λm hm=> ?_⟩
     have e1:Am.callWith (zab G g) (R m) g args h=some q:=hn m hm
     show znP h (Am.callWith (zab G g) (R m) g args h)=some r
     rw[e1,<- hx];exact hr
   split
   ·intro r hr
    rename_i g _ _ _ _;cases hx:Am.callWith (zab G g) R' g args h with
    |none=>rw[hx]at hr;cases hr
    |some q=>
     obtain⟨n,hn⟩:=Ev.callWith hR (zab G g) g args h q hx;refine⟨n,λm hm=> ?_⟩
     have e1:Am.callWith (zab G g) (R m) g args h=some q:=hn m hm
     show zk1 (Am.callWith (zab G g) (R m) g args h)=some r
     rw[e1,<- hx];exact hr
   ·exact Ev.callThaw hR _ _ _
  ·exact Ev.callWith hR _ _ _ _
 ·exact Ev.callWith hR _ _ _ _
 ·exact Ev.const none
def Ev.opV (hR:ziO R R') (s:Slots) (h:List Obj) (o:Oper):Ev (λm=>Am.opV P G (R m) s h o) (Am.opV P G R' s h o):=by
 unfold Am.opV;cases o.op with
 |call c=>
  simp only;cases c.callee with
  |builtin b=>exact Ev.const _
  |invoke _ _=>exact Ev.const _
  |value f=>exact Ev.calleeV hR _ _ _ _
 |makeFunc fn first cap=>cases fn <;> exact Ev.const _
 |next it b=>cases b <;> exact Ev.const _
 |_=>exact Ev.const _
def Ev.blindV (hR:ziO R R') (hv:List Obj) (s:Slots) (h:List Obj) (o:Oper):Ev (λm=>zcc h (Am.blindV P G (R m) hv s o)) (zcc h (Am.blindV P G R' hv s o)):=by
 have key:Ev (λm=>Am.blindV P G (R m) hv s o) (Am.blindV P G R' hv s o):=by
  unfold Am.blindV;cases o.op with
  |call c=>
   simp only;cases c.callee with
   |value f=>
    simp only;cases ev G s f with
    |d x=>
     cases x with
     |fn g=>
      simp only;split
      ·exact Ev.const _
      ·unfold zeZ
       split
       ·exact Ev.obind (hR _ _ _) λ_=>Ev.const _
       ·exact Ev.const _
     |_=>exact Ev.const _
    |_=>exact Ev.const _
   |builtin b=>
    generalize List.map (ev G s) c.args.toList=l;generalize c.argTypes.toList=t;cases b <;> cases t <;> cases l <;> exact Ev.const _
   |invoke r m=>
    generalize List.map (ev G s) c.args.toList=l;generalize c.argTypes.toList=t;cases t <;> cases l <;> exact Ev.const _
  |_=>exact Ev.const _
 intro r hr;cases hx:Am.blindV P G R' hv s o with
 |none=>rw[hx]at hr;cases hr
 |some x=>
  rw[hx]at hr;obtain⟨n,hn⟩:=key x hx;exact⟨n,λm hm=>by simp only[hn m hm];exact hr⟩
def Ev.opsV (hR:ziO R R') (all:List Oper) (hint:List Nat) (hv:List Obj): ∀ (ops:List Oper) (i:Nat) (s:Slots) (h:List Obj),Ev (λm=>Am.opsV P G (R m) all hint hv i ops s h) (Am.opsV P G R' all hint hv i ops s h)
 |[],_,_,_=>Ev.const _
 |o::ops,i,s,h=>by
  simp only[Am.opsV];refine Ev.obind (Ev.const _) λw=> ?_
  cases w with
  |false=>exact Ev.opsV hR all hint hv ops _ _ _
  |true=>
   simp only[ybk];refine Ev.obind ?_ λp=>Ev.opsV hR all hint hv ops _ _ _
   cases hint.contains i with
   |true=>exact Ev.blindV hR hv s h o
   |false=>
    simp only[yas,ya8];split
    ·exact Ev.opV hR s h o
    ·exact Ev.const _
def Ev.rangeV {A:Nat->List D->Slots->List Obj->Res} {x:List D->Slots->List Obj->Res} (ha: ∀z s h,Ev (λm=>A m z s h) (x z s h)) (k:Nat) (keep:List (Nat × Nat)):
 ∀ (l:List (List D)) (s:Slots) (h:List Obj),Ev (λm=>Am.rangeV (A m) k keep l s h) (Am.rangeV x k keep l s h)
 |[],s,h=>Ev.const _
 |z::l,s,h=>by
  intro r hr;simp only[Am.rangeV]at hr ⊢;cases hx:x z s h with
  |none=>rw[hx]at hr;cases hr
  |some q=>
   obtain⟨o,s1,h1⟩:=q;rw[hx]at hr;obtain⟨n1,e1⟩:=ha z s h _ hx;cases o with
   |normal=>
    obtain⟨n2,e2⟩:=Ev.obind (Ev.const (zfm k keep s h1)) (λ(p:Slots × List Obj)=>Ev.rangeV ha k keep l p.1 p.2) r hr
    exact⟨max n1 n2,λm hm=>by simp only[e1 m (by omega)];exact e2 m (by omega)⟩
   |exit i=>exact⟨n1,λm hm=>by simp only[e1 m hm];exact hr⟩
   |ret=>exact⟨n1,λm hm=>by simp only[e1 m hm];exact hr⟩
def zgi (I:(Slots->List Obj->Res)->Slots->List Obj->Res):Prop:= ∀ {A:Nat->Slots->List Obj->Res} {x:Slots->List Obj->Res},(∀s h,Ev (λm=>A m s h) (x s h))-> ∀s h,Ev (λm=>Am.loops (A m) s h) (I x s h)
def zgi.loops:zgi Am.loops:=λha s h=>Ev.loops ha s h
def zgi.iter (k:Nat):zgi (λx=>Am.iter x k):=λha s h r hr=>by
 obtain⟨n,hn⟩:=Ev.iter ha k s h r hr;exact⟨n,λm hm=>zc8.2 ⟨k,hn m hm⟩⟩
variable {I:(Slots->List Obj->Res)->Slots->List Obj->Res}
def Ev.codeV (hI:zgi I) (hR:ziO R R') (F:FuncId): ∀ (c:Code) (k b:Nat) (s:Slots) (h:List Obj),Ev (λm=>Am.codeV P G K S (R m) Am.loops F k b c s h) (Am.codeV P G K S R' I F k b c s h):=by
 intro c
 induction c with
 |skip=>intro k b s h;exact Ev.const _
 |region id ops draw=>
  intro k b s h;simp only[Am.codeV,zim];exact Ev.obind (Ev.const _) λ_=>Ev.obind (Ev.opsV hR _ _ _ _ _ _ _) λ_=>Ev.const _
 |seq x y ihx ihy=>intro k b s h;simp only[Am.codeV];exact Ev.onNormal (ihx k b s h) λs h=>ihy k b s h
 |cond c x y ihx ihy=>intro k b s h;simp only[Am.codeV];exact Ev.branch _ (ihx k b s h) (ihy k b s h)
 |block id c ih=>intro k b s h;simp only[Am.codeV];exact Ev.leave id (ih k id s h)
 |loop c ih=>
  intro k b s h;simp only[Am.codeV];split
  ·exact hI (λs h=>Ev.obind (Ev.const _) λ(p:Slots × List Obj)=>ih k b p.1 p.2) s h
  ·exact hI (λs h=>ih k b s h) s h
 |rangeFunc f ps x y ihx ihy=>
  intro k b s h;simp only[Am.codeV];cases K F b with
  |none=>exact Ev.const _
  |some keep=>
   cases ps.toList with
   |nil=>exact Ev.const _
   |cons p l=>
    cases l with
    |cons _ _=>exact Ev.const _
    |nil=>
     refine Ev.obind (Ev.const _) λit=> ?_
     cases zfB k keep s h it.1 && zfB k keep s h it.2.1 with
     |false=>exact Ev.const _
     |true=>
      refine Ev.obind (Ev.const _) λq=>Ev.rangeV (λz s h=> ?_) _ _ _ _ _
      intro r hr;cases hx:Am.codeV P G K S R' I F h.length b x ((p,.d (.list z))::s) h with
      |none=>rw[hx]at hr;cases hr
      |some q=>
       obtain⟨o,s1,h1⟩:=q;rw[hx]at hr;obtain⟨n1,e1⟩:=ihx h.length b _ _ _ hx;cases o with
       |normal=>
        obtain⟨n2,e2⟩:=ihy h.length b s1 h1 r hr;exact⟨max n1 n2,λm hm=>by simp only[e1 m (by omega)];exact e2 m (by omega)⟩
       |exit i=>cases hr
       |ret=>cases hr
 |_=>intro k b s h;simp only[Am.codeV];exact Ev.const _
def Ev.bodyV (hI:zgi I) (hR:ziO R R') (f:FuncId) (args:List V) (h:List Obj):Ev (λm=>Am.bodyV P G K S (R m) Am.loops f args h) (Am.bodyV P G K S R' I f args h):=by
 unfold Am.bodyV;cases P.funcs[f]? with
 |none=>exact Ev.const _
 |some fn=>
  simp only;cases fn.body with
  |none=>exact Ev.const _
  |some c=>
   simp only;split
   ·intro r hr
    cases hx:Am.codeV P G K S R' I f h.length 0 c (zas 0 args) h with
    |none=>rw[hx]at hr;cases hr
    |some q=>
     rw[hx]at hr;obtain⟨n,hn⟩:=Ev.codeV hI hR f c h.length 0 _ _ q hx;exact⟨n,λm hm=>by
     have:=hn m hm;simp only at this;simp only[this];exact hr⟩
   ·exact Ev.const _
def Ev.joinV {A B:Nat->Option (List V × List Obj)} {x y:Option (List V × List Obj)} (ha:Ev A x) (hb:Ev B y):Ev (λm=>Am.joinV (A m) (B m)) (Am.joinV x y):=λr hr=>by
 obtain⟨h1,h2⟩:=zku hr;obtain⟨n1,k1⟩:=ha r h1;obtain⟨n2,k2⟩:=hb r h2;refine⟨max n1 n2,λm hm=> ?_⟩
 simp only[k1 m (by omega),k2 m (by omega),Am.joinV,ybk]
def Ev.bodyS (hI:zgi I) (hR:ziO R R') (f:FuncId) (args:List V) (h:List Obj):Ev (λm=>Am.bodyS P G K S (R m) Am.loops f args h) (Am.bodyS P G K S R' I f args h):=by
 unfold Am.bodyS;split
 ·exact Ev.joinV (Ev.bodyV hI hR _ _ _) (Ev.bodyV hI hR _ _ _)
 ·exact Ev.bodyV hI hR _ _ _
variable (P G K S)
noncomputable def zuB:Nat->Run
 |0=>λ_ _ _=>none
 |n+1=>Am.bodyS P G K S (zuB n) Am.loops
open Classical in
noncomputable def zfI:Run:=λf args h=>if e: ∃n r, ∀m,n<=m->zuB P G K S m f args h=some r then some (Classical.choose (ybq e)) else none
variable {P G K S}
def ziP {f:FuncId} {args:List V} {h:List Obj} {r:List V × List Obj}:zfI P G K S f args h=some r↔ ∃n, ∀m,n<=m->zuB P G K S m f args h=some r:=by
 unfold zfI;constructor
 ·intro hr
  split at hr
  ·rename_i e
   simp only[yaa]at hr;subst hr;exact⟨_,ybq (ybq e)⟩
  ·cases hr
 ·rintro ⟨n,hn⟩
  have e: ∃n r, ∀m,n<=m->zuB P G K S m f args h=some r:=⟨n,r,hn⟩;rw[dif_pos e];have h2:=ybq (ybq e);have h3:=hn (max n (Classical.choose e)) (by omega)
  have h4:=h2 (max n (Classical.choose e)) (by omega)
  rw[h3]at h4;simpa using h4.symm
def zwo:ziO (zuB P G K S) (zfI P G K S):=λ_ _ _ _ hr=>ziP.1 hr
def zld {f:FuncId} {args:List V} {h:List Obj} {r:List V × List Obj} (hr:bodyS P G K S (zfI P G K S) loops f args h=some r):zfI P G K S f args h=some r:=by
 obtain⟨n,hn⟩:=Ev.bodyS zgi.loops zwo f args h r hr;refine ziP.2 ⟨n+1,λm hm=> ?_⟩
 obtain⟨k,rfl⟩: ∃k,m=k+1:=⟨m - 1,by omega⟩
 exact hn k (by omega)
def zwp {f:FuncId} {args:List V} {h:List Obj} {r:List V × List Obj} (hs:splits G f=false\/ ∀zaF,args≠ .d (.list [])::zaF) (hr:bodyV P G K S (zfI P G K S) loops f args h=some r):zfI P G K S f args h=some r:=by
 refine zld ?_;unfold bodyS;split
 ·rename_i e
  rcases hs with hs | hs
  ·rw[hs]at e;cases e
  ·exact absurd rfl (hs _)
 ·exact hr
def zqR {f:FuncId} {zaF:List V} {h:List Obj} {r:List V × List Obj} (hs:splits G f=true) (h1:bodyV P G K S (zfI P G K S) loops f (.nilS::zaF) h=some r) (h2:bodyV P G K S (zfI P G K S) loops f (.emp::zaF) h=some r):
 zfI P G K S f (.d (.list [])::zaF) h=some r:=by
 refine zld ?_;unfold bodyS;simp only[hs,h1,h2,joinV,ybk]
abbrev zqS:=FuncId × List V × List Obj × (List V × List Obj)
def zsi:List zqS->FuncId->List V->List Obj->Option (List V × List Obj)
 |[],_,_,_=>none
 |e::T,f,a,h=>if e.1=f/\e.2.1=a/\e.2.2.1=h then some e.2.2.2 else zsi T f a h
def zuC (P:Program) (G:Nat->Option (List D)) (K:zgT) (S:zgS) (T:List zqS) (k:Nat):Nat->Run
 |0=>zsi T
 |n+1=>λf a h=>
  match zsi T f a h with
  |some r=>some r
  |none=>Am.bodyS P G K S (zuC P G K S T k n) (λx=>Am.iter x k) f a h
variable (P G K S) in
def Tbl (T:List zqS):Prop:= ∀e∈T,zfI P G K S e.1 e.2.1 e.2.2.1=some e.2.2.2
def t0:Tbl P G K S []:=λe he=>by cases he
def t1 {f:FuncId} {a:List V} {h:List Obj} {r:List V × List Obj} {T:List zqS} (hr:zfI P G K S f a h=some r) (t:Tbl P G K S T):Tbl P G K S ((f,a,h,r)::T):=λe he=>by
 rcases List.mem_cons.1 he with rfl | he
 ·exact hr
 ·exact t e he
def zg3: ∀ {T:List zqS} {f:FuncId} {a:List V} {h:List Obj} {r:List V × List Obj},Tbl P G K S T->zsi T f a h=some r->zfI P G K S f a h=some r
 |[],_,_,_,_,_,hr=>by cases hr
 |e::T,f,a,h,r,t,hr=>by
  unfold zsi at hr;split at hr
  ·rename_i he
   obtain⟨rfl,rfl,rfl⟩:=he;simp only[yaa]at hr;subst hr;exact t e (ybh ..)
  ·exact zg3 (λe he=>t e (ya6 _ he)) hr
def zaj {T:List zqS} (t:Tbl P G K S T) (k:Nat): ∀ (n:Nat) {f:FuncId} {args:List V} {h:List Obj} {r:List V × List Obj},zuC P G K S T k n f args h=some r->zfI P G K S f args h=some r
 |0,_,_,_,_,hr=>zg3 t hr
 |n+1,f,args,h,r,hr=>by
  unfold zuC at hr;split at hr
  ·rename_i hl
   simp only[yaa]at hr;subst hr;exact zg3 t hl
  ·have e:ziO (λ_=>zfI P G K S) (zuC P G K S T k n):=λ_ _ _ r hr=>⟨0,λ_ _=>zaj t k n hr⟩
   obtain⟨m,hm⟩:=Ev.bodyS (zgi.iter k) e f args h r hr;exact zld (hm m (yab _))
def zog (hm:P.follows .mixedOrders=true) (hit: ∀g,zdo G g=true->zfG P g): ∀n,zd6 P G (zuB P G K S n)/\zcW P (zuB P G K S n)
 |0=>⟨λ_ _ _ _ _ hr=>by simp[zuB]at hr,λ_ _ _ _ hr=>by simp[zuB]at hr⟩
 |n+1=>zuA hit hm (zog hm hit n).1 (zog hm hit n).2 λ_ _ _ _ _ _ hc=>zqQ hc
def zwq (hm:P.follows .mixedOrders=true) (hit: ∀g,zdo G g=true->zfG P g):zd6 P G (zfI P G K S):=λf args h rets h' hr=>by
 obtain⟨n,hn⟩:=ziP.1 hr;exact (zog hm hit n).1 f args h rets h' (hn n (yab _))
noncomputable def zfJ (k:Nat) (keep:List (Nat × Nat)) (b:Slots->List Obj->Res) (s:Slots) (h:List Obj):Res:=loops (λs h=>obind (zfm k keep s h) λp=>b p.1 p.2) s h
def zpm (k:Nat) (keep:List (Nat × Nat)) (b:Slots->List Obj->Res) (s:Slots) (h:List Obj):
 zfJ k keep b s h=obind (zfm k keep s h) λp=>onNormal (b p.1 p.2) (zfJ k keep b):=by
 show loops _ s h=_
 rw[zuy];cases zfm k keep s h <;> rfl
def zqT {run:Run} {F:FuncId} {k b:Nat} {c:Code} {s:Slots} {h:List Obj} {keep:List (Nat × Nat)} (hk:K F b=some keep):
 codeV P G K S run loops F k b (.loop c) s h=zfJ k keep (codeV P G K S run loops F k b c) s h:=by
 simp only[codeV,hk];rfl
end
end Go.Am
namespace Go.Am
attribute [simp] zfA zcc calleeV zdF eqV zgO zj6 zlZ znL zqn zj7 zh0 zue
attribute [simp] zlX zaK zBh zhZ zrU unD zgP za2
attribute [simp] zgQ zdn zcu zlY zch zeY zo7 zo8 zbA zvE znM min2 max2 natOf? bound? bounds? zhv
attribute [simp] zcZ zbG zba za7 zam zjH one zbX
attribute [simp] zbp zfz zcv
attribute [simp] zqo zij
attribute [simp] zbH V.storable V.cellOk
@[simp] def zCo {α:Type} (i:Nat):([]:List α)[i]? =none:=rfl
@[simp] def zBk {α:Type} (x:α) (l:List α):(x::l)[0]? =some x:=rfl
@[simp] def zBl {α:Type} (x:α) (l:List α) (i:Nat):(x::l)[i+1]? =l[i]? :=rfl
@[simp] def zBm (rf:Bool) (h:List Obj) (a b:Nat):zhw rf h (.arr a b)=bif rf then some (.arr a b,h) else (zbG h (.arr a b)).map λp=>(.d p.1,p.2):=by cases rf <;> rfl
@[simp] def zCp (rf:Bool) (h:List Obj) (a b c d:Nat):zhw rf h (.sl a b c d)=bif rf then some (.sl a b c d,h) else (zbG h (.sl a b c d)).map λp=>(.d p.1,p.2):=by cases rf <;> rfl
@[simp] def zBn (rf:Bool) (h:List Obj) (a b:Nat):zhw rf h (.ptr a b)=some (.ptr a b,h):=rfl
@[simp] def zCq (rf:Bool) (h:List Obj) (a:Nat):zhw rf h (.mp a)=some (.mp a,h):=rfl
@[simp] def zBo (rf:Bool) (h:List Obj) (f:FuncId) (l:List V):zhw rf h (.clo f l)=some (.clo f l,h):=rfl
@[simp] def zCr (rf:Bool) (h:List Obj) (cs:List D):zhw rf h (.ro cs)=some (.ro cs,h):=rfl
@[simp] def zEE (rf:Bool) (h:List Obj) (x:D):zhw rf h (.d x)=some (.d x,h):=rfl
@[simp] def zym (rf:Bool) (h:List Obj):zhw rf h .nilS=some (.d (.list []),h):=rfl
@[simp] def zBp (rf:Bool) (h:List Obj):zhw rf h .emp=some (.d (.list []),h):=rfl
@[simp] def zBq (rf:Bool) (h:List Obj) (cs:List V):zhw rf h (.agg cs)=(za7 h cs).map λp=>(.d (.agg p.1),p.2):=by
 show ((za7 h cs).map λ(xs,h)=>(D.agg xs,h)).map _=_
 cases za7 h cs <;> rfl
@[simp] def zEF (G:Nat->Option (List D)) (s:Slots) (t:Tmp):ev G s (.tmp t)=zar s t:=rfl
@[simp] def zBr (G:Nat->Option (List D)) (s:Slots) (v:Value):ev G s (.const v)=zlX v:=rfl
@[simp] def zyn (G:Nat->Option (List D)) (s:Slots) (g:Nat):ev G s (.global g)=match G g with | some cs=> .ro cs | none=> .dead:=rfl
@[simp] def zCs (G:Nat->Option (List D)) (s:Slots) (f:FuncId):ev G s (.func f)= .d (.fn f):=rfl
@[simp] def zEG (f:Nat->Option Nat) (x:D):V.ren0 f (.d x)=some (.d x):=rfl
@[simp] def zyo (f:Nat->Option Nat):V.ren0 f (.nilS)=some (.nilS):=rfl
@[simp] def zCt (f:Nat->Option Nat) (cs:List D):V.ren0 f (.ro cs)=some (.ro cs):=rfl
@[simp] def zyp (f:Nat->Option Nat):V.ren0 f (.dead)=some (.dead):=rfl
@[simp] def zBs (f:Nat->Option Nat):V.ren0 f .emp=some .emp:=rfl
@[simp] def zCu (f:Nat->Option Nat) (a b c d:Nat):V.ren0 f (.sl a b c d)=(f a).map λi=> .sl i b c d:=rfl
@[simp] def zBt (f:Nat->Option Nat) (a b:Nat):V.ren0 f (.arr a b)=(f a).map λi=> .arr i b:=rfl
@[simp] def zBu (f:Nat->Option Nat) (a b:Nat):V.ren0 f (.ptr a b)=(f a).map λi=> .ptr i b:=rfl
@[simp] def zyq (f:Nat->Option Nat) (a b c d:Nat):V.ren0 f (.eptr a b c d)=(f a).map λi=> .eptr i b c d:=rfl
@[simp] def zCv (f:Nat->Option Nat) (a:Nat):V.ren0 f (.mp a)=(f a).map .mp:=rfl
@[simp] def zEH (f:Nat->Option Nat) (x:D):V.ren1 f (.d x)=some (.d x):=rfl
@[simp] def zyr (f:Nat->Option Nat):V.ren1 f (.nilS)=some (.nilS):=rfl
@[simp] def zCw (f:Nat->Option Nat) (cs:List D):V.ren1 f (.ro cs)=some (.ro cs):=rfl
@[simp] def zys (f:Nat->Option Nat):V.ren1 f (.dead)=some (.dead):=rfl
@[simp] def zBv (f:Nat->Option Nat):V.ren1 f .emp=some .emp:=rfl
@[simp] def zCx (f:Nat->Option Nat) (a b c d:Nat):V.ren1 f (.sl a b c d)=(f a).map λi=> .sl i b c d:=rfl
@[simp] def zBw (f:Nat->Option Nat) (a b:Nat):V.ren1 f (.arr a b)=(f a).map λi=> .arr i b:=rfl
@[simp] def zBx (f:Nat->Option Nat) (a b:Nat):V.ren1 f (.ptr a b)=(f a).map λi=> .ptr i b:=rfl
@[simp] def zyt (f:Nat->Option Nat) (a b c d:Nat):V.ren1 f (.eptr a b c d)=(f a).map λi=> .eptr i b c d:=rfl
@[simp] def zCy (f:Nat->Option Nat) (a:Nat):V.ren1 f (.mp a)=(f a).map .mp:=rfl
@[simp] def zBy (f:Nat->Option Nat) (g:FuncId) (l:List V):V.ren1 f (.clo g l)=(l.mapM (V.ren0 f)).map (.clo g):=rfl
@[simp] def zEI (f:Nat->Option Nat) (x:D):V.ren2 f (.d x)=some (.d x):=rfl
@[simp] def zyu (f:Nat->Option Nat):V.ren2 f (.nilS)=some (.nilS):=rfl
@[simp] def zCz (f:Nat->Option Nat) (cs:List D):V.ren2 f (.ro cs)=some (.ro cs):=rfl
@[simp] def zyv (f:Nat->Option Nat):V.ren2 f (.dead)=some (.dead):=rfl
@[simp] def zBz (f:Nat->Option Nat):V.ren2 f .emp=some .emp:=rfl
@[simp] def zCA (f:Nat->Option Nat) (a b c d:Nat):V.ren2 f (.sl a b c d)=(f a).map λi=> .sl i b c d:=rfl
@[simp] def zBA (f:Nat->Option Nat) (a b:Nat):V.ren2 f (.arr a b)=(f a).map λi=> .arr i b:=rfl
@[simp] def zBB (f:Nat->Option Nat) (a b:Nat):V.ren2 f (.ptr a b)=(f a).map λi=> .ptr i b:=rfl
@[simp] def zyw (f:Nat->Option Nat) (a b c d:Nat):V.ren2 f (.eptr a b c d)=(f a).map λi=> .eptr i b c d:=rfl
@[simp] def zCB (f:Nat->Option Nat) (a:Nat):V.ren2 f (.mp a)=(f a).map .mp:=rfl
@[simp] def zBC (f:Nat->Option Nat) (g:FuncId) (l:List V):V.ren2 f (.clo g l)=(l.mapM (V.ren0 f)).map (.clo g):=rfl
@[simp] def zBD (f:Nat->Option Nat) (l:List V):V.ren2 f (.agg l)=(l.mapM (V.ren1 f)).map .agg:=rfl
@[simp] def zFA (f:Nat->Option Nat) (x:D):V.ren f (.d x)=some (.d x):=rfl
@[simp] def zBE (f:Nat->Option Nat):V.ren f (.nilS)=some (.nilS):=rfl
@[simp] def zEJ (f:Nat->Option Nat) (cs:List D):V.ren f (.ro cs)=some (.ro cs):=rfl
@[simp] def zBF (f:Nat->Option Nat):V.ren f (.dead)=some (.dead):=rfl
@[simp] def zCC (f:Nat->Option Nat):V.ren f .emp=some .emp:=rfl
@[simp] def zEK (f:Nat->Option Nat) (a b c d:Nat):V.ren f (.sl a b c d)=(f a).map λi=> .sl i b c d:=rfl
@[simp] def ren_arr (f:Nat->Option Nat) (a b:Nat):V.ren f (.arr a b)=(f a).map λi=> .arr i b:=rfl
@[simp] def zCD (f:Nat->Option Nat) (a b:Nat):V.ren f (.ptr a b)=(f a).map λi=> .ptr i b:=rfl
@[simp] def zBG (f:Nat->Option Nat) (a b c d:Nat):V.ren f (.eptr a b c d)=(f a).map λi=> .eptr i b c d:=rfl
@[simp] def zEL (f:Nat->Option Nat) (a:Nat):V.ren f (.mp a)=(f a).map .mp:=rfl
@[simp] def zCE (f:Nat->Option Nat) (g:FuncId) (l:List V):V.ren f (.clo g l)=(l.mapM (V.ren0 f)).map (.clo g):=rfl
@[simp] def zCF (f:Nat->Option Nat) (l:List V):V.ren f (.agg l)=(l.mapM (V.ren1 f)).map .agg:=rfl
@[simp] def zCG (f:Nat->Option Nat) (l:List V):V.ren f (.tup l)=(l.mapM (V.ren2 f)).map .tup:=rfl
@[simp] def zEM (x:D):V.ids0 (.d x)=[]:=rfl
@[simp] def zyx:V.ids0 (.nilS)=[]:=rfl
@[simp] def zCH (cs:List D):V.ids0 (.ro cs)=[]:=rfl
@[simp] def zyy:V.ids0 (.dead)=[]:=rfl
@[simp] def zBH:V.ids0 .emp=[]:=rfl
@[simp] def zCI (a b c d:Nat):V.ids0 (.sl a b c d)=[a]:=rfl
@[simp] def zBI (a b:Nat):V.ids0 (.arr a b)=[a]:=rfl
@[simp] def zBJ (a b:Nat):V.ids0 (.ptr a b)=[a]:=rfl
@[simp] def zyz (a b c d:Nat):V.ids0 (.eptr a b c d)=[a]:=rfl
@[simp] def zCJ (a:Nat):V.ids0 (.mp a)=[a]:=rfl
@[simp] def zEN (x:D):V.ids1 (.d x)=[]:=rfl
@[simp] def zyA:V.ids1 (.nilS)=[]:=rfl
@[simp] def zCK (cs:List D):V.ids1 (.ro cs)=[]:=rfl
@[simp] def zyB:V.ids1 (.dead)=[]:=rfl
@[simp] def zBK:V.ids1 .emp=[]:=rfl
@[simp] def zCL (a b c d:Nat):V.ids1 (.sl a b c d)=[a]:=rfl
@[simp] def zBL (a b:Nat):V.ids1 (.arr a b)=[a]:=rfl
@[simp] def zBM (a b:Nat):V.ids1 (.ptr a b)=[a]:=rfl
@[simp] def zyC (a b c d:Nat):V.ids1 (.eptr a b c d)=[a]:=rfl
@[simp] def zCM (a:Nat):V.ids1 (.mp a)=[a]:=rfl
@[simp] def zBN (g:FuncId) (l:List V):V.ids1 (.clo g l)=l.flatMap V.ids0:=rfl
@[simp] def zEO (x:D):V.ids2 (.d x)=[]:=rfl
@[simp] def zyD:V.ids2 (.nilS)=[]:=rfl
@[simp] def zCN (cs:List D):V.ids2 (.ro cs)=[]:=rfl
@[simp] def zyE:V.ids2 (.dead)=[]:=rfl
@[simp] def zBO:V.ids2 .emp=[]:=rfl
@[simp] def zCO (a b c d:Nat):V.ids2 (.sl a b c d)=[a]:=rfl
@[simp] def zBP (a b:Nat):V.ids2 (.arr a b)=[a]:=rfl
@[simp] def zBQ (a b:Nat):V.ids2 (.ptr a b)=[a]:=rfl
@[simp] def zyF (a b c d:Nat):V.ids2 (.eptr a b c d)=[a]:=rfl
@[simp] def zCP (a:Nat):V.ids2 (.mp a)=[a]:=rfl
@[simp] def zBR (g:FuncId) (l:List V):V.ids2 (.clo g l)=l.flatMap V.ids0:=rfl
@[simp] def zBS (l:List V):V.ids2 (.agg l)=l.flatMap V.ids1:=rfl
@[simp] def zFB (x:D):V.ids (.d x)=[]:=rfl
@[simp] def zBT:V.ids (.nilS)=[]:=rfl
@[simp] def zEP (cs:List D):V.ids (.ro cs)=[]:=rfl
@[simp] def zBU:V.ids (.dead)=[]:=rfl
@[simp] def zCQ:V.ids .emp=[]:=rfl
@[simp] def zEQ (a b c d:Nat):V.ids (.sl a b c d)=[a]:=rfl
@[simp] def zCR (a b:Nat):V.ids (.arr a b)=[a]:=rfl
@[simp] def zCS (a b:Nat):V.ids (.ptr a b)=[a]:=rfl
@[simp] def zBV (a b c d:Nat):V.ids (.eptr a b c d)=[a]:=rfl
@[simp] def zER (a:Nat):V.ids (.mp a)=[a]:=rfl
@[simp] def zCT (g:FuncId) (l:List V):V.ids (.clo g l)=l.flatMap V.ids0:=rfl
@[simp] def zCU (l:List V):V.ids (.agg l)=l.flatMap V.ids1:=rfl
@[simp] def zCV (l:List V):V.ids (.tup l)=l.flatMap V.ids2:=rfl
@[simp] def zxp (f:Nat->Option Nat) (cs:List V):Obj.ren f (.box cs)=(cs.mapM (V.ren1 f)).map .box:=rfl
@[simp] def zxq (f:Nat->Option Nat) (sz:Nat) (xs:List D) (wm:Nat):Obj.ren f (.arr sz xs wm)=some (.arr sz xs wm):=rfl
@[simp] def zvI (f:Nat->Option Nat) (s:ByteArray) (n:Nat):Obj.ren f (.siter s n)=some (.siter s n):=rfl
@[simp] def zxr (cs:List V):Obj.ids (.box cs)=cs.flatMap V.ids1:=rfl
@[simp] def zxs (sz:Nat) (xs:List D) (wm:Nat):Obj.ids (.arr sz xs wm)=[]:=rfl
@[simp] def zvJ (s:ByteArray) (n:Nat):Obj.ids (.siter s n)=[]:=rfl
@[simp] def zyG (i:Nat):zax [] i=none:=rfl
@[simp] def zxt (x:Nat) (xs:List Nat) (i:Nat):zax (x::xs) i=bif x == i then some 0 else (zax xs i).map (·+1):=by simp only[zax,cond_eq_ite,ycP]
@[simp] def zES (l:List D):(D.agg l).cells=l:=rfl
@[simp] def zET (k:IntKind) (n:Int):(D.int k n).cells=[.int k n]:=rfl
@[simp] def zCW (b:Bool):(D.bool b).cells=[.bool b]:=rfl
@[simp] def zEU (s:ByteArray):(D.str s).cells=[.str s]:=rfl
@[simp] def zCX (l:List D):(D.list l).cells=[.list l]:=rfl
@[simp] def zCY:D.nilI.cells=[.nilI]:=rfl
@[simp] def zCZ:D.nilP.cells=[.nilP]:=rfl
@[simp] def zC0:D.nilM.cells=[.nilM]:=rfl
@[simp] def zC1:D.nilF.cells=[.nilF]:=rfl
@[simp] def zBW (t:TypeId) (x:D):(D.iface t x).cells=[.iface t x]:=rfl
@[simp] def zFC (f:FuncId):(D.fn f).cells=[.fn f]:=rfl
@[simp] def zEV (l:List V):(V.agg l).cells=l:=rfl
@[simp] def zC2 (l:List D):(V.d (.agg l)).cells=l.map .d:=rfl
@[simp] def zEW (k:IntKind) (n:Int):(V.d (.int k n)).cells=[.d (.int k n)]:=rfl
@[simp] def zC3 (b:Bool):(V.d (.bool b)).cells=[.d (.bool b)]:=rfl
@[simp] def zEX (s:ByteArray):(V.d (.str s)).cells=[.d (.str s)]:=rfl
@[simp] def zC4 (l:List D):(V.d (.list l)).cells=[.d (.list l)]:=rfl
@[simp] def zC5:(V.d .nilI).cells=[.d .nilI]:=rfl
@[simp] def zC6:(V.d .nilM).cells=[.d .nilM]:=rfl
@[simp] def zC7:(V.d .nilP).cells=[.d .nilP]:=rfl
@[simp] def zC8:(V.d .nilF).cells=[.d .nilF]:=rfl
@[simp] def zBX (t:TypeId) (x:D):(V.d (.iface t x)).cells=[.d (.iface t x)]:=rfl
@[simp] def zFD (f:FuncId):(V.d (.fn f)).cells=[.d (.fn f)]:=rfl
@[simp] def zC9:V.nilS.cells=[.nilS]:=rfl
@[simp] def zEY (a b:Nat):(V.arr a b).cells=[.arr a b]:=rfl
@[simp] def zEZ:V.emp.cells=[.emp]:=rfl
@[simp] def zFE (a b c d:Nat):(V.sl a b c d).cells=[.sl a b c d]:=rfl
@[simp] def zE0 (a b:Nat):(V.ptr a b).cells=[.ptr a b]:=rfl
@[simp] def zDa (a b c d:Nat):(V.eptr a b c d).cells=[.eptr a b c d]:=rfl
@[simp] def zE1 (f:FuncId) (l:List V):(V.clo f l).cells=[.clo f l]:=rfl
def zbk {α:Type} (p:Prop) [Decidable p] (x:Option α):Option α:=if p then x else none
@[simp] def zwr {α:Type} (x:Option α):zbk True x=x:=rfl
@[simp] def zvK {α:Type} (x:Option α):zbk False x=none:=rfl
@[simp] def zxu {α:Type} {p:Prop} [Decidable p] (x:Option α) (h:p):zbk p x=x:=yah h
@[congr] def zvL {α:Type} {p q:Prop} [Decidable p] [Decidable q] {x:Option α} (h:p=q):zbk p x=zbk q x:=by cases h;unfold zbk;congr
@[simp] def zsj {α:Type} (p:Prop) [Decidable p] (x:Option α):(if p then x else none)=zbk p x:=rfl
def zle {α:Type} (p q:Prop) [Decidable p] [Decidable q] (x:Option α):(if p/\q then x else none)=zbk p (zbk q x):=by
 unfold zbk
 by_cases hp:p <;> by_cases hq:q <;> simp[hp,hq]
@[simp] def zsk {α:Type} (p q:Prop) [Decidable p] [Decidable q] (x:Option α):zbk (p/\q) x=zbk p (zbk q x):=zle p q x
@[simp] def zgj {α:Type} (p:Prop) [Decidable p] (x:Option α):(if p then none else x)=zbk (¬ p) x:=by
 unfold zbk
 by_cases hp:p <;> simp[hp]
@[simp] def zxv (k:IntKind) (x y:Int):zbv .add k x y=some (.int k (k.wrap (x+y))):=rfl
@[simp] def zxw (k:IntKind) (x y:Int):zbv .sub k x y=some (.int k (k.wrap (x - y))):=rfl
@[simp] def zxx (k:IntKind) (x y:Int):zbv .mul k x y=some (.int k (k.wrap (x*y))):=rfl
@[simp] def zxy (k:IntKind) (x y:Int):zbv .quo k x y=zbk (¬ y=0) (some (.int k (k.wrap (x.tdiv y)))):=zgj _ _
@[simp] def zxz (k:IntKind) (x y:Int):zbv .rem k x y=zbk (¬ y=0) (some (.int k (x.tmod y))):=zgj _ _
@[simp] def zxA (k:IntKind) (x y:Int):zbv .eql k x y=some (.bool (decide (x=y))):=by simp only[zbv];congr 2
@[simp] def zxB (k:IntKind) (x y:Int):zbv .neq k x y=some (.bool (!decide (x=y))):=by simp only[zbv];congr 2
@[simp] def zxC (k:IntKind) (x y:Int):zbv .lss k x y=some (.bool (decide (x<y))):=rfl
@[simp] def zxD (k:IntKind) (x y:Int):zbv .leq k x y=some (.bool (decide (x<=y))):=rfl
@[simp] def zxE (k:IntKind) (x y:Int):zbv .gtr k x y=some (.bool (decide (y<x))):=rfl
@[simp] def zxF (k:IntKind) (x y:Int):zbv .geq k x y=some (.bool (decide (y<=x))):=rfl
@[simp] def zdp (l:List UInt8):(l.map zbb).mapM byteOf?=some l:=by
 induction l with
 |nil=>rfl
 |cons b l ih=>
  simp only[yaW,yaU,ih,zbb,byteOf?,yaB];simp
structure Tok {α:Type} (a:α):Type where
section
variable {P:Program} {G:Nat->Option (List D)} {K:zgT} {S:zgS} {run:Run} {F k b:Nat} {α β:Type}
def zvM (x:Res) (f:Slots->List Obj->Res) (_:Tok f):Res:=onNormal x f
def zbc (x:Option α) (f:α->Option β) (_:Tok f):Option β:=obind x f
def zep (v:V) (f:Bool->Option α) (_:Tok f):Option α:=
 match v with
 |.d (.bool z)=>f z
 |_=>none
noncomputable def zbE (P:Program) (G:Nat->Option (List D)) (K:zgT) (S:zgS) (run:Run) (F k b:Nat) (c:Code) (_:Tok c) (s:Slots) (h:List Obj):Res:=codeV P G K S run loops F k b c s h
noncomputable def zrM (P:Program) (G:Nat->Option (List D)) (run:Run) (all:List Oper) (hint:List Nat) (hv:List Obj) (i:Nat) (zaF:List Oper) (_:Tok (all,zaF)) (s:Slots) (h:List Obj):Option (Slots × List Obj):=opsV P G run all hint hv i zaF s h
noncomputable def opT (P:Program) (G:Nat->Option (List D)) (run:Run) (hint:List Nat) (hv:List Obj) (i:Nat) (o:Oper) (_:Tok o) (s:Slots) (h:List Obj):Option (V × List Obj):=zdw P G run hint hv i s h o
noncomputable def zad (keep:Option (List (Nat × Nat))) (k:Nat) (f:Slots->List Obj->Res) (_:Tok f) (s:Slots) (h:List Obj):Res:=
 match keep with
 |some l=>zfJ k l f s h
 |none=>loops f s h
@[simp] def zws (s:Slots) (h:List Obj) (f:Slots->List Obj->Res) (t:Tok f):zvM (some (.normal,s,h)) f t=f s h:=rfl
@[simp] def zyH (i:Nat) (s:Slots) (h:List Obj) (f:Slots->List Obj->Res) (t:Tok f):zvM (some (.exit i,s,h)) f t=some (.exit i,s,h):=rfl
@[simp] def zBY (s:Slots) (h:List Obj) (f:Slots->List Obj->Res) (t:Tok f):zvM (some (.ret,s,h)) f t=some (.ret,s,h):=rfl
@[simp] def zxG (a:α) (f:α->Option β) (t:Tok f):zbc (some a) f t=f a:=rfl
@[simp] def zxH (f:α->Option β) (t:Tok f):zbc none f t=none:=rfl
@[simp] def zyI (f:Slots->List Obj->Res) (t:Tok f):zvM none f t=none:=rfl
@[simp] def zxI (f:Bool->Option α) (t:Tok f):zep (.d (.bool true)) f t=f true:=rfl
@[simp] def zwt (f:Bool->Option α) (t:Tok f):zep (.d (.bool false)) f t=f false:=rfl
@[simp] def zyJ (c:Bool) (f:Bool->Option α) (t:Tok f):zep (.d (.bool !c)) f t=zep (.d (.bool c)) (λz=>match z with | true=>f false | false=>f true) ⟨⟩:=by cases c <;> rfl
@[simp] def zyK (v:V) (f:Bool->Res) (t:Tok f) (g:Slots->List Obj->Res) (u:Tok g):zvM (zep v f t) g u=zep v (λz=>zvM (f z) g ⟨⟩) ⟨⟩:=by
 cases v with
 |d x=>cases x <;> rfl
 |_=>rfl
@[simp] def zxJ (v:V) (f:Bool->Option α) (t:Tok f) (g:α->Option β) (u:Tok g):zbc (zep v f t) g u=zep v (λz=>zbc (f z) g ⟨⟩) ⟨⟩:=by
 cases v with
 |d x=>cases x <;> rfl
 |_=>rfl
@[simp] def zxK (id:Nat) (v:V) (f:Bool->Res) (t:Tok f):leave id (zep v f t)=zep v (λz=>leave id (f z)) ⟨⟩:=by
 cases v with
 |d x=>cases x <;> rfl
 |_=>rfl
def zgk {T:Option α->Prop} {c:Bool} {f:Bool->Option α} {t:Tok f} (h1:c=true->T (f true)) (h0:c=false->T (f false)):T (zep (.d (.bool c)) f t):=by
 cases c
 ·exact h0 rfl
 ·exact h1 rfl
def zdz (x:α) (f:α->β) (_:Tok f):β:=f x
@[simp] def zBZ (x:α) (f:α->β) (t:Tok f):zdz x f t=f x:=rfl
@[simp] def zB0 (t:Nat):zar [] t= .dead:=rfl
@[simp] def zyL (i:Nat) (v:V) (r:Slots) (t:Nat):zar ((i,v)::r) t=bif i == t then v else zar r t:=by
 simp only[zar,cond_eq_ite,ycP]
def zd9 (v:V) (sz t:Nat) (s:Slots) (h:List Obj) (r:List (Nat × Nat)):Slots × List Obj:=
 match v,sz with
 |.nilS,sz+1=>let (s1,h1):=zah s (h++[.arr (sz+1) [] 0]) r;((t,.arr h.length 0)::s1,h1)
 |v,_=>let (s1,h1):=zah s h r;((t,v)::s1,h1)
@[simp] def zuD (s:Slots) (h:List Obj):zah s h []=([],h):=rfl
@[simp] def zt6 (s:Slots) (h:List Obj) (t sz:Nat) (r:List (Nat × Nat)) (ht:t<1000000):zah s h ((t,sz)::r)=zd9 (zar s t) sz t s h r:=by
 unfold zah;rw[yah ht];rfl
def zlf (p:Option (D × List Obj)) (t:Nat) (s:Slots) (r:List (Nat × Nat)):Slots × List Obj:=
 match p with
 |some (x,h0)=>let (s1,h1):=zah s h0 r;((t,.d x)::s1,h1)
 |none=>([],[])
@[simp] def zuE (x:D) (h0:List Obj) (t:Nat) (s:Slots) (r:List (Nat × Nat)):zlf (some (x,h0)) t s r=zdz (zah s h0 r) (λp=>((t,.d x)::p.1,p.2)) ⟨⟩:=rfl
def zft {s:Slots} {h:List Obj} {t sz:Nat} {r:List (Nat × Nat)} {p:D × List Obj} (hp:zbG h (zar s t)=some p):zah s h ((t+1000000,sz)::r)=zlf (zbG h (zar s t)) t s r:=by
 unfold zah;rw[yae (by omega),yaK,hp]
 rfl
@[simp] def zt7 {s:Slots} {h:List Obj} {t sz:Nat} {r:List (Nat × Nat)} {x:List D} (hp:zar s t= .d (.list x)):zah s h ((t+1000000,sz)::r)=zdz (zah s h r) (λp=>((t,.d (.list x))::p.1,p.2)) ⟨⟩:=by
 rw[zft (p:=(.list x,h)) (by rw[hp];rfl),hp];rfl
@[simp] def zuF {s:Slots} {h:List Obj} {t sz:Nat} {r:List (Nat × Nat)} {id n:Nat} (hp:zar s t= .arr id n) (hd:(zbG h (.arr id n)).isSome=true):zah s h ((t+1000000,sz)::r)=zlf (zbG h (.arr id n)) t s r:=by
 obtain⟨p,e⟩:=Option.isSome_iff_exists.1 hd;rw[zft (p:=p) (by rw[hp];exact e),hp]
@[simp] def zuG (v:V) (t:Nat) (s:Slots) (h:List Obj) (r:List (Nat × Nat)):zd9 v 0 t s h r=zdz (zah s h r) (λp=>((t,v)::p.1,p.2)) ⟨⟩:=by
 cases v <;> rfl
@[simp] def zuH (sz t:Nat) (s:Slots) (h:List Obj) (r:List (Nat × Nat)):zd9 .nilS (sz+1) t s h r=zdz (zah s (h++[.arr (sz+1) [] 0]) r) (λp=>((t,.arr h.length 0)::p.1,p.2)) ⟨⟩:=rfl
@[simp] def zvN (a b sz t:Nat) (s:Slots) (h:List Obj) (r:List (Nat × Nat)):zd9 (.arr a b) (sz+1) t s h r=zdz (zah s h r) (λp=>((t,.arr a b)::p.1,p.2)) ⟨⟩:=rfl
@[simp] def zwu (a b c d sz t:Nat) (s:Slots) (h:List Obj) (r:List (Nat × Nat)):zd9 (.sl a b c d) (sz+1) t s h r=zdz (zah s h r) (λp=>((t,.sl a b c d)::p.1,p.2)) ⟨⟩:=rfl
@[simp] def zvO (sz t:Nat) (s:Slots) (h:List Obj) (r:List (Nat × Nat)):zd9 .emp (sz+1) t s h r=zdz (zah s h r) (λp=>((t,.emp)::p.1,p.2)) ⟨⟩:=rfl
@[simp] def zxL (x:D) (sz t:Nat) (s:Slots) (h:List Obj) (r:List (Nat × Nat)):zd9 (.d x) (sz+1) t s h r=zdz (zah s h r) (λp=>((t,.d x)::p.1,p.2)) ⟨⟩:=rfl
@[simp] def zvP (f:Nat->Option Nat):zaM f []=some []:=rfl
@[simp] def zuI (f:Nat->Option Nat) (t:Nat) (v:V) (r:Slots):zaM f ((t,v)::r)=zbc (V.ren f v) (λu=>zbc (zaM f r) (λl=>some ((t,u)::l)) ⟨⟩) ⟨⟩:=by
 simp only[zaM,yaU,zbc];cases V.ren f v with
 |none=>rfl
 |some u=>cases List.mapM (λ(p:Nat × V)=>Option.map (λv=>(p.1,v)) (V.ren f p.2)) r <;> rfl
def ziQ (h:List Obj) (f:Nat->Option Nat) (i:Nat):Option Obj:=(h[i]?).bind (Obj.ren f)
@[simp] def zvQ (o:Obj) (h:List Obj) (f:Nat->Option Nat):ziQ (o::h) f 0=Obj.ren f o:=rfl
@[simp] def zvR (o:Obj) (h:List Obj) (f:Nat->Option Nat) (i:Nat):ziQ (o::h) f (i+1)=ziQ h f i:=rfl
@[simp] def zvS (h:List Obj) (f:Nat->Option Nat):zaL h f []=some []:=rfl
@[simp] def zuJ (h:List Obj) (f:Nat->Option Nat) (i:Nat) (l:List Nat):zaL h f (i::l)=zbc (ziQ h f i) (λo=>zbc (zaL h f l) (λos=>some (o::os)) ⟨⟩) ⟨⟩:=by
 simp only[zaL,yaU,zbc,ziQ];cases (h[i]?).bind (Obj.ren f) with
 |none=>rfl
 |some u=>cases List.mapM (λi=>(h[i]?).bind (Obj.ren f)) l <;> rfl
@[simp] def zDb (k:Nat) (keep:List (Nat × Nat)) (s:Slots) (h:List Obj):zfm k keep s h=
 zdz (zah s h keep) (λp=>zdz (zbp p.2 (zam (List.range k) (p.1.flatMap λq=>q.2.ids))) (λids=>zbc (zaM (zax ids) p.1) (λs2=>zbc (zaL p.2 (zax ids) ids) (λh2=>some (s2,h2)) ⟨⟩) ⟨⟩) ⟨⟩) ⟨⟩:=by
 simp only[zfm,zdz,zbc,obind];cases zaM (zax (zbp (zah s h keep).2 (zam (List.range k) ((zah s h keep).1.flatMap λq=>q.2.ids)))) (zah s h keep).1 with
 |none=>rfl
 |some s2=>cases zaL (zah s h keep).2 (zax (zbp (zah s h keep).2 (zam (List.range k) ((zah s h keep).1.flatMap λq=>q.2.ids)))) (zbp (zah s h keep).2 (zam (List.range k) ((zah s h keep).1.flatMap λq=>q.2.ids))) <;> rfl
@[simp] def zwv (rf:Bool) (f:FuncId) (args:List V) (h:List Obj):callWith rf run f args h=
 zbc (zcZ rf h args) (λp=>zdz (zbp p.2 (zam [] (p.1.flatMap V.ids))) (λids=>zbc (p.1.mapM (V.ren (zax ids))) (λas2=>zbc (zaL p.2 (zax ids) ids) (λhin=>
  zbc (run f as2 hin) (λq=>zbc (q.1.mapM (V.ren (zjH ids p.2.length))) (λrets2=>zbc (q.2.mapM (Obj.ren (zjH ids p.2.length))) (λhout2=>some (one rets2,zbX p.2 ids hout2++hout2.drop ids.length)) ⟨⟩) ⟨⟩) ⟨⟩) ⟨⟩) ⟨⟩) ⟨⟩) ⟨⟩:=by
 simp only[callWith,zdz,zbc];cases zcZ rf h args with
 |none=>rfl
 |some p=>
  obtain⟨as,h1⟩:=p;simp only[obind];cases as.mapM (V.ren (zax (zbp h1 (zam [] (as.flatMap V.ids))))) with
  |none=>rfl
  |some as2=>
   simp only;cases zaL h1 (zax (zbp h1 (zam [] (as.flatMap V.ids)))) (zbp h1 (zam [] (as.flatMap V.ids))) with
   |none=>rfl
   |some hin=>
    simp only;cases run f as2 hin with
    |none=>rfl
    |some q=>
     obtain⟨rets,hout⟩:=q;simp only;cases rets.mapM (V.ren (zjH (zbp h1 (zam [] (as.flatMap V.ids))) h1.length)) with
     |none=>rfl
     |some r2=>cases hout.mapM (Obj.ren (zjH (zbp h1 (zam [] (as.flatMap V.ids))) h1.length)) <;> rfl
@[simp] def zww (f:FuncId) (args:List V) (h:List Obj):callThaw run f args h=
 zbc (zcZ false h args) (λp=>zbc (run f p.1 []) (λq=>zbc (bif args.all zbq && q.1.all V.flat && q.2.all Obj.flat then some () else none) (λ_=>zbc (q.1.mapM (V.ren (zjH [] h.length))) (λrets2=>zbc (q.2.mapM (Obj.ren (zjH [] h.length))) (λhout2=>some (one rets2,h++hout2)) ⟨⟩) ⟨⟩) ⟨⟩) ⟨⟩) ⟨⟩:=by
 simp only[callThaw,zbc];cases zcZ false h args with
 |none=>rfl
 |some p=>
  obtain⟨as,h1⟩:=p;simp only[obind];cases run f as [] with
  |none=>rfl
  |some q=>
   obtain⟨rets,hout⟩:=q;simp only;cases args.all zbq && rets.all V.flat && hout.all Obj.flat with
   |false=>rfl
   |true=>
    simp only[ybk,cond_true];cases rets.mapM (V.ren (zjH [] h.length)) with
    |none=>rfl
    |some r2=>cases hout.mapM (Obj.ren (zjH [] h.length)) <;> rfl
@[simp] def zyM (k:Nat) (ts:List TypeId) (vs:List V) (h:List Obj):zfZ P k ts vs h=
 zdz (zij P h vs ts) (λp=>zdz (zbp p.2 (zam (List.range k) (p.1.flatMap V.ids))) (λids=>zbc (p.1.mapM (V.ren2 (zax ids))) (λws=>zbc (zaL p.2 (zax ids) ids) (λh2=>some (ws,h2)) ⟨⟩) ⟨⟩) ⟨⟩) ⟨⟩:=by
 simp only[zfZ,zdz,zbc,obind];generalize zij P h vs ts=p;cases p.1.mapM (V.ren2 (zax (zbp p.2 (zam (List.range k) (p.1.flatMap V.ids))))) with
 |none=>rfl
 |some s2=>cases zaL p.2 (zax (zbp p.2 (zam (List.range k) (p.1.flatMap V.ids)))) (zbp p.2 (zam (List.range k) (p.1.flatMap V.ids))) <;> rfl
@[simp ↓] def zxM {t} {s:Slots} {h:List Obj}:zbE P G K S run F k b .skip t s h=some (.normal,s,h):=rfl
@[simp ↓] def zyN {x y:Code} {t} {s:Slots} {h:List Obj}:zbE P G K S run F k b (.seq x y) t s h=zvM (zbE P G K S run F k b x ⟨⟩ s h) (λs1 h1=>zbE P G K S run F k b y ⟨⟩ s1 h1) ⟨⟩:=rfl
@[simp ↓] def zaR {c:Operand} {x y:Code} {t} {s:Slots} {h:List Obj}:
 zbE P G K S run F k b (.cond c x y) t s h=zep (ev G s c) (λz=>match z with | true=>zbE P G K S run F k b x ⟨⟩ s h | false=>zbE P G K S run F k b y ⟨⟩ s h) ⟨⟩:=by
 show branch (ev G s c) _ _=_
 cases ev G s c with
 |d z=>
  cases z with
  |bool z=>cases z <;> rfl
  |_=>rfl
 |_=>rfl
@[simp ↓] def zfK {id:Nat} {c:Code} {t} {s:Slots} {h:List Obj}:zbE P G K S run F k b (.block id c) t s h=leave id (zbE P G K S run F k id c ⟨⟩ s h):=rfl
@[simp ↓] def zxN {id:Nat} {t} {s:Slots} {h:List Obj}:zbE P G K S run F k b (.exit id) t s h=some (.exit id,s,h):=rfl
@[simp ↓] def zyO {t} {s:Slots} {h:List Obj}:zbE P G K S run F k b .ret t s h=some (.ret,s,h):=rfl
@[simp ↓] def zxO {c:Code} {t} {s:Slots} {h:List Obj}:zbE P G K S run F k b (.loop c) t s h=zad (K F b) k (λs h=>zbE P G K S run F k b c ⟨⟩ s h) ⟨⟩ s h:=by
 unfold zad zbE;cases e:K F b with
 |some keep=>rw[zqT e]
 |none=>simp only[codeV,e]
noncomputable def zeD (keep:List (Nat × Nat)) (k:Nat) (round:List D->Slots->List Obj->Res) (_:Tok round) (l:List (List D)) (s:Slots) (h:List Obj):Res:=obind (zfm k keep s h) λq=>rangeV round k keep l q.1 q.2
def zE2 (x:Res) (f:Slots->List Obj->Res) (_:Tok f):Res:=
 match x with
 |some (.normal,s,h)=>f s h
 |_=>none
def zwx (x:Res) (s:Slots) (f:List Obj->Res) (_:Tok f):Res:=
 match x with
 |some (.normal,_,h)=>f h
 |some (o,_,h)=>some (o,s,h)
 |none=>none
@[simp] def zwy (s:Slots) (h:List Obj) (f:Slots->List Obj->Res) (t:Tok f):zE2 (some (.normal,s,h)) f t=f s h:=rfl
@[simp] def zwz (s s':Slots) (h:List Obj) (f:List Obj->Res) (t:Tok f):zwx (some (.normal,s',h)) s f t=f h:=rfl
@[simp] def zyP (i:Nat) (s s':Slots) (h:List Obj) (f:List Obj->Res) (t:Tok f):zwx (some (.exit i,s',h)) s f t=some (.exit i,s,h):=rfl
@[simp] def zB1 (s s':Slots) (h:List Obj) (f:List Obj->Res) (t:Tok f):zwx (some (.ret,s',h)) s f t=some (.ret,s,h):=rfl
@[simp] def zyQ (v:V) (f:Bool->Res) (t:Tok f) (s:Slots) (g:List Obj->Res) (u:Tok g):zwx (zep v f t) s g u=zep v (λz=>zwx (f z) s g ⟨⟩) ⟨⟩:=by
 cases v with
 |d x=>cases x <;> rfl
 |_=>rfl
def zyR (i j:Nat):Option Obj->Option Obj->Option (Nat × Nat × List (List D))
 |some (.box [.d (.list xs)]),some (.box [.d (.int .i64 n)])=>if 0<n/\n<=65536/\xs.length<=65536/\zao 1 xs then some (i,j,zcw n.toNat xs.length xs) else none
 |_,_=>none
@[simp] def zyS (h:List Obj) (g i j:Nat):zjK G h (.clo g [.ptr i 0,.ptr j 0])=bif zdo G g then zyR i j h[i]? h[j]? else none:=by
 cases e:zdo G g <;> simp only[zjK,e,cond_true,cond_false,ybk,yas,ya8];rfl
@[simp] def zB2 (i j:Nat) (xs:List D) (n:Int):zyR i j (some (.box [.d (.list xs)])) (some (.box [.d (.int .i64 n)]))=zbk (0<n/\n<=65536/\xs.length<=65536/\zao 1 xs=true) (some (i,j,zcw n.toNat xs.length xs)):=rfl
@[simp] def zB3 (k:Nat) (keep:List (Nat × Nat)) (s:Slots) (h:List Obj) (i:Nat):zfB k keep s h i=zdz (zah s h keep) (λp=>zdz (zbp p.2 (zam (List.range k) (p.1.flatMap λq=>q.2.ids))) (λids=> !ids.contains i) ⟨⟩) ⟨⟩:=rfl
@[simp ↓] def zwA {f:Operand} {p:Tmp} {x y:Code} {t} {s:Slots} {h:List Obj}:zbE P G K S run F k b (.rangeFunc f #[p] x y) t s h=
 zbc (K F b) (λkeep=>zbc (zjK G h (ev G s f)) (λit=>zbc (bif zfB k keep s h it.1 && zfB k keep s h it.2.1 then some () else none) (λ_=>
  zeD keep k (λz s h=>zE2 (zbE P G K S run F h.length b x ⟨⟩ ((p,.d (.list z))::s) h) (λs1 h1=>zbE P G K S run F h.length b y ⟨⟩ s1 h1) ⟨⟩) ⟨⟩ it.2.2 s h) ⟨⟩) ⟨⟩) ⟨⟩:=by
 unfold zbE zeD;simp only[codeV,zbc];cases K F b with
 |none=>rfl
 |some keep=>
  simp only[obind];cases zjK G h (ev G s f) with
  |none=>rfl
  |some it=>
   simp only;cases zfB k keep s h it.1 && zfB k keep s h it.2.1 with
   |false=>rfl
   |true=>rfl
def ziR {σ:Type} {T:Res->Prop} {k:Nat} {keep:List (Nat × Nat)} {round:List D->Slots->List Obj->Res} {t:Tok round} {l:List (List D)} {s:Slots} {h:List Obj} (Sl:σ->Slots) (H:σ->List Obj) (I:List (List D)->σ->Prop) (x:σ)
 (hi:I l x) (hn:zfm k keep s h=some (Sl x,H x))
 (step: ∀ (T':Res->Prop) (g:List (List D)->Slots->List Obj->Res),T'=T-> ∀z l x,I (z::l) x->(∀y h',I l y->zfm k keep (Sl x) h'=some (Sl y,H y)->T' (g l (Sl x) h'))->T' (zwx (round z (Sl x) (H x)) (Sl x) (λh'=>g l (Sl x) h') ⟨⟩))
 (done: ∀x,I [] x->T (some (.normal,Sl x,H x))): ∀z,zeD keep k round t l s h=z->T z:=by
 rintro _ rfl
 induction l generalizing x s h with
 |nil=>unfold zeD;rw[hn];exact done x hi
 |cons z l ih=>
  have e:zeD keep k round t (z::l) s h=zwx (round z (Sl x) (H x)) (Sl x) (λh'=>zeD keep k round t l (Sl x) h') ⟨⟩:=by
   unfold zeD;rw[hn]
   show rangeV round k keep (z::l) (Sl x) (H x)=_
   simp only[rangeV];cases round z (Sl x) (H x) with
   |none=>rfl
   |some q=>
    obtain⟨o,s1,h1⟩:=q;cases o <;> rfl
  rw[e];exact step T (λl s h=>zeD keep k round t l s h) rfl z l x hi λy h' hy hn'=>ih y hy hn'
attribute [simp] zf1 znQ zuf
@[simp] def zwB (f:FuncId) (args:List V):zeZ run f args=bif zuf args then zbc (run f args []) (λq=>bif q.2.isEmpty && zuf q.1 then some (one q.1) else none) ⟨⟩ else none:=by
 unfold zeZ zbc;cases zuf args with
 |false=>rfl
 |true=>
  simp only[ybk,cond_true];cases run f args [] with
  |none=>rfl
  |some q=>simp only[obind];cases q.2.isEmpty && zuf q.1 <;> rfl
@[simp] def zwC {h:List Obj} {id:Nat} {s:ByteArray} {pos:Nat} (e:pos<s.size):zf2 h id s pos=(.tup [.d (.bool true),.d (.int .i64 pos),.d (.int .i32 (Utf8.decode s pos).1)],h.set id (.siter s (pos+(Utf8.decode s pos).2))):=yah e
@[simp] def zvT {h:List Obj} {id:Nat} {s:ByteArray}:zf2 h id s s.size=(.tup [.d (.bool false)],h):=yae (ybO _)
attribute [simp] D.flat V.flat Obj.flat zdX
def zde {α:Type} (f:α->D) (hf: ∀x,(f x).flat=true): ∀l:List α,zdX (l.map f)=true
 |[]=>rfl
 |x::l=>by
  show ((f x).flat && zdX (l.map f))=true
  rw[hf x,zde f hf l];rfl
@[simp] def zwD (l:List UInt8):zdX (l.map zbb)=true:=zde _ (λ_=>rfl) l
@[simp] def zxP {α:Type} (k:IntKind) (f:α->Int) (l:List α):zdX (l.map λx=>D.int k (f x))=true:=zde _ (λ_=>rfl) l
@[simp] def zyT (l:List Int):zdX (l.map λn=>D.int .i64 n)=true:=zde _ (λ_=>rfl) l
@[simp] def zxQ (l:List ByteArray):zdX (l.map D.str)=true:=zde _ (λ_=>rfl) l
@[simp] def zmB: ∀ (a b:List D),zdX (a++b)=(zdX a && zdX b)
 |[],b=>rfl
 |x::a,b=>by
  show (x.flat && zdX (a++b))=(x.flat && zdX a && zdX b)
  rw[zmB a b,Bool.and_assoc]
@[simp ↓] def zyU {all:List Oper}:zil all []=[]:=rfl
@[simp ↓] def zwE {all r:List Oper} {dst:Option Tmp} {t:Tmp} {ty y:TypeId} {lo hi mx:Option Operand} {pos:String} {after:Array Edge} {g:Option (Nat × Bool)}:zil all (⟨dst,.slice ty (.tmp t) lo hi mx,y,pos,after,g⟩::r)=zf3 all t::zil all r:=rfl
@[simp ↓] def zxR {all r:List Oper} {o:Oper}:zil all (o::r)=match o.op with | .slice _ (.tmp t) _ _ _=>zf3 all t::zil all r | _=>zil all r:=rfl
@[simp ↓] def zxS {t:Tmp}:zf3 [] t=t:=rfl
@[simp ↓] def zwF {r:List Oper} {o:Oper} {t:Tmp}:zf3 (o::r) t=match o.op with | .move (.tmp x)=>(if o.dst=some t then x else zf3 r t) | _=>zf3 r t:=rfl
def zh2 (ops:List Oper) (i:Nat):Bool:=match ops[i]? with | some o=>(match o.op with | .load .. =>true | _=>false) | none=>false
@[simp ↓] def zhG {id:Nat} {ops:List Oper} {draw:Bool} {t} {s:Slots} {h:List Obj}:
 zbE P G K S run F k b (.region id ops.toArray draw) t s h=zbc (some (zdY ops && !zdZ ops && !zab G F)) (λc=>zbc (match c with | true=>some (zbH h ((zil ops ops).map λt=>(t,zar s t))) | false=>some h) (λh=>zbc (zrM P G run ops (bif draw then S F id else []) (bif zbI ops (bif draw then S F id else []) then zl2 s (bif draw then S F id else []) (zpa h) else []) 0 ops ⟨⟩ s h) (λp=>some (.normal,p.1,p.2)) ⟨⟩) ⟨⟩) ⟨⟩:=by
 unfold zbE;simp only[codeV,zim,zka,zbc,zrM,cond_eq_ite];cases zdY ops && !zdZ ops && !zab G F <;> rfl
@[simp ↓] def zB4 {all:List Oper} {hint:List Nat} {hv:List Obj} {i:Nat} {t} {s:Slots} {h:List Obj}:zrM P G run all hint hv i [] t s h=some (s,h):=rfl
def zmC {all:List Oper} {hint:List Nat} {hv:List Obj} {i:Nat} {o:Oper} {zaF:List Oper} {t} {s:Slots} {h:List Obj}:
 zrM P G run all hint hv i (o::zaF) t s h=zbc (zbr all s o.guard) (λw=>match w with
  |true=>zbc (opT P G run hint hv i o ⟨⟩ s h) (λp=>zrM P G run all hint hv (i+1) zaF ⟨⟩ (zfA s o.dst p.1) p.2) ⟨⟩
  |false=>zrM P G run all hint hv (i+1) zaF ⟨⟩ (zfA s o.dst (.tup [])) h) ⟨⟩:=by
 unfold zrM opT zbc;simp only[opsV,zdw];congr 1;funext w;cases w <;> rfl
@[simp ↓] def zxT {all:List Oper} {hint:List Nat} {hv:List Obj} {i:Nat} {dst:Option Tmp} {op:Op} {ty:TypeId} {pos:String} {after:Array Edge} {zaF:List Oper} {t} {s:Slots} {h:List Obj}:
 zrM P G run all hint hv i (⟨dst,op,ty,pos,after,none⟩::zaF) t s h=zbc (opT P G run hint hv i ⟨dst,op,ty,pos,after,none⟩ ⟨⟩ s h) (λp=>zrM P G run all hint hv (i+1) zaF ⟨⟩ (zfA s dst p.1) p.2) ⟨⟩:=by
 rw[zmC];rfl
def zpn (v:V) (want:Bool) (f:Bool->Option α) (_:Tok f):Option α:=
 match v with
 |.d (.bool c)=>f (c == want)
 |.tup []=>f false
 |_=>none
@[simp] def zwG (c:Bool) (f:Bool->Option α) (t:Tok f):zpn (.d (.bool c)) true f t=zep (.d (.bool c)) f t:=by cases c <;> rfl
@[simp] def zvU (c:Bool) (f:Bool->Option α) (t:Tok f):zpn (.d (.bool c)) false f t=zep (.d (.bool c)) (λz=>match z with | true=>f false | false=>f true) ⟨⟩:=by cases c <;> rfl
@[simp] def zxU (want:Bool) (f:Bool->Option α) (t:Tok f):zpn (.tup []) want f t=f false:=rfl
def zgl (all:List Oper) (j:Nat) (_:Tok all):Option Tmp:=(all[j]?).bind (·.dst)
@[simp ↓] def zuK {o:Oper} {all:List Oper} {t}:zgl (o::all) 0 t=o.dst:=rfl
@[simp ↓] def zuL {o:Oper} {all:List Oper} {j:Nat} {t}:zgl (o::all) (j+1) t=zgl all j ⟨⟩:=rfl
def zpo (s:Slots) (d:Option Tmp):V:=
 match d with
 |none=> .tup []
 |some d=>zar s d
@[simp] def zwH (s:Slots) (d:Nat):zpo s (some d)=zar s d:=rfl
@[simp] def zwI (s:Slots):zpo s none= .tup []:=rfl
@[simp ↓] def zxV {all:List Oper} {hint:List Nat} {hv:List Obj} {i:Nat} {dst:Option Tmp} {op:Op} {ty:TypeId} {pos:String} {after:Array Edge} {j:Nat} {want:Bool} {zaF:List Oper} {t} {s:Slots} {h:List Obj}:
 zrM P G run all hint hv i (⟨dst,op,ty,pos,after,some (j,want)⟩::zaF) t s h=zpn (zpo s (zgl all j ⟨⟩)) want (λw=>match w with
  |true=>zbc (opT P G run hint hv i ⟨dst,op,ty,pos,after,none⟩ ⟨⟩ s h) (λp=>zrM P G run all hint hv (i+1) zaF ⟨⟩ (zfA s dst p.1) p.2) ⟨⟩
  |false=>zrM P G run all hint hv (i+1) zaF ⟨⟩ (zfA s dst (.tup [])) h) ⟨⟩:=by
 rw[zmC];unfold zpo zgl;simp only[zbr];have hop: ∀ (o:Oper) (o':Oper),o.op=o'.op->opT P G run hint hv i o ⟨⟩ s h=opT P G run hint hv i o' ⟨⟩ s h:=λo o' e=>by
  unfold opT zdw opV blindV zlT za3 zl1 zk2;rw[e]
 rw[hop ⟨dst,op,ty,pos,after,some (j,want)⟩ ⟨dst,op,ty,pos,after,none⟩ rfl];cases (all[j]?).bind (·.dst) with
 |none=>rfl
 |some d=>
  simp only;cases zar s d with
  |d x=>
   cases x with
   |bool c=>cases c <;> cases want <;> rfl
   |_=>rfl
  |tup l=>cases l <;> rfl
  |_=>rfl
@[simp ↓] def zE3 {hv:List Obj} {i:Nat} {dst:Option Tmp} {op:Op} {ty:TypeId} {pos:String} {after:Array Edge} {t} {s:Slots} {h:List Obj}:
 opT P G run [] hv i ⟨dst,op,ty,pos,after,none⟩ t s h=opV P G run s h ⟨dst,op,ty,pos,after,none⟩:=rfl
@[simp ↓] def zB5 {x:Nat} {l:List Nat} {hv:List Obj} {i:Nat} {dst:Option Tmp} {op:Op} {ty:TypeId} {pos:String} {after:Array Edge} {t} {s:Slots} {h:List Obj}:
 opT P G run (x::l) hv i ⟨dst,op,ty,pos,after,none⟩ t s h=bif (x::l).contains i then zcc h (blindV P G run hv s ⟨dst,op,ty,pos,after,none⟩) else bif hv.isEmpty || zlT G hv s ⟨dst,op,ty,pos,after,none⟩ || za3 (x::l) i ⟨dst,op,ty,pos,after,none⟩ then opV P G run s h ⟨dst,op,ty,pos,after,none⟩ else none:=by
 unfold opT zdw;simp only[cond_eq_ite,List.isEmpty_cons,ycW]
attribute [simp ↓] opV
@[simp] def zDc (h:List Obj) (x:D):zjJ h (.d x)=h:=rfl
@[simp] def zxW (h:List Obj):zjJ h .nilS=h:=rfl
@[simp] def zyV (h:List Obj):zjJ h .emp=h:=rfl
@[simp] def zyW (h:List Obj) (a b:Nat):zjJ h (.arr a b)=h:=rfl
@[simp] def zB6 (h:List Obj) (a b c d:Nat):zjJ h (.sl a b c d)=h:=rfl
@[simp] def zB7 (h:List Obj) (id:Nat):zjJ h (.mp id)=match h[id]? with | some (.box cs)=>(match za7 h cs with | some (_,h1)=>h1 | none=>h) | _=>h:=rfl
attribute [simp] zyh zrT zej zj9
@[simp] def zwJ (x:Option (V × List Obj)):zk1 x=zbc x (λq=>zj9 q.2 q.1) ⟨⟩:=by cases x <;> rfl
attribute [simp] zpa zlT zrW zl2 zbq blindV za3 zl1 zk2 zaE zdE
@[simp ↓] def zuM {ops:List Oper}:zbI ops []=false:=rfl
@[simp ↓] def zt8 {ops:List Oper} {i:Nat} {r:List Nat}:zbI ops (i::r)=(zh2 ops i || zbI ops r):=rfl
@[simp ↓] def zuN {o:Oper} {ops:List Oper}:zh2 (o::ops) 0=(match o.op with | .load .. =>true | _=>false):=rfl
@[simp ↓] def zuO {o:Oper} {ops:List Oper} {i:Nat}:zh2 (o::ops) (i+1)=zh2 ops i:=rfl
@[simp ↓] def zvV:zdY []=false:=rfl
@[simp ↓] def zvW:zdZ []=false:=rfl
@[simp ↓] def zuP {o:Oper} {l:List Oper}:zdY (o::l)=((match o.op with | .slice .. =>true | _=>false) || zdY l):=rfl
@[simp ↓] def zuQ {o:Oper} {l:List Oper}:zdZ (o::l)=((match o.op with | .store .. =>true | _=>false) || zdZ l):=rfl
end
def appElem? (P:Program) (e:TypeId):Option Nat:=
 match P.info? e with
 |some i=>if i.zero.map (·.cells.size)=some i.size/\0<i.size/\i.bytes<=65536 then some i.size else none
 |none=>none
@[simp] def zxX (P:Program) (h:List Obj) (ts tx:TypeId) (s x:V):zfy P h ts tx s x=
 (match P.underlying ts with
 |some (.slice e)=>
  match appElem? P e,source? P h tx x with
  |some n,some ys=>
   match s with
   |.nilS=>zbk (ys.length<2147483648) (zbk (zao n ys=true) (some (.arr h.length ys.length,h++[.arr n ys 0])))
   |.arr id m=>
    match h[id]? with
    |some (.arr sz xs wm)=>zbk (m=xs.length) (zbk (sz=n) (zbk (m+ys.length<2147483648) (zbk (zao n ys=true) (some (.arr id (m+ys.length),h.set id (.arr sz (xs++ys) wm))))))
    |_=>none
   |_=>none
  |_,_=>none
 |_=>none):=by
 unfold zfy appElem?;cases P.underlying ts with
 |none=>rfl
 |some d=>
  cases d <;> try rfl
  rename_i e;simp only;cases P.info? e with
  |none=>rfl
  |some i=>
   cases source? P h tx x with
   |none=>
    simp only;split <;> simp_all
   |some ys=>
    simp only;split
    ·simp only[zsj,zsk];rfl
    ·rfl
def makeElem? (P:Program) (e:TypeId):Option (Nat × D):=
 match P.info? e,zeroD? P e with
 |some i,some z=>if i.bytes<=65536/\0<i.size/\z.cells.length=i.size then some (i.size,z) else none
 |_,_=>none
@[simp] def zuR (P:Program) (h:List Obj) (t:TypeId) (k k':IntKind) (n m:Int):zc6 P h t (.d (.int k n)) (.d (.int k' m))=
 (match P.underlying t with
 |some (.slice e)=>
  match makeElem? P e with
  |some (sz,z)=>zbk (0<=n) (zbk (n<=m) (zbk (m<2147483648) (some (.arr h.length n.toNat,h++[.arr sz (List.replicate n.toNat z) 0]))))
  |none=>none
 |_=>none):=by
 unfold zc6 makeElem?;cases P.underlying t with
 |none=>rfl
 |some d=>
  cases d <;> try rfl
  rename_i e;simp only;cases P.info? e with
  |none=>rfl
  |some i=>
   cases zeroD? P e with
   |none=>rfl
   |some z=>
    simp only
    by_cases a:i.bytes<=65536/\0<i.size/\z.cells.length=i.size
    ·rw[yah a]
     obtain⟨a1,a2,a3⟩:=a;simp only[zbk]
     by_cases b1:0<=n <;> by_cases b2:n<=m <;> by_cases b3:m<2147483648 <;> simp[a1,a2,a3,b1,b2,b3]
    ·rw[yae a,yae]
     rintro ⟨_,_,_,b1,b2,b3⟩
     exact a ⟨b1,b2,b3⟩
def zeroVs? (P:Program) (t:TypeId):Option (List V):=
 match zero? P t with
 |some z=>if (z.cells.toList.map zaK).all V.cellOk then some (z.cells.toList.map zaK) else none
 |none=>none
def places? (P:Program) (t:TypeId):Option (List (Nat × Nat)):=
 match P.underlying t with
 |some (.struct fs)=>fs.toList.mapM λf=>(sizeOf? P f.type).map λs=>(f.offset,s)
 |_=>none
def zkw {P:Program}: ∀ {fs:List Field} {pl:List (Nat × Nat)},(fs.mapM λ(f:Field)=>(sizeOf? P f.type).map λs=>(f.offset,s))=some pl-> ∀i:Nat,(fs[i]?).bind (λ(f:Field)=>(sizeOf? P f.type).map λs=>(f.offset,s))=pl[i]?
 |[],pl,h,i=>by simp at h;subst h;simp
 |f::fs,pl,h,i=>by
  simp only[yaU,ybz,yaP,ybH,yaa]at h;obtain⟨p,hp,ps,hps,rfl⟩:=h;cases i with
  |zero=>simpa using hp
  |succ i=>simpa using zkw hps i
def zaq {P:Program} {t:TypeId} {parts:List (Nat × V)} {z:List V} {pl:List (Nat × Nat)} (hz:zeroVs? P t=some z) (hp:places? P t=some pl):zbj P t parts=(zcr (λi=>pl[i]?) z parts).map zcq:=by
 unfold zeroVs? at hz;unfold places? at hp;unfold zbj;cases h0:zero? P t with
 |none=>rw[h0]at hz;cases hz
 |some z0=>
  rw[h0]at hz;simp only at hz;split at hz
  ·rename_i hc
   simp only[yaa]at hz;subst hz;split at hp
   ·rename_i fs hfs
    have hall:fs.toList.all (λf=>(sizeOf? P f.type).isSome)=true:=by
     rw[ybR];intro f hf;obtain⟨i,hi⟩:=ybt hf;obtain⟨_,h2⟩:=zga hp;obtain⟨b,_,hb⟩:=h2 i f hi;simp only[yac]at hb;obtain⟨s,hs,_⟩:=hb;rw[hs];rfl
    simp only[hfs,hc,hall,ydF,ybk];have hpl:(λ(i:Nat)=>(fs[i]?).bind λ(f:Field)=>(sizeOf? P f.type).map λs=>(f.offset,s))=λi=>pl[i]? :=by
     funext i;rw[<- zkw hp i,yci]
    rw[hpl]
   ·cases hp
  ·cases hz
def zb6 {P:Program} {t:TypeId} {h:List Obj} {z:List V} (hz:zeroVs? P t=some z):zcU P h t=some (.ptr h.length 0,h++[.box z]):=by
 unfold zeroVs? at hz;unfold zcU;cases h0:zero? P t with
 |none=>rw[h0]at hz;cases hz
 |some z0=>
  rw[h0]at hz;simp only at hz ⊢;split at hz
  ·rename_i hc
   simp only[yaa]at hz;subst hz;rw[yah hc]
  ·cases hz
@[simp] def zt9 (P:Program) (h:List Obj) (t:TypeId) (len:Nat) (parts:List (Nat × V)):zcb P h t len parts=
 (match P.underlying t with
 |some (.slice e)=>
  match sizeOf? P e with
  |some sz=>
   if (zero? P e).isSome=true/\0<sz/\parts.length=len/\len*sz<=65536/\zgR parts 0 then
    match zej h (parts.map (·.2)) with
    |some (xs,h1)=>if zao sz xs then some (.arr h1.length len,h1++[.arr sz xs 0]) else none
    |none=>none
   else none
  |none=>none
 |_=>none):=by
 unfold zcb;cases P.underlying t with
 |none=>rfl
 |some d=>
  cases d <;> try rfl
  rename_i e;simp only;cases sizeOf? P e with
  |none=>rfl
  |some sz=>
   cases zero? P e with
   |none=>simp
   |some z=>simp;rfl
attribute [simp] zcr zau zcq V.asD? zgR zej
@[simp] def zaO {α:Type} {f:α->D} {n:Nat} (l:List α) (hf: ∀x,(f x).cells.length=n):zao n (l.map f)=true:=by
 induction l with
 |nil=>rfl
 |cons x l ih=>simp[zao,hf,ih]
attribute [simp] zao source? elems?
@[simp] def zDd (x y:Int):(x != y)= !decide (x=y):=by
 by_cases h:x=y <;> simp[h]
@[simp] def zDe (x y:Int):(x == y)=decide (x=y):=by
 by_cases h:x=y <;> simp[h]
def zuS {x:Int} (h1: -9223372036854775808<=x) (h2:x<=9223372036854775807):IntKind.i64.wrap x=x:=by
 simp[IntKind.wrap,IntKind.signed,IntKind.bits];omega
def zai {x:Int} (h1:0<=x) (h2:x<=18446744073709551615):IntKind.u64.wrap x=x:=by
 simp[IntKind.wrap,IntKind.signed,IntKind.bits];omega
def zpp {x:Int} (h1:0<=x) (h2:x<=4294967295):IntKind.u32.wrap x=x:=by
 simp[IntKind.wrap,IntKind.signed,IntKind.bits];omega
def zoh {x:Int} (h1:0<=x) (h2:x<=255):IntKind.u8.wrap x=x:=by
 simp[IntKind.wrap,IntKind.signed,IntKind.bits];omega
@[simp] def zsl {α β:Type} (x:Option α) (f:α->Option β):(x >>=f)=x.bind f:=rfl
section
variable {P:Program} {G:Nat->Option (List D)} {K:zgT} {S:zgS}
def zsm (P:Program) (k:Nat) (rs:List ResultVar) (ts:List TypeId) (r:Res):Option (List V × List Obj):=
 match r with
 |some (.normal,s,h) | some (.ret,s,h)=>obind (zqo P s h rs) λvs=>zfZ P k ts vs h
 |_=>none
@[simp] def zwK {k:Nat} {rs:List ResultVar} {ts:List TypeId} {s:Slots} {h:List Obj}:zsm P k rs ts (some (.normal,s,h))=obind (zqo P s h rs) λvs=>zfZ P k ts vs h:=rfl
@[simp] def zyX {k:Nat} {rs:List ResultVar} {ts:List TypeId} (v:V) (f:Bool->Res) (t:Tok f):zsm P k rs ts (zep v f t)=zep v (λz=>zsm P k rs ts (f z)) ⟨⟩:=by
 cases v with
 |d x=>cases x <;> rfl
 |_=>rfl
@[simp] def zB8 {k:Nat} {rs:List ResultVar} {ts:List TypeId} {s:Slots} {h:List Obj}:zsm P k rs ts (some (.ret,s,h))=obind (zqo P s h rs) λvs=>zfZ P k ts vs h:=rfl
def zpq {f:FuncId} {fn:Func} {c:Code} {rs:List ResultVar} {ts:List TypeId} {args:List V} {h:List Obj} {r:List V × List Obj} (hf:P.funcs[f]? =some fn) (hb:fn.body=some c)
 (hrs : fn.results.toList = rs) (hts : fn.resultTypes.toList = ts) (hok : codeOk P (S f) fn.ntmps c = true) (hn : (fn.name == "runtime.NumGoroutine") = false)
 (hsp:splits G f=false\/ ∀zaF,args≠ .d (.list [])::zaF) (hl:args.length<=fn.ntmps) (hr:zsm P h.length rs ts (zbE P G K S (zfI P G K S) f h.length 0 c ⟨⟩ (zas 0 args) h)=some r):zfI P G K S f args h=some r:=by
 refine zwp hsp ?_;unfold bodyV;simp only[hf,hb,hok,hn,yaJ hl,ydF,ydT,ybk];unfold zyi;rw[hrs,hts];exact hr
def ze3 {f:FuncId} {fn:Func} {c:Code} {rs:List ResultVar} {ts:List TypeId} {args:List V} {h:List Obj} {r:List V × List Obj} (hf:P.funcs[f]? =some fn) (hb:fn.body=some c)
 (hrs : fn.results.toList = rs) (hts : fn.resultTypes.toList = ts) (hok : codeOk P (S f) fn.ntmps c = true) (hn : (fn.name == "runtime.NumGoroutine") = false)
 (hsp:splits G f=false\/ ∀zaF,args≠ .d (.list [])::zaF) (hl:args.length<=fn.ntmps) (hr: ∀T:Option (List V × List Obj)->Prop,T (some r)->T (zsm P h.length rs ts (zbE P G K S (zfI P G K S) f h.length 0 c ⟨⟩ (zas 0 args) h))):zfI P G K S f args h=some r:=
 zpq hf hb hrs hts hok hn hsp hl (hr (·=some r) rfl)
def zeE {f:FuncId} {fn:Func} {c:Code} {rs:List ResultVar} {ts:List TypeId} {zaF:List V} {h:List Obj} {r:List V × List Obj} (hf:P.funcs[f]? =some fn) (hb:fn.body=some c)
 (hrs : fn.results.toList = rs) (hts : fn.resultTypes.toList = ts) (hok : codeOk P (S f) fn.ntmps c = true) (hn : (fn.name == "runtime.NumGoroutine") = false)
 (hsp:splits G f=true) (hl:zaF.length+1<=fn.ntmps) (hr: ∀T:Option (List V × List Obj)->Prop,T (some r)-> ∀a,a= .nilS\/a= .emp->T (zsm P h.length rs ts (zbE P G K S (zfI P G K S) f h.length 0 c ⟨⟩ (zas 0 (a::zaF)) h))):zfI P G K S f (.d (.list [])::zaF) h=some r:=by
 have key: ∀a,a= .nilS\/a= .emp->bodyV P G K S (zfI P G K S) loops f (a::zaF) h=some r:=λa ha=>by
  unfold bodyV;simp only[hf,hb,hok,hn,yag,yaJ hl,ydF,ydT,ybk];unfold zyi;rw[hrs,hts];exact hr (·=some r) rfl a ha
 exact zqR hsp (key .nilS (.inl rfl)) (key .emp (.inr rfl))
def zDf (p:Bool->Prop) (r:Option (List V × List Obj)):Prop:= ∃b,r=some ([.d (.bool b)],[])/\p b
@[simp] def zxY {p:Bool->Prop} {b:Bool}:zDf p (some ([.d (.bool b)],[]))↔p b:=by
 constructor
 ·rintro ⟨b',h,hp⟩
  simp only[yaa,yad,ycz,V.d.injEq,D.bool.injEq,and_true]at h;rw[h];exact hp
 ·exact λh=>⟨b,rfl,h⟩
def zwL {f:FuncId} {fn:Func} {c:Code} {rs:List ResultVar} {ts:List TypeId} {args:List V} {h:List Obj} {p:Option (List V × List Obj)->Prop} (hf:P.funcs[f]? =some fn) (hb:fn.body=some c)
 (hrs : fn.results.toList = rs) (hts : fn.resultTypes.toList = ts) (hok : codeOk P (S f) fn.ntmps c = true) (hn : (fn.name == "runtime.NumGoroutine") = false)
 (hsp:splits G f=false\/ ∀zaF,args≠ .d (.list [])::zaF) (hl:args.length<=fn.ntmps) (hp: ¬ p none) (hr:p (zsm P h.length rs ts (zbE P G K S (zfI P G K S) f h.length 0 c ⟨⟩ (zas 0 args) h))):p (zfI P G K S f args h):=by
 cases he:zsm P h.length rs ts (zbE P G K S (zfI P G K S) f h.length 0 c ⟨⟩ (zas 0 args) h) with
 |none=>rw[he]at hr;exact absurd hr hp
 |some r=>rw[he]at hr;rw[zpq hf hb hrs hts hok hn hsp hl he];exact hr
def zaa {σ:Type} {T:Res->Prop} {k:Nat} {keep:List (Nat × Nat)} {b:Slots->List Obj->Res} {t:Tok b} {s:Slots} {h:List Obj} (Sl:σ->Slots) (H:σ->List Obj) (I:σ->Prop) (μ:σ->Nat) (x:σ)
 (hi:I x) (hn:zfm k keep s h=some (Sl x,H x))
 (step: ∀ (T':Res->Prop) (b':Slots->List Obj->Res),T'=T-> ∀x,I x->(∀y s h,I y->μ y<μ x->zfm k keep s h=some (Sl y,H y)->T' (zfJ k keep b' s h))->T' (zvM (b (Sl x) (H x)) (zfJ k keep b') ⟨⟩)):
 ∀z,zad (some keep) k b t s h=z->T z:=by
 rintro _ rfl
 show T (zfJ k keep b s h)
 have key: ∀n x,μ x<=n-> ∀s h,I x->zfm k keep s h=some (Sl x,H x)->T (zfJ k keep b s h):=by
  intro n
  induction n with
  |zero=>
   intro x hx s h hi hn;rw[zpm,hn];exact step T b rfl x hi λy s h _ hlt _=>by omega
  |succ n ih=>
   intro x hx s h hi hn;rw[zpm,hn];exact step T b rfl x hi λy s h hy hlt hn=>ih y (by omega) s h hy hn
 exact key (μ x) x (yab _) s h hi hn
def zea {T:Res->Prop} {x:Res} (Q:Res->Prop) (hq:Q x) (h: ∀z,Q z->T z): ∀z,x=z->T z:=by
 rintro _ rfl
 exact h _ hq
def zeF {t:TypeId} {parts:List (Nat × V)} {z:List V} {n:Nat} {e:TypeId} {s:Nat} (hz:zeroVs? P t=some z) (hu:P.underlying t=some (.array n e)) (hs:sizeOf? P e=some s):zbj P t parts=(zcr (λi=>some (i*s,s)) z parts).map zcq:=by
 unfold zeroVs? at hz;unfold zbj;cases h0:zero? P t with
 |none=>rw[h0]at hz;cases hz
 |some z0=>
  rw[h0]at hz;simp only at hz;split at hz
  ·rename_i hc
   simp only[yaa]at hz;subst hz;simp only[hu,hs,hc,ybk]
  ·cases hz
@[simp] def zwM (l:List Int):zao 1 (l.map λn=>D.int .i64 n)=true:=zaO l λ_=>rfl
@[simp] def zoi (k:IntKind) (x:Int): ∀n,zao 1 (List.replicate n (D.int k x))=true
 |0=>rfl
 |n+1=>by simp[yaN,zoi k x n]
end
end Go.Am
