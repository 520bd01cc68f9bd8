/- The abstract machine: what a row says, and the fixpoint of all functions. -/
import Derived.ProofKit
import Derived.OpenShut
import Derived.Carry
import Derived.Test.YtibdiacpdmhmnaaGreatDoorMachA
import Derived.Test.YtibdiacpdmhmnaaGreatDoorMachC
set_option linter.all false
namespace Go.Am
def zn2 (P:Program):Nat->List Field->Option Nat
 |n,[]=>some n
 |n,f::fs=>if f.offset=n then zn2 P (n+P.cellsOf f.type) fs else none
def zlA (P:Program) (q:TypeId->Bool) (t:TypeId):Bool:=
 match P.underlying t with
 |some (.int _) | some .bool | some .string=>true
 |some (.slice e)=>decide (0<P.cellsOf e) && q e
 |some (.struct fs)=>(zn2 P 0 fs.toList == some (P.cellsOf t)) && fs.toList.all λf=>q f.type
 |_=>false
def zxw (ts:List TypeId):Nat->TypeId->Bool:=λ_ t=>ts.contains t
def zxx (P:Program) (Q:Nat->TypeId->Bool):Prop:= ∀m t,Q (m+1) t=true->zlA P (Q m) t=true
def zxy {P:Program} {ts:List TypeId} (h:(ts.all λt=>zlA P (λt=>ts.contains t) t)=true):zxx P (zxw ts):=λ_ t ht=>by
 rw[ybD]at h;exact h t (by simpa[zxw]using ht)
inductive All2 {α β:Type} (R:α->β->Prop):List α->List β->Prop
 |nil:All2 R [] []
 |cons {a:α} {b:β} {as:List α} {bs:List β}:R a b->All2 R as bs->All2 R (a::as) (b::bs)
def zby (P:Program):Nat->TypeId->D->Prop
 |0,_,_=>False
 |n+1,t,x=>
  match P.underlying t with
  |some (.int k)=> ∃i,x= .int k i/\(Lit.int k i).wf=true
  |some .bool=> ∃b,x= .bool b
  |some .string=> ∃s,x= .str s/\s.size<=maxLen
  |some (.slice e)=> ∃xs,x= .list xs/\xs.length<=maxLen/\ ∀y∈xs,zby P n e y
  |some (.struct fs)=> ∃ys:List D,x= .agg (ys.flatMap D.cells)/\All2 (λf y=>zby P n f.type y) fs.toList ys
  |_=>False
def zeC:Nat->Nat->Prop:=λ_ _=>False
def zb6 (w:World) (cs:List Value) (ds:List D):Prop:=
 cs.length=ds.length/\ ∀ (j:Nat) (c:D),ds[j]? =some c-> ∃v,cs[j]? =some v/\Rep zeC w v c/\c.isCell=true
section
variable {H:Type} {enc:TypeId × Value->H} {P:Program} {w:World} {Q:Nat->TypeId->Bool}
def zb6.one {v:Value} {c:D} (hr:Rep zeC w v c) (hc:c.isCell=true):zb6 w [v] c.cells:=by
 rw[D.cells_one hc];refine⟨rfl,λj c' hj=> ?_⟩
 cases j with
 |zero=>simp only[yaF,yaa]at hj;subst hj;exact⟨v,rfl,hr,hc⟩
 |succ j=>simp at hj
def zb6.append {cs:List Value} {k:Nat} {a b:List D} (ha:zb6 w (cs.take k) a) (hb:zb6 w (cs.drop k) b):zb6 w cs (a++b):=by
 obtain⟨a1,a2⟩:=ha;obtain⟨b1,b2⟩:=hb;rw[yaq]at a1;rw[yax]at b1;refine⟨by rw[yae];omega,λj c hj=> ?_⟩
 rcases ybL j a.length with hl | hl
 ·rw[yar hl]at hj
  obtain⟨v,h1,h2⟩:=a2 j c hj;rw[yaU]at h1;split at h1
  ·exact⟨v,h1,h2⟩
  ·cases h1
 ·rw[yal hl]at hj
  obtain⟨v,h1,h2⟩:=b2 _ c hj;rw[ya1]at h1;have hlt:=lt_of_getElem? hj;have e:k+(j - a.length)=j:=by omega
  rw[e]at h1;exact⟨v,h1,h2⟩
def zjN {m fuel:Nat} {cs:List Value} (ih: ∀t cs d ps,Q m t=true->DataW.trod enc P w 0 (λ_=>true) true fuel t cs=some (d,ps)-> ∃x,zby P m t x/\zb6 w cs x.cells):
 ∀ (fs:List Field) (n:Nat) (xs:List (DataW H × List MemPlace)),zn2 P n fs=some cs.length->n<=cs.length->(∀f∈fs,Q m f.type=true)->
  (fs.mapM λf=>DataW.trod enc P w 0 (λ_=>true) true fuel f.type ((cs.drop f.offset).take (P.cellsOf f.type)))=some xs->
  ∃ys:List D,All2 (λf y=>zby P m f.type y) fs ys/\zb6 w (cs.drop n) (ys.flatMap D.cells)
 |[],n,xs,ht,hn,hp,hx=>by
  simp only[zn2,yaa]at ht;subst ht;exact⟨[],.nil,by simp,λj c hj=>by simp at hj⟩
 |f::fs,n,xs,ht,hn,hp,hx=>by
  simp only[zn2]at ht;split at ht
  ·rename_i ho
   simp only[ya2,ybB,yaT,ybS,yaa]at hx;obtain⟨⟨d,ps⟩,hd,xs',hxs,rfl⟩:=hx;obtain⟨y,hy,hc⟩:=ih _ _ _ _ (hp f (ybb ..)) hd;have hle:n+P.cellsOf f.type<=cs.length:=by
    have: ∀ (fs:List Field) (n m:Nat),zn2 P n fs=some m->n<=m:=by
     intro fs
     induction fs with
     |nil=>intro n m h;simp only[zn2,yaa]at h;omega
     |cons g gs ih=>intro n m h;simp only[zn2]at h;split at h
                    ·have:=ih _ _ h;omega
                    ·cases h
    exact this _ _ _ ht
   obtain⟨ys,h1,h2⟩:=zjN ih fs (n+P.cellsOf f.type) xs' ht hle (λg hg=>hp g (yaZ _ hg)) hxs
   refine⟨y::ys,.cons hy h1, ?_⟩;rw[ya5];refine zb6.append (k:=P.cellsOf f.type) (by rw[<- ho];exact hc) ?_
   rw[ycI];exact h2
  ·cases ht
def zlB {m fuel:Nat} {e:TypeId} {b off:Nat} (hm:Q m e=true) (ih: ∀t cs d ps,Q m t=true->DataW.trod enc P w 0 (λ_=>true) true fuel t cs=some (d,ps)-> ∃x,zby P m t x/\zb6 w cs x.cells):
 ∀n:Nat,(∀i,i<n-> ∃x,(w.cells? 0 ((⟨b,off,none⟩:Addr).add (i*P.cellsOf e)) (P.cellsOf e)).bind (DataW.trod enc P w 0 (λ_=>true) true fuel e)=some x)->
  ∃xs:List D,xs.length=n/\(∀x∈xs,x.cells.length=P.cellsOf e)/\(∀x∈xs,zby P m e x)/\(flat xs).length=n*P.cellsOf e/\
   ∀ (j:Nat) (c:D),(flat xs)[j]? =some c-> ∃v,w.cell? ⟨b,off+j,none⟩=some v/\Rep zeC w v c/\c.isCell=true
 |0,_=>⟨[],rfl,by simp,by simp,by simp[flat],λj c hj=>by simp[flat]at hj⟩
 |n+1,hx=>by
  obtain⟨xs,h1,h2,h3,h4,h5⟩:=zlB hm ih n λi hi=>hx i (by omega)
  obtain⟨⟨d,ps⟩,hd⟩:=hx n (by omega)
  simp only[yaT]at hd;obtain⟨cs,hcs,hd⟩:=hd;obtain⟨x,hx1,hx2,hx3⟩:=ih _ _ _ _ hm hd;simp only[World.cells?,yai,ybk]at hcs;obtain⟨l1,l2⟩:=zaY hcs;rw[ycf]at l1;have hlen:x.cells.length=P.cellsOf e:=by rw[<- hx2,l1]
  have hfl:flat (xs++[x])=flat xs++x.cells:=by simp[flat]
  refine⟨xs++[x],by simp[h1],λy hy=> ?_,λy hy=> ?_, ?_,λj c hj=> ?_⟩
  ·rcases List.mem_append.1 hy with h | h
   ·exact h2 y h
   ·rw[List.mem_singleton.1 h];exact hlen
  ·rcases List.mem_append.1 hy with h | h
   ·exact h3 y h
   ·rw[List.mem_singleton.1 h];exact hx1
  ·rw[hfl,yae,h4,hlen,ya8,ycw]
  ·rw[hfl]at hj
   rcases ybL j (flat xs).length with hl | hl
   ·rw[yar hl]at hj
    exact h5 j c hj
   ·rw[yal hl]at hj
    obtain⟨v,g1,g2,g3⟩:=hx3 _ c hj;obtain⟨i,g4,g5⟩:=l2 _ v g1;have hi:i=j - (flat xs).length:=by
     have hlt:=lt_of_getElem? g4;rw[ycf]at hlt;rw[ybj hlt,yaa]at g4;exact g4.symm
    refine⟨v, ?_,g2,g3⟩;rw[<- g5];congr 1;rw[hi,h4];unfold Addr.add;split <;> split <;> simp <;> omega
def reads (hQ:zxx P Q): ∀ (fuel m:Nat) (t:TypeId) (cs:List Value) (d:DataW H) (ps:List MemPlace),(fuel<=m\/ ∀t,Q 0 t=false)->Q m t=true->DataW.trod enc P w 0 (λ_=>true) true fuel t cs=some (d,ps)->
 ∃x,zby P m t x/\zb6 w cs x.cells:=by
 intro fuel
 induction fuel with
 |zero=>intro m t cs d ps _ _ h;simp[DataW.trod]at h
 |succ fuel ih=>
  intro m t cs d ps h0 hm h;cases m with
  |zero=>
   rcases h0 with h0 | h0
   ·omega
   ·rw[h0]at hm;cases hm
  |succ m=>
   have ih': ∀t cs d ps,Q m t=true->DataW.trod enc P w 0 (λ_=>true) true fuel t cs=some (d,ps)-> ∃x,zby P m t x/\zb6 w cs x.cells:=λt cs d ps=>ih m t cs d ps (h0.imp Nat.le_of_succ_le_succ id)
   replace hm:=hQ m t hm;unfold zlA at hm;simp only[zby];unfold DataW.trod at h;split at h
   case h_1 b e=>rw[e];exact⟨.bool b,⟨b,rfl⟩,zb6.one (.bool b) rfl⟩
   case h_2 k k' n e=>
    rw[e];split at h
    ·rename_i hk
     obtain⟨rfl,hw⟩:=hk;exact⟨.int _ n,⟨n,rfl,hw⟩,zb6.one (.int _ n) rfl⟩
    ·cases h
   case h_4 s e=>
    rw[e];split at h
    ·rename_i hs
     exact⟨.str s,⟨s,rfl,hs⟩,zb6.one (.str s) rfl⟩
    ·cases h
   case h_7 e0 e=>rw[e];exact⟨.list [],⟨[],rfl,yai _,λ_ h=>by cases h⟩,zb6.one (.nil none 0 λ_=>rfl) rfl⟩
   case h_8 e a len cap he=>
    rw[he]at hm ⊢;simp only[yaw,yaB]at hm;simp only at h;split at h
    ·rename_i hc
     simp only[yaT]at h;obtain⟨els,hels,-⟩:=h;obtain⟨r1,r2⟩:=zaY hels;obtain⟨_,r3⟩:=zgK hels;rw[ycf]at r1;rcases ybq len with h0 | h0
     ·subst h0
      exact⟨.list [],⟨[],rfl,yai _,λ_ h=>by cases h⟩,zb6.one (.nil _ _ λe=>by cases e) rfl⟩
     ·have hspot:a.spot=none:=by
       obtain⟨x0,_,hx0⟩:=r3 0 0 (by rw[ybj h0])
       simp only[yaT]at hx0;obtain⟨cs0,hcs0,-⟩:=hx0;simp only[World.cells?,yai,ybk]at hcs0;obtain⟨_,q⟩:=zgK hcs0;obtain⟨v0,_,hv0⟩:=q 0 0 (by rw[ybj hm.1])
       simpa[Addr.add]using World.cell?_spot hv0
      obtain⟨b,off,sp⟩:=a;simp only at hspot;subst hspot;obtain⟨xs,h1,h2,h3,h4,h5⟩:=zlB hm.2 ih' (b:=b) (off:=off) len λi hi=>by
       obtain⟨x,_,hx⟩:=r3 i i (by rw[ybj hi])
       exact⟨x,hx⟩
      refine⟨.list xs,⟨xs,rfl,by omega,h3⟩,zb6.one ?_ rfl⟩
      refine .list b off len cap (P.cellsOf e) xs (λj=>(w.cell? ⟨b,off+j,none⟩).getD undef) h1.symm hc.2.1 h2 (λj c hj=> ?_) λj c hj=> ?_
      ·obtain⟨v,g1,g2,g3⟩:=h5 j c hj
       exact⟨by rw[g1];rfl,λh=>h,g3⟩
      ·obtain⟨v,g1,g2,g3⟩:=h5 j c hj
       rw[g1];exact g2
    ·cases h
   case h_9 cs' fs he=>
    rw[he]at hm ⊢;simp only[yaw,ycN,ybD]at hm;split at h
    ·rename_i hlen
     simp only[yab]at h;obtain⟨xs,hxs,-⟩:=h;obtain⟨ys,h1,h2⟩:=zjN ih' fs.toList 0 xs (by rw[hlen];exact hm.1) (yai _) hm.2 hxs
     exact⟨.agg (ys.flatMap D.cells),⟨ys,rfl,h1⟩,h2⟩
    ·cases h
   all_goals
    rename_i e
    first
     |(rw[e]at hm;cases hm)
     |(exfalso;simp_all)
def zsH {ts:List TypeId} (hs:zxx P (zxw ts)) {t:TypeId} {v:Value} {d:DataW H} {ps:List MemPlace} (hm:ts.contains t=true) (hd:DataW.Trod enc P w 0 (λ_=>true) true t v d ps):
 ∃m x,zby P (m+1) t x/\zb6 w v.cells.toList x.cells:=by
 obtain⟨fuel,h⟩:=hd;cases fuel with
 |zero=>simp[DataW.trod]at h
 |succ fuel=>exact⟨fuel,reads hs (fuel+1) (fuel+1) t _ d ps (.inl (yaj _)) hm h⟩
end
end Go.Am
namespace Go.Am
open Go.RowKit Go.ChangeShapes Go.WideShapes
section
variable {H:Type} {enc:TypeId × Value->H} {P:Program} {w:World}
def zuE {m b0:Nat} {t:TypeId} {v:Value} {q:TypeId->Bool} (hm:zlA P q t=true) (hok:Value.okWide P w .any b0 t v) {x:D} (hx:zby P (m+1) t x) (hcr:zb6 w v.cells.toList x.cells):Rep zeC w v x:=by
 obtain⟨hl,hc⟩:=hcr;have one: ∀ {v:Value} {x:D},v.cells= #[v]->x.isCell=true->zb6 w v.cells.toList x.cells->Rep zeC w v x:=λhv hx hc=>by
  rw[hv,D.cells_one hx]at hc;obtain⟨v',h1,h2,_⟩:=hc.2 0 _ rfl;simp only[yaF,yaa]at h1;subst h1;exact h2
 unfold zlA at hm;simp only[zby]at hx;split at hm
 ·rename_i k he
  obtain⟨n,rfl⟩:=okWide_int he hok;rw[he]at hx;obtain⟨i,rfl,_⟩:=hx;exact one rfl rfl ⟨hl,hc⟩
 ·rename_i he
  obtain⟨n,rfl⟩:=okWide_bool he hok;rw[he]at hx;obtain⟨i,rfl⟩:=hx;exact one rfl rfl ⟨hl,hc⟩
 ·rename_i he
  obtain⟨n,rfl⟩:=okWide_string he hok;rw[he]at hx;obtain⟨i,rfl,_⟩:=hx;exact one rfl rfl ⟨hl,hc⟩
 ·rename_i e he
  obtain⟨a,l,c,rfl⟩:=okWide_slice he hok;rw[he]at hx;obtain⟨i,rfl,_⟩:=hx;exact one rfl rfl ⟨hl,hc⟩
 ·rename_i fs he
  obtain⟨cs,rfl,_⟩:=okWide_struct he hok;rw[he]at hx;obtain⟨ys,rfl,_⟩:=hx;have hcs: ∀ (j:Nat) (c:D),(ys.flatMap D.cells)[j]? =some c-> ∃v,cs[j]? =some v/\Rep zeC w v c/\c.isCell=true:=λj c hj=>by
   simpa[Value.cells,D.cells]using hc j c hj
  refine .agg cs _ (λj=>cs.getD j undef) (by simpa[Value.cells,D.cells]using hl) (λj c hj=> ?_) λj c hj=> ?_
  ·obtain⟨v,h1,h2,h3⟩:=hcs j c hj
   exact⟨by rw[h1,yav,h1];rfl,h3⟩
  ·obtain⟨v,h1,h2,h3⟩:=hcs j c hj
   rw[yav,h1];exact h2
 ·cases hm
def zzU (enc:TypeId × Value->H) (P:Program) (w:World) (b0:Nat) (T:TypeId->D->Prop) (t:TypeId):Prop:= ∀v d ps,Value.okWide P w .any b0 t v->DataW.Trod enc P w 0 (λ_=>true) true t v d ps-> ∃x,T t x/\Rep zeC w v x
def zxz {b0:Nat} {ts:List TypeId} (hs:zxx P (zxw ts)) {t:TypeId} (hm:ts.contains t=true):zzU enc P w b0 (λt x=> ∃m,zby P m t x) t:=λv d ps hok hd=>by
 obtain⟨m,x,hx,hc⟩:=zsH hs hm hd;exact⟨x,⟨_,hx⟩,zuE (hs 0 t hm) hok hx hc⟩
def zq3 {b0:Nat} {T:TypeId->D->Prop}: ∀ (ts:List TypeId) (vs:List Value) (ds:List (DataW H)) (ps:List MemPlace),(∀t∈ts,zzU enc P w b0 T t)->(∀ (j:Nat) t v,ts[j]? =some t->vs[j]? =some v->Value.okWide P w .any b0 t v)->
 DataW.TrodAll enc P w 0 (λ_=>true) true ts vs ds ps-> ∃xs:List D,All2 T ts xs/\All2 (Rep zeC w) vs xs
 |[],vs,ds,ps,_,_,h=>by
  obtain⟨rfl,_,_⟩:=trodAll_nil h;exact⟨[],.nil,.nil⟩
 |t::ts,vs,ds,ps,hp,hok,h=>by
  obtain⟨v,vs',d,ds',p,q,rfl,rfl,rfl,hd,hr⟩:=trodAll_cons h;obtain⟨x,h1,h2⟩:=hp t (ybb ..) _ _ _ (hok 0 t v rfl rfl) hd;obtain⟨xs,h3,h4⟩:=zq3 ts vs' ds' q (λt ht=>hp t (yaZ _ ht)) (λj t v h1 h2=>hok (j+1) t v (by simpa using h1) (by simpa using h2)) hr
  exact⟨x::xs,.cons h1 h3,.cons h2 h4⟩
def zn3 (hl:laidOutB P=true) {W':World} (hb:Below w.heap.size w W'): ∀ (ts:List TypeId) (vs:List Value) (ds:List (DataW H)) (ps:List MemPlace),(∀t∈ts,P.readableRec t=true/\t<P.types.size)->
 DataW.TrodAll enc P w 0 (λ_=>true) true ts vs ds ps->(∀x∈ps,x.block<w.heap.size)->DataW.TrodAll enc P W' 0 (λb=>decide (b<w.heap.size)) true ts vs ds ps
 |[],vs,ds,ps,_,h,_=>by
  obtain⟨rfl,rfl,rfl⟩:=trodAll_nil h;exact h
 |t::ts,vs,ds,ps,hp,h,hlt=>by
  obtain⟨v,vs',d,ds',p,q,rfl,rfl,rfl,hd,hr⟩:=trodAll_cons h;obtain⟨k1,k2⟩:=hp t (ybb ..);exact trodAll_cons_mk (Below.trod hl k1 k2 hd hb λx hx=>hlt x (ybZ _ hx))
   (zn3 hl hb ts vs' ds' q (λt ht=>hp t (yaZ _ ht)) hr λx hx=>hlt x (ycv _ hx))
def All2.length {α β:Type} {R:α->β->Prop}: ∀ {as:List α} {bs:List β},All2 R as bs->as.length=bs.length
 |_,_,.nil=>rfl
 |_,_,.cons _ h=>by simp[h.length]
def All2.get {α β:Type} {R:α->β->Prop}: ∀ {as:List α} {bs:List β},All2 R as bs-> ∀ (j:Nat) (b:β),bs[j]? =some b-> ∃a,as[j]? =some a/\R a b
 |_,_,.nil,j,b,hj=>by simp at hj
 |_,_,.cons h hs,0,b,hj=>by simp only[yaF,yaa]at hj;subst hj;exact⟨_,rfl,h⟩
 |_,_,.cons _ hs,j+1,b,hj=>by simpa using hs.get j b (by simpa using hj)
def zuF {run:Run} {f:FuncId} {G:Nat->Option (List D)} (hrun:zdU P G run) {xs:List D} {h':List Obj} (hx:run f (xs.map .d) []=some ([.d (.bool true)],h')) {vs:List Value} (hv:All2 (Rep zeC w) vs xs)
 (hg:GRel zeC G [] [] w):Calls P f vs.toArray w λe w'=>e= .returned (.bool true)/\Below w.heap.size w w':=by
 have hmut: ∀b j,Mut zeC [] [] b j->zeC b j:=by
  rintro b j (h | ⟨id,c,o,h,_⟩)
  ·exact h
  ·simp at h
 have H:HRel zeC [] [] w:=⟨rfl,λid o ho=>by simp at ho,λb j h=>h.elim,λ_ _ _ _ h=>by simp at h,λ_ _ _ _ _ h=>by simp at h⟩
 have ha:zb5 zeC [] [] w vs (xs.map .d):=⟨by simp[hv.length],λj A hj=>by
  simp only[yau,yab]at hj;obtain⟨x,hj,rfl⟩:=hj;obtain⟨v,h1,h2⟩:=hv.get j x hj;exact⟨v,h1,h2.mono λb j v hm hc=>⟨hc,λh=>hm (hmut b j h)⟩⟩⟩
 refine (hrun f _ _ _ _ hx zeC [] w vs H hg ha).mono ?_
 rintro e w' ⟨ρ',rv,rfl,st,us,l1,l2,rfl⟩
 obtain⟨u,h1,h2⟩:=l2 0 _ rfl;have:us=[u]:=by
  match us,l1,h1 with
  |[u'],_,h1=>simpa using h1
 subst this;refine⟨?_,st.fr.os,st.fr.tape,st.fr.output,st.fr.size,λk hk=>(st.fr.block k hk λid c=>by simp).1⟩
 have h3:Rep (Mut zeC ρ' h') w' u (.bool true):=h2;cases h3;rfl
def zmy {run:Run} {f:FuncId} {fn:Func} {s:ChangeSpec} {tb:TypeId} {T:TypeId->D->Prop} {G:Nat->Option (List D)} {W:World} {base:Nat} {args:Array Value} {ds gs:List (DataW H)} {before:List MemPlace}
 (hl:laidOutB P=true) (hT: ∀t∈fn.params.toList,zzU enc P W base T t) (hp:fn.params.toList.all (λt=>P.readableRec t && decide (t<P.types.size))=true) (hvars:s.vars=[]) (hres:fn.resultTypes= #[tb]) (htb:P.underlying tb=some .bool)
 (hspec: ∀ds:List (DataW H),ds.length=fn.params.size->s.fn H ds= { results:=[.lit (.bool true)],args:=ds,vars:=[] })
 (hrun:zdU P G run) (hx: ∀xs:List D,All2 T fn.params.toList xs-> ∃h',run f (xs.map .d) []=some ([.d (.bool true)],h')) (hg:GRel zeC G [] [] W)
 (hval: ∀ (j:Nat) t v,fn.params[j]? =some t->args[j]? =some v->Value.okWide P W .any base t v)
 (hW:DataW.Whole enc P fn.params.toList s.vars false W args.toList ds gs before):
 Calls P f args W λe W'=> ∃v,e= .returned v/\s.post enc P fn false true false false W args v W':=by
 have hW':=hW;have hlt: ∀x∈before,x.block<W.heap.size:=λx hx=>hW'.lt x hx
 obtain⟨p,q,hA,hV,rfl,_,_⟩:=hW;rw[hvars]at hV;obtain⟨rfl,rfl⟩:gs=[]/\q=[]:=by
  cases gs with
  |nil=>exact⟨rfl,hV⟩
  |cons g gs=>simp[DataW.TrodVars]at hV
 simp only[ybD,yaw,yaB]at hp;obtain⟨xs,h1,h2⟩:=zq3 fn.params.toList args.toList ds p hT (λj t v h1 h2=>hval j t v (by simpa using h1) (by simpa using h2)) hA
 obtain⟨h',hr⟩:=hx xs h1;have hlen:ds.length=fn.params.size:=by
  have: ∀ (ts:List TypeId) (vs:List Value) (ds:List (DataW H)) (ps:List MemPlace),DataW.TrodAll enc P W 0 (λ_=>true) true ts vs ds ps->ds.length=ts.length:=by
   intro ts
   induction ts with
   |nil=>intro vs ds ps h;obtain⟨_,rfl,_⟩:=trodAll_nil h;rfl
   |cons t ts ih=>
    intro vs ds ps h;obtain⟨v,vs',d,ds',p,q,rfl,rfl,rfl,hd,hr⟩:=trodAll_cons h;simp[ih _ _ _ hr]
  simpa using this _ _ _ _ hA
 have:=zuF hrun hr h2 hg;rw[Array.toArray_toList]at this;refine this.mono ?_
 rintro e W' ⟨rfl,hb⟩
 have hs:=hspec ds hlen;have hds:ds++([]:List (DataW H))=ds:=yap ds;refine⟨_,rfl,ds,[],p++[],[],p,[],hW', ?_, ?_, ?_,hb.frame _,λh=>by cases h⟩
 ·rw[hds,hs,hres]
  exact trodAll_cons_mk (shut_bool htb true) rfl
 ·rw[hds,hs]
  exact zn3 hl hb _ _ _ _ (λt ht=>hp t ht) hA λx hx=>hlt x (ybZ _ hx)
 ·rw[hds,hs,hvars]
  rfl
def zmz {run:Run} {f:FuncId} {fn:Func} {s:ChangeSpec} {ts:List TypeId} {tb:TypeId} {G:Nat->Option (List D)} {W:World} {base:Nat} {args:Array Value} {ds gs:List (DataW H)} {before:List MemPlace}
 (hl:laidOutB P=true) (hs:(ts.all λt=>zlA P (λt=>ts.contains t) t)=true) (hp:fn.params.toList.all (λt=>ts.contains t && (P.readableRec t && decide (t<P.types.size)))=true) (hvars:s.vars=[]) (hres:fn.resultTypes= #[tb]) (htb:P.underlying tb=some .bool)
 (hspec: ∀ds:List (DataW H),ds.length=fn.params.size->s.fn H ds= { results:=[.lit (.bool true)],args:=ds,vars:=[] })
 (hrun:zdU P G run) (hx: ∀xs:List D,All2 (λt x=> ∃m,zby P m t x) fn.params.toList xs-> ∃h',run f (xs.map .d) []=some ([.d (.bool true)],h')) (hg:GRel zeC G [] [] W)
 (hval: ∀ (j:Nat) t v,fn.params[j]? =some t->args[j]? =some v->Value.okWide P W .any base t v)
 (hW:DataW.Whole enc P fn.params.toList s.vars false W args.toList ds gs before):
 Calls P f args W λe W'=> ∃v,e= .returned v/\s.post enc P fn false true false false W args v W':=by
 have h: ∀t∈fn.params.toList,(ts.contains t && (P.readableRec t && decide (t<P.types.size)))=true:=List.all_eq_true.1 hp;simp only[yaw]at h;exact zmy hl (λt ht=>zxz (zxy hs) (h t ht).1) (by rw[ybD];intro t ht;rw[yaw];exact (h t ht).2) hvars hres htb hspec hrun hx hg hval hW
end
end Go.Am
namespace Go.Am
def Ev {α:Type} (A:Nat->Option α) (x:Option α):Prop:= ∀r,x=some r-> ∃n, ∀m,n<=m->A m=some r
def Ev.const {α:Type} (x:Option α):Ev (λ_=>x) x:=λ_ hr=>⟨0,λ_ _=>hr⟩
def Ev.obind {α β:Type} {A:Nat->Option α} {x:Option α} {B:Nat->α->Option β} {b:α->Option β} (ha:Ev A x) (hb: ∀a,Ev (λm=>B m a) (b a)):
 Ev (λm=>Am.obind (A m) (B m)) (Am.obind x b):=λr hr=>by
 cases x with
 |none=>cases hr
 |some a=>
  obtain⟨n1,h1⟩:=ha a rfl;obtain⟨n2,h2⟩:=hb a r hr;exact⟨max n1 n2,λm hm=>by simp only[h1 m (by omega)];exact h2 m (by omega)⟩
def Ev.onNormal {A:Nat->Res} {x:Res} {B:Nat->Slots->List Obj->Res} {b:Slots->List Obj->Res} (ha:Ev A x) (hb: ∀s h,Ev (λm=>B m s h) (b s h)):
 Ev (λm=>Am.onNormal (A m) (B m)) (Am.onNormal x b):=λr hr=>by
 cases x with
 |none=>cases hr
 |some a=>
  obtain⟨o,s,h⟩:=a;obtain⟨n1,h1⟩:=ha _ rfl;cases o with
  |normal=>
   obtain⟨n2,h2⟩:=hb s h r hr;exact⟨max n1 n2,λm hm=>by simp only[h1 m (by omega),Am.onNormal];exact h2 m (by omega)⟩
  |exit i=>exact⟨n1,λm hm=>by simp only[h1 m hm];exact hr⟩
  |ret=>exact⟨n1,λm hm=>by simp only[h1 m hm];exact hr⟩
def Ev.leave {A:Nat->Res} {x:Res} (id:Nat) (ha:Ev A x):Ev (λm=>Am.leave id (A m)) (Am.leave id x):=λr hr=>by
 cases x with
 |none=>cases hr
 |some a=>
  obtain⟨n1,h1⟩:=ha _ rfl;exact⟨n1,λm hm=>by simp only[h1 m hm];exact hr⟩
def Ev.branch {A B:Nat->Res} {x y:Res} (c:V) (ha:Ev A x) (hb:Ev B y):Ev (λm=>Am.branch c (A m) (B m)) (Am.branch c x y):=by
 unfold Am.branch;split
 ·rename_i t
  cases t with
  |true=>exact ha
  |false=>exact hb
 ·exact Ev.const none
def Ev.iter {A:Nat->Slots->List Obj->Res} {x:Slots->List Obj->Res} (ha: ∀s h,Ev (λm=>A m s h) (x s h)): ∀ (k:Nat) (s:Slots) (h:List Obj),Ev (λm=>Am.iter (A m) k s h) (Am.iter x k s h)
 |0,_,_=>Ev.const none
 |k+1,s,h=>by
  simp only[Am.iter];exact Ev.onNormal (ha s h) λs h=>Ev.iter ha k s h
def Ev.loops {A:Nat->Slots->List Obj->Res} {x:Slots->List Obj->Res} (ha: ∀s h,Ev (λm=>A m s h) (x s h)) (s:Slots) (h:List Obj):Ev (λm=>Am.loops (A m) s h) (Am.loops x s h):=λr hr=>by
 obtain⟨k,hk⟩:=zdf.1 hr;obtain⟨n,hn⟩:=Ev.iter ha k s h r hk;exact⟨n,λm hm=>zdf.2 ⟨k,hn m hm⟩⟩
def zjO (R:Nat->Run) (R':Run):Prop:= ∀f args h,Ev (λm=>R m f args h) (R' f args h)
section
variable {P:Program} {G:Nat->Option (List D)} {K:zhA} {S:zhz} {R:Nat->Run} {R':Run}
def Ev.callWith (hR:zjO R R') (rf:Bool) (f:FuncId) (args:List V) (h:List Obj):Ev (λm=>Am.callWith rf (R m) f args h) (Am.callWith rf R' f args h):=by
 unfold Am.callWith;cases zc8 rf h args with
 |none=>exact Ev.const none
 |some p=>
  obtain⟨as,h1⟩:=p;simp only;cases as.mapM (V.ren (zas (zbi h1 (zaj [] (as.flatMap V.ids))))) with
  |none=>exact Ev.const none
  |some as2=>
   cases zaG h1 (zas (zbi h1 (zaj [] (as.flatMap V.ids)))) (zbi h1 (zaj [] (as.flatMap V.ids))) with
   |none=>exact Ev.const none
   |some hin=>
    simp only;intro r hr;cases hx:R' f as2 hin with
    |none=>rw[hx]at hr;cases hr
    |some q=>
     rw[hx]at hr;obtain⟨n,hn⟩:=hR f as2 hin q hx;exact⟨n,λm hm=>by simp only[hn m hm];exact hr⟩
def Ev.callThaw (hR:zjO R R') (f:FuncId) (args:List V) (h:List Obj):Ev (λm=>Am.callThaw (R m) f args h) (Am.callThaw R' f args h):=by
 unfold Am.callThaw;cases zc8 false h args with
 |none=>exact Ev.const none
 |some p=>
  obtain⟨as,h1⟩:=p;simp only;intro r hr;cases hx:R' f as [] with
  |none=>rw[hx]at hr;cases hr
  |some q=>
   rw[hx]at hr;obtain⟨n,hn⟩:=hR f as [] q hx;exact⟨n,λm hm=>by simp only[hn m hm];exact hr⟩
def Ev.calleeV (hR:zjO R R') (s:Slots) (h:List Obj) (f:V) (args:List V):Ev (λm=>Am.calleeV G s h (R m) f args) (Am.calleeV G s h R' f args):=by
 unfold Am.calleeV;split
 ·split
  ·split
   ·intro r hr
    rename_i g _ _;cases hx:Am.callWith (zab G g) R' g args h with
    |none=>rw[hx]at hr;simp[zdP]at hr
    |some q=>
     obtain⟨n,hn⟩:=Ev.callWith hR (zab G g) g args h q hx;refine⟨n,λm hm=> ?_⟩
     have e1:Am.callWith (zab G g) (R m) g args h=some q:=hn m hm
     show zdP h (Am.callWith (zab G g) (R m) g args h)=some r
     rw[e1,<- hx];exact hr
   split
   ·intro r hr
    rename_i g _ _ _;cases hx:Am.callWith (zab G g) R' g args h with
    |none=>rw[hx]at hr;cases hr
    |some q=>
     obtain⟨n,hn⟩:=Ev.callWith hR (zab G g) g args h q hx;refine⟨n,λm hm=> ?_⟩
     have e1:Am.callWith (zab G g) (R m) g args h=some q:=hn m hm
     show zps h (Am.callWith (zab G g) (R m) g args h)=some r
     rw[e1,<- hx];exact hr
   split
   ·intro r hr
    rename_i g _ _ _ _;cases hx:Am.callWith (zab G g) R' g args h with
    |none=>rw[hx]at hr;cases hr
    |some q=>
     obtain⟨n,hn⟩:=Ev.callWith hR (zab G g) g args h q hx;refine⟨n,λm hm=> ?_⟩
     have e1:Am.callWith (zab G g) (R m) g args h=some q:=hn m hm
     show zmn (Am.callWith (zab G g) (R m) g args h)=some r
     rw[e1,<- hx];exact hr
   ·exact Ev.callThaw hR _ _ _
  ·exact Ev.callWith hR _ _ _ _
 ·exact Ev.callWith hR _ _ _ _
 ·exact Ev.const none
def Ev.opV (hR:zjO R R') (s:Slots) (h:List Obj) (o:Oper):Ev (λm=>Am.opV P G (R m) s h o) (Am.opV P G R' s h o):=by
 unfold Am.opV;cases o.op with
 |call c=>
  simp only;cases c.callee with
  |builtin b=>exact Ev.const _
  |invoke _ _=>exact Ev.const _
  |value f=>exact Ev.calleeV hR _ _ _ _
 |makeFunc fn first cap=>cases fn <;> exact Ev.const _
 |next it b=>cases b <;> exact Ev.const _
 |_=>exact Ev.const _
def Ev.blindV (hR:zjO R R') (hv:List Obj) (s:Slots) (h:List Obj) (o:Oper):Ev (λm=>zca h (Am.blindV P G (R m) hv s o)) (zca h (Am.blindV P G R' hv s o)):=by
 have key:Ev (λm=>Am.blindV P G (R m) hv s o) (Am.blindV P G R' hv s o):=by
  unfold Am.blindV;cases o.op with
  |call c=>
   simp only;cases c.callee with
   |value f=>
    simp only;cases ev G s f with
    |d x=>
     cases x with
     |fn g=>
      simp only;split
      ·exact Ev.const _
      ·unfold zfi
       split
       ·exact Ev.obind (hR _ _ _) λ_=>Ev.const _
       ·exact Ev.const _
     |_=>exact Ev.const _
    |_=>exact Ev.const _
   |builtin b=>
    generalize List.map (ev G s) c.args.toList=l;generalize c.argTypes.toList=t;cases b <;> cases t <;> cases l <;> exact Ev.const _
   |invoke r m=>
    generalize List.map (ev G s) c.args.toList=l;generalize c.argTypes.toList=t;cases t <;> cases l <;> exact Ev.const _
  |_=>exact Ev.const _
 intro r hr;cases hx:Am.blindV P G R' hv s o with
 |none=>rw[hx]at hr;cases hr
 |some x=>
  rw[hx]at hr;obtain⟨n,hn⟩:=key x hx;exact⟨n,λm hm=>by simp only[hn m hm];exact hr⟩
def Ev.opsV (hR:zjO R R') (all:List Oper) (hint:List Nat) (hv:List Obj): ∀ (ops:List Oper) (i:Nat) (s:Slots) (h:List Obj),Ev (λm=>Am.opsV P G (R m) all hint hv i ops s h) (Am.opsV P G R' all hint hv i ops s h)
 |[],_,_,_=>Ev.const _
 |o::ops,i,s,h=>by
  simp only[Am.opsV];refine Ev.obind (Ev.const _) λw=> ?_
  cases w with
  |false=>exact Ev.opsV hR all hint hv ops _ _ _
  |true=>
   simp only[ybk];refine Ev.obind ?_ λp=>Ev.opsV hR all hint hv ops _ _ _
   cases hint.contains i with
   |true=>exact Ev.blindV hR hv s h o
   |false=>
    simp only[yaD,ybd];split
    ·exact Ev.opV hR s h o
    ·exact Ev.const _
def Ev.rangeV {A:Nat->List D->Slots->List Obj->Res} {x:List D->Slots->List Obj->Res} (ha: ∀z s h,Ev (λm=>A m z s h) (x z s h)) (k:Nat) (keep:List (Nat × Nat)):
 ∀ (l:List (List D)) (s:Slots) (h:List Obj),Ev (λm=>Am.rangeV (A m) k keep l s h) (Am.rangeV x k keep l s h)
 |[],s,h=>Ev.const _
 |z::l,s,h=>by
  intro r hr;simp only[Am.rangeV]at hr ⊢;cases hx:x z s h with
  |none=>rw[hx]at hr;cases hr
  |some q=>
   obtain⟨o,s1,h1⟩:=q;rw[hx]at hr;obtain⟨n1,e1⟩:=ha z s h _ hx;cases o with
   |normal=>
    obtain⟨n2,e2⟩:=Ev.obind (Ev.const (zfO k keep s h1)) (λ(p:Slots × List Obj)=>Ev.rangeV ha k keep l p.1 p.2) r hr
    exact⟨max n1 n2,λm hm=>by simp only[e1 m (by omega)];exact e2 m (by omega)⟩
   |exit i=>exact⟨n1,λm hm=>by simp only[e1 m hm];exact hr⟩
   |ret=>exact⟨n1,λm hm=>by simp only[e1 m hm];exact hr⟩
def zgT (I:(Slots->List Obj->Res)->Slots->List Obj->Res):Prop:= ∀ {A:Nat->Slots->List Obj->Res} {x:Slots->List Obj->Res},(∀s h,Ev (λm=>A m s h) (x s h))-> ∀s h,Ev (λm=>Am.loops (A m) s h) (I x s h)
def zgT.loops:zgT Am.loops:=λha s h=>Ev.loops ha s h
def zgT.iter (k:Nat):zgT (λx=>Am.iter x k):=λha s h r hr=>by
 obtain⟨n,hn⟩:=Ev.iter ha k s h r hr;exact⟨n,λm hm=>zdf.2 ⟨k,hn m hm⟩⟩
variable {I:(Slots->List Obj->Res)->Slots->List Obj->Res}
def Ev.codeV (hI:zgT I) (hR:zjO R R') (F:FuncId): ∀ (c:Code) (k b:Nat) (s:Slots) (h:List Obj),Ev (λm=>Am.codeV P G K S (R m) Am.loops F k b c s h) (Am.codeV P G K S R' I F k b c s h):=by
 intro c
 induction c with
 |skip=>intro k b s h;exact Ev.const _
 |region id ops draw=>
  intro k b s h;simp only[Am.codeV,zjl];exact Ev.obind (Ev.const _) λ_=>Ev.obind (Ev.opsV hR _ _ _ _ _ _ _) λ_=>Ev.const _
 |seq x y ihx ihy=>intro k b s h;simp only[Am.codeV];exact Ev.onNormal (ihx k b s h) λs h=>ihy k b s h
 |cond c x y ihx ihy=>intro k b s h;simp only[Am.codeV];exact Ev.branch _ (ihx k b s h) (ihy k b s h)
 |block id c ih=>intro k b s h;simp only[Am.codeV];exact Ev.leave id (ih k id s h)
 |loop c ih=>
  intro k b s h;simp only[Am.codeV];split
  ·exact hI (λs h=>Ev.obind (Ev.const _) λ(p:Slots × List Obj)=>ih k b p.1 p.2) s h
  ·exact hI (λs h=>ih k b s h) s h
 |rangeFunc f ps x y ihx ihy=>
  intro k b s h;simp only[Am.codeV];cases K F b with
  |none=>exact Ev.const _
  |some keep=>
   cases ps.toList with
   |nil=>exact Ev.const _
   |cons p l=>
    cases l with
    |cons _ _=>exact Ev.const _
    |nil=>
     refine Ev.obind (Ev.const _) λit=> ?_
     cases zf6 k keep s h it.1 && zf6 k keep s h it.2.1 with
     |false=>exact Ev.const _
     |true=>
      refine Ev.obind (Ev.const _) λq=>Ev.rangeV (λz s h=> ?_) _ _ _ _ _
      intro r hr;cases hx:Am.codeV P G K S R' I F h.length b x ((p,.d (.list z))::s) h with
      |none=>rw[hx]at hr;cases hr
      |some q=>
       obtain⟨o,s1,h1⟩:=q;rw[hx]at hr;obtain⟨n1,e1⟩:=ihx h.length b _ _ _ hx;cases o with
       |normal=>
        obtain⟨n2,e2⟩:=ihy h.length b s1 h1 r hr;exact⟨max n1 n2,λm hm=>by simp only[e1 m (by omega)];exact e2 m (by omega)⟩
       |exit i=>cases hr
       |ret=>cases hr
 |_=>intro k b s h;simp only[Am.codeV];exact Ev.const _
def Ev.bodyV (hI:zgT I) (hR:zjO R R') (f:FuncId) (args:List V) (h:List Obj):Ev (λm=>Am.bodyV P G K S (R m) Am.loops f args h) (Am.bodyV P G K S R' I f args h):=by
 unfold Am.bodyV;cases P.funcs[f]? with
 |none=>exact Ev.const _
 |some fn=>
  simp only;cases fn.body with
  |none=>exact Ev.const _
  |some c=>
   simp only;split
   ·intro r hr
    cases hx:Am.codeV P G K S R' I f h.length 0 c (zao 0 args) h with
    |none=>rw[hx]at hr;cases hr
    |some q=>
     rw[hx]at hr;obtain⟨n,hn⟩:=Ev.codeV hI hR f c h.length 0 _ _ q hx;exact⟨n,λm hm=>by
     have:=hn m hm;simp only at this;simp only[this];exact hr⟩
   ·exact Ev.const _
def Ev.joinV {A B:Nat->Option (List V × List Obj)} {x y:Option (List V × List Obj)} (ha:Ev A x) (hb:Ev B y):Ev (λm=>Am.joinV (A m) (B m)) (Am.joinV x y):=λr hr=>by
 obtain⟨h1,h2⟩:=zlz hr;obtain⟨n1,k1⟩:=ha r h1;obtain⟨n2,k2⟩:=hb r h2;refine⟨max n1 n2,λm hm=> ?_⟩
 simp only[k1 m (by omega),k2 m (by omega),Am.joinV,ybk]
def Ev.bodyS (hI:zgT I) (hR:zjO R R') (f:FuncId) (args:List V) (h:List Obj):Ev (λm=>Am.bodyS P G K S (R m) Am.loops f args h) (Am.bodyS P G K S R' I f args h):=by
 unfold Am.bodyS;split
 ·exact Ev.const _
 split
 ·exact Ev.joinV (Ev.bodyV hI hR _ _ _) (Ev.bodyV hI hR _ _ _)
 ·exact Ev.bodyV hI hR _ _ _
variable (P G K S)
noncomputable def zxA:Nat->Run
 |0=>λ_ _ _=>none
 |n+1=>Am.bodyS P G K S (zxA n) Am.loops
open Classical in
noncomputable def zfV:Run:=λf args h=>if e: ∃n r, ∀m,n<=m->zxA P G K S m f args h=some r then some (Classical.choose (ybu e)) else none
variable {P G K S}
def zjP {f:FuncId} {args:List V} {h:List Obj} {r:List V × List Obj}:zfV P G K S f args h=some r↔ ∃n, ∀m,n<=m->zxA P G K S m f args h=some r:=by
 unfold zfV;constructor
 ·intro hr
  split at hr
  ·rename_i e
   simp only[yaa]at hr;subst hr;exact⟨_,ybu (ybu e)⟩
  ·cases hr
 ·rintro ⟨n,hn⟩
  have e: ∃n r, ∀m,n<=m->zxA P G K S m f args h=some r:=⟨n,r,hn⟩;rw[dif_pos e];have h2:=ybu (ybu e);have h3:=hn (max n (Classical.choose e)) (by omega)
  have h4:=h2 (max n (Classical.choose e)) (by omega)
  rw[h3]at h4;simpa using h4.symm
def zzV:zjO (zxA P G K S) (zfV P G K S):=λ_ _ _ _ hr=>zjP.1 hr
def zi4 {f:FuncId} {args:List V} {h:List Obj} {r:List V × List Obj} (hr:bodyS P G K S (zfV P G K S) loops f args h=some r):zfV P G K S f args h=some r:=by
 obtain⟨n,hn⟩:=Ev.bodyS zgT.loops zzV f args h r hr;refine zjP.2 ⟨n+1,λm hm=> ?_⟩
 obtain⟨k,rfl⟩: ∃k,m=k+1:=⟨m - 1,by omega⟩
 exact hn k (by omega)
def zn4 {f:FuncId} (hs:splits G f=false):zcw G f=0:=by
 unfold zcw;rw[hs];rfl
def zzW {f:FuncId} {args:List V} {h:List Obj} {r:List V × List Obj} (hs:splits G f=false\/zcw G f=0/\ ∀zay,args≠ .d (.list [])::zay) (hr:bodyV P G K S (zfV P G K S) loops f args h=some r):zfV P G K S f args h=some r:=by
 refine zi4 ?_;unfold bodyS;rw[yac (by
  rcases hs with hs | hs
  ·simp[zn4 hs]
  ·simp[hs.1])]
 split
 ·rename_i e
  rcases hs with hs | hs
  ·rw[hs]at e;cases e
  ·exact absurd rfl (hs.2 _)
 ·exact hr
def zn5 {f:FuncId} {args:List V} {h:List Obj} {r:List V × List Obj} (k:Nat) (hs:zcw G f=k+1) (hr:znv (k+1) args h=some r):zfV P G K S f args h=some r:=by
 refine zi4 ?_;unfold bodyS;rw[hs,yag (by simp)]
 exact hr
def zsI {f:FuncId} {zay:List V} {h:List Obj} {r:List V × List Obj} (hs:splits G f=true) (h0:zcw G f=0) (h1:bodyV P G K S (zfV P G K S) loops f (.nilS::zay) h=some r) (h2:bodyV P G K S (zfV P G K S) loops f (.emp::zay) h=some r):
 zfV P G K S f (.d (.list [])::zay) h=some r:=by
 refine zi4 ?_;unfold bodyS;simp only[hs,h0,h1,h2,joinV,ybk,ydG,ybm,ybd]
abbrev zsJ:=FuncId × List V × List Obj × (List V × List Obj)
def zuG:List zsJ->FuncId->List V->List Obj->Option (List V × List Obj)
 |[],_,_,_=>none
 |e::T,f,a,h=>if e.1=f/\e.2.1=a/\e.2.2.1=h then some e.2.2.2 else zuG T f a h
def zxB (P:Program) (G:Nat->Option (List D)) (K:zhA) (S:zhz) (T:List zsJ) (k:Nat):Nat->Run
 |0=>zuG T
 |n+1=>λf a h=>
  match zuG T f a h with
  |some r=>some r
  |none=>Am.bodyS P G K S (zxB P G K S T k n) (λx=>Am.iter x k) f a h
variable (P G K S) in
def Tbl (T:List zsJ):Prop:= ∀e∈T,zfV P G K S e.1 e.2.1 e.2.2.1=some e.2.2.2
def t0:Tbl P G K S []:=λe he=>by cases he
def t1 {f:FuncId} {a:List V} {h:List Obj} {r:List V × List Obj} {T:List zsJ} (hr:zfV P G K S f a h=some r) (t:Tbl P G K S T):Tbl P G K S ((f,a,h,r)::T):=λe he=>by
 rcases List.mem_cons.1 he with rfl | he
 ·exact hr
 ·exact t e he
def zhO: ∀ {T:List zsJ} {f:FuncId} {a:List V} {h:List Obj} {r:List V × List Obj},Tbl P G K S T->zuG T f a h=some r->zfV P G K S f a h=some r
 |[],_,_,_,_,_,hr=>by cases hr
 |e::T,f,a,h,r,t,hr=>by
  unfold zuG at hr;split at hr
  ·rename_i he
   obtain⟨rfl,rfl,rfl⟩:=he;simp only[yaa]at hr;subst hr;exact t e (ybb ..)
  ·exact zhO (λe he=>t e (yaZ _ he)) hr
def zae {T:List zsJ} (t:Tbl P G K S T) (k:Nat): ∀ (n:Nat) {f:FuncId} {args:List V} {h:List Obj} {r:List V × List Obj},zxB P G K S T k n f args h=some r->zfV P G K S f args h=some r
 |0,_,_,_,_,hr=>zhO t hr
 |n+1,f,args,h,r,hr=>by
  unfold zxB at hr;split at hr
  ·rename_i hl
   simp only[yaa]at hr;subst hr;exact zhO t hl
  ·have e:zjO (λ_=>zfV P G K S) (zxB P G K S T k n):=λ_ _ _ r hr=>⟨0,λ_ _=>zae t k n hr⟩
   obtain⟨m,hm⟩:=Ev.bodyS (zgT.iter k) e f args h r hr;exact zi4 (hm m (yaj _))
def zpU (hm:P.follows .mixedOrders=true) (hso: ∀g,zn0 P G g) (hit: ∀g,zdR G g=true->zgb P g): ∀n,zdU P G (zxA P G K S n)/\zc5 P (zxA P G K S n)
 |0=>⟨λ_ _ _ _ _ hr=>by simp[zxA]at hr,λ_ _ _ _ hr=>by simp[zxA]at hr⟩
 |n+1=>zxv hso hit hm (zpU hm hso hit n).1 (zpU hm hso hit n).2 λ_ _ _ _ _ _ hc=>zsF hc
def zzX (hm:P.follows .mixedOrders=true) (hso: ∀g,zn0 P G g) (hit: ∀g,zdR G g=true->zgb P g):zdU P G (zfV P G K S):=λf args h rets h' hr=>by
 obtain⟨n,hn⟩:=zjP.1 hr;exact (zpU hm hso hit n).1 f args h rets h' (hn n (yaj _))
noncomputable def zgd (k:Nat) (keep:List (Nat × Nat)) (b:Slots->List Obj->Res) (s:Slots) (h:List Obj):Res:=loops (λs h=>obind (zfO k keep s h) λp=>b p.1 p.2) s h
def zq4 (k:Nat) (keep:List (Nat × Nat)) (b:Slots->List Obj->Res) (s:Slots) (h:List Obj):
 zgd k keep b s h=obind (zfO k keep s h) λp=>onNormal (b p.1 p.2) (zgd k keep b):=by
 show loops _ s h=_
 rw[zxt];cases zfO k keep s h <;> rfl
def zsK {run:Run} {F:FuncId} {k b:Nat} {c:Code} {s:Slots} {h:List Obj} {keep:List (Nat × Nat)} (hk:K F b=some keep):
 codeV P G K S run loops F k b (.loop c) s h=zgd k keep (codeV P G K S run loops F k b c) s h:=by
 simp only[codeV,hk];rfl
end
end Go.Am
namespace Go.Am
attribute [simp] zf5 zca calleeV zdQ eqV zb1 zla zno zpp zsb zlb zi2 zw9
attribute [simp] znl zaD zEO zi0 zuk unD zhw za1
attribute [simp] zhx zds zct znn zcf zfh zqO zqP zbz zyT zpq min2 max2 natOf? bound? bounds? zil
attribute [simp] zc8 zbE za6 za4 zaj zi1 one zb0
attribute [simp] zbi zf4 zcu
attribute [simp] zsd zji
attribute [simp] zbG V.storable V.cellOk
@[simp] def zFT {α:Type} (i:Nat):([]:List α)[i]? =none:=rfl
@[simp] def zER {α:Type} (x:α) (l:List α):(x::l)[0]? =some x:=rfl
@[simp] def zES {α:Type} (x:α) (l:List α) (i:Nat):(x::l)[i+1]? =l[i]? :=rfl
@[simp] def zET (rf:Bool) (h:List Obj) (a b:Nat):zim rf h (.arr a b)=bif rf then some (.arr a b,h) else (zbE h (.arr a b)).map λp=>(.d p.1,p.2):=by cases rf <;> rfl
@[simp] def zFU (rf:Bool) (h:List Obj) (a b c d:Nat):zim rf h (.sl a b c d)=bif rf then some (.sl a b c d,h) else (zbE h (.sl a b c d)).map λp=>(.d p.1,p.2):=by cases rf <;> rfl
@[simp] def zEU (rf:Bool) (h:List Obj) (a b:Nat):zim rf h (.ptr a b)=some (.ptr a b,h):=rfl
@[simp] def zFV (rf:Bool) (h:List Obj) (a:Nat):zim rf h (.mp a)=some (.mp a,h):=rfl
@[simp] def zEV (rf:Bool) (h:List Obj) (f:FuncId) (l:List V):zim rf h (.clo f l)=some (.clo f l,h):=rfl
@[simp] def zFW (rf:Bool) (h:List Obj) (cs:List D):zim rf h (.ro cs)=some (.ro cs,h):=rfl
@[simp] def zIn (rf:Bool) (h:List Obj) (x:D):zim rf h (.d x)=some (.d x,h):=rfl
@[simp] def zCa (rf:Bool) (h:List Obj):zim rf h .nilS=some (.d (.list []),h):=rfl
@[simp] def zEW (rf:Bool) (h:List Obj):zim rf h .emp=some (.d (.list []),h):=rfl
@[simp] def zEX (rf:Bool) (h:List Obj) (cs:List V):zim rf h (.agg cs)=(za4 h cs).map λp=>(.d (.agg p.1),p.2):=by
 show ((za4 h cs).map λ(xs,h)=>(D.agg xs,h)).map _=_
 cases za4 h cs <;> rfl
@[simp] def zIo (G:Nat->Option (List D)) (s:Slots) (t:Tmp):ev G s (.tmp t)=zbF s t:=rfl
@[simp] def zEY (G:Nat->Option (List D)) (s:Slots) (v:Value):ev G s (.const v)=znl v:=rfl
@[simp] def zCb (G:Nat->Option (List D)) (s:Slots) (g:Nat):ev G s (.global g)=match G g with | some cs=> .ro cs | none=> .dead:=rfl
@[simp] def zFX (G:Nat->Option (List D)) (s:Slots) (f:FuncId):ev G s (.func f)= .d (.fn f):=rfl
@[simp] def zIp (f:Nat->Option Nat) (x:D):V.ren0 f (.d x)=some (.d x):=rfl
@[simp] def zCc (f:Nat->Option Nat):V.ren0 f (.nilS)=some (.nilS):=rfl
@[simp] def zFY (f:Nat->Option Nat) (cs:List D):V.ren0 f (.ro cs)=some (.ro cs):=rfl
@[simp] def zCd (f:Nat->Option Nat):V.ren0 f (.dead)=some (.dead):=rfl
@[simp] def zEZ (f:Nat->Option Nat):V.ren0 f .emp=some .emp:=rfl
@[simp] def zFZ (f:Nat->Option Nat) (a b c d:Nat):V.ren0 f (.sl a b c d)=(f a).map λi=> .sl i b c d:=rfl
@[simp] def zE0 (f:Nat->Option Nat) (a b:Nat):V.ren0 f (.arr a b)=(f a).map λi=> .arr i b:=rfl
@[simp] def zE1 (f:Nat->Option Nat) (a b:Nat):V.ren0 f (.ptr a b)=(f a).map λi=> .ptr i b:=rfl
@[simp] def zCe (f:Nat->Option Nat) (a b c d:Nat):V.ren0 f (.eptr a b c d)=(f a).map λi=> .eptr i b c d:=rfl
@[simp] def zF0 (f:Nat->Option Nat) (a:Nat):V.ren0 f (.mp a)=(f a).map .mp:=rfl
@[simp] def zIq (f:Nat->Option Nat) (x:D):V.ren1 f (.d x)=some (.d x):=rfl
@[simp] def zCf (f:Nat->Option Nat):V.ren1 f (.nilS)=some (.nilS):=rfl
@[simp] def zF1 (f:Nat->Option Nat) (cs:List D):V.ren1 f (.ro cs)=some (.ro cs):=rfl
@[simp] def zCg (f:Nat->Option Nat):V.ren1 f (.dead)=some (.dead):=rfl
@[simp] def zE2 (f:Nat->Option Nat):V.ren1 f .emp=some .emp:=rfl
@[simp] def zF2 (f:Nat->Option Nat) (a b c d:Nat):V.ren1 f (.sl a b c d)=(f a).map λi=> .sl i b c d:=rfl
@[simp] def zE3 (f:Nat->Option Nat) (a b:Nat):V.ren1 f (.arr a b)=(f a).map λi=> .arr i b:=rfl
@[simp] def zE4 (f:Nat->Option Nat) (a b:Nat):V.ren1 f (.ptr a b)=(f a).map λi=> .ptr i b:=rfl
@[simp] def zCh (f:Nat->Option Nat) (a b c d:Nat):V.ren1 f (.eptr a b c d)=(f a).map λi=> .eptr i b c d:=rfl
@[simp] def zF3 (f:Nat->Option Nat) (a:Nat):V.ren1 f (.mp a)=(f a).map .mp:=rfl
@[simp] def zE5 (f:Nat->Option Nat) (g:FuncId) (l:List V):V.ren1 f (.clo g l)=(l.mapM (V.ren0 f)).map (.clo g):=rfl
@[simp] def zIr (f:Nat->Option Nat) (x:D):V.ren2 f (.d x)=some (.d x):=rfl
@[simp] def zCi (f:Nat->Option Nat):V.ren2 f (.nilS)=some (.nilS):=rfl
@[simp] def zF4 (f:Nat->Option Nat) (cs:List D):V.ren2 f (.ro cs)=some (.ro cs):=rfl
@[simp] def zCj (f:Nat->Option Nat):V.ren2 f (.dead)=some (.dead):=rfl
@[simp] def zE6 (f:Nat->Option Nat):V.ren2 f .emp=some .emp:=rfl
@[simp] def zF5 (f:Nat->Option Nat) (a b c d:Nat):V.ren2 f (.sl a b c d)=(f a).map λi=> .sl i b c d:=rfl
@[simp] def zE7 (f:Nat->Option Nat) (a b:Nat):V.ren2 f (.arr a b)=(f a).map λi=> .arr i b:=rfl
@[simp] def zE8 (f:Nat->Option Nat) (a b:Nat):V.ren2 f (.ptr a b)=(f a).map λi=> .ptr i b:=rfl
@[simp] def zCk (f:Nat->Option Nat) (a b c d:Nat):V.ren2 f (.eptr a b c d)=(f a).map λi=> .eptr i b c d:=rfl
@[simp] def zF6 (f:Nat->Option Nat) (a:Nat):V.ren2 f (.mp a)=(f a).map .mp:=rfl
@[simp] def zE9 (f:Nat->Option Nat) (g:FuncId) (l:List V):V.ren2 f (.clo g l)=(l.mapM (V.ren0 f)).map (.clo g):=rfl
@[simp] def zFa (f:Nat->Option Nat) (l:List V):V.ren2 f (.agg l)=(l.mapM (V.ren1 f)).map .agg:=rfl
@[simp] def zJk (f:Nat->Option Nat) (x:D):V.ren f (.d x)=some (.d x):=rfl
@[simp] def zFb (f:Nat->Option Nat):V.ren f (.nilS)=some (.nilS):=rfl
@[simp] def zIs (f:Nat->Option Nat) (cs:List D):V.ren f (.ro cs)=some (.ro cs):=rfl
@[simp] def zFc (f:Nat->Option Nat):V.ren f (.dead)=some (.dead):=rfl
@[simp] def zF7 (f:Nat->Option Nat):V.ren f .emp=some .emp:=rfl
@[simp] def zIt (f:Nat->Option Nat) (a b c d:Nat):V.ren f (.sl a b c d)=(f a).map λi=> .sl i b c d:=rfl
@[simp] def ren_arr (f:Nat->Option Nat) (a b:Nat):V.ren f (.arr a b)=(f a).map λi=> .arr i b:=rfl
@[simp] def zF8 (f:Nat->Option Nat) (a b:Nat):V.ren f (.ptr a b)=(f a).map λi=> .ptr i b:=rfl
@[simp] def zFd (f:Nat->Option Nat) (a b c d:Nat):V.ren f (.eptr a b c d)=(f a).map λi=> .eptr i b c d:=rfl
@[simp] def zIu (f:Nat->Option Nat) (a:Nat):V.ren f (.mp a)=(f a).map .mp:=rfl
@[simp] def zF9 (f:Nat->Option Nat) (g:FuncId) (l:List V):V.ren f (.clo g l)=(l.mapM (V.ren0 f)).map (.clo g):=rfl
@[simp] def zGa (f:Nat->Option Nat) (l:List V):V.ren f (.agg l)=(l.mapM (V.ren1 f)).map .agg:=rfl
@[simp] def zGb (f:Nat->Option Nat) (l:List V):V.ren f (.tup l)=(l.mapM (V.ren2 f)).map .tup:=rfl
@[simp] def zIv (x:D):V.ids0 (.d x)=[]:=rfl
@[simp] def zCl:V.ids0 (.nilS)=[]:=rfl
@[simp] def zGc (cs:List D):V.ids0 (.ro cs)=[]:=rfl
@[simp] def zCm:V.ids0 (.dead)=[]:=rfl
@[simp] def zFe:V.ids0 .emp=[]:=rfl
@[simp] def zGd (a b c d:Nat):V.ids0 (.sl a b c d)=[a]:=rfl
@[simp] def zFf (a b:Nat):V.ids0 (.arr a b)=[a]:=rfl
@[simp] def zFg (a b:Nat):V.ids0 (.ptr a b)=[a]:=rfl
@[simp] def zCn (a b c d:Nat):V.ids0 (.eptr a b c d)=[a]:=rfl
@[simp] def zGe (a:Nat):V.ids0 (.mp a)=[a]:=rfl
@[simp] def zIw (x:D):V.ids1 (.d x)=[]:=rfl
@[simp] def zCo:V.ids1 (.nilS)=[]:=rfl
@[simp] def zGf (cs:List D):V.ids1 (.ro cs)=[]:=rfl
@[simp] def zCp:V.ids1 (.dead)=[]:=rfl
@[simp] def zFh:V.ids1 .emp=[]:=rfl
@[simp] def zGg (a b c d:Nat):V.ids1 (.sl a b c d)=[a]:=rfl
@[simp] def zFi (a b:Nat):V.ids1 (.arr a b)=[a]:=rfl
@[simp] def zFj (a b:Nat):V.ids1 (.ptr a b)=[a]:=rfl
@[simp] def zCq (a b c d:Nat):V.ids1 (.eptr a b c d)=[a]:=rfl
@[simp] def zGh (a:Nat):V.ids1 (.mp a)=[a]:=rfl
@[simp] def zFk (g:FuncId) (l:List V):V.ids1 (.clo g l)=l.flatMap V.ids0:=rfl
@[simp] def zIx (x:D):V.ids2 (.d x)=[]:=rfl
@[simp] def zCr:V.ids2 (.nilS)=[]:=rfl
@[simp] def zGi (cs:List D):V.ids2 (.ro cs)=[]:=rfl
@[simp] def zCs:V.ids2 (.dead)=[]:=rfl
@[simp] def zFl:V.ids2 .emp=[]:=rfl
@[simp] def zGj (a b c d:Nat):V.ids2 (.sl a b c d)=[a]:=rfl
@[simp] def zFm (a b:Nat):V.ids2 (.arr a b)=[a]:=rfl
@[simp] def zFn (a b:Nat):V.ids2 (.ptr a b)=[a]:=rfl
@[simp] def zCt (a b c d:Nat):V.ids2 (.eptr a b c d)=[a]:=rfl
@[simp] def zGk (a:Nat):V.ids2 (.mp a)=[a]:=rfl
@[simp] def zFo (g:FuncId) (l:List V):V.ids2 (.clo g l)=l.flatMap V.ids0:=rfl
@[simp] def zFp (l:List V):V.ids2 (.agg l)=l.flatMap V.ids1:=rfl
@[simp] def zJl (x:D):V.ids (.d x)=[]:=rfl
@[simp] def zFq:V.ids (.nilS)=[]:=rfl
@[simp] def zIy (cs:List D):V.ids (.ro cs)=[]:=rfl
@[simp] def zFr:V.ids (.dead)=[]:=rfl
@[simp] def zGl:V.ids .emp=[]:=rfl
@[simp] def zIz (a b c d:Nat):V.ids (.sl a b c d)=[a]:=rfl
@[simp] def zGm (a b:Nat):V.ids (.arr a b)=[a]:=rfl
@[simp] def zGn (a b:Nat):V.ids (.ptr a b)=[a]:=rfl
@[simp] def zFs (a b c d:Nat):V.ids (.eptr a b c d)=[a]:=rfl
@[simp] def zIA (a:Nat):V.ids (.mp a)=[a]:=rfl
@[simp] def zGo (g:FuncId) (l:List V):V.ids (.clo g l)=l.flatMap V.ids0:=rfl
@[simp] def zGp (l:List V):V.ids (.agg l)=l.flatMap V.ids1:=rfl
@[simp] def zGq (l:List V):V.ids (.tup l)=l.flatMap V.ids2:=rfl
@[simp] def zA8 (f:Nat->Option Nat) (cs:List V):Obj.ren f (.box cs)=(cs.mapM (V.ren1 f)).map .box:=rfl
@[simp] def zA9 (f:Nat->Option Nat) (sz:Nat) (xs:List D) (wm:Nat):Obj.ren f (.arr sz xs wm)=some (.arr sz xs wm):=rfl
@[simp] def zyX (f:Nat->Option Nat) (s:ByteArray) (n:Nat):Obj.ren f (.siter s n)=some (.siter s n):=rfl
@[simp] def zBa (cs:List V):Obj.ids (.box cs)=cs.flatMap V.ids1:=rfl
@[simp] def zBb (sz:Nat) (xs:List D) (wm:Nat):Obj.ids (.arr sz xs wm)=[]:=rfl
@[simp] def zyY (s:ByteArray) (n:Nat):Obj.ids (.siter s n)=[]:=rfl
@[simp] def zCu (i:Nat):zas [] i=none:=rfl
@[simp] def zBc (x:Nat) (xs:List Nat) (i:Nat):zas (x::xs) i=bif x == i then some 0 else (zas xs i).map (·+1):=by simp only[zas,cond_eq_ite,ycN]
@[simp] def zIB (l:List D):(D.agg l).cells=l:=rfl
@[simp] def zIC (k:IntKind) (n:Int):(D.int k n).cells=[.int k n]:=rfl
@[simp] def zGr (b:Bool):(D.bool b).cells=[.bool b]:=rfl
@[simp] def zID (s:ByteArray):(D.str s).cells=[.str s]:=rfl
@[simp] def zGs (l:List D):(D.list l).cells=[.list l]:=rfl
@[simp] def zGt:D.nilI.cells=[.nilI]:=rfl
@[simp] def zGu:D.nilP.cells=[.nilP]:=rfl
@[simp] def zGv:D.nilM.cells=[.nilM]:=rfl
@[simp] def zGw:D.nilF.cells=[.nilF]:=rfl
@[simp] def zFt (t:TypeId) (x:D):(D.iface t x).cells=[.iface t x]:=rfl
@[simp] def zJm (f:FuncId):(D.fn f).cells=[.fn f]:=rfl
@[simp] def zIE (l:List V):(V.agg l).cells=l:=rfl
@[simp] def zGx (l:List D):(V.d (.agg l)).cells=l.map .d:=rfl
@[simp] def zIF (k:IntKind) (n:Int):(V.d (.int k n)).cells=[.d (.int k n)]:=rfl
@[simp] def zGy (b:Bool):(V.d (.bool b)).cells=[.d (.bool b)]:=rfl
@[simp] def zIG (s:ByteArray):(V.d (.str s)).cells=[.d (.str s)]:=rfl
@[simp] def zGz (l:List D):(V.d (.list l)).cells=[.d (.list l)]:=rfl
@[simp] def zGA:(V.d .nilI).cells=[.d .nilI]:=rfl
@[simp] def zGB:(V.d .nilM).cells=[.d .nilM]:=rfl
@[simp] def zGC:(V.d .nilP).cells=[.d .nilP]:=rfl
@[simp] def zGD:(V.d .nilF).cells=[.d .nilF]:=rfl
@[simp] def zFu (t:TypeId) (x:D):(V.d (.iface t x)).cells=[.d (.iface t x)]:=rfl
@[simp] def zJn (f:FuncId):(V.d (.fn f)).cells=[.d (.fn f)]:=rfl
@[simp] def zGE:V.nilS.cells=[.nilS]:=rfl
@[simp] def zIH (a b:Nat):(V.arr a b).cells=[.arr a b]:=rfl
@[simp] def zII:V.emp.cells=[.emp]:=rfl
@[simp] def zJo (a b c d:Nat):(V.sl a b c d).cells=[.sl a b c d]:=rfl
@[simp] def zIJ (a b:Nat):(V.ptr a b).cells=[.ptr a b]:=rfl
@[simp] def zGF (a b c d:Nat):(V.eptr a b c d).cells=[.eptr a b c d]:=rfl
@[simp] def zIK (f:FuncId) (l:List V):(V.clo f l).cells=[.clo f l]:=rfl
def zbd {α:Type} (p:Prop) [Decidable p] (x:Option α):Option α:=if p then x else none
@[simp] def zzY {α:Type} (x:Option α):zbd True x=x:=rfl
@[simp] def zyZ {α:Type} (x:Option α):zbd False x=none:=rfl
@[simp] def zBd {α:Type} {p:Prop} [Decidable p] (x:Option α) (h:p):zbd p x=x:=yag h
@[congr] def zy0 {α:Type} {p q:Prop} [Decidable p] [Decidable q] {x:Option α} (h:p=q):zbd p x=zbd q x:=by cases h;unfold zbd;congr
@[simp] def zuH {α:Type} (p:Prop) [Decidable p] (x:Option α):(if p then x else none)=zbd p x:=rfl
def zmA {α:Type} (p q:Prop) [Decidable p] [Decidable q] (x:Option α):(if p/\q then x else none)=zbd p (zbd q x):=by
 unfold zbd
 by_cases hp:p <;> by_cases hq:q <;> simp[hp,hq]
@[simp] def zuI {α:Type} (p q:Prop) [Decidable p] [Decidable q] (x:Option α):zbd (p/\q) x=zbd p (zbd q x):=zmA p q x
@[simp] def zgU {α:Type} (p:Prop) [Decidable p] (x:Option α):(if p then none else x)=zbd (¬ p) x:=by
 unfold zbd
 by_cases hp:p <;> simp[hp]
@[simp] def zBe (k:IntKind) (x y:Int):zbq .add k x y=some (.int k (k.wrap (x+y))):=rfl
@[simp] def zBf (k:IntKind) (x y:Int):zbq .sub k x y=some (.int k (k.wrap (x - y))):=rfl
@[simp] def zBg (k:IntKind) (x y:Int):zbq .mul k x y=some (.int k (k.wrap (x*y))):=rfl
@[simp] def zBh (k:IntKind) (x y:Int):zbq .quo k x y=zbd (¬ y=0) (some (.int k (k.wrap (x.tdiv y)))):=zgU _ _
@[simp] def zBi (k:IntKind) (x y:Int):zbq .rem k x y=zbd (¬ y=0) (some (.int k (x.tmod y))):=zgU _ _
@[simp] def zBj (k:IntKind) (x y:Int):zbq .eql k x y=some (.bool (decide (x=y))):=by simp only[zbq];congr 2
@[simp] def zBk (k:IntKind) (x y:Int):zbq .neq k x y=some (.bool (!decide (x=y))):=by simp only[zbq];congr 2
@[simp] def zBl (k:IntKind) (x y:Int):zbq .lss k x y=some (.bool (decide (x<y))):=rfl
@[simp] def zBm (k:IntKind) (x y:Int):zbq .leq k x y=some (.bool (decide (x<=y))):=rfl
@[simp] def zBn (k:IntKind) (x y:Int):zbq .gtr k x y=some (.bool (decide (y<x))):=rfl
@[simp] def zBo (k:IntKind) (x y:Int):zbq .geq k x y=some (.bool (decide (y<=x))):=rfl
@[simp] def zdt (l:List UInt8):(l.map zbh).mapM byteOf?=some l:=by
 induction l with
 |nil=>rfl
 |cons b l ih=>
  simp only[yaV,ya2,ih,zbh,byteOf?,yat];simp
structure Tok {α:Type} (a:α):Type where
section
variable {P:Program} {G:Nat->Option (List D)} {K:zhA} {S:zhz} {run:Run} {F k b:Nat} {α β:Type}
def zy1 (x:Res) (f:Slots->List Obj->Res) (_:Tok f):Res:=onNormal x f
def za8 (x:Option α) (f:α->Option β) (_:Tok f):Option β:=obind x f
def zeD (v:V) (f:Bool->Option α) (_:Tok f):Option α:=
 match v with
 |.d (.bool z)=>f z
 |_=>none
noncomputable def zcL (P:Program) (G:Nat->Option (List D)) (K:zhA) (S:zhz) (run:Run) (F k b:Nat) (c:Code) (_:Tok c) (s:Slots) (h:List Obj):Res:=codeV P G K S run loops F k b c s h
noncomputable def zud (P:Program) (G:Nat->Option (List D)) (run:Run) (all:List Oper) (hint:List Nat) (hv:List Obj) (i:Nat) (zay:List Oper) (_:Tok (all,zay)) (s:Slots) (h:List Obj):Option (Slots × List Obj):=opsV P G run all hint hv i zay s h
noncomputable def opT (P:Program) (G:Nat->Option (List D)) (run:Run) (hint:List Nat) (hv:List Obj) (i:Nat) (o:Oper) (_:Tok o) (s:Slots) (h:List Obj):Option (V × List Obj):=zdE P G run hint hv i s h o
noncomputable def zaf (keep:Option (List (Nat × Nat))) (k:Nat) (f:Slots->List Obj->Res) (_:Tok f) (s:Slots) (h:List Obj):Res:=
 match keep with
 |some l=>zgd k l f s h
 |none=>loops f s h
@[simp] def zzZ (s:Slots) (h:List Obj) (f:Slots->List Obj->Res) (t:Tok f):zy1 (some (.normal,s,h)) f t=f s h:=rfl
@[simp] def zCv (i:Nat) (s:Slots) (h:List Obj) (f:Slots->List Obj->Res) (t:Tok f):zy1 (some (.exit i,s,h)) f t=some (.exit i,s,h):=rfl
@[simp] def zFv (s:Slots) (h:List Obj) (f:Slots->List Obj->Res) (t:Tok f):zy1 (some (.ret,s,h)) f t=some (.ret,s,h):=rfl
@[simp] def zBp (a:α) (f:α->Option β) (t:Tok f):za8 (some a) f t=f a:=rfl
@[simp] def zBq (f:α->Option β) (t:Tok f):za8 none f t=none:=rfl
@[simp] def zCw (f:Slots->List Obj->Res) (t:Tok f):zy1 none f t=none:=rfl
@[simp] def zBr (f:Bool->Option α) (t:Tok f):zeD (.d (.bool true)) f t=f true:=rfl
@[simp] def zz0 (f:Bool->Option α) (t:Tok f):zeD (.d (.bool false)) f t=f false:=rfl
@[simp] def zCx (c:Bool) (f:Bool->Option α) (t:Tok f):zeD (.d (.bool !c)) f t=zeD (.d (.bool c)) (λz=>match z with | true=>f false | false=>f true) ⟨⟩:=by cases c <;> rfl
@[simp] def zCy (v:V) (f:Bool->Res) (t:Tok f) (g:Slots->List Obj->Res) (u:Tok g):zy1 (zeD v f t) g u=zeD v (λz=>zy1 (f z) g ⟨⟩) ⟨⟩:=by
 cases v with
 |d x=>cases x <;> rfl
 |_=>rfl
@[simp] def zBs (v:V) (f:Bool->Option α) (t:Tok f) (g:α->Option β) (u:Tok g):za8 (zeD v f t) g u=zeD v (λz=>za8 (f z) g ⟨⟩) ⟨⟩:=by
 cases v with
 |d x=>cases x <;> rfl
 |_=>rfl
@[simp] def zBt (id:Nat) (v:V) (f:Bool->Res) (t:Tok f):leave id (zeD v f t)=zeD v (λz=>leave id (f z)) ⟨⟩:=by
 cases v with
 |d x=>cases x <;> rfl
 |_=>rfl
def zgV {T:Option α->Prop} {c:Bool} {f:Bool->Option α} {t:Tok f} (h1:c=true->T (f true)) (h0:c=false->T (f false)):T (zeD (.d (.bool c)) f t):=by
 cases c
 ·exact h0 rfl
 ·exact h1 rfl
def zdH (x:α) (f:α->β) (_:Tok f):β:=f x
@[simp] def zFw (x:α) (f:α->β) (t:Tok f):zdH x f t=f x:=rfl
@[simp] def zFx (t:Nat):zbF [] t= .dead:=rfl
@[simp] def zCz (i:Nat) (v:V) (r:Slots) (t:Nat):zbF ((i,v)::r) t=bif i == t then v else zbF r t:=by
 simp only[zbF,cond_eq_ite,ycN]
def zem (v:V) (sz t:Nat) (s:Slots) (h:List Obj) (r:List (Nat × Nat)):Slots × List Obj:=
 match v,sz with
 |.nilS,sz+1=>let (s1,h1):=zad s (h++[.arr (sz+1) [] 0]) r;((t,.arr h.length 0)::s1,h1)
 |v,_=>let (s1,h1):=zad s h r;((t,v)::s1,h1)
@[simp] def zxC (s:Slots) (h:List Obj):zad s h []=([],h):=rfl
@[simp] def zwY (s:Slots) (h:List Obj) (t sz:Nat) (r:List (Nat × Nat)) (ht:t<1000000):zad s h ((t,sz)::r)=zem (zbF s t) sz t s h r:=by
 unfold zad;rw[yag ht];rfl
def zmB (p:Option (D × List Obj)) (t:Nat) (s:Slots) (r:List (Nat × Nat)):Slots × List Obj:=
 match p with
 |some (x,h0)=>let (s1,h1):=zad s h0 r;((t,.d x)::s1,h1)
 |none=>([],[])
@[simp] def zxD (x:D) (h0:List Obj) (t:Nat) (s:Slots) (r:List (Nat × Nat)):zmB (some (x,h0)) t s r=zdH (zad s h0 r) (λp=>((t,.d x)::p.1,p.2)) ⟨⟩:=rfl
def zfW {s:Slots} {h:List Obj} {t sz:Nat} {r:List (Nat × Nat)} {p:D × List Obj} (hp:zbE h (zbF s t)=some p):zad s h ((t+1000000,sz)::r)=zmB (zbE h (zbF s t)) t s r:=by
 unfold zad;rw[yac (by omega),ybJ,hp]
 rfl
@[simp] def zwZ {s:Slots} {h:List Obj} {t sz:Nat} {r:List (Nat × Nat)} {x:List D} (hp:zbF s t= .d (.list x)):zad s h ((t+1000000,sz)::r)=zdH (zad s h r) (λp=>((t,.d (.list x))::p.1,p.2)) ⟨⟩:=by
 rw[zfW (p:=(.list x,h)) (by rw[hp];rfl),hp];rfl
@[simp] def zxE {s:Slots} {h:List Obj} {t sz:Nat} {r:List (Nat × Nat)} {id n:Nat} (hp:zbF s t= .arr id n) (hd:(zbE h (.arr id n)).isSome=true):zad s h ((t+1000000,sz)::r)=zmB (zbE h (.arr id n)) t s r:=by
 obtain⟨p,e⟩:=Option.isSome_iff_exists.1 hd;rw[zfW (p:=p) (by rw[hp];exact e),hp]
@[simp] def zxF (v:V) (t:Nat) (s:Slots) (h:List Obj) (r:List (Nat × Nat)):zem v 0 t s h r=zdH (zad s h r) (λp=>((t,v)::p.1,p.2)) ⟨⟩:=by
 cases v <;> rfl
@[simp] def zxG (sz t:Nat) (s:Slots) (h:List Obj) (r:List (Nat × Nat)):zem .nilS (sz+1) t s h r=zdH (zad s (h++[.arr (sz+1) [] 0]) r) (λp=>((t,.arr h.length 0)::p.1,p.2)) ⟨⟩:=rfl
@[simp] def zy2 (a b sz t:Nat) (s:Slots) (h:List Obj) (r:List (Nat × Nat)):zem (.arr a b) (sz+1) t s h r=zdH (zad s h r) (λp=>((t,.arr a b)::p.1,p.2)) ⟨⟩:=rfl
@[simp] def zz1 (a b c d sz t:Nat) (s:Slots) (h:List Obj) (r:List (Nat × Nat)):zem (.sl a b c d) (sz+1) t s h r=zdH (zad s h r) (λp=>((t,.sl a b c d)::p.1,p.2)) ⟨⟩:=rfl
@[simp] def zy3 (sz t:Nat) (s:Slots) (h:List Obj) (r:List (Nat × Nat)):zem .emp (sz+1) t s h r=zdH (zad s h r) (λp=>((t,.emp)::p.1,p.2)) ⟨⟩:=rfl
@[simp] def zBu (x:D) (sz t:Nat) (s:Slots) (h:List Obj) (r:List (Nat × Nat)):zem (.d x) (sz+1) t s h r=zdH (zad s h r) (λp=>((t,.d x)::p.1,p.2)) ⟨⟩:=rfl
@[simp] def zy4 (f:Nat->Option Nat):zaH f []=some []:=rfl
@[simp] def zxH (f:Nat->Option Nat) (t:Nat) (v:V) (r:Slots):zaH f ((t,v)::r)=za8 (V.ren f v) (λu=>za8 (zaH f r) (λl=>some ((t,u)::l)) ⟨⟩) ⟨⟩:=by
 simp only[zaH,ya2,za8];cases V.ren f v with
 |none=>rfl
 |some u=>cases List.mapM (λ(p:Nat × V)=>Option.map (λv=>(p.1,v)) (V.ren f p.2)) r <;> rfl
def zjQ (h:List Obj) (f:Nat->Option Nat) (i:Nat):Option Obj:=(h[i]?).bind (Obj.ren f)
@[simp] def zy5 (o:Obj) (h:List Obj) (f:Nat->Option Nat):zjQ (o::h) f 0=Obj.ren f o:=rfl
@[simp] def zy6 (o:Obj) (h:List Obj) (f:Nat->Option Nat) (i:Nat):zjQ (o::h) f (i+1)=zjQ h f i:=rfl
@[simp] def zy7 (h:List Obj) (f:Nat->Option Nat):zaG h f []=some []:=rfl
@[simp] def zxI (h:List Obj) (f:Nat->Option Nat) (i:Nat) (l:List Nat):zaG h f (i::l)=za8 (zjQ h f i) (λo=>za8 (zaG h f l) (λos=>some (o::os)) ⟨⟩) ⟨⟩:=by
 simp only[zaG,ya2,za8,zjQ];cases (h[i]?).bind (Obj.ren f) with
 |none=>rfl
 |some u=>cases List.mapM (λi=>(h[i]?).bind (Obj.ren f)) l <;> rfl
@[simp] def zGG (k:Nat) (keep:List (Nat × Nat)) (s:Slots) (h:List Obj):zfO k keep s h=
 zdH (zad s h keep) (λp=>zdH (zbi p.2 (zaj (List.range k) (p.1.flatMap λq=>q.2.ids))) (λids=>za8 (zaH (zas ids) p.1) (λs2=>za8 (zaG p.2 (zas ids) ids) (λh2=>some (s2,h2)) ⟨⟩) ⟨⟩) ⟨⟩) ⟨⟩:=by
 simp only[zfO,zdH,za8,obind];cases zaH (zas (zbi (zad s h keep).2 (zaj (List.range k) ((zad s h keep).1.flatMap λq=>q.2.ids)))) (zad s h keep).1 with
 |none=>rfl
 |some s2=>cases zaG (zad s h keep).2 (zas (zbi (zad s h keep).2 (zaj (List.range k) ((zad s h keep).1.flatMap λq=>q.2.ids)))) (zbi (zad s h keep).2 (zaj (List.range k) ((zad s h keep).1.flatMap λq=>q.2.ids))) <;> rfl
@[simp] def zz2 (rf:Bool) (f:FuncId) (args:List V) (h:List Obj):callWith rf run f args h=
 za8 (zc8 rf h args) (λp=>zdH (zbi p.2 (zaj [] (p.1.flatMap V.ids))) (λids=>za8 (p.1.mapM (V.ren (zas ids))) (λas2=>za8 (zaG p.2 (zas ids) ids) (λhin=>
  za8 (run f as2 hin) (λq=>za8 (q.1.mapM (V.ren (zi1 ids p.2.length))) (λrets2=>za8 (q.2.mapM (Obj.ren (zi1 ids p.2.length))) (λhout2=>some (one rets2,zb0 p.2 ids hout2++hout2.drop ids.length)) ⟨⟩) ⟨⟩) ⟨⟩) ⟨⟩) ⟨⟩) ⟨⟩) ⟨⟩:=by
 simp only[callWith,zdH,za8];cases zc8 rf h args with
 |none=>rfl
 |some p=>
  obtain⟨as,h1⟩:=p;simp only[obind];cases as.mapM (V.ren (zas (zbi h1 (zaj [] (as.flatMap V.ids))))) with
  |none=>rfl
  |some as2=>
   simp only;cases zaG h1 (zas (zbi h1 (zaj [] (as.flatMap V.ids)))) (zbi h1 (zaj [] (as.flatMap V.ids))) with
   |none=>rfl
   |some hin=>
    simp only;cases run f as2 hin with
    |none=>rfl
    |some q=>
     obtain⟨rets,hout⟩:=q;simp only;cases rets.mapM (V.ren (zi1 (zbi h1 (zaj [] (as.flatMap V.ids))) h1.length)) with
     |none=>rfl
     |some r2=>cases hout.mapM (Obj.ren (zi1 (zbi h1 (zaj [] (as.flatMap V.ids))) h1.length)) <;> rfl
@[simp] def zz3 (f:FuncId) (args:List V) (h:List Obj):callThaw run f args h=
 za8 (zc8 false h args) (λp=>za8 (run f p.1 []) (λq=>za8 (bif args.all zbj && q.1.all V.flat && q.2.all Obj.flat then some () else none) (λ_=>za8 (q.1.mapM (V.ren (zi1 [] h.length))) (λrets2=>za8 (q.2.mapM (Obj.ren (zi1 [] h.length))) (λhout2=>some (one rets2,h++hout2)) ⟨⟩) ⟨⟩) ⟨⟩) ⟨⟩) ⟨⟩:=by
 simp only[callThaw,za8];cases zc8 false h args with
 |none=>rfl
 |some p=>
  obtain⟨as,h1⟩:=p;simp only[obind];cases run f as [] with
  |none=>rfl
  |some q=>
   obtain⟨rets,hout⟩:=q;simp only;cases args.all zbj && rets.all V.flat && hout.all Obj.flat with
   |false=>rfl
   |true=>
    simp only[ybk,cond_true];cases rets.mapM (V.ren (zi1 [] h.length)) with
    |none=>rfl
    |some r2=>cases hout.mapM (Obj.ren (zi1 [] h.length)) <;> rfl
@[simp] def zCA (k:Nat) (ts:List TypeId) (vs:List V) (h:List Obj):zgw P k ts vs h=
 zdH (zji P h vs ts) (λp=>zdH (zbi p.2 (zaj (List.range k) (p.1.flatMap V.ids))) (λids=>za8 (p.1.mapM (V.ren2 (zas ids))) (λws=>za8 (zaG p.2 (zas ids) ids) (λh2=>some (ws,h2)) ⟨⟩) ⟨⟩) ⟨⟩) ⟨⟩:=by
 simp only[zgw,zdH,za8,obind];generalize zji P h vs ts=p;cases p.1.mapM (V.ren2 (zas (zbi p.2 (zaj (List.range k) (p.1.flatMap V.ids))))) with
 |none=>rfl
 |some s2=>cases zaG p.2 (zas (zbi p.2 (zaj (List.range k) (p.1.flatMap V.ids)))) (zbi p.2 (zaj (List.range k) (p.1.flatMap V.ids))) <;> rfl
@[simp ↓] def zBv {t} {s:Slots} {h:List Obj}:zcL P G K S run F k b .skip t s h=some (.normal,s,h):=rfl
@[simp ↓] def zCB {x y:Code} {t} {s:Slots} {h:List Obj}:zcL P G K S run F k b (.seq x y) t s h=zy1 (zcL P G K S run F k b x ⟨⟩ s h) (λs1 h1=>zcL P G K S run F k b y ⟨⟩ s1 h1) ⟨⟩:=rfl
@[simp ↓] def zBw {c:Operand} {x y:Code} {t} {s:Slots} {h:List Obj}:
 zcL P G K S run F k b (.cond c x y) t s h=zeD (ev G s c) (λz=>match z with | true=>zcL P G K S run F k b x ⟨⟩ s h | false=>zcL P G K S run F k b y ⟨⟩ s h) ⟨⟩:=by
 show branch (ev G s c) _ _=_
 cases ev G s c with
 |d z=>
  cases z with
  |bool z=>cases z <;> rfl
  |_=>rfl
 |_=>rfl
@[simp ↓] def zge {id:Nat} {c:Code} {t} {s:Slots} {h:List Obj}:zcL P G K S run F k b (.block id c) t s h=leave id (zcL P G K S run F k id c ⟨⟩ s h):=rfl
@[simp ↓] def zBx {id:Nat} {t} {s:Slots} {h:List Obj}:zcL P G K S run F k b (.exit id) t s h=some (.exit id,s,h):=rfl
@[simp ↓] def zCC {t} {s:Slots} {h:List Obj}:zcL P G K S run F k b .ret t s h=some (.ret,s,h):=rfl
@[simp ↓] def zBy {c:Code} {t} {s:Slots} {h:List Obj}:zcL P G K S run F k b (.loop c) t s h=zaf (K F b) k (λs h=>zcL P G K S run F k b c ⟨⟩ s h) ⟨⟩ s h:=by
 unfold zaf zcL;cases e:K F b with
 |some keep=>rw[zsK e]
 |none=>simp only[codeV,e]
noncomputable def zex (keep:List (Nat × Nat)) (k:Nat) (round:List D->Slots->List Obj->Res) (_:Tok round) (l:List (List D)) (s:Slots) (h:List Obj):Res:=obind (zfO k keep s h) λq=>rangeV round k keep l q.1 q.2
def zIL (x:Res) (f:Slots->List Obj->Res) (_:Tok f):Res:=
 match x with
 |some (.normal,s,h)=>f s h
 |_=>none
def zz4 (x:Res) (s:Slots) (f:List Obj->Res) (_:Tok f):Res:=
 match x with
 |some (.normal,_,h)=>f h
 |some (o,_,h)=>some (o,s,h)
 |none=>none
@[simp] def zz5 (s:Slots) (h:List Obj) (f:Slots->List Obj->Res) (t:Tok f):zIL (some (.normal,s,h)) f t=f s h:=rfl
@[simp] def zz6 (s s':Slots) (h:List Obj) (f:List Obj->Res) (t:Tok f):zz4 (some (.normal,s',h)) s f t=f h:=rfl
@[simp] def zCD (i:Nat) (s s':Slots) (h:List Obj) (f:List Obj->Res) (t:Tok f):zz4 (some (.exit i,s',h)) s f t=some (.exit i,s,h):=rfl
@[simp] def zFy (s s':Slots) (h:List Obj) (f:List Obj->Res) (t:Tok f):zz4 (some (.ret,s',h)) s f t=some (.ret,s,h):=rfl
@[simp] def zCE (v:V) (f:Bool->Res) (t:Tok f) (s:Slots) (g:List Obj->Res) (u:Tok g):zz4 (zeD v f t) s g u=zeD v (λz=>zz4 (f z) s g ⟨⟩) ⟨⟩:=by
 cases v with
 |d x=>cases x <;> rfl
 |_=>rfl
def zCF (i j:Nat):Option Obj->Option Obj->Option (Nat × Nat × List (List D))
 |some (.box [.d (.list xs)]),some (.box [.d (.int .i64 n)])=>if 0<n/\n<=65536/\xs.length<=65536/\zam 1 xs then some (i,j,zcg n.toNat xs.length xs) else none
 |_,_=>none
@[simp] def zCG (h:List Obj) (g i j:Nat):zkQ G h (.clo g [.ptr i 0,.ptr j 0])=bif zdR G g then zCF i j h[i]? h[j]? else none:=by
 cases e:zdR G g <;> simp only[zkQ,e,cond_true,cond_false,ybk,yaD,ybd];rfl
@[simp] def zFz (i j:Nat) (xs:List D) (n:Int):zCF i j (some (.box [.d (.list xs)])) (some (.box [.d (.int .i64 n)]))=zbd (0<n/\n<=65536/\xs.length<=65536/\zam 1 xs=true) (some (i,j,zcg n.toNat xs.length xs)):=rfl
@[simp] def zFA (k:Nat) (keep:List (Nat × Nat)) (s:Slots) (h:List Obj) (i:Nat):zf6 k keep s h i=zdH (zad s h keep) (λp=>zdH (zbi p.2 (zaj (List.range k) (p.1.flatMap λq=>q.2.ids))) (λids=> !ids.contains i) ⟨⟩) ⟨⟩:=rfl
@[simp ↓] def zz7 {f:Operand} {p:Tmp} {x y:Code} {t} {s:Slots} {h:List Obj}:zcL P G K S run F k b (.rangeFunc f #[p] x y) t s h=
 za8 (K F b) (λkeep=>za8 (zkQ G h (ev G s f)) (λit=>za8 (bif zf6 k keep s h it.1 && zf6 k keep s h it.2.1 then some () else none) (λ_=>
  zex keep k (λz s h=>zIL (zcL P G K S run F h.length b x ⟨⟩ ((p,.d (.list z))::s) h) (λs1 h1=>zcL P G K S run F h.length b y ⟨⟩ s1 h1) ⟨⟩) ⟨⟩ it.2.2 s h) ⟨⟩) ⟨⟩) ⟨⟩:=by
 unfold zcL zex;simp only[codeV,za8];cases K F b with
 |none=>rfl
 |some keep=>
  simp only[obind];cases zkQ G h (ev G s f) with
  |none=>rfl
  |some it=>
   simp only;cases zf6 k keep s h it.1 && zf6 k keep s h it.2.1 with
   |false=>rfl
   |true=>rfl
def zgW {σ:Type} {T:Res->Prop} {k:Nat} {keep:List (Nat × Nat)} {round:List D->Slots->List Obj->Res} {t:Tok round} {l:List (List D)} {s:Slots} {h:List Obj} (Sl:σ->Slots) (H:σ->List Obj) (I:List (List D)->σ->Prop) (x:σ)
 (hi:I l x) (hn:zfO k keep s h=some (Sl x,H x))
 (step: ∀ (T':Res->Prop) (g:List (List D)->Slots->List Obj->Res),T'=T-> ∀z l x,I (z::l) x->(∀y h',I l y->zfO k keep (Sl x) h'=some (Sl y,H y)->T' (g l (Sl x) h'))->T' (zz4 (round z (Sl x) (H x)) (Sl x) (λh'=>g l (Sl x) h') ⟨⟩))
 (done: ∀x,I [] x->T (some (.normal,Sl x,H x))): ∀z,zex keep k round t l s h=z->T z:=by
 rintro _ rfl
 induction l generalizing x s h with
 |nil=>unfold zex;rw[hn];exact done x hi
 |cons z l ih=>
  have e:zex keep k round t (z::l) s h=zz4 (round z (Sl x) (H x)) (Sl x) (λh'=>zex keep k round t l (Sl x) h') ⟨⟩:=by
   unfold zex;rw[hn]
   show rangeV round k keep (z::l) (Sl x) (H x)=_
   simp only[rangeV];cases round z (Sl x) (H x) with
   |none=>rfl
   |some q=>
    obtain⟨o,s1,h1⟩:=q;cases o <;> rfl
  rw[e];exact step T (λl s h=>zex keep k round t l s h) rfl z l x hi λy h' hy hn'=>ih y hy hn'
attribute [simp] zgy zpt zxa
@[simp] def zz8 (f:FuncId) (args:List V):zfi run f args=bif zxa args then za8 (run f args []) (λq=>bif q.2.isEmpty && zxa q.1 then some (one q.1) else none) ⟨⟩ else none:=by
 unfold zfi za8;cases zxa args with
 |false=>rfl
 |true=>
  simp only[ybk,cond_true];cases run f args [] with
  |none=>rfl
  |some q=>simp only[obind];cases q.2.isEmpty && zxa q.1 <;> rfl
@[simp] def zz9 {h:List Obj} {id:Nat} {s:ByteArray} {pos:Nat} (e:pos<s.size):zgz h id s pos=(.tup [.d (.bool true),.d (.int .i64 pos),.d (.int .i32 (Utf8.decode s pos).1)],h.set id (.siter s (pos+(Utf8.decode s pos).2))):=yag e
@[simp] def zy8 {h:List Obj} {id:Nat} {s:ByteArray}:zgz h id s s.size=(.tup [.d (.bool false)],h):=yac (ybx _)
attribute [simp] D.flat V.flat Obj.flat zd9
def zdn {α:Type} (f:α->D) (hf: ∀x,(f x).flat=true): ∀l:List α,zd9 (l.map f)=true
 |[]=>rfl
 |x::l=>by
  show ((f x).flat && zd9 (l.map f))=true
  rw[hf x,zdn f hf l];rfl
@[simp] def zAa (l:List UInt8):zd9 (l.map zbh)=true:=zdn _ (λ_=>rfl) l
@[simp] def zBz {α:Type} (k:IntKind) (f:α->Int) (l:List α):zd9 (l.map λx=>D.int k (f x))=true:=zdn _ (λ_=>rfl) l
@[simp] def zCH (l:List Int):zd9 (l.map λn=>D.int .i64 n)=true:=zdn _ (λ_=>rfl) l
@[simp] def zBA (l:List ByteArray):zd9 (l.map D.str)=true:=zdn _ (λ_=>rfl) l
@[simp] def zn6: ∀ (a b:List D),zd9 (a++b)=(zd9 a && zd9 b)
 |[],b=>rfl
 |x::a,b=>by
  show (x.flat && zd9 (a++b))=(x.flat && zd9 a && zd9 b)
  rw[zn6 a b,ydW]
@[simp ↓] def zCI {all:List Oper}:zjk all []=[]:=rfl
@[simp ↓] def zAb {all r:List Oper} {dst:Option Tmp} {t:Tmp} {ty y:TypeId} {lo hi mx:Option Operand} {pos:String} {after:Array Edge} {g:Option (Nat × Bool)}:zjk all (⟨dst,.slice ty (.tmp t) lo hi mx,y,pos,after,g⟩::r)=zgA all t::zjk all r:=rfl
@[simp ↓] def zBB {all r:List Oper} {o:Oper}:zjk all (o::r)=match o.op with | .slice _ (.tmp t) _ _ _=>zgA all t::zjk all r | _=>zjk all r:=rfl
@[simp ↓] def zBC {t:Tmp}:zgA [] t=t:=rfl
@[simp ↓] def zAc {r:List Oper} {o:Oper} {t:Tmp}:zgA (o::r) t=match o.op with | .move (.tmp x)=>(if o.dst=some t then x else zgA r t) | _=>zgA r t:=rfl
def zi5 (ops:List Oper) (i:Nat):Bool:=match ops[i]? with | some o=>(match o.op with | .load .. =>true | _=>false) | none=>false
@[simp ↓] def zy9 {id:Nat} {ops:List Oper} {draw:Bool} {t} {s:Slots} {h:List Obj}:
 zcL P G K S run F k b (.region id ops.toArray draw) t s h=za8 (some (zea ops && !zeb ops && !zab G F)) (λc=>za8 (match c with | true=>some (zbG h ((zjk ops ops).map λt=>(t,zbF s t))) | false=>some h) (λh=>za8 (zud P G run ops (bif draw then S F id else []) (bif zbH ops (bif draw then S F id else []) then zns s (bif draw then S F id else []) (zqQ h) else []) 0 ops ⟨⟩ s h) (λp=>some (.normal,p.1,p.2)) ⟨⟩) ⟨⟩) ⟨⟩:=by
 unfold zcL;simp only[codeV,zjl,zle,za8,zud,cond_eq_ite];cases zea ops && !zeb ops && !zab G F <;> rfl
@[simp ↓] def zFB {all:List Oper} {hint:List Nat} {hv:List Obj} {i:Nat} {t} {s:Slots} {h:List Obj}:zud P G run all hint hv i [] t s h=some (s,h):=rfl
def zn7 {all:List Oper} {hint:List Nat} {hv:List Obj} {i:Nat} {o:Oper} {zay:List Oper} {t} {s:Slots} {h:List Obj}:
 zud P G run all hint hv i (o::zay) t s h=za8 (zbk all s o.guard) (λw=>match w with
  |true=>za8 (opT P G run hint hv i o ⟨⟩ s h) (λp=>zud P G run all hint hv (i+1) zay ⟨⟩ (zf5 s o.dst p.1) p.2) ⟨⟩
  |false=>zud P G run all hint hv (i+1) zay ⟨⟩ (zf5 s o.dst (.tup [])) h) ⟨⟩:=by
 unfold zud opT za8;simp only[opsV,zdE];congr 1;funext w;cases w <;> rfl
@[simp ↓] def zBD {all:List Oper} {hint:List Nat} {hv:List Obj} {i:Nat} {dst:Option Tmp} {op:Op} {ty:TypeId} {pos:String} {after:Array Edge} {zay:List Oper} {t} {s:Slots} {h:List Obj}:
 zud P G run all hint hv i (⟨dst,op,ty,pos,after,none⟩::zay) t s h=za8 (opT P G run hint hv i ⟨dst,op,ty,pos,after,none⟩ ⟨⟩ s h) (λp=>zud P G run all hint hv (i+1) zay ⟨⟩ (zf5 s dst p.1) p.2) ⟨⟩:=by
 rw[zn7];rfl
def zq5 (v:V) (want:Bool) (f:Bool->Option α) (_:Tok f):Option α:=
 match v with
 |.d (.bool c)=>f (c == want)
 |.tup []=>f false
 |_=>none
@[simp] def zAd (c:Bool) (f:Bool->Option α) (t:Tok f):zq5 (.d (.bool c)) true f t=zeD (.d (.bool c)) f t:=by cases c <;> rfl
@[simp] def zza (c:Bool) (f:Bool->Option α) (t:Tok f):zq5 (.d (.bool c)) false f t=zeD (.d (.bool c)) (λz=>match z with | true=>f false | false=>f true) ⟨⟩:=by cases c <;> rfl
@[simp] def zBE (want:Bool) (f:Bool->Option α) (t:Tok f):zq5 (.tup []) want f t=f false:=rfl
def zgX (all:List Oper) (j:Nat) (_:Tok all):Option Tmp:=(all[j]?).bind (·.dst)
@[simp ↓] def zxJ {o:Oper} {all:List Oper} {t}:zgX (o::all) 0 t=o.dst:=rfl
@[simp ↓] def zxK {o:Oper} {all:List Oper} {j:Nat} {t}:zgX (o::all) (j+1) t=zgX all j ⟨⟩:=rfl
def zq6 (s:Slots) (d:Option Tmp):V:=
 match d with
 |none=> .tup []
 |some d=>zbF s d
@[simp] def zAe (s:Slots) (d:Nat):zq6 s (some d)=zbF s d:=rfl
@[simp] def zAf (s:Slots):zq6 s none= .tup []:=rfl
@[simp ↓] def zBF {all:List Oper} {hint:List Nat} {hv:List Obj} {i:Nat} {dst:Option Tmp} {op:Op} {ty:TypeId} {pos:String} {after:Array Edge} {j:Nat} {want:Bool} {zay:List Oper} {t} {s:Slots} {h:List Obj}:
 zud P G run all hint hv i (⟨dst,op,ty,pos,after,some (j,want)⟩::zay) t s h=zq5 (zq6 s (zgX all j ⟨⟩)) want (λw=>match w with
  |true=>za8 (opT P G run hint hv i ⟨dst,op,ty,pos,after,none⟩ ⟨⟩ s h) (λp=>zud P G run all hint hv (i+1) zay ⟨⟩ (zf5 s dst p.1) p.2) ⟨⟩
  |false=>zud P G run all hint hv (i+1) zay ⟨⟩ (zf5 s dst (.tup [])) h) ⟨⟩:=by
 rw[zn7];unfold zq6 zgX;simp only[zbk];have hop: ∀ (o:Oper) (o':Oper),o.op=o'.op->opT P G run hint hv i o ⟨⟩ s h=opT P G run hint hv i o' ⟨⟩ s h:=λo o' e=>by
  unfold opT zdE opV blindV znj za2 znr zmo;rw[e]
 rw[hop ⟨dst,op,ty,pos,after,some (j,want)⟩ ⟨dst,op,ty,pos,after,none⟩ rfl];cases (all[j]?).bind (·.dst) with
 |none=>rfl
 |some d=>
  simp only;cases zbF s d with
  |d x=>
   cases x with
   |bool c=>cases c <;> cases want <;> rfl
   |_=>rfl
  |tup l=>cases l <;> rfl
  |_=>rfl
@[simp ↓] def zIM {hv:List Obj} {i:Nat} {dst:Option Tmp} {op:Op} {ty:TypeId} {pos:String} {after:Array Edge} {t} {s:Slots} {h:List Obj}:
 opT P G run [] hv i ⟨dst,op,ty,pos,after,none⟩ t s h=opV P G run s h ⟨dst,op,ty,pos,after,none⟩:=rfl
@[simp ↓] def zFC {x:Nat} {l:List Nat} {hv:List Obj} {i:Nat} {dst:Option Tmp} {op:Op} {ty:TypeId} {pos:String} {after:Array Edge} {t} {s:Slots} {h:List Obj}:
 opT P G run (x::l) hv i ⟨dst,op,ty,pos,after,none⟩ t s h=bif (x::l).contains i then zca h (blindV P G run hv s ⟨dst,op,ty,pos,after,none⟩) else bif hv.isEmpty || znj G hv s ⟨dst,op,ty,pos,after,none⟩ || za2 (x::l) i ⟨dst,op,ty,pos,after,none⟩ then opV P G run s h ⟨dst,op,ty,pos,after,none⟩ else none:=by
 unfold opT zdE;simp only[cond_eq_ite,List.isEmpty_cons,yck]
attribute [simp ↓] opV
@[simp] def zGH (h:List Obj) (x:D):zkP h (.d x)=h:=rfl
@[simp] def zBG (h:List Obj):zkP h .nilS=h:=rfl
@[simp] def zCJ (h:List Obj):zkP h .emp=h:=rfl
@[simp] def zCK (h:List Obj) (a b:Nat):zkP h (.arr a b)=h:=rfl
@[simp] def zFD (h:List Obj) (a b c d:Nat):zkP h (.sl a b c d)=h:=rfl
@[simp] def zFE (h:List Obj) (id:Nat):zkP h (.mp id)=match h[id]? with | some (.box cs)=>(match za4 h cs with | some (_,h1)=>h1 | none=>h) | _=>h:=rfl
attribute [simp] zB3 zuj zeu zld
@[simp] def zAg (x:Option (V × List Obj)):zmn x=za8 x (λq=>zld q.2 q.1) ⟨⟩:=by cases x <;> rfl
attribute [simp] zqQ znj zul zns zbj blindV za2 znr zmo zaB zdP
@[simp ↓] def zxL {ops:List Oper}:zbH ops []=false:=rfl
@[simp ↓] def zw0 {ops:List Oper} {i:Nat} {r:List Nat}:zbH ops (i::r)=(zi5 ops i || zbH ops r):=rfl
@[simp ↓] def zxM {o:Oper} {ops:List Oper}:zi5 (o::ops) 0=(match o.op with | .load .. =>true | _=>false):=rfl
@[simp ↓] def zxN {o:Oper} {ops:List Oper} {i:Nat}:zi5 (o::ops) (i+1)=zi5 ops i:=rfl
@[simp ↓] def zzb:zea []=false:=rfl
@[simp ↓] def zzc:zeb []=false:=rfl
@[simp ↓] def zxO {o:Oper} {l:List Oper}:zea (o::l)=((match o.op with | .slice .. =>true | _=>false) || zea l):=rfl
@[simp ↓] def zxP {o:Oper} {l:List Oper}:zeb (o::l)=((match o.op with | .store .. =>true | _=>false) || zeb l):=rfl
end
def appElem? (P:Program) (e:TypeId):Option Nat:=
 match P.info? e with
 |some i=>if i.zero.map (·.cells.size)=some i.size/\0<i.size/\i.bytes<=65536 then some i.size else none
 |none=>none
@[simp] def zBH (P:Program) (h:List Obj) (ts tx:TypeId) (s x:V):zf3 P h ts tx s x=
 (match P.underlying ts with
 |some (.slice e)=>
  match appElem? P e,source? P h tx x with
  |some n,some ys=>
   match s with
   |.nilS=>zbd (ys.length<2147483648) (zbd (zam n ys=true) (some (.arr h.length ys.length,h++[.arr n ys 0])))
   |.arr id m=>
    match h[id]? with
    |some (.arr sz xs wm)=>zbd (m=xs.length) (zbd (sz=n) (zbd (m+ys.length<2147483648) (zbd (zam n ys=true) (some (.arr id (m+ys.length),h.set id (.arr sz (xs++ys) wm))))))
    |_=>none
   |_=>none
  |_,_=>none
 |_=>none):=by
 unfold zf3 appElem?;cases P.underlying ts with
 |none=>rfl
 |some d=>
  cases d <;> try rfl
  rename_i e;simp only;cases P.info? e with
  |none=>rfl
  |some i=>
   cases source? P h tx x with
   |none=>
    simp only;split <;> simp_all
   |some ys=>
    simp only;split
    ·simp only[zuH,zuI];rfl
    ·rfl
def makeElem? (P:Program) (e:TypeId):Option (Nat × D):=
 match P.info? e,zeroD? P e with
 |some i,some z=>if i.bytes<=65536/\0<i.size/\z.cells.length=i.size then some (i.size,z) else none
 |_,_=>none
@[simp] def zxQ (P:Program) (h:List Obj) (t:TypeId) (k k':IntKind) (n m:Int):zdd P h t (.d (.int k n)) (.d (.int k' m))=
 (match P.underlying t with
 |some (.slice e)=>
  match makeElem? P e with
  |some (sz,z)=>zbd (0<=n) (zbd (n<=m) (zbd (m<2147483648) (some (.arr h.length n.toNat,h++[.arr sz (List.replicate n.toNat z) 0]))))
  |none=>none
 |_=>none):=by
 unfold zdd makeElem?;cases P.underlying t with
 |none=>rfl
 |some d=>
  cases d <;> try rfl
  rename_i e;simp only;cases P.info? e with
  |none=>rfl
  |some i=>
   cases zeroD? P e with
   |none=>rfl
   |some z=>
    simp only
    by_cases a:i.bytes<=65536/\0<i.size/\z.cells.length=i.size
    ·rw[yag a]
     obtain⟨a1,a2,a3⟩:=a;simp only[zbd]
     by_cases b1:0<=n <;> by_cases b2:n<=m <;> by_cases b3:m<2147483648 <;> simp[a1,a2,a3,b1,b2,b3]
    ·rw[yac a,yac]
     rintro ⟨_,_,_,b1,b2,b3⟩
     exact a ⟨b1,b2,b3⟩
def zeroVs? (P:Program) (t:TypeId):Option (List V):=
 match zero? P t with
 |some z=>if (z.cells.toList.map zaD).all V.cellOk then some (z.cells.toList.map zaD) else none
 |none=>none
def places? (P:Program) (t:TypeId):Option (List (Nat × Nat)):=
 match P.underlying t with
 |some (.struct fs)=>fs.toList.mapM λf=>(sizeOf? P f.type).map λs=>(f.offset,s)
 |_=>none
def zlC {P:Program}: ∀ {fs:List Field} {pl:List (Nat × Nat)},(fs.mapM λ(f:Field)=>(sizeOf? P f.type).map λs=>(f.offset,s))=some pl-> ∀i:Nat,(fs[i]?).bind (λ(f:Field)=>(sizeOf? P f.type).map λs=>(f.offset,s))=pl[i]?
 |[],pl,h,i=>by simp at h;subst h;simp
 |f::fs,pl,h,i=>by
  simp only[ya2,ybB,yaT,ybS,yaa]at h;obtain⟨p,hp,ps,hps,rfl⟩:=h;cases i with
  |zero=>simpa using hp
  |succ i=>simpa using zlC hps i
def zan {P:Program} {t:TypeId} {parts:List (Nat × V)} {z:List V} {pl:List (Nat × Nat)} (hz:zeroVs? P t=some z) (hp:places? P t=some pl):zbc P t parts=(zcq (λi=>pl[i]?) z parts).map zcp:=by
 unfold zeroVs? at hz;unfold places? at hp;unfold zbc;cases h0:zero? P t with
 |none=>rw[h0]at hz;cases hz
 |some z0=>
  rw[h0]at hz;simp only at hz;split at hz
  ·rename_i hc
   simp only[yaa]at hz;subst hz;split at hp
   ·rename_i fs hfs
    have hall:fs.toList.all (λf=>(sizeOf? P f.type).isSome)=true:=by
     rw[ybD];intro f hf;obtain⟨i,hi⟩:=ybo hf;obtain⟨_,h2⟩:=zgK hp;obtain⟨b,_,hb⟩:=h2 i f hi;simp only[yab]at hb;obtain⟨s,hs,_⟩:=hb;rw[hs];rfl
    simp only[hfs,hc,hall,ydI,ybk];have hpl:(λ(i:Nat)=>(fs[i]?).bind λ(f:Field)=>(sizeOf? P f.type).map λs=>(f.offset,s))=λi=>pl[i]? :=by
     funext i;rw[<- zlC hp i,ycj]
    rw[hpl]
   ·cases hp
  ·cases hz
def zbn {P:Program} {t:TypeId} {h:List Obj} {z:List V} (hz:zeroVs? P t=some z):zcv P h t=some (.ptr h.length 0,h++[.box z]):=by
 unfold zeroVs? at hz;unfold zcv;cases h0:zero? P t with
 |none=>rw[h0]at hz;cases hz
 |some z0=>
  rw[h0]at hz;simp only at hz ⊢;split at hz
  ·rename_i hc
   simp only[yaa]at hz;subst hz;rw[yag hc]
  ·cases hz
@[simp] def zw1 (P:Program) (h:List Obj) (t:TypeId) (len:Nat) (parts:List (Nat × V)):zb9 P h t len parts=
 (match P.underlying t with
 |some (.slice e)=>
  match sizeOf? P e with
  |some sz=>
   if (zero? P e).isSome=true/\0<sz/\parts.length=len/\len*sz<=65536/\zhy parts 0 then
    match zeu h (parts.map (·.2)) with
    |some (xs,h1)=>if zam sz xs then some (.arr h1.length len,h1++[.arr sz xs 0]) else none
    |none=>none
   else none
  |none=>none
 |_=>none):=by
 unfold zb9;cases P.underlying t with
 |none=>rfl
 |some d=>
  cases d <;> try rfl
  rename_i e;simp only;cases sizeOf? P e with
  |none=>rfl
  |some sz=>
   cases zero? P e with
   |none=>simp
   |some z=>simp;rfl
attribute [simp] zcq putCells zcp V.asD? zhy zeu
@[simp] def zaJ {α:Type} {f:α->D} {n:Nat} (l:List α) (hf: ∀x,(f x).cells.length=n):zam n (l.map f)=true:=by
 induction l with
 |nil=>rfl
 |cons x l ih=>simp[zam,hf,ih]
attribute [simp] zam source? elems?
@[simp] def zGI (x y:Int):(x != y)= !decide (x=y):=by
 by_cases h:x=y <;> simp[h]
@[simp] def zGJ (x y:Int):(x == y)=decide (x=y):=by
 by_cases h:x=y <;> simp[h]
def zxR {x:Int} (h1: -9223372036854775808<=x) (h2:x<=9223372036854775807):IntKind.i64.wrap x=x:=by
 simp[IntKind.wrap,IntKind.signed,IntKind.bits];omega
def zal {x:Int} (h1:0<=x) (h2:x<=18446744073709551615):IntKind.u64.wrap x=x:=by
 simp[IntKind.wrap,IntKind.signed,IntKind.bits];omega
def zq7 {x:Int} (h1:0<=x) (h2:x<=4294967295):IntKind.u32.wrap x=x:=by
 simp[IntKind.wrap,IntKind.signed,IntKind.bits];omega
def zpV {x:Int} (h1:0<=x) (h2:x<=255):IntKind.u8.wrap x=x:=by
 simp[IntKind.wrap,IntKind.signed,IntKind.bits];omega
@[simp] def zuJ {α β:Type} (x:Option α) (f:α->Option β):(x >>=f)=x.bind f:=rfl
section
variable {P:Program} {G:Nat->Option (List D)} {K:zhA} {S:zhz}
def zuK (P:Program) (k:Nat) (rs:List ResultVar) (ts:List TypeId) (r:Res):Option (List V × List Obj):=
 match r with
 |some (.normal,s,h) | some (.ret,s,h)=>obind (zsd P s h rs) λvs=>zgw P k ts vs h
 |_=>none
@[simp] def zAh {k:Nat} {rs:List ResultVar} {ts:List TypeId} {s:Slots} {h:List Obj}:zuK P k rs ts (some (.normal,s,h))=obind (zsd P s h rs) λvs=>zgw P k ts vs h:=rfl
@[simp] def zCL {k:Nat} {rs:List ResultVar} {ts:List TypeId} (v:V) (f:Bool->Res) (t:Tok f):zuK P k rs ts (zeD v f t)=zeD v (λz=>zuK P k rs ts (f z)) ⟨⟩:=by
 cases v with
 |d x=>cases x <;> rfl
 |_=>rfl
@[simp] def zFF {k:Nat} {rs:List ResultVar} {ts:List TypeId} {s:Slots} {h:List Obj}:zuK P k rs ts (some (.ret,s,h))=obind (zsd P s h rs) λvs=>zgw P k ts vs h:=rfl
def zq8 {f:FuncId} {fn:Func} {c:Code} {rs:List ResultVar} {ts:List TypeId} {args:List V} {h:List Obj} {r:List V × List Obj} (hf:P.funcs[f]? =some fn) (hb:fn.body=some c)
 (hrs : fn.results.toList = rs) (hts : fn.resultTypes.toList = ts) (hok : codeOk P (S f) fn.ntmps c = true) (hn : (fn.name == "runtime.NumGoroutine") = false)
 (hsp:splits G f=false\/zcw G f=0/\ ∀zay,args≠ .d (.list [])::zay) (hl:args.length<=fn.ntmps) (hr:zuK P h.length rs ts (zcL P G K S (zfV P G K S) f h.length 0 c ⟨⟩ (zao 0 args) h)=some r):zfV P G K S f args h=some r:=by
 refine zzW hsp ?_;unfold bodyV;simp only[hf,hb,hok,hn,yaI hl,ydI,ydZ,ybk];unfold zB4;rw[hrs,hts];exact hr
def zgY {f:FuncId} {fn:Func} {c:Code} {rs:List ResultVar} {ts:List TypeId} {args:List V} {h:List Obj} {r:List V × List Obj} (hf:P.funcs[f]? =some fn) (hb:fn.body=some c)
 (hrs : fn.results.toList = rs) (hts : fn.resultTypes.toList = ts) (hok : codeOk P (S f) fn.ntmps c = true) (hn : (fn.name == "runtime.NumGoroutine") = false)
 (hsp:splits G f=false\/zcw G f=0/\ ∀zay,args≠ .d (.list [])::zay) (hl:args.length<=fn.ntmps) (hr: ∀T:Option (List V × List Obj)->Prop,T (some r)->T (zuK P h.length rs ts (zcL P G K S (zfV P G K S) f h.length 0 c ⟨⟩ (zao 0 args) h))):zfV P G K S f args h=some r:=
 zq8 hf hb hrs hts hok hn hsp hl (hr (·=some r) rfl)
def zgZ {f:FuncId} {fn:Func} {c:Code} {rs:List ResultVar} {ts:List TypeId} {zay:List V} {h:List Obj} {r:List V × List Obj} (hf:P.funcs[f]? =some fn) (hb:fn.body=some c)
 (hrs : fn.results.toList = rs) (hts : fn.resultTypes.toList = ts) (hok : codeOk P (S f) fn.ntmps c = true) (hn : (fn.name == "runtime.NumGoroutine") = false)
 (hsp:splits G f=true/\zcw G f=0) (hl:zay.length+1<=fn.ntmps) (hr: ∀T:Option (List V × List Obj)->Prop,T (some r)-> ∀a,a= .nilS\/a= .emp->T (zuK P h.length rs ts (zcL P G K S (zfV P G K S) f h.length 0 c ⟨⟩ (zao 0 (a::zay)) h))):zfV P G K S f (.d (.list [])::zay) h=some r:=by
 have key: ∀a,a= .nilS\/a= .emp->bodyV P G K S (zfV P G K S) loops f (a::zay) h=some r:=λa ha=>by
  unfold bodyV;simp only[hf,hb,hok,hn,yaf,yaI hl,ydI,ydZ,ybk];unfold zB4;rw[hrs,hts];exact hr (·=some r) rfl a ha
 exact zsI hsp.1 hsp.2 (key .nilS (.inl rfl)) (key .emp (.inr rfl))
def zGK (p:Bool->Prop) (r:Option (List V × List Obj)):Prop:= ∃b,r=some ([.d (.bool b)],[])/\p b
@[simp] def zBI {p:Bool->Prop} {b:Bool}:zGK p (some ([.d (.bool b)],[]))↔p b:=by
 constructor
 ·rintro ⟨b',h,hp⟩
  simp only[yaa,yad,ycp,V.d.injEq,D.bool.injEq,yd2]at h;rw[h];exact hp
 ·exact λh=>⟨b,rfl,h⟩
def zAi {f:FuncId} {fn:Func} {c:Code} {rs:List ResultVar} {ts:List TypeId} {args:List V} {h:List Obj} {p:Option (List V × List Obj)->Prop} (hf:P.funcs[f]? =some fn) (hb:fn.body=some c)
 (hrs : fn.results.toList = rs) (hts : fn.resultTypes.toList = ts) (hok : codeOk P (S f) fn.ntmps c = true) (hn : (fn.name == "runtime.NumGoroutine") = false)
 (hsp:splits G f=false\/zcw G f=0/\ ∀zay,args≠ .d (.list [])::zay) (hl:args.length<=fn.ntmps) (hp: ¬ p none) (hr:p (zuK P h.length rs ts (zcL P G K S (zfV P G K S) f h.length 0 c ⟨⟩ (zao 0 args) h))):p (zfV P G K S f args h):=by
 cases he:zuK P h.length rs ts (zcL P G K S (zfV P G K S) f h.length 0 c ⟨⟩ (zao 0 args) h) with
 |none=>rw[he]at hr;exact absurd hr hp
 |some r=>rw[he]at hr;rw[zq8 hf hb hrs hts hok hn hsp hl he];exact hr
def zaa {σ:Type} {T:Res->Prop} {k:Nat} {keep:List (Nat × Nat)} {b:Slots->List Obj->Res} {t:Tok b} {s:Slots} {h:List Obj} (Sl:σ->Slots) (H:σ->List Obj) (I:σ->Prop) (μ:σ->Nat) (x:σ)
 (hi:I x) (hn:zfO k keep s h=some (Sl x,H x))
 (step: ∀ (T':Res->Prop) (b':Slots->List Obj->Res),T'=T-> ∀x,I x->(∀y s h,I y->μ y<μ x->zfO k keep s h=some (Sl y,H y)->T' (zgd k keep b' s h))->T' (zy1 (b (Sl x) (H x)) (zgd k keep b') ⟨⟩)):
 ∀z,zaf (some keep) k b t s h=z->T z:=by
 rintro _ rfl
 show T (zgd k keep b s h)
 have key: ∀n x,μ x<=n-> ∀s h,I x->zfO k keep s h=some (Sl x,H x)->T (zgd k keep b s h):=by
  intro n
  induction n with
  |zero=>
   intro x hx s h hi hn;rw[zq4,hn];exact step T b rfl x hi λy s h _ hlt _=>by omega
  |succ n ih=>
   intro x hx s h hi hn;rw[zq4,hn];exact step T b rfl x hi λy s h hy hlt hn=>ih y (by omega) s h hy hn
 exact key (μ x) x (yaj _) s h hi hn
def zAj {T:Res->Prop} {x:Res} (Q:Res->Prop) (hq:Q x) (h: ∀z,Q z->T z): ∀z,x=z->T z:=by
 rintro _ rfl
 exact h _ hq
def zeS {t:TypeId} {parts:List (Nat × V)} {z:List V} {n:Nat} {e:TypeId} {s:Nat} (hz:zeroVs? P t=some z) (hu:P.underlying t=some (.array n e)) (hs:sizeOf? P e=some s):zbc P t parts=(zcq (λi=>some (i*s,s)) z parts).map zcp:=by
 unfold zeroVs? at hz;unfold zbc;cases h0:zero? P t with
 |none=>rw[h0]at hz;cases hz
 |some z0=>
  rw[h0]at hz;simp only at hz;split at hz
  ·rename_i hc
   simp only[yaa]at hz;subst hz;simp only[hu,hs,hc,ybk]
  ·cases hz
@[simp] def zAk (l:List Int):zam 1 (l.map λn=>D.int .i64 n)=true:=zaJ l λ_=>rfl
@[simp] def zpW (k:IntKind) (x:Int): ∀n,zam 1 (List.replicate n (D.int k x))=true
 |0=>rfl
 |n+1=>by simp[yaR,zpW k x n]
end
end Go.Am
